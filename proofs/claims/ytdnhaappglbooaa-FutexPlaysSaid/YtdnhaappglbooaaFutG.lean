/- The walks of at, At. -/
import Derived.Test.YtdnhaappglbooaaFutF
namespace Go.Proofs.Ytdnhaappglbooaa
open Go Go.RowKit Go.Shelf
attribute [local go_sem] Oper.semAt_some
set_option linter.unusedVariables false
set_option linter.unnecessarySimpa false
set_option linter.unusedSimpArgs false
set_option maxHeartbeats 1000000 in
theorem at_in (F : Fence) (n : Nat) (hF : F.fn 32) (hro : F.round = none) (p : Option Addr) (k : Ky) (w : World) :
    CallsIn F n Try.prog 32 #[.pointer p, .agg #[.int .i64 k.p, .int .i64 k.f, .int .i64 k.o]] w fun e w' =>
      e = .returned (.func (.func 36) #[] #[.pointer (some ⟨w.heap.size, 0, none⟩), .pointer (some ⟨w.heap.size + 1, 0, none⟩)]) ∧ w' = (w.alloc (.cells #[.pointer p] 24)).alloc (.cells #[.int .i64 k.p, .int .i64 k.f, .int .i64 k.o] 33) := by
  refine callsIn_of_wp Try.func32 rfl hF ?_ hro
  simp only [Try.ntmps32, List.size_toArray, List.length_cons, List.length_nil, Nat.reduceAdd, Nat.reduceSub, Array.replicate_succ, Array.replicate_zero, List.push_toArray, List.append_toArray, List.nil_append, List.cons_append]
  gi_wp2
  go_ret
  exact ⟨by simp, rfl⟩
theorem info_i64 : (Try.prog.info? 3).map (fun i => (i.zero, i.size, i.bytes)) = some (some (.int .i64 0), 1, 8) := by kernel_rfl
/-- at(k) of the futex at pt hands out these, one by one -/
def Handed (w : World) (pt : Option Addr) (k : Ky) (K : List Int) (Y : Nat → Prop) : Prop :=
  (∀ b, Y b → b < w.heap.size) ∧ ∀ (B1 B2 : Nat) (W' : World), Below w.heap.size w W' → B1 < W'.heap.size → B2 < W'.heap.size → W'.cell? ⟨B1, 0, none⟩ = some (.pointer pt) → W'.heap[B2]? = some (.cells #[.int .i64 k.p, .int .i64 k.f, .int .i64 k.o] 33) →
    Iter Try.prog 36 #[.pointer (some ⟨B1, 0, none⟩), .pointer (some ⟨B2, 0, none⟩)] (fun n : Nat => #[.int .i64 (n : Int), .int .i64 (K.getD n 0)]) (fun b => b = B1 ∨ b = B2 ∨ Y b) (List.range K.length) W'
theorem handed_fut {w : World} {p : Nat} {v : Value} {ws : List Wt} (k : Ky) (h : FutAt w p v ws) (hsm : ws.length ≤ 1000000) : Handed w (some ⟨p, 0, none⟩) k (atL ws k) (SFut p v) :=
  ⟨h.lt, fun B1 B2 W' hb h1 h2 c1 c2 => at1_iter B1 B2 p v ws k W' h1 h2 c1 c2 (h.below hb) hsm⟩
set_option maxRecDepth 100000 in
set_option maxHeartbeats 4000000 in
theorem handed_nil (w : World) (k : Ky) : Handed w none k [] (fun _ => False) := by
  refine ⟨fun b h => h.elim, fun B1 B2 w' hb h1 h2 c1 c2 => ?_⟩
  intro l J Jx S0 W hW hJ hJx hlt hX hY h0
  have C1 : W.cell? ⟨B1, 0, none⟩ = some (.pointer none) := (hW.cell (p := ⟨B1, 0, none⟩) h1).trans c1
  refine (callsIn_wide (n := 101)).1 ?_
  refine callsIn_of_wp Try.func36 rfl trivial ?_ rfl
  simp only [Try.ntmps36, List.size_toArray, List.length_cons, List.length_nil, Nat.reduceAdd, Nat.reduceSub, Array.replicate_succ, Array.replicate_zero, List.push_toArray, List.append_toArray, List.nil_append, List.cons_append]
  gi_wp2
  refine bodyPost_ret (results_none rfl _ _ _) rfl ?_
  exact ⟨⟨_, rfl⟩, .inl ⟨S0, h0⟩⟩
set_option maxRecDepth 100000 in
set_option maxHeartbeats 4000000 in
theorem At_gen (pt : Option Addr) (k : Ky) (w : World) (K : List Int) (Y : Nat → Prop) (hit : Handed w pt k K Y) (hKl : K.length ≤ 1000000) :
    Calls Try.prog 14 #[.pointer pt, aggK k] w fun e w' => ∃ v, e = .returned v ∧ w'.ownsRow w.heap.size 3 1 v K.length (K.map (Value.int .i64)) ∧ Below w.heap.size w w' := by
  obtain ⟨i0, hi, hz0, hz1, hz2⟩ := info_parts info_i64
  show Calls Try.prog _ #[_, .agg #[.int .i64 k.p, .int .i64 k.f, .int .i64 k.o]] w _
  refine (callsIn_wide (n := 102)).1 ?_
  refine callsIn_of_wp_marks Try.func14 rfl trivial ?_ rfl
  simp only [Try.ntmps14, List.size_toArray, List.length_cons, List.length_nil, Nat.reduceAdd, Nat.reduceSub, Array.replicate_succ, Array.replicate_zero, List.push_toArray, List.append_toArray, List.nil_append, List.cons_append]
  have hch : Fence.wide.fn 32 := trivial
  gi_wp2_with (gi_at_call 32; refine (at_in Fence.wide _ trivial rfl _ _ _).mono ?_; rintro e w' ⟨rfl, rfl⟩)
  obtain ⟨W3, hW3⟩ : ∃ W3, W3 = (((w.alloc (.cells #[.int .i64 k.p, .int .i64 k.f, .int .i64 k.o] 33)).alloc (.cells #[.slice none 0 0] 39)).alloc (.cells #[.pointer pt] 24)).alloc (.cells #[.int .i64 k.p, .int .i64 k.f, .int .i64 k.o] 33) := ⟨_, rfl⟩
  have sz : W3.heap.size = w.heap.size + 4 := by rw [hW3]; simp
  have bW : Below w.heap.size w W3 := by rw [hW3]; exact ((((Below.refl _ w).alloc (Nat.le_refl _) _).alloc (by simp) _).alloc (by simp; omega) _).alloc (by simp; omega) _
  have bO : Boxed W3 (w.heap.size + 1) 39 (.slice none 0 0) := by
    rw [hW3]
    have := Boxed.new (w.alloc (.cells #[.int .i64 k.p, .int .i64 k.f, .int .i64 k.o] 33)) 39 (.slice none 0 0)
    rw [World.size_alloc] at this
    exact (this.alloc _).alloc _
  have bS : Boxed W3 (w.heap.size + 1 + 1) 24 (.pointer pt) := by
    rw [hW3]
    have := Boxed.new ((w.alloc (.cells #[.int .i64 k.p, .int .i64 k.f, .int .i64 k.o] 33)).alloc (.cells #[.slice none 0 0] 39)) 24 (.pointer pt)
    rw [World.size_alloc, World.size_alloc] at this
    exact this.alloc _
  have bK : W3.heap[w.heap.size + 1 + 1 + 1]? = some (.cells #[.int .i64 k.p, .int .i64 k.f, .int .i64 k.o] 33) := by
    rw [hW3]
    have := World.alloc_heap_new (((w.alloc (.cells #[.int .i64 k.p, .int .i64 k.f, .int .i64 k.o] 33)).alloc (.cells #[.slice none 0 0] 39)).alloc (.cells #[.pointer pt] 24)) (.cells #[.int .i64 k.p, .int .i64 k.f, .int .i64 k.o] 33)
    rw [World.size_alloc, World.size_alloc, World.size_alloc] at this
    exact this
  obtain ⟨hYl, hit⟩ := hit
  have hit := hit (w.heap.size + 1 + 1) (w.heap.size + 1 + 1 + 1) W3 bW (by omega) (by omega) bS.cell bK
  rw [← hW3]
  clear hW3
  refine range_law (gf := 36) rfl (enters_of Try.func36 (by kernel_rfl) rfl)
    hit (fun _ => rfl)
    (fun n S A => ∃ v, S = (fun b => b = w.heap.size + 1 ∨ v.ownBlock = some b) ∧ Boxed A (w.heap.size + 1) 39 v ∧ A.ownsRow w.heap.size 3 1 v n ((K.take n).map (Value.int .i64)) ∧ Below w.heap.size w A)
    (fun c n S A => False)
    (fun b => b = w.heap.size + 1) ?hX ?hI ?hIx ?hlt ?h0
    (fun n => { tmps := #[.pointer pt, .agg #[.int .i64 k.p, .int .i64 k.f, .int .i64 k.o], undef, .pointer (some ⟨w.heap.size, 0, none⟩), .slice none 0 0, .pointer (some ⟨w.heap.size + 1, 0, none⟩), undef,
      .int .i64 (K.getD n 0), .pointer pt, .agg #[.int .i64 k.p, .int .i64 k.f, .int .i64 k.o], .func (.func 36) #[] #[.pointer (some ⟨w.heap.size + 1 + 1, 0, none⟩), .pointer (some ⟨w.heap.size + 1 + 1 + 1, 0, none⟩)],
      .int .i64 (n : Int), .int .i64 (K.getD n 0), undef, undef, undef, undef, undef], defers := [] }) ?assign ?body ?done ?stop
  case hX =>
    rintro b (rfl | rfl | hb)
    · exact ⟨by omega, fun h => by omega⟩
    · exact ⟨by omega, fun h => by omega⟩
    · have := hYl b hb
      exact ⟨by omega, fun h => by omega⟩
  case hI =>
    rintro n S A A' ⟨v, rfl, h1, h3, h6⟩ hs
    exact ⟨v, rfl, (hs.block _ (.inr (.inl rfl))).trans h1, ownsRow_same h3 (fun b hb => hs.block b (.inr (.inr hb))), h6.trans (hs.below (fun b hb => .inl (by omega)))⟩
  case hIx =>
    rintro c n S A A' h
    exact h.elim
  case hlt =>
    rintro n S A ⟨v, rfl, h1, h3, h6⟩ b (rfl | hb)
    · exact h1.lt
    · exact (h3.lt b hb).2
  case h0 =>
    refine ⟨.slice none 0 0, ?_, bO, World.ownsRow_nil _ _ _ _, bW⟩
    funext b; simp [Value.ownBlock]
  case assign =>
    intro l' n A K' hK'
    gi_wp2
    exact hK'
  case body =>
    rintro l' n hn S A ⟨v, rfl, h1, h3, h6⟩
    rw [show (List.range K.length)[n] = n from by simp]
    have hn' : n < K.length := by simpa using hn
    obtain ⟨x, hx⟩ : ∃ x, x = K.getD n 0 := ⟨_, rfl⟩
    rw [← hx]
    have c1 := h1.cell
    have hsA := h6.size
    have hcn : ∀ j u, [Value.int .i64 x][j]? = some u → (A.alloc (.cells #[.int .i64 x] 3)).cell? ((⟨A.heap.size, 0, none⟩ : Addr).add j) = some u := cell_one_new _ _ _
    have HX := Lib.hid hx
    have HN := Lib.hid hcn
    clear hx hcn
    gi_wp2_with (gi_at_builtin; refine held ?_)
    unfold Held
    refine wpListIn_append_own_at _ rfl _ _ 39 rfl w.heap.size 3 i0 (.int .i64 0) 1 8 Try.underlying39 hi hz0 hz1 hz2 rfl (by decide) v n _ rfl (h3.alloc _) ⟨A.heap.size, 0, none⟩ 1 1 [.int .i64 x] rfl rfl HN (by simp [Value.oneCell']) (by simp only [maxLen]; omega) (by omega) (by rw [World.size_alloc]; omega) ?_
    intro v' w1 hown' hgrow hnil hv
    obtain ⟨g', cap', rfl⟩ := ownsRow_succ hown'
    obtain ⟨hv1, hv2, hr2, hk2, hb2⟩ := h1.appended (by decide) h3 hsA (by omega) hown' hgrow
    have hc1 := hv1.cell
    have hf1 := hv1.frozen
    gi_wp2
    have hx : x = K.getD n 0 := HX
    refine ⟨fun b => b = w.heap.size + 1 ∨ (Value.slice (some ⟨g', 0, none⟩) (n + 1) cap').ownBlock = some b, ⟨_, rfl, hv2, ?_, h6.trans hb2⟩, ?_⟩
    · rw [List.take_succ_eq_append_getElem hn', List.map_append, ← show x = K[n] from hx.trans (by simp [List.getD, hn'])]; exact hr2
    · refine ((((Wr.refl (fun b => b = w.heap.size + 1 ∨ v.ownBlock = some b) A).alloc (.cells #[.int .i64 x] 3)).grown hgrow (fun b hb => .inl (.inr hb))).setCell (p := ⟨w.heap.size + 1, 0, none⟩) (.inl (.inl rfl)) _).to ?_
      rintro b (rfl | hb)
      · exact .inl (.inl rfl)
      · rcases hv with hv | hv
        · exact .inl (.inr (by rw [← hv]; exact hb))
        · rw [hv, World.size_alloc] at hb
          injection hb with hb
          exact .inr (by omega)
  case done =>
    rintro D S A hD hS ⟨v, rfl, h1, h3, h7⟩ hK
    rw [List.length_range] at h3
    rw [List.take_length] at h3
    have c2 := h1.cell
    gi_wp2
    refine ⟨by simp, .inl ⟨_, _, rfl, run_takeDeferred hK, ?_⟩⟩
    refine ⟨v, by simp [results, Try.results14, go_sem], ⟨v, rfl, ?_, h7.trans (SameOn.below (SameOn.putObj (p := fun b => b < w.heap.size) _ _ _ (by show ¬ D < w.heap.size; omega)) (fun b hb => hb))⟩⟩
    exact ownsRow_same h3 fun b hb => World.putObj_heap_other (fun e => hS (by subst e; exact .inr hb))
  case stop =>
    rintro D c n S A hD hS hk h
    exact h.elim
theorem atL_len (ws : List Wt) (k : Ky) : (atL ws k).length ≤ ws.length := by unfold atL; rw [List.length_map]; exact List.length_filter_le _ _
theorem At_any (p : Nat) (v : Value) (ws : List Wt) (k : Ky) (w : World) (h : FutAt w p v ws) (hsm : ws.length ≤ 1000000) :
    Calls Try.prog 14 #[.pointer (some ⟨p, 0, none⟩), aggK k] w fun e w' => ∃ v, e = .returned v ∧ w'.ownsRow w.heap.size 3 1 v (atL ws k).length ((atL ws k).map (Value.int .i64)) ∧ Below w.heap.size w w' :=
  At_gen _ k w _ _ (handed_fut k h hsm) (Nat.le_trans (atL_len ws k) hsm)
theorem At_nil (k : Ky) (w : World) :
    Calls Try.prog 14 #[.pointer none, aggK k] w fun e w' => ∃ v, e = .returned v ∧ w'.ownsRow w.heap.size 3 1 v 0 [] ∧ Below w.heap.size w w' :=
  At_gen _ k w _ _ (handed_nil w k) (Nat.zero_le _)
end Go.Proofs.Ytdnhaappglbooaa
