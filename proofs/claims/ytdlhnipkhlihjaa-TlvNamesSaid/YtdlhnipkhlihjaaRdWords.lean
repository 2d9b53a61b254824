/- The walk of word.Words and word.Read. -/
import Derived.Test.YtdlhnipkhlihjaaRdIter
import Derived.Maps.OwnIn
namespace Go.Proofs.Ytdlhnipkhlihjaa
open Go Go.RowKit Go.Shelf
attribute [local go_sem] Oper.semAt_some
set_option linter.unusedVariables false
set_option linter.unnecessarySimpa false
/-- the words of bytes: the first so many -/
def wordsV (zs : List Int) (k : Nat) : List Int := (List.range k).map fun i => ((leW zs (4 * i) 4 : Nat) : Int)
theorem wordsV_succ (zs : List Int) (k : Nat) : wordsV zs (k + 1) = wordsV zs k ++ [((leW zs (4 * k) 4 : Nat) : Int)] := by simp [wordsV, List.range_succ]
theorem wordsV_length (zs : List Int) (k : Nat) : (wordsV zs k).length = k := by simp [wordsV]
theorem info_u32 : (Try.prog.info? 59).map (fun i => (i.zero, i.size, i.bytes)) = some (some (.int .u32 0), 1, 4) := by kernel_rfl
/-- what Words answers -/
def WordsPost (w : World) (zs : List Int) (e : Ending) (w' : World) : Prop :=
  Below w.heap.size w w' ∧
  ((zs.length % 4 = 0 ∧ ∃ v, e = .returned (.tuple #[v, .int .i64 0]) ∧ w'.ownsRow w.heap.size 59 1 v (zs.length / 4) ((wordsV zs (zs.length / 4)).map (Value.int .u32)) ∧ (v = .slice none 0 0 ↔ zs.length = 0)) ∨
  (zs.length % 4 ≠ 0 ∧ e = .returned (.tuple #[.slice none 0 0, .int .i64 10])))
set_option maxRecDepth 100000 in
set_option maxHeartbeats 4000000 in
theorem words_in (n : Nat) (a : Option Addr) (len cap : Nat) (zs : List Int) (w : World) (hr : Row8 w.heap.size w (.slice a len cap) zs) (hsm : zs.length ≤ 140737488350000) :
    Calls Try.prog 33 #[.slice a len cap] w (WordsPost w zs) := by
  obtain ⟨i0, hi, hz0, hz1, hz2⟩ := info_parts info_u32
  refine (callsIn_wide (n := 102)).1 ?_
  refine callsIn_of_wp_marks Try.func33 rfl trivial ?_ rfl
  simp only [Try.ntmps33, List.size_toArray, List.length_cons, List.length_nil, Nat.reduceAdd, Nat.reduceSub, Array.replicate_succ, Array.replicate_zero, List.push_toArray, List.append_toArray, List.nil_append, List.cons_append]
  have hch : Fence.wide.fn 41 := trivial
  gi_wp2
  refine wideScope ?_
  gi_wp2
  refine wpIn_label ?_
  gi_wp2_with (gi_at_call 41; refine (fours_in Fence.wide _ trivial rfl _ _ _ _).mono ?_; rintro e w' ⟨rfl, rfl⟩)
  obtain ⟨W3, hW3⟩ : ∃ W3, W3 = ((w.alloc (.cells #[.slice none 0 0] 61)).alloc (.cells #[.bool true] 4)).alloc (.cells #[.slice a len cap] 25) := ⟨_, rfl⟩
  have sz : W3.heap.size = w.heap.size + 3 := by rw [hW3]; simp
  have bW : Below w.heap.size w W3 := by rw [hW3]; exact (((Below.refl _ w).alloc (Nat.le_refl _) _).alloc (by simp) _).alloc (by simp; omega) _
  have bO : Boxed W3 w.heap.size 61 (.slice none 0 0) := by rw [hW3]; exact ((Boxed.new w _ _).alloc _).alloc _
  have bF : Boxed W3 (w.heap.size + 1) 4 (.bool true) := by
    rw [hW3]
    have := Boxed.new (w.alloc (.cells #[.slice none 0 0] 61)) 4 (.bool true)
    rw [World.size_alloc] at this
    exact this.alloc _
  have bS : Boxed W3 (w.heap.size + 1 + 1) 25 (.slice a len cap) := by
    rw [hW3]
    have := Boxed.new ((w.alloc (.cells #[.slice none 0 0] 61)).alloc (.cells #[.bool true] 4)) 25 (.slice a len cap)
    rw [World.size_alloc, World.size_alloc] at this
    exact this
  rw [← hW3]
  have hr3 : Row8 W3.heap.size W3 (.slice a len cap) zs := (hr.same fun b hb => bW.block b (hr.lt b hb)).mono (by omega)
  refine range_law (gf := 44) rfl (enters_of Try.func44 (by kernel_rfl) rfl)
    (fours1_iter (w.heap.size + 1 + 1) _ zs W3 (by omega) bS.cell hr3 (by omega)) (fun _ => rfl)
    (fun k S A => ∃ v, S = (fun b => b = w.heap.size ∨ b = w.heap.size + 1 ∨ v.ownBlock = some b) ∧ Boxed A w.heap.size 61 v ∧ Boxed A (w.heap.size + 1) 4 (.bool true) ∧
      A.ownsRow w.heap.size 59 1 v k ((wordsV zs k).map (Value.int .u32)) ∧ (v = .slice none 0 0 ↔ k = 0) ∧ 4 * k ≤ zs.length ∧ Below w.heap.size w A)
    (fun c k S A => c = .exit 0 ∧ S = (fun b => b = w.heap.size + 1) ∧ Boxed A (w.heap.size + 1) 4 (.bool false) ∧ zs.length % 4 ≠ 0 ∧ Below w.heap.size w A)
    (fun b => b = w.heap.size ∨ b = w.heap.size + 1) ?hX ?hI ?hIx ?hlt ?h0
    (fun k => { tmps := #[.slice a len cap, undef, .slice none 0 0, .int .i64 0, .pointer (some ⟨w.heap.size, 0, none⟩), .pointer (some ⟨w.heap.size + 1, 0, none⟩),
      .int .u32 (leW zs (4 * k) (min 4 (zs.length - 4 * k))), .bool (decide (4 * k + 4 ≤ zs.length)), .slice a len cap, .func (.func 44) #[] #[.pointer (some ⟨w.heap.size + 1 + 1, 0, none⟩)],
      .int .u32 (leW zs (4 * k) (min 4 (zs.length - 4 * k))), .bool (decide (4 * k + 4 ≤ zs.length)), undef, undef, undef, undef, undef, undef, undef, undef, undef, undef], defers := [] }) ?assign ?body ?done ?stop
  case hX =>
    rintro b (rfl | hb)
    · exact ⟨by omega, fun h => by omega⟩
    · have := hr.lt b hb
      exact ⟨by omega, fun h => by omega⟩
  case hI =>
    rintro k S A A' ⟨v, rfl, h1, h2, h3, h4, h5, h6⟩ hs
    exact ⟨v, rfl, (hs.block _ (.inr (.inl rfl))).trans h1, (hs.block _ (.inr (.inr (.inl rfl)))).trans h2, ownsRow_same h3 (fun b hb => hs.block b (.inr (.inr (.inr hb)))), h4, h5, h6.trans (hs.below (fun b hb => .inl (by omega)))⟩
  case hIx =>
    rintro c k S A A' ⟨h1, rfl, h2, h3, h4⟩ hs
    exact ⟨h1, rfl, (hs.block _ (.inr rfl)).trans h2, h3, h4.trans (hs.below (fun b hb => .inl (by omega)))⟩
  case hlt =>
    rintro k S A ⟨v, rfl, h1, h2, h3, h4, h5, h6⟩ b (rfl | rfl | hb)
    · exact h1.lt
    · exact h2.lt
    · exact (h3.lt b hb).2
  case h0 =>
    refine ⟨.slice none 0 0, ?_, bO, bF, World.ownsRow_nil _ _ _ _, by simp, by omega, bW⟩
    funext b; simp [Value.ownBlock]
  case assign =>
    intro l' k A K hK
    dsimp only [fourV]
    gi_wp2
    exact hK
  case body =>
    rintro l' k hk S A ⟨v, rfl, h1, h2, h3, h4, h5, h6⟩
    rw [show (List.range ((zs.length + 3) / 4))[k] = k from by simp]
    have hN : k < (zs.length + 3) / 4 := by simpa using hk
    by_cases hw : 4 * k + 4 ≤ zs.length
    · obtain ⟨x, hx⟩ : ∃ x, x = leW zs (4 * k) (min 4 (zs.length - 4 * k)) := ⟨_, rfl⟩
      have hx4 : x = leW zs (4 * k) 4 := by rw [hx, Nat.min_eq_left (by omega)]
      rw [← hx, show decide (4 * k + 4 ≤ zs.length) = true from by simpa using hw]
      clear hx
      have c1 := h1.cell
      have c2 := h2.cell
      have f2 := h2.frozen
      have wr1 := (Wr.refl (fun b => b = w.heap.size ∨ b = w.heap.size + 1 ∨ v.ownBlock = some b) A).setCell (p := ⟨w.heap.size + 1, 0, none⟩) (.inl (.inr (.inl rfl))) (.bool true)
      have g1 := grownBy_setCell' A (w.heap.size + 1) (.bool true)
      have h1' := h1.kept g1 (by simp)
      have h2' := h2.set (.bool true)
      have h3' := h3.kept g1 (.inr (h2.not_row (by decide) h3).symm)
      have h6' : Below w.heap.size w (A.setCell ⟨w.heap.size + 1, 0, none⟩ (.bool true)) := h6.setCell (p := ⟨w.heap.size + 1, 0, none⟩) (by show w.heap.size ≤ w.heap.size + 1; omega) _
      have hsA := h6.size
      have c1' := h1'.cell
      have c2' := h2'.cell
      have hkl : k < 140737488350000 := by omega
      have eA : (A.setCell ⟨w.heap.size + 1, 0, none⟩ (.bool true)).heap.size = A.heap.size := by show (A.heap.modify _ _).size = _; rw [Array.size_modify]
      have hbase : w.heap.size ≤ (A.setCell ⟨w.heap.size + 1, 0, none⟩ (.bool true)).heap.size := by rw [eA]; omega
      have hcn : ∀ j u, [Value.int .u32 x][j]? = some u → ((A.setCell ⟨w.heap.size + 1, 0, none⟩ (.bool true)).alloc (.cells #[.int .u32 x] 59)).cell? ((⟨A.heap.size, 0, none⟩ : Addr).add j) = some u := by
        rw [← eA]; exact cell_one_new _ _ _
      have HX := Lib.hid hx4
      have HN := Lib.hid hcn
      have HE := Lib.hid eA
      clear hx4 hcn eA
      gi_wp2_with (gi_at_builtin; refine held ?_)
      unfold Held
      refine wpListIn_append_own_at _ rfl _ _ 61 rfl w.heap.size 59 i0 (.int .u32 0) 1 4 Try.underlying61 hi hz0 hz1 hz2 rfl (by decide) v k _ rfl (h3'.alloc _) ⟨A.heap.size, 0, none⟩ 1 1 [.int .u32 x] rfl rfl HN (by simp [Value.oneCell']) (by simp only [maxLen]; omega) (by omega) (by rw [World.size_alloc]; omega) ?_
      intro v' w1 hown' hgrow hnil hv
      obtain ⟨g', cap', rfl⟩ := ownsRow_succ hown'
      obtain ⟨hv1, hv2, hr2, hk2, hb2⟩ := h1'.appended (by decide) h3' hbase (Nat.le_refl _) hown' hgrow
      have hc1 := hv1.cell
      have hf1 := hv1.frozen
      gi_wp2
      have hx4 : x = leW zs (4 * k) 4 := HX
      have eA : (A.setCell ⟨w.heap.size + 1, 0, none⟩ (.bool true)).heap.size = A.heap.size := HE
      have k2 := (h2'.alloc (.cells #[.int .u32 x] 59)).kept hgrow (h2'.not_row (by decide) h3')
      refine ⟨fun b => b = w.heap.size ∨ b = w.heap.size + 1 ∨ (Value.slice (some ⟨g', 0, none⟩) (k + 1) cap').ownBlock = some b, ⟨_, rfl, hv2, k2.kept (grownBy_setCell' _ _ _) (by simp), ?_, by simp, by omega, h6'.trans hb2⟩, ?_⟩
      · rw [wordsV_succ, List.map_append, ← hx4]; exact hr2
      · refine ((((wr1.alloc (.cells #[.int .u32 x] 59)).grown hgrow (fun b hb => .inl (.inr (.inr hb)))).setCell (p := ⟨w.heap.size, 0, none⟩) (.inl (.inl rfl)) _).to ?_)
        rintro b (rfl | rfl | hb)
        · exact .inl (.inl rfl)
        · exact .inl (.inr (.inl rfl))
        · rcases hv with hv | hv
          · exact .inl (.inr (.inr (by rw [← hv]; exact hb)))
          · rw [hv, World.size_alloc, eA] at hb
            injection hb with hb
            exact .inr (by omega)
    · have c2 := h2.cell
      have f2 := h2.frozen
      rw [show decide (4 * k + 4 ≤ zs.length) = false from by simpa using hw]
      gi_wp2
      exact ⟨_, ⟨rfl, rfl, h2.set _, by omega, h6.setCell (p := ⟨w.heap.size + 1, 0, none⟩) (by show w.heap.size ≤ w.heap.size + 1; omega) _⟩, ((Wr.refl _ A).setCell (p := ⟨w.heap.size + 1, 0, none⟩) (.inl (.inr (.inl rfl))) (.bool false)).to (fun b hb => .inl (.inr (.inl hb)))⟩
  case done =>
    rintro D S A hD hS ⟨v, rfl, h1, h2, h3, h4, h5, h6⟩ hK
    have c1 := h1.cell
    have c2 := h2.cell
    gi_wp2
    refine ⟨by simp, .inl ⟨_, _, rfl, run_takeDeferred hK, ?_⟩⟩
    rw [List.length_range] at h3 h4 h5
    have e4 : zs.length % 4 = 0 := by omega
    have ek : (zs.length + 3) / 4 = zs.length / 4 := by omega
    rw [ek] at h3 h4
    refine ⟨.tuple #[v, .int .i64 0], by simp [results, Try.results33, go_sem], h6.trans (SameOn.below (SameOn.putObj (p := fun b => b < w.heap.size) _ _ _ (by show ¬ D < w.heap.size; omega)) (fun b hb => hb)), .inl ⟨e4, v, rfl, ?_, by rw [h4]; omega⟩⟩
    exact ownsRow_same h3 fun b hb => World.putObj_heap_other (fun e => hS (.inr (.inr (by rw [← e]; exact hb))))
  case stop =>
    rintro D c k S A hD hS hk ⟨rfl, rfl, h2, h3, h4⟩ hK
    have c2 := h2.cell
    gi_wp2
    refine ⟨by simp, .inl ⟨_, _, rfl, run_takeDeferred hK, ?_⟩⟩
    exact ⟨.tuple #[.slice none 0 0, .int .i64 10], by simp [results, Try.results33, go_sem], h4.trans (SameOn.below (SameOn.putObj (p := fun b => b < w.heap.size) _ _ _ (by show ¬ D < w.heap.size; omega)) (fun b hb => hb)), .inr ⟨h3, rfl⟩⟩
end Go.Proofs.Ytdlhnipkhlihjaa
