/- The iterator (*ring.Ring).bytes$1, and Peek. -/
import Derived.Test.YtcmcilfopkhipaaRingWrite
import Derived.Test.YtcmcilfopkhipaaStillIn
import Derived.Shelf.Abstract
import Derived.OwnWalkIn
import Derived.TacticsInMore
import Derived.LoopNIn
import Derived.LoopIn
import Derived.BigRegionIn
import Derived.Maps.AppendAt
import Derived.Maps.OwnIn
namespace Go.Proofs.Ytcmcilfopkhipaa
open Go Go.RowKit Go.Shelf
attribute [local go_sem] Oper.semAt_some
set_option linter.unusedVariables false
set_option linter.unnecessarySimpa false
/-- what bytes tells of its i-th byte -/
def byteV (f : Nat → Int) (most first : Nat) (i : Nat) : Array Value := #[.int .i64 i, .int .u8 (f ((first + i) % most))]
set_option maxRecDepth 100000 in
set_option maxHeartbeats 4000000 in
theorem bytes1_iter (B1 g : Nat) (f : Nat → Int) (most first n : Nat) (w : World) (hB : B1 < w.heap.size) (c1 : w.cell? ⟨B1, 0, none⟩ = some (.pointer (some ⟨g, 0, none⟩))) (h : RingAt w g f most first n) (h1 : 1 ≤ most) (h2 : most ≤ 64) (hf : first < most) (hn : n ≤ most) :
    Iter Try.prog 53 #[.pointer (some ⟨B1, 0, none⟩)] (byteV f most first) (fun b => b = B1 ∨ b = g) (List.range n) w := by
  intro l J Jx S0 W hW hJ hJx hlt hX hY h0
  have C1 : W.cell? ⟨B1, 0, none⟩ = some (.pointer (some ⟨g, 0, none⟩)) := (hW.cell (p := ⟨B1, 0, none⟩) hB).trans c1
  have hR : RingAt W g f most first n := h.below h.lt hW
  have x1 : ¬ S0 B1 := hX _ (.inl rfl)
  have x2 : ¬ S0 g := hX _ (.inr rfl)
  have hWs := hW.size
  have hg := h.lt
  refine (callsIn_wide (n := 101)).1 ?_
  refine callsIn_of_wp Try.func53 rfl trivial ?_ rfl
  simp only [Try.ntmps53, List.size_toArray, List.length_cons, List.length_nil, Nat.reduceAdd, Nat.reduceSub, Array.replicate_succ, Array.replicate_zero, List.push_toArray, List.append_toArray, List.nil_append, List.cons_append]
  have hch : Fence.wide.fn 34 := trivial
  gi_wp2_with (gi_at_call 34; refine (callsIn_wide.2 (len_any W g f most first n hR (by omega))).mono ?_; rintro e w1 ⟨rfl, rfl⟩)
  clear hch
  gi_loopw [6] (fun i wr => ∃ (k : Nat) (S : Nat → Prop), i = .int .i64 (k : Int) ∧ k ≤ n ∧ J k S wr ∧ Wr S0 S W wr) (fun i _ => n - (intOf i).toNat)
  case atStart => exact ⟨0, S0, rfl, Nat.zero_le _, h0, Wr.refl _ _⟩
  case round =>
    obtain ⟨k, S, rfl, hk, hJs, hw⟩ := hrel
    by_cases hlt : k < n
    · have hc1 : wr.cell? ⟨B1, 0, none⟩ = some (.pointer (some ⟨g, 0, none⟩)) := cell_same (hw.block _ (by show B1 < _; omega) x1) C1
      have hRw : RingAt wr g f most first n := hR.same (hw.block _ (by omega) x2)
      have t1 : decide ((k : Int) < (n : Int)) = true := by simp; omega
      obtain ⟨p, hp⟩ : ∃ p : Nat, p = (first + k) % most := ⟨_, rfl⟩
      have hp64 : p < most := by rw [hp]; exact Nat.mod_lt _ h1
      have ep : ((first : Int) + (k : Int)) % (most : Int) = (p : Int) := by rw [hp]; push_cast; rfl
      have a0 := hc1
      have a1 := hRw.most
      have a2 := hRw.first
      have a4 := hRw.byte p (by omega)
      have d1 : (0 : Int) ≤ (p : Int) := by omega
      have d2 : (p : Int) < 64 := by omega
      have m0 : ((most : Int) == 0) = false := by simp; omega
      have m1 : (0 : Int) < (most : Int) := by omega
      have m2 : ¬ (most : Int) = 0 := by omega
      have m3 : ¬ most = 0 := by omega
      have ew : (IntKind.i64.wrap ((first : Int) + (k : Int))).tmod (most : Int) = (p : Int) := by
        rw [IntKind.wrap_i64, ← ep, show ((first : Int) + (k : Int) + 9223372036854775808) % 18446744073709551616 - 9223372036854775808 = (first : Int) + (k : Int) from by omega, Int.tmod_eq_emod_of_nonneg (by omega)]
      have hk2 : k < (List.range n).length := by simpa using hlt
      obtain ⟨fn, tmps, assign, body, hy, hRd⟩ := hY k hk2 S wr.drew (hJ k S wr _ hJs ⟨rfl, rfl, rfl, Nat.le_refl _, fun _ _ => rfl⟩)
      rw [show (List.range n)[k] = k from by simp] at hy
      simp only [byteV, ← hp] at hy
      have HP := Lib.hid hp
      clear hp
      gi_wp2_with fail
      have a0d : wr.drew.cell? ⟨B1, 0, none⟩ = some (.pointer (some ⟨g, 0, none⟩)) := a0
      have a1d : wr.drew.cell? ⟨g, 64, none⟩ = some (.int .i64 most) := a1
      have a2d : wr.drew.cell? ⟨g, 65, none⟩ = some (.int .i64 first) := a2
      have a4d : wr.drew.cell? ⟨g, p, none⟩ = some (.int .u8 (f p)) := a4
      refine wpIn_region_still_tail 18 (by kernel_rfl) (by kernel_rfl) ?_
      simp only [List.take_succ_cons, List.take_zero, List.drop_succ_cons, List.drop_zero]
      repeat still_step
      refine wpStill_nil ?_
      change wpListIn _ _ _ _ _ _ _ wr.drew
      clear a0 a1 a2 a4 a0d a1d a2d a4d ew
      have hwd : Wr S0 S W wr.drew := hw.drew
      gi_wp2
      refine hRd.mono ?_
      rintro e W3 (⟨rfl, S', hJ3, hw3⟩ | ⟨rfl, S', hJx3, hw3⟩)
      · have hw' := hwd.trans hw3
        gi_wp2
        go_roundw
        case rel => exact ⟨k + 1, S', by congr 1, by omega, hJ3, hw'⟩
        case measure => simp [intOf]; omega
      · gi_wp2
        refine bodyPost_ret (results_none rfl _ _ _) rfl ?_
        exact ⟨⟨_, rfl⟩, .inr ⟨k + 1, S', hk2, hJx3⟩⟩
    · have t1 : decide ((k : Int) < (n : Int)) = false := by simp; omega
      gi_wp2
      go_end0
      obtain rfl : k = n := by omega
      exact ⟨⟨_, rfl⟩, .inl ⟨S, by simpa using hJs⟩⟩
/-- the first so many bytes of a ring -/
def ringL (f : Nat → Int) (most first : Nat) (k : Nat) : List Int := (List.range k).map fun i => f ((first + i) % most)
theorem ringL_succ (f : Nat → Int) (most first k : Nat) : ringL f most first (k + 1) = ringL f most first k ++ [f ((first + k) % most)] := by simp [ringL, List.range_succ]
theorem ringL_length (f : Nat → Int) (most first k : Nat) : (ringL f most first k).length = k := by simp [ringL]
theorem info_u8 : (Try.prog.info? 5).map (fun i => (i.zero, i.size, i.bytes)) = some (some (.int .u8 0), 1, 1) := by kernel_rfl
set_option maxHeartbeats 1000000 in
theorem bytes_in (F : Fence) (n : Nat) (hF : F.fn 52) (hro : F.round = none) (p : Option Addr) (w : World) :
    CallsIn F n Try.prog 52 #[.pointer p] w fun e w' =>
      e = .returned (.func (.func 53) #[] #[.pointer (some ⟨w.heap.size, 0, none⟩)]) ∧ w' = w.alloc (.cells #[.pointer p] 67) := by
  refine callsIn_of_wp Try.func52 rfl hF ?_ hro
  simp only [Try.ntmps52, List.size_toArray, List.length_cons, List.length_nil, Nat.reduceAdd, Nat.reduceSub, Array.replicate_succ, Array.replicate_zero, List.push_toArray, List.append_toArray, List.nil_append, List.cons_append]
  gi_wp2
  go_ret
  exact ⟨by simp, rfl⟩
/-- what Peek answers -/
def OwnBytes (base : Nat) (zs : List Int) (e : Ending) (w' : World) : Prop := ∃ v, e = .returned v ∧ w'.ownsRow base 5 1 v zs.length (zs.map (Value.int .u8)) ∧ (v = .slice none 0 0 ↔ zs.length = 0)
set_option maxRecDepth 100000 in
set_option maxHeartbeats 4000000 in
theorem peek_raw (g : Nat) (f : Nat → Int) (most first n : Nat) (m : Int) (w : World) (h : RingAt w g f most first n) (h1 : 1 ≤ most) (h2 : most ≤ 64) (hf : first < most) (hn : n ≤ most) :
    Calls Try.prog 48 #[.pointer (some ⟨g, 0, none⟩), .int .i64 m] w fun e w' => OwnBytes w.heap.size (ringL f most first (min n m.toNat)) e w' ∧ Below w.heap.size w w' := by
  obtain ⟨i0, hi, hz0, hz1, hz2⟩ := info_parts info_u8
  have hgl := h.lt
  refine (callsIn_wide (n := 102)).1 ?_
  refine callsIn_of_wp_marks Try.func48 rfl trivial ?_ rfl
  simp only [Try.ntmps48, List.size_toArray, List.length_cons, List.length_nil, Nat.reduceAdd, Nat.reduceSub, Array.replicate_succ, Array.replicate_zero, List.push_toArray, List.append_toArray, List.nil_append, List.cons_append]
  have hch : Fence.wide.fn 52 := trivial
  gi_wp2
  refine wideScope ?_
  gi_wp2
  refine wpIn_label ?_
  gi_wp2_with (gi_at_call 52; refine (bytes_in Fence.wide _ trivial rfl _ _).mono ?_; rintro e w' ⟨rfl, rfl⟩)
  obtain ⟨W3, hW3⟩ : ∃ W3, W3 = ((w.alloc (.cells #[.int .i64 m] 3)).alloc (.cells #[.slice none 0 0] 22)).alloc (.cells #[.pointer (some ⟨g, 0, none⟩)] 67) := ⟨_, rfl⟩
  have sz : W3.heap.size = w.heap.size + 3 := by rw [hW3]; simp
  have bW : Below w.heap.size w W3 := by rw [hW3]; exact (((Below.refl _ w).alloc (Nat.le_refl _) _).alloc (by simp) _).alloc (by simp; omega) _
  have bN : Boxed W3 w.heap.size 3 (.int .i64 m) := by rw [hW3]; exact ((Boxed.new w _ _).alloc _).alloc _
  have bO : Boxed W3 (w.heap.size + 1) 22 (.slice none 0 0) := by
    rw [hW3]
    have := Boxed.new (w.alloc (.cells #[.int .i64 m] 3)) 22 (.slice none 0 0)
    rw [World.size_alloc] at this
    exact this.alloc _
  have bS : Boxed W3 (w.heap.size + 1 + 1) 67 (.pointer (some ⟨g, 0, none⟩)) := by
    rw [hW3]
    have := Boxed.new ((w.alloc (.cells #[.int .i64 m] 3)).alloc (.cells #[.slice none 0 0] 22)) 67 (.pointer (some ⟨g, 0, none⟩))
    rw [World.size_alloc, World.size_alloc] at this
    exact this
  rw [← hW3]
  have hr3 : RingAt W3 g f most first n := h.below hgl bW
  refine range_law (gf := 53) rfl (enters_of Try.func53 (by kernel_rfl) rfl)
    (bytes1_iter (w.heap.size + 1 + 1) g f most first n W3 (by omega) bS.cell hr3 h1 h2 hf hn) (fun _ => rfl)
    (fun k S A => ∃ v, S = (fun b => b = w.heap.size + 1 ∨ v.ownBlock = some b) ∧ Boxed A w.heap.size 3 (.int .i64 m) ∧ Boxed A (w.heap.size + 1) 22 v ∧
      A.ownsRow w.heap.size 5 1 v k ((ringL f most first k).map (Value.int .u8)) ∧ (v = .slice none 0 0 ↔ k = 0) ∧ k ≤ n ∧ k ≤ m.toNat ∧ Below w.heap.size w A)
    (fun c k S A => ∃ v j, c = .exit 0 ∧ S = (fun b => b = w.heap.size + 1 ∨ v.ownBlock = some b) ∧ Boxed A (w.heap.size + 1) 22 v ∧
      A.ownsRow w.heap.size 5 1 v j ((ringL f most first j).map (Value.int .u8)) ∧ (v = .slice none 0 0 ↔ j = 0) ∧ j = min n m.toNat ∧ Below w.heap.size w A)
    (fun b => b = w.heap.size + 1) ?hX ?hI ?hIx ?hlt ?h0
    (fun k => { tmps := #[.pointer (some ⟨g, 0, none⟩), .int .i64 m, undef, .pointer (some ⟨w.heap.size, 0, none⟩), .slice none 0 0, .pointer (some ⟨w.heap.size + 1, 0, none⟩),
      .int .i64 k, .int .u8 (f ((first + k) % most)), .pointer (some ⟨g, 0, none⟩), .func (.func 53) #[] #[.pointer (some ⟨w.heap.size + 1 + 1, 0, none⟩)],
      .int .i64 k, .int .u8 (f ((first + k) % most)), undef, undef, undef, undef, undef, undef, undef, undef], defers := [] }) ?assign ?body ?done ?stop
  case hX =>
    rintro b (rfl | rfl)
    · exact ⟨by omega, fun h => by omega⟩
    · exact ⟨by omega, fun h => by omega⟩
  case hI =>
    rintro k S A A' ⟨v, rfl, h1, h2, h3, h4, h5, h6, h7⟩ hs
    exact ⟨v, rfl, (hs.block _ (.inl (by omega))).trans h1, (hs.block _ (.inr (.inl rfl))).trans h2, ownsRow_same h3 (fun b hb => hs.block b (.inr (.inr hb))), h4, h5, h6, h7.trans (hs.below (fun b hb => .inl (by omega)))⟩
  case hIx =>
    rintro c k S A A' ⟨v, j, h1, rfl, h2, h3, h4, h5, h6⟩ hs
    exact ⟨v, j, h1, rfl, (hs.block _ (.inr (.inl rfl))).trans h2, ownsRow_same h3 (fun b hb => hs.block b (.inr (.inr hb))), h4, h5, h6.trans (hs.below (fun b hb => .inl (by omega)))⟩
  case hlt =>
    rintro k S A ⟨v, rfl, h1, h2, h3, h4, h5, h6⟩ b (rfl | hb)
    · exact h2.lt
    · exact (h3.lt b hb).2
  case h0 =>
    refine ⟨.slice none 0 0, ?_, bN, bO, World.ownsRow_nil _ _ _ _, by simp, by omega, by omega, bW⟩
    funext b; simp [Value.ownBlock]
  case assign =>
    intro l' k A K hK
    dsimp only [byteV]
    gi_wp2
    exact hK
  case body =>
    rintro l' k hk S A ⟨v, rfl, h1, h2, h3, h4, h5, h6, h7⟩
    rw [show (List.range n)[k] = k from by simp]
    have hN : k < n := by simpa using hk
    have c1 := h1.cell
    have c2 := h2.cell
    by_cases hw : m ≤ (k : Int)
    · gi_wp2
      exact ⟨_, ⟨v, k, rfl, rfl, h2, h3, h4, by omega, h7⟩, Wr.refl _ A⟩
    · obtain ⟨x, hx⟩ : ∃ x, x = f ((first + k) % most) := ⟨_, rfl⟩
      rw [← hx]
      have HX := Lib.hid hx
      clear hx
      have hsA := h7.size
      have hcn := cell_one_new A (Value.int .u8 x) 5
      have HN := Lib.hid hcn
      clear hcn
      gi_wp2_with (gi_at_builtin; refine held ?_)
      unfold Held
      refine wpListIn_append_own_at _ rfl _ _ 22 rfl w.heap.size 5 i0 (.int .u8 0) 1 1 Try.underlying22 hi hz0 hz1 hz2 rfl (by decide) v k _ rfl (h3.alloc _) ⟨A.heap.size, 0, none⟩ 1 1 [.int .u8 x] rfl rfl HN (by simp [Value.oneCell']) (by simp only [maxLen]; omega) (by omega) (by rw [World.size_alloc]; omega) ?_
      intro v' w1 hown' hgrow hnil hv
      obtain ⟨g', cap', rfl⟩ := ownsRow_succ hown'
      obtain ⟨hv1, hv2, hr2, hk2, hb2⟩ := h2.appended (by decide) h3 hsA (Nat.le_succ _) hown' hgrow
      have hc1 := hv1.cell
      have hf1 := hv1.frozen
      gi_wp2
      have hx : x = f ((first + k) % most) := HX
      have k2 := (h1.alloc (.cells #[.int .u8 x] 5)).kept hgrow (h1.not_row (by decide) h3)
      refine ⟨fun b => b = w.heap.size + 1 ∨ (Value.slice (some ⟨g', 0, none⟩) (k + 1) cap').ownBlock = some b, ⟨_, rfl, k2.kept (grownBy_setCell' _ _ _) (by simp), hv2, ?_, by simp, by omega, by omega, h7.trans hb2⟩, ?_⟩
      · rw [ringL_succ, List.map_append, ← hx]; exact hr2
      · refine (((((Wr.refl (fun b => b = w.heap.size + 1 ∨ v.ownBlock = some b) A).alloc (.cells #[.int .u8 x] 5)).grown hgrow (fun b hb => .inl (.inr hb))).setCell (p := ⟨w.heap.size + 1, 0, none⟩) (.inl (.inl rfl)) _).to ?_)
        rintro b (rfl | hb)
        · exact .inl (.inl rfl)
        · rcases hv with hv | hv
          · exact .inl (.inr (by rw [← hv]; exact hb))
          · rw [hv, World.size_alloc] at hb
            injection hb with hb
            exact .inr (by omega)
  case done =>
    rintro D S A hD hS ⟨v, rfl, h1, h2, h3, h4, h5, h6, h7⟩ hK
    have c2 := h2.cell
    gi_wp2
    refine ⟨by simp, .inl ⟨_, _, rfl, run_takeDeferred hK, ?_⟩⟩
    rw [List.length_range] at h3 h4 h6
    refine ⟨v, by simp [results, Try.results48, go_sem], ⟨v, rfl, ?_, ?_⟩, h7.trans (SameOn.below (SameOn.putObj (p := fun b => b < w.heap.size) _ _ _ (by show ¬ D < w.heap.size; omega)) (fun b hb => hb))⟩
    · rw [ringL_length, Nat.min_eq_left h6]
      exact ownsRow_same h3 fun b hb => World.putObj_heap_other (fun e => hS (.inr (by rw [← e]; exact hb)))
    · rw [h4, ringL_length, Nat.min_eq_left h6]
  case stop =>
    rintro D c k S A hD hS hk ⟨v, j, rfl, rfl, h2, h3, h4, hj, h7⟩ hK
    have c2 := h2.cell
    gi_wp2
    refine ⟨by simp, .inl ⟨_, _, rfl, run_takeDeferred hK, ?_⟩⟩
    refine ⟨v, by simp [results, Try.results48, go_sem], ⟨v, rfl, ?_, ?_⟩, h7.trans (SameOn.below (SameOn.putObj (p := fun b => b < w.heap.size) _ _ _ (by show ¬ D < w.heap.size; omega)) (fun b hb => hb))⟩
    · rw [ringL_length, ← hj]
      exact ownsRow_same h3 fun b hb => World.putObj_heap_other (fun e => hS (.inr (by rw [← e]; exact hb)))
    · rw [h4, ringL_length, ← hj]
end Go.Proofs.Ytcmcilfopkhipaa
