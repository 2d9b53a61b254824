/- The walk of the law FutexNames: the examples. (Printed by tools/gen_futnames.py.) -/
import Derived.Test.YtdnhaappglbooaaFutLaw
namespace Go.Proofs.Ytdnhaappglbooaa
open Go Go.RowKit
attribute [local go_sem] upV_value upV_skip upV_enter
set_option linter.unusedVariables false
set_option linter.unnecessarySimpa false
set_option linter.unusedSimpArgs false
set_option maxRecDepth 100000 in
set_option maxHeartbeats 8000000 in
theorem futexNames_any (W : World) : Calls Try.prog 7 #[] W fun e W' => e = .returned (.bool true) ∧ Below W.heap.size W W' := by
  have b0 : Below W.heap.size W W := Below.refl _ _
  have hs0 : ∀ V : World, Below W.heap.size W V → W.heap.size ≤ V.heap.size := fun V h => h.size
  have kq : ∀ w, (binOp .eql 33 (.agg #[.int .i64 9, .int .i64 0, .int .i64 8]) (.agg #[.int .i64 9, .int .i64 0, .int .i64 8])).run Try.prog w = .ok (.bool true) w := fun w => by rw [key_eql]; rfl
  go_enter Try.func7, Try.ntmps7
  go_wp2_with (go_at_call 18; refine held ?_)
  unfold Held
  refine (check_any ⟨1, 1, 0⟩ W).mono ?_
  rintro e w1 ⟨rfl, c1⟩
  have b1 := b0.trans (c1.mono b0.size)
  rw [show (if mayK ⟨1, 1, 0⟩ then (0 : Int) else 2) = 2 from by decide]
  clear b0 c1
  go_wp2_with (go_at_call 18; refine held ?_)
  unfold Held
  refine (check_any ⟨0, 0, 64⟩ w1).mono ?_
  rintro e w2 ⟨rfl, c2⟩
  have b2 := b1.trans (c2.mono b1.size)
  rw [show (if mayK ⟨0, 0, 64⟩ then (0 : Int) else 2) = 2 from by decide]
  clear b1 c2
  go_wp2_with (go_at_call 18; refine held ?_)
  unfold Held
  refine (check_any ⟨1, 0, 4095⟩ w2).mono ?_
  rintro e w3 ⟨rfl, c3⟩
  have b3 := b2.trans (c3.mono b2.size)
  rw [show (if mayK ⟨1, 0, 4095⟩ then (0 : Int) else 2) = 0 from by decide]
  clear b2 c3
  go_wp2_with (go_at_call 18; refine held ?_)
  unfold Held
  refine (check_any ⟨0, 0, -1⟩ w3).mono ?_
  rintro e w4 ⟨rfl, c4⟩
  have b4 := b3.trans (c4.mono b3.size)
  rw [show (if mayK ⟨0, 0, -1⟩ then (0 : Int) else 2) = 2 from by decide]
  clear b3 c4
  go_wp2_with (go_at_call 28; refine held ?_)
  unfold Held
  refine (some_any w4).mono ?_
  rintro e w5 ⟨q, v5, rfl, f5, c5⟩
  have b5 := b4.trans (c5.mono b4.size)
  replace f5 : Fresh W.heap.size w5 q v5 someL := ⟨f5.fut, fun b hb => Nat.le_trans b4.size (f5.lo b hb)⟩
  clear b4 c5
  go_wp2_with (go_at_call 29; refine held ?_)
  unfold Held
  refine (one_any w5).mono ?_
  rintro e w6 ⟨rfl, c6⟩
  have b6 := b5.trans (c6.mono b5.size)
  have f6 := f5.below c6
  clear f5
  clear b5 c6
  go_wp2_with (go_at_call 12; refine held ?_)
  unfold Held
  refine (wait_any _ _ _ 0 oneK1 w6 f6.fut (by decide)).mono ?_
  rintro e w7 ⟨v7, rfl, h7, hw7⟩
  have f7 := f6.step (hs0 _ b6) h7 hw7
  have b7 := b6.trans (f6.wr (hs0 _ b6) hw7)
  rw [show waitL someL 0 oneK1 = (2, someL) from by decide] at f7
  rw [show (waitL someL 0 oneK1).1 = 2 from by decide]
  clear f6 b6 h7 hw7
  go_wp2_with (go_at_call 12; refine held ?_)
  unfold Held
  refine (wait_any _ _ _ 4 ⟨-1, 0, 0⟩ w7 f7.fut (by decide)).mono ?_
  rintro e w8 ⟨v8, rfl, h8, hw8⟩
  have f8 := f7.step (hs0 _ b7) h8 hw8
  have b8 := b7.trans (f7.wr (hs0 _ b7) hw8)
  rw [show waitL someL 4 ⟨-1, 0, 0⟩ = (2, someL) from by decide] at f8
  rw [show (waitL someL 4 ⟨-1, 0, 0⟩).1 = 2 from by decide]
  clear f7 b7 h8 hw8
  go_wp2_with (go_at_call 17; refine held ?_)
  unfold Held
  refine (key_any _ _ _ 9 w8 f8.fut (by decide)).mono ?_
  rintro e w9 ⟨rfl, c9⟩
  rw [show aggK ((someL.find? (isP 9)).elim ⟨0, 0, 0⟩ (·.k)) = .agg #[.int .i64 9, .int .i64 0, .int .i64 8] from rfl, show (someL.find? (isP 9)).isSome = true from by decide]
  have b9 := b8.trans (c9.mono (hs0 _ b8))
  have f9 := f8.below c9
  clear f8 b8 c9
  obtain ⟨V, hV⟩ : ∃ V, V = w9.alloc (.cells #[.int .i64 9, .int .i64 0, .int .i64 8] 33) := ⟨_, rfl⟩
  have cV : Below w9.heap.size w9 V := by rw [hV]; exact (Below.refl _ _).alloc (Nat.le_refl _) _
  have zV : V.heap[w9.heap.size]? = some (.cells #[.int .i64 9, .int .i64 0, .int .i64 8] 33) := by rw [hV]; exact World.alloc_heap_new _ _
  have lV : w9.heap.size < V.heap.size := by rw [hV]; simp
  have bV := b9.trans (cV.mono (hs0 _ b9))
  have fV := f9.below cV
  go_wp2_with (go_at_call 17; refine held ?_)
  unfold Held
  rw [← hV]
  clear hV f9 b9 cV
  refine (key_nil 1 V).mono ?_
  rintro e u1 ⟨rfl, c1⟩
  rw [show aggK ⟨0, 0, 0⟩ = .agg #[.int .i64 0, .int .i64 0, .int .i64 0] from rfl]
  have b1 := bV.trans (c1.mono (hs0 _ bV))
  have f1 := fV.below c1
  have z1 := (c1.block _ lV).trans zV
  have l1 := Nat.lt_of_lt_of_le lV c1.size
  clear bV fV zV lV c1
  obtain ⟨V, hV⟩ : ∃ V, V = u1.alloc (.cells #[.int .i64 0, .int .i64 0, .int .i64 0] 33) := ⟨_, rfl⟩
  have cV : Below u1.heap.size u1 V := by rw [hV]; exact (Below.refl _ _).alloc (Nat.le_refl _) _
  have zV := (cV.block _ l1).trans z1
  have lV := Nat.lt_of_lt_of_le l1 cV.size
  have bV := b1.trans (cV.mono (hs0 _ b1))
  have fV := f1.below cV
  go_wp2_with (go_at_call 9; refine held ?_)
  unfold Held
  rw [← hV]
  clear hV b1 f1 cV z1 l1
  refine (alive_any V).mono ?_
  rintro e u2 ⟨rfl, c2⟩
  have b2 := bV.trans (c2.mono (hs0 _ bV))
  have f2 := fV.below c2
  have z2 := (c2.block _ lV).trans zV
  have y0 : u2.cell? ⟨w9.heap.size, 0, none⟩ = some (.int .i64 9) := by rw [cell_of_row _ _ 0 _ _ _ z2]; rfl
  have y1 : u2.cell? ⟨w9.heap.size, 1, none⟩ = some (.int .i64 0) := by rw [cell_of_row _ _ 1 _ _ _ z2]; rfl
  have y2 : u2.cell? ⟨w9.heap.size, 2, none⟩ = some (.int .i64 8) := by rw [cell_of_row _ _ 2 _ _ _ z2]; rfl
  clear bV fV zV lV c2 z2
  go_wp2_with (go_at_call 29; refine held ?_)
  unfold Held
  refine (one_any u2).mono ?_
  rintro e w21 ⟨rfl, c21⟩
  have b21 := b2.trans (c21.mono b2.size)
  have f21 := f2.below c21
  clear f2
  clear b2 c21
  go_wp2_with (go_at_call 15; refine held ?_)
  unfold Held
  refine (wake_any _ _ _ oneK1 0 w21 f21.fut (by decide)).mono ?_
  rintro e w30 ⟨x30, v30, rfl, o30, h30, hw30⟩
  have b30 := b21.trans (f21.wr (hs0 _ b21) hw30)
  rw [show (wakeO someL oneK1 0) = [] from by decide] at o30
  obtain ⟨a30, n30, rfl⟩ := sl_own o30
  clear o30 h30 hw30 f21 b21 y0 y1 y2
  go_wp2_with (go_at_call 29; refine held ?_)
  unfold Held
  refine (one_any w30).mono ?_
  rintro e w31 ⟨rfl, c31⟩
  have b31 := b30.trans (c31.mono b30.size)
  clear b30 c31
  go_wp2_with (go_at_call 12; refine held ?_)
  unfold Held
  refine (wait_nil 1 oneK1 w31).mono ?_
  rintro e w32 ⟨rfl, c32⟩
  have b32 := b31.trans (c32.mono b31.size)
  clear b31 c32
  go_wp2_with (go_at_call 29; refine held ?_)
  unfold Held
  refine (one_any w32).mono ?_
  rintro e w33 ⟨rfl, c33⟩
  have b33 := b32.trans (c33.mono b32.size)
  clear b32 c33
  go_wp2_with (go_at_call 15; refine held ?_)
  unfold Held
  refine (wake_nil oneK1 1 w33).mono ?_
  rintro e w34 ⟨x34, rfl, o34, c34⟩
  have b34 := b33.trans (c34.mono (hs0 _ b33))
  obtain ⟨a34, m34, rfl⟩ := sl_own o34
  clear o34 c34 b33
  go_wp2_with (go_at_call 22; refine held ?_)
  unfold Held
  refine (gone_nil 1 w34).mono ?_
  rintro e w35 ⟨rfl, c35⟩
  have b35 := b34.trans (c35.mono b34.size)
  clear b34 c35
  go_wp2_with (go_at_call 29; refine held ?_)
  unfold Held
  refine (one_any w35).mono ?_
  rintro e w36 ⟨rfl, c36⟩
  have b36 := b35.trans (c36.mono b35.size)
  clear b35 c36
  go_wp2_with (go_at_call 14; refine held ?_)
  unfold Held
  refine (At_nil oneK1 w36).mono ?_
  rintro e w37 ⟨x37, rfl, o37, c37⟩
  have b37 := b36.trans (c37.mono (hs0 _ b36))
  obtain ⟨a37, m37, rfl⟩ := sl_own o37
  clear o37 c37 b36
  go_wp2_with (go_at_call 11; refine held ?_)
  unfold Held
  refine (all_nil w37).mono ?_
  rintro e z1 ⟨rfl, rfl⟩
  go_wp2_with (go_at_call 19; refine held ?_)
  unfold Held
  refine (len_nil _).mono ?_
  rintro e w38 ⟨rfl, c38⟩
  have b38 := b37.trans (c38.mono b37.size)
  clear b37 c38
  go_wp2_with (go_at_call 24; refine held ?_)
  unfold Held
  refine (copy_nil w38).mono ?_
  rintro e z2 ⟨rfl, rfl⟩
  go_wp2
  go_ret
  exact ⟨rfl, b38⟩
end Go.Proofs.Ytdnhaappglbooaa
