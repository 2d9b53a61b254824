/- The walk of the law CrcNames. -/
import Derived.Test.YtcclakklaimiiaaCrcTurnM
namespace Go.Proofs.Ytcclakklaimiiaa
open Go Go.RowKit
set_option linter.unusedVariables false
set_option linter.unnecessarySimpa false
theorem nm_join0 (z : Nat) : joinN 0 9 z = 9 := by
  unfold joinN
  rw [crcMul, crcS_zero_left]; rfl
theorem nm_str0 : ((strOfNums [0, 0, 0, 0]).toList == [0, 0, 0, 0]) = true := by rw [ByteArray.toList_eq]; decide
theorem nm_strA : ((strOfNums [97]).toList == [97]) = true := by rw [ByteArray.toList_eq]; decide
theorem nm_no4 : ¬ opens [0, 0, 0, 1] := by
  rintro ⟨_, h⟩
  exact absurd h (by decide)
theorem nm_no3 : ¬ opens [0, 0, 0] := fun h => absurd h.1 (by decide)
theorem nm_sum : sumL [49, 50, 51, 52, 53, 54, 55, 56, 57] = 3421780262 := alive_sum
set_option maxRecDepth 100000 in
set_option maxHeartbeats 4000000 in
theorem crcNames_any (w : World) :
    Calls Try.prog 8 #[] w fun e w' => e = .returned (.bool true) ∧ Below w.heap.size w w' := by
  have kc := fun (w : World) (C : Array Value) (n c : Nat) => Lib.run_convert_bytes_const (P := Try.prog) w 28 5 C n c Try.underlying28 Try.underlying5
  have hr1 := Row8.built w 5 (4, 5) [49, 50, 51, 52] (by decide) (by decide) #[.int .u8 49, .int .u8 50, .int .u8 51, .int .u8 52] rfl 4 rfl
  have hb1 : Below w.heap.size w (w.alloc (.cells #[.int .u8 49, .int .u8 50, .int .u8 51, .int .u8 52] 5 (4, 5))) := (Below.refl _ w).alloc (Nat.le_refl _) _
  have x1 := sumL_lt [49, 50, 51, 52] (by decide)
  have x2 := sumL_lt [53, 54, 55, 56, 57] (by decide)
  have kj := fun W => join_any (sumL [49, 50, 51, 52]) (sumL [53, 54, 55, 56, 57]) 5 W x1 x2 (by decide)
  rw [joinL [49, 50, 51, 52] [53, 54, 55, 56, 57] (by decide) 5 rfl, show [(49 : Int), 50, 51, 52] ++ [53, 54, 55, 56, 57] = [49, 50, 51, 52, 53, 54, 55, 56, 57] from rfl, nm_sum] at kj
  have k1 := sum_any _ _ _ _ _ hr1 (by decide)
  have k2 := fun (W : World) => sum_any _ _ _ _ _ (Row8.built W 5 (5, 6) [53, 54, 55, 56, 57] (by decide) (by decide) #[.int .u8 53, .int .u8 54, .int .u8 55, .int .u8 56, .int .u8 57] rfl 5 rfl) (by decide)
  obtain ⟨X, hX⟩ : ∃ X, X = sumL [49, 50, 51, 52] := ⟨_, rfl⟩
  obtain ⟨Y, hY⟩ : ∃ Y, Y = sumL [53, 54, 55, 56, 57] := ⟨_, rfl⟩
  rw [← hX] at k1 kj
  rw [← hY] at k2 kj
  clear hX hY x1 x2 hr1
  go_enter Try.func8, Try.ntmps8
  go_wp2_with (go_at_call 11; refine held ?_)
  unfold Held
  refine k1.mono ?_
  rintro e w1 ⟨rfl, b1⟩
  replace b1 := below_step hb1 b1
  clear k1 hb1
  go_wp2_with (go_at_call 11; refine held ?_)
  unfold Held
  refine (k2 w1).mono ?_
  rintro e w2 ⟨rfl, b2⟩
  replace b2 := below_step (below_step b1 ((Below.refl _ w1).alloc (Nat.le_refl _) _)) b2
  clear k2 b1
  go_wp2_with (go_at_call 12; refine held ?_)
  unfold Held
  refine (kj _).mono ?_
  rintro e w3 ⟨rfl, b3⟩
  replace b3 := below_step b2 b3
  clear kj b2
  go_wp2_with (go_at_call 16; refine held ?_)
  unfold Held
  refine (open_any _ _ _ _ _ (Row8.built w3 5 (0, 0) [0, 0, 0, 1] (by decide) (by decide) #[.int .u8 0, .int .u8 0, .int .u8 0, .int .u8 1] rfl 4 rfl) (by decide)).mono ?_
  rintro e w4 ⟨b4, ⟨ho, _⟩ | ⟨_, rfl⟩⟩
  · exact absurd ho nm_no4
  try dsimp only
  replace b4 := below_step (below_step b3 ((Below.refl _ w3).alloc (Nat.le_refl _) _)) b4
  clear b3
  go_wp2_with (go_at_call 16; refine held ?_)
  unfold Held
  refine (open_any _ _ _ _ _ (Row8.built w4 5 (0, 0) [0, 0, 0] (by decide) (by decide) #[.int .u8 0, .int .u8 0, .int .u8 0] rfl 3 rfl) (by decide)).mono ?_
  rintro e w5 ⟨b5, ⟨ho, _⟩ | ⟨_, rfl⟩⟩
  · exact absurd ho nm_no3
  try dsimp only
  replace b5 := below_step (below_step b4 ((Below.refl _ w4).alloc (Nat.le_refl _) _)) b5
  clear b4
  have xA := sumL_lt [97] (by decide)
  have hop := opens_sealed [97] (by decide)
  have hbA : ∀ z ∈ [97] ++ bytesL (sumL [97]), 0 ≤ z ∧ z ≤ 255 := all_app (by decide) (bytesL_byte _ xA)
  have htk : ([97] ++ bytesL (sumL [97])).take (1 + 4 - 4) = [97] := rfl
  have hll : ([97] ++ bytesL (sumL [97])).length = 5 := rfl
  have ks := seal_any _ _ _ _ _ (Row8.built w5 5 (1, 2) [97] (by decide) (by decide) #[.int .u8 97] rfl 1 rfl) (by decide)
  obtain ⟨cs, hcs⟩ : ∃ cs, cs = [97] ++ bytesL (sumL [97]) := ⟨_, rfl⟩
  rw [← hcs] at hop hbA htk hll ks
  clear hcs xA
  have b6 := below_step b5 (show Below w5.heap.size w5 (w5.alloc (.cells #[.int .u8 97] 5 (1, 2))) from (Below.refl _ w5).alloc (Nat.le_refl _) _)
  go_wp2_with (go_at_call 19; refine held ?_)
  unfold Held
  refine ks.mono ?_
  rintro e w6 ⟨v, rfl, o6, b6'⟩
  replace b6 := below_step b6 b6'
  clear b6' b5 ks
  obtain ⟨va, vc, rfl, _⟩ := ownsRow_slice o6
  go_wp2_with (go_at_call 16; refine held ?_)
  unfold Held
  refine (open_any va (1 + 4) vc cs w6 ⟨(RowI.of_own o6).2, hbA⟩ (by omega)).mono ?_
  rintro e w7 ⟨b7, ⟨_, v7, rfl, o7⟩ | ⟨hno, _⟩⟩
  rotate_left
  · exact absurd hop hno
  try dsimp only
  rw [htk] at o7
  replace b7 := below_step b6 b7
  clear b6 o6 hop hbA htk hll
  go_wp2_with (go_at_call 9; refine held ?_)
  unfold Held
  refine (alive_any w7).mono ?_
  rintro e w8 ⟨rfl, b8⟩
  have o8 := ownsRow_same o7 fun b hb => b8.block b (o7.lt b hb).2
  replace b8 := below_step b7 b8
  clear b7 o7
  go_wp2_with (go_at_call 19; refine held ?_)
  unfold Held
  have k9 := seal_any none 0 0 [] w8 ⟨.inl ⟨_, _, rfl, rfl⟩, by simp⟩ (by decide)
  rw [show sumL [] = 0 by decide, show [] ++ bytesL 0 = [0, 0, 0, 0] by decide] at k9
  refine k9.mono ?_
  rintro e w9 ⟨v9, rfl, o9, b9⟩
  have o10 := ownsRow_same o8 fun b hb => b9.block b (o8.lt b hb).2
  replace b9 := below_step b8 b9
  have cv1 := OwnBytes.conv (zs := [0, 0, 0, 0]) o9
  have cv2 := OwnBytes.conv (zs := [97]) o10
  clear b8 o8 k9 o9 o10
  have s1 := nm_str0
  have s2 := nm_strA
  have kS := fun W => shift_any 7 0 W (by decide) (by decide)
  rw [shiftN_zero 7 (by decide)] at kS
  have kJ : ∀ W : World, Calls Try.prog 12 #[.int .u32 0, .int .u32 9, .int .u64 9223372036854775808] W fun e w' => e = .returned (.int .u32 9) ∧ Below W.heap.size W w' := fun W => by
    have := join_any 0 9 9223372036854775808 W (by decide) (by decide) (by decide)
    rw [nm_join0] at this
    exact this
  go_wp2_with (go_at_call 10; refine held ?_)
  unfold Held
  refine (kS _).mono ?_
  rintro e w10 ⟨rfl, b10⟩
  replace b10 := below_step b9 b10
  clear b9 kS cv1 cv2
  go_wp2_with (go_at_call 12; refine held ?_)
  unfold Held
  refine (kJ _).mono ?_
  rintro e w11 ⟨rfl, b11⟩
  replace b11 := below_step b10 b11
  clear kJ b10
  go_wp2
  go_ret
  exact ⟨rfl, b11⟩
end Go.Proofs.Ytcclakklaimiiaa
