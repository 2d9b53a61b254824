/- The walk of crc.Sum, Shift, Join, and of the chapter's first examples; the law CrcPowers. -/
import Derived.Test.YtcclakklaimiiaaCrcD
import Derived.Test.YtcclakklaimiiaaBuilt
namespace Go.Proofs.Ytcclakklaimiiaa
open Go Go.RowKit
set_option linter.unusedVariables false
set_option linter.unnecessarySimpa false
theorem below_step {A B C : World} (h : Below A.heap.size A B) (k : Below B.heap.size B C) : Below A.heap.size A C := h.trans (k.mono h.size)
def sumL (zs : List Int) : Nat := sumN (zs.map Int.toNat)
theorem toNat_lt {zs : List Int} (hz : ∀ z ∈ zs, 0 ≤ z ∧ z ≤ 255) : ∀ x ∈ zs.map Int.toNat, x < 256 := fun x hx => by
  obtain ⟨z, h, rfl⟩ := List.mem_map.1 hx
  have := hz z h; omega
set_option maxHeartbeats 1000000 in
theorem sum_any (a : Option Addr) (len cap : Nat) (zs : List Int) (w : World) (hr : Row8 w.heap.size w (.slice a len cap) zs) (hsm : zs.length ≤ 140737488350000) :
    Calls Try.prog 11 #[.slice a len cap] w fun e w' => e = .returned (.int .u32 (sumL zs)) ∧ Below w.heap.size w w' := by
  have k := more_any 0 a len cap zs w (by decide) hr hsm
  go_enter Try.func11, Try.ntmps11
  go_wp2_with (go_at_call 13; refine k.mono ?_; rintro e w' ⟨rfl, hb⟩)
  go_ret
  exact ⟨rfl, hb⟩
set_option maxHeartbeats 1000000 in
theorem shift_any (n z : Nat) (w : World) (hn : n < 4294967296) (hz : z < 18446744073709551616) :
    Calls Try.prog 10 #[.int .u32 n, .int .u64 z] w fun e w' => e = .returned (.int .u32 (shiftN n z)) ∧ Below w.heap.size w w' := by
  have h0 : n ^^^ onesN < 4294967296 := ones_lt hn
  have hx : bits .xor .u32 (n : Int) 4294967295 = ((n ^^^ onesN : Nat) : Int) := xor_u32 n onesN hn (by decide)
  obtain ⟨m, hm⟩ : ∃ m, m = n ^^^ onesN := ⟨_, rfl⟩
  rw [← hm] at hx h0
  have hmul := crcMul_lt m (crcP z) (crcP_lt z)
  have hy : bits .xor .u32 (crcMul m (crcP z) : Nat) 4294967295 = ((crcMul m (crcP z) ^^^ onesN : Nat) : Int) := xor_u32 _ onesN hmul (by decide)
  have hs : shiftN n z = crcMul m (crcP z) ^^^ onesN := by rw [hm]; rfl
  rw [hs]
  have hp := crcP_lt z
  clear hs hm hmul
  go_enter Try.func10, Try.ntmps10
  go_wp2_with first
    | (go_at_call 22; refine (power_any z _ hz).mono ?_; rintro e w' ⟨rfl, hb⟩)
    | (go_at_call 21; refine (product_any m (crcP z) _ h0 hp).mono ?_; rintro e w' ⟨rfl, rfl⟩)
  go_ret
  exact ⟨rfl, hb⟩
set_option maxHeartbeats 1000000 in
theorem join_any (a b z : Nat) (w : World) (ha : a < 4294967296) (hb : b < 4294967296) (hz : z < 18446744073709551616) :
    Calls Try.prog 12 #[.int .u32 a, .int .u32 b, .int .u64 z] w fun e w' => e = .returned (.int .u32 (joinN a b z)) ∧ Below w.heap.size w w' := by
  have hmul := crcMul_lt a (crcP z) (crcP_lt z)
  have hy : bits .xor .u32 (crcMul a (crcP z) : Nat) (b : Int) = ((joinN a b z : Nat) : Int) := xor_u32 _ b hmul hb
  have hp := crcP_lt z
  clear hmul
  go_enter Try.func12, Try.ntmps12
  go_wp2_with first
    | (go_at_call 22; refine (power_any z _ hz).mono ?_; rintro e w' ⟨rfl, hb⟩)
    | (go_at_call 21; refine (product_any a (crcP z) _ ha hp).mono ?_; rintro e w' ⟨rfl, rfl⟩)
  go_ret
  exact ⟨rfl, by assumption⟩
set_option maxHeartbeats 1000000 in
theorem alive_any (w : World) :
    Calls Try.prog 9 #[] w fun e w' => e = .returned (.bool true) ∧ Below w.heap.size w w' := by
  have hr := Row8.built w 5 (9, 10) [49, 50, 51, 52, 53, 54, 55, 56, 57] (by decide) (by decide) #[.int .u8 49, .int .u8 50, .int .u8 51, .int .u8 52, .int .u8 53, .int .u8 54, .int .u8 55, .int .u8 56, .int .u8 57] rfl 9 rfl
  have hb : Below w.heap.size w (w.alloc (.cells #[.int .u8 49, .int .u8 50, .int .u8 51, .int .u8 52, .int .u8 53, .int .u8 54, .int .u8 55, .int .u8 56, .int .u8 57] 5 (9, 10))) := (Below.refl _ w).alloc (Nat.le_refl _) _
  have k1 := sum_any _ _ _ _ _ hr (by decide)
  rw [show sumL [49, 50, 51, 52, 53, 54, 55, 56, 57] = 3421780262 from alive_sum] at k1
  have k2 := fun W : World => sum_any none 0 0 [] W ⟨.inl ⟨_, _, rfl, rfl⟩, by simp⟩ (by decide)
  have k3 := fun W : World => shift_any 0 1 W (by decide) (by decide)
  rw [alive_shift] at k3
  rw [show sumL [] = 0 by decide] at k2
  clear hr
  have kc := fun (w : World) (C : Array Value) (n c : Nat) => Lib.run_convert_bytes_const (P := Try.prog) w 28 5 C n c Try.underlying28 Try.underlying5
  go_enter Try.func9, Try.ntmps9
  go_wp2_with (go_at_call 11; refine held ?_)
  unfold Held
  refine k1.mono ?_
  rintro e w1 ⟨rfl, b1⟩
  clear k1
  go_wp2_with (go_at_call 11; refine held ?_)
  unfold Held
  refine (k2 _).mono ?_
  rintro e w2 ⟨rfl, b2⟩
  go_wp2_with (go_at_call 10; refine held ?_)
  unfold Held
  refine (k3 _).mono ?_
  rintro e w3 ⟨rfl, b3⟩
  go_wp2
  go_ret
  exact ⟨rfl, below_step (below_step (below_step hb b1) b2) b3⟩
set_option maxHeartbeats 1000000 in
theorem crcPowers_any (n a b : Nat) (w : World) (hn : n < 4294967296) (ha : a < 18446744073709551616) (hb : b < 18446744073709551616) :
    Calls Try.prog 3 #[.int .u32 n, .int .u64 a, .int .u64 b] w fun e w' => e = .returned (.bool true) ∧ Below w.heap.size w w' := by
  obtain ⟨x, hx⟩ : ∃ x, x = a / 2 := ⟨_, rfl⟩
  obtain ⟨y, hy⟩ : ∃ y, y = b / 2 := ⟨_, rfl⟩
  have ex : (a : Int) / 2 = (x : Int) := by omega
  have ey : (b : Int) / 2 = (y : Int) := by omega
  have hx2 : x < 9223372036854775808 := by omega
  have hy2 : y < 9223372036854775808 := by omega
  clear hx hy
  have s1 : shiftN n x < 4294967296 := shiftN_lt n x
  have k1 := fun W : World => shift_any n x W hn (by omega)
  have k2 := fun W : World => shift_any (shiftN n x) y W s1 (by omega)
  have k3 := fun W : World => shift_any n (x + y) W hn (by omega)
  have k4 := fun W : World => shift_any n 0 W hn (by omega)
  rw [shiftN_add n x y hn] at k2
  rw [shiftN_zero n hn] at k4
  have e3 : ((x : Int) + (y : Int)) % 18446744073709551616 = ((x + y : Nat) : Int) := by omega
  have k3' : ∀ W : World, Calls Try.prog 10 #[.int .u32 n, .int .u64 ((x : Int) + (y : Int))] W fun e w' => e = .returned (.int .u32 (shiftN n (x + y))) ∧ Below W.heap.size W w' := fun W => by
    have := k3 W
    rw [show ((x + y : Nat) : Int) = (x : Int) + (y : Int) by omega] at this
    exact this
  clear k3 e3
  go_enter Try.func3, Try.ntmps3
  go_wp2_with (go_at_call 9; refine held ?_)
  unfold Held
  refine (alive_any _).mono ?_
  rintro e w1 ⟨rfl, b1⟩
  go_wp2_with (go_at_call 10; refine held ?_)
  unfold Held
  refine (k1 _).mono ?_
  rintro e w2 ⟨rfl, b2⟩
  go_wp2_with (go_at_call 10; refine held ?_)
  unfold Held
  refine (k2 _).mono ?_
  rintro e w3 ⟨rfl, b3⟩
  go_wp2_with (go_at_call 10; refine held ?_)
  unfold Held
  refine (k3' _).mono ?_
  rintro e w4 ⟨rfl, b4⟩
  go_wp2_with (go_at_call 10; refine held ?_)
  unfold Held
  refine (k4 _).mono ?_
  rintro e w5 ⟨rfl, b5⟩
  go_wp2
  go_ret
  exact ⟨by simp, below_step (below_step (below_step (below_step b1 b2) b3) b4) b5⟩
end Go.Proofs.Ytcclakklaimiiaa
