/- The walk of crc.times, crc.product, crc.power, crc.back, and what stands on them. -/
import Derived.Test.YtcclakklaimiiaaRows
import Derived.WalkKit
import Derived.ProofKit
import Derived.Deep.QuietTactic
import Derived.BigQuiet
import Derived.Lib.Hide
import Derived.Below
import Derived.RangeFuncBox
import Derived.Test.YtcclakklaimiiaaBitsMath
import Derived.Test.YtcclakklaimiiaaCrcMath
namespace Go.Proofs.Ytcclakklaimiiaa
open Go Go.RowKit
set_option linter.unusedVariables false
set_option linter.unnecessarySimpa false
theorem crcT_val (m : Nat) (h : m < 4294967296) : bits .xor .u32 ((m : Int) / 2) (bits .and .u32 3988292384 (-bits .and .u32 (m : Int) 1 % 4294967296)) = ((crcT m : Nat) : Int) := by
  have h2 : (m : Int) / 2 = ((m / 2 : Nat) : Int) := by omega
  rw [and1_u32, h2]
  unfold crcT
  by_cases h1 : m % 2 = 1
  · have e : (-((m : Int) % 2)) % 4294967296 = ((2 ^ 32 - 1 : Nat) : Int) := by omega
    rw [e, and_low_u32 _ 32 (by decide), if_pos h1]
    exact xor_u32 (m / 2) divisorN (by omega) (by decide)
  · have e : (-((m : Int) % 2)) % 4294967296 = ((2 ^ 0 - 1 : Nat) : Int) := by omega
    rw [e, and_low_u32 _ 0 (by decide), if_neg h1]
    exact xor_u32 (m / 2) 0 (by omega) (by decide)
set_option maxRecDepth 100000 in
set_option maxHeartbeats 1000000 in
theorem times_any (n k : Nat) (w : World) (hn : n < 4294967296) (hk : k ≤ 64) :
    Calls Try.prog 34 #[.int .u32 n, .int .i64 k] w fun e w' => e = .returned (.int .u32 (crcTs k n)) ∧ w = w' := by
  go_enter Try.func34, Try.ntmps34
  go_wp2
  go_loopw [0, 6] (fun x i wr => ∃ (j m : Nat), x = .int .u32 m ∧ i = .int .i64 j ∧ j ≤ k ∧ m < 4294967296 ∧ crcTs (k - j) m = crcTs k n ∧ w = wr) (fun _ i _ => k - (intOf i).toNat)
  case atStart => exact ⟨0, n, rfl, rfl, by omega, hn, rfl, rfl⟩
  case round =>
    obtain ⟨j, m, rfl, rfl, hj, hm, he, rfl⟩ := hrel
    by_cases hlt : j < k
    · have t1 : decide ((j : Int) < (k : Int)) = true := by simp; omega
      go_wp2
      go_roundw
      case rel =>
        refine ⟨j + 1, crcT m, by rw [crcT_val m hm], rfl, by omega, crcT_lt hm, ?_, trivial⟩
        rw [← he, show k - j = (k - (j + 1)) + 1 by omega]; rfl
      case measure => simp [intOf]; omega
    · have t1 : decide ((j : Int) < (k : Int)) = false := by simp; omega
      go_wp2
      go_ret
      obtain rfl : j = k := by omega
      rw [Nat.sub_self] at he
      exact ⟨by rw [← he]; rfl, rfl⟩
theorem and31 (x : Nat) : x &&& 2 ^ 31 = (x.testBit 31).toNat * 2 ^ 31 := by
  refine Nat.eq_of_testBit_eq fun i => ?_
  rw [Nat.testBit_and, Nat.testBit_two_pow]
  by_cases h : 31 = i
  · subst h
    cases x.testBit 31 <;> decide
  · have h0 : decide (31 = i) = false := by simpa using h
    rw [h0, Bool.and_false]
    cases x.testBit 31
    · simp
    · rw [Bool.toNat_true, Nat.one_mul, Nat.testBit_two_pow, h0]
theorem and1_u64 (x : Int) : bits .and .u64 x 1 = x % 2 := by
  have h1 : ((BitVec.ofInt 64 x).toNat : Int) % 2 = x % 2 := by rw [ofInt_toNat]; omega
  have h3 := (BitVec.ofInt 64 x).isLt
  show IntKind.u64.wrap ((BitVec.ofInt 64 x &&& BitVec.ofInt 64 ((1 : Nat) : Int)).toNat : Int) = _
  rw [BitVec.toNat_and, b64_nat 1 (by decide), show (1 : Nat) = 2 ^ 1 - 1 from rfl, Nat.and_two_pow_sub_one_eq_mod, wrap_u64_nat _ (by omega)]
  omega
theorem val_nat {k : IntKind} {a b : Int} (h : a = b) : Value.int k a = .int k b := by rw [h]
theorem half_odd (m e d : Nat) (h : m % 2 = 1) : e + d + (d + d) * (m / 2) = e + d * m := by
  have h3 : m = 2 * (m / 2) + 1 := by omega
  generalize m / 2 = q at h3 ⊢
  subst h3
  rw [Nat.mul_add, Nat.add_mul, Nat.mul_one, Nat.mul_left_comm d 2 q, Nat.two_mul]; omega
theorem half_even (m e d : Nat) (h : ¬ m % 2 = 1) : e + (d + d) * (m / 2) = e + d * m := by
  have h3 : m = 2 * (m / 2) := by omega
  generalize m / 2 = q at h3 ⊢
  subst h3
  rw [Nat.add_mul, Nat.mul_left_comm d 2 q, Nat.two_mul]
theorem bit31 (a j : Nat) (hj : j < 32) : bits .and .u32 ((a : Int) * 2 ^ j % 4294967296) 2147483648 = (((a.testBit (31 - j)).toNat * 2 ^ 31 : Nat) : Int) := by
  have h1 : (a : Int) * 2 ^ j % 4294967296 = ((2 ^ j * a % 2 ^ 32 : Nat) : Int) := by
    rw [Nat.mul_comm]; simp
  have h2 : 2 ^ j * a % 2 ^ 32 < 2 ^ 32 := Nat.mod_lt _ (by decide)
  rw [h1, show (2147483648 : Int) = ((2 ^ 31 : Nat) : Int) from rfl, and_u32 _ _ h2 (by decide), and31, Nat.testBit_mod_two_pow, Nat.testBit_two_pow_mul]
  have : 31 ≥ j := by omega
  simp [this]
set_option maxRecDepth 100000 in
set_option maxHeartbeats 1000000 in
theorem product_any (a b : Nat) (w : World) (ha : a < 4294967296) (hb : b < 4294967296) :
    Calls Try.prog 21 #[.int .u32 a, .int .u32 b] w fun e w' => e = .returned (.int .u32 (crcMul a b)) ∧ w = w' := by
  go_enter Try.func21, Try.ntmps21
  go_wp2
  go_loopw [1, 5, 6, 7] (fun x o u i wr => ∃ (j : Nat), x = .int .u32 (crcTs j b) ∧ o = .int .u32 (crcS a b j) ∧ i = .int .i64 j ∧ j ≤ 32 ∧ w = wr) (fun _ _ _ i _ => 32 - (intOf i).toNat)
  case atStart => exact ⟨0, rfl, rfl, rfl, by omega, rfl⟩
  case round =>
    obtain ⟨j, rfl, rfl, rfl, hj, rfl⟩ := hrel
    by_cases hlt : j < 32
    · have t1 : decide ((j : Int) < 32) = true := by simp; omega
      have hs := crcS_lt a b j hb
      have hx := crcTs_lt j hb
      have hbb := bit31 a j hlt
      by_cases hb1 : a.testBit (31 - j)
      · have t2 : (bits .and .u32 ((a : Int) * 2 ^ j % 4294967296) 2147483648 != 0) = true := by rw [hbb, hb1]; decide
        have t3 : bits .xor .u32 (crcS a b j : Nat) (crcTs j b : Nat) = ((crcS a b (j + 1) : Nat) : Int) := by
          rw [xor_u32 _ _ hs hx, crcS, hb1]; rfl
        clear hbb
        have kt := times_any (crcTs j b) 1 w hx (by decide)
        rw [← crcTs_add] at kt
        go_wp2_with (go_at_call 34; refine kt.mono ?_; rintro e w' ⟨rfl, rfl⟩)
        go_roundw
        case rel => exact ⟨j + 1, rfl, rfl, rfl, by omega, trivial⟩
        case measure => simp [intOf]; omega
      · have t2 : (bits .and .u32 ((a : Int) * 2 ^ j % 4294967296) 2147483648 != 0) = false := by rw [hbb, show a.testBit (31 - j) = false by simpa using hb1]; decide
        have t3 : crcS a b (j + 1) = crcS a b j := by rw [crcS, show a.testBit (31 - j) = false by simpa using hb1]; simp
        clear hbb
        have kt := times_any (crcTs j b) 1 w hx (by decide)
        rw [← crcTs_add] at kt
        go_wp2_with (go_at_call 34; refine kt.mono ?_; rintro e w' ⟨rfl, rfl⟩)
        go_roundw
        case rel => exact ⟨j + 1, rfl, by rw [t3], rfl, by omega, trivial⟩
        case measure => simp [intOf]; omega
    · have t1 : decide ((j : Int) < 32) = false := by simp; omega
      go_wp2
      go_ret
      obtain rfl : j = 32 := by omega
      exact ⟨rfl, rfl⟩
set_option maxRecDepth 100000 in
set_option maxHeartbeats 1000000 in
theorem square_any (bk s : Nat) (w : World) (hs : s < 4294967296) (hB : Boxed w bk 22 (.int .u32 s)) :
    Calls Try.prog 35 #[.pointer (some ⟨bk, 0, none⟩)] w fun e w' => (∃ v, e = .returned v) ∧ w' = w.setCell ⟨bk, 0, none⟩ (.int .u32 (crcMul s s)) := by
  have c0 := hB.cell
  have f0 := hB.frozen
  go_enter Try.func35, Try.ntmps35
  go_wp2_with (go_at_call 21; refine (product_any s s w hs hs).mono ?_; rintro e w' ⟨rfl, rfl⟩)
  go_end0
  exact ⟨⟨_, rfl⟩, rfl⟩
set_option maxRecDepth 100000 in
set_option maxHeartbeats 1000000 in
theorem power_any (n : Nat) (w : World) (hn : n < 18446744073709551616) :
    Calls Try.prog 22 #[.int .u64 n] w fun e w' => e = .returned (.int .u32 (crcP n)) ∧ Below w.heap.size w w' := by
  go_enter Try.func22, Try.ntmps22
  go_wp2_with (go_at_call 34; refine (times_any oneN 8 w (by decide) (by decide)).mono ?_; rintro e w' ⟨rfl, rfl⟩)
  go_loopw [0, 3] (fun x o wr => ∃ (m e d : Nat), x = .int .u64 m ∧ o = .int .u32 (crcP e) ∧ Boxed wr w.heap.size 22 (.int .u32 (crcP d)) ∧ Below w.heap.size w wr ∧ e + d * m = n ∧ m < 18446744073709551616) (fun x _ _ => (intOf x).toNat)
  case atStart => exact ⟨n, 0, 1, rfl, rfl, World.alloc_heap_new w _, (Below.refl _ w).alloc (Nat.le_refl _) _, by omega, hn⟩
  case round =>
    obtain ⟨m, e, d, rfl, rfl, hB, hb, he, hm⟩ := hrel
    have hd := crcP_lt d
    have hE := crcP_lt e
    have c0 := hB.cell
    have hq := square_any w.heap.size (crcP d) wr hd hB
    have hs := hB.set (.int .u32 (crcMul (crcP d) (crcP d)))
    have hb2 : Below w.heap.size w (wr.setCell ⟨w.heap.size, 0, none⟩ (.int .u32 (crcMul (crcP d) (crcP d)))) := hb.setCell (p := ⟨w.heap.size, 0, none⟩) (Nat.le_refl _) _
    rw [crcP_mul] at hs hq hb2
    by_cases hz : 0 < m
    · have t1 : decide ((0 : Int) < (m : Int)) = true := by simp; omega
      by_cases ho : m % 2 = 1
      · have t2 : (bits .and .u64 (m : Int) 1 == 1) = true := by rw [and1_u64]; simp; omega
        have kp := product_any (crcP e) (crcP d) wr hE hd
        rw [crcP_mul] at kp
        go_wp2_with first
          | (go_at_call 21; refine kp.mono ?_; rintro e w' ⟨rfl, rfl⟩)
          | (go_at_call 35; refine hq.mono ?_; rintro e w' ⟨⟨v, rfl⟩, rfl⟩)
        go_roundw
        case rel => exact ⟨m / 2, e + d, d + d, val_nat (by omega), rfl, hs, hb2, by rw [← he]; exact half_odd m e d ho, by omega⟩
        case measure => simp [intOf]; omega
      · have t2 : (bits .and .u64 (m : Int) 1 == 1) = false := by rw [and1_u64]; simp; omega
        go_wp2_with (go_at_call 35; refine hq.mono ?_; rintro e w' ⟨⟨v, rfl⟩, rfl⟩)
        go_roundw
        case rel => exact ⟨m / 2, e, d + d, val_nat (by omega), rfl, hs, hb2, by rw [← he]; exact half_even m e d ho, by omega⟩
        case measure => simp [intOf]; omega
    · have t1 : decide ((0 : Int) < (m : Int)) = false := by simp; omega
      go_wp2
      go_ret
      obtain rfl : m = 0 := by omega
      rw [Nat.mul_zero, Nat.add_zero] at he
      subst he
      exact ⟨rfl, hb⟩
end Go.Proofs.Ytcclakklaimiiaa
