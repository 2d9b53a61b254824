/- Plain lemmas on fields of words. -/
import Derived.Test.YtkagconllphdiaaBitsMath
namespace Go.Proofs.Ytkagconllphdiaa
open Go.RowKit
def maskv (f n : Nat) : Int := (2 ^ n - 1) % 4294967296 * 2 ^ f % 4294967296
theorem two_le (a : Nat) (h : a ≤ 32) : 2 ^ a ≤ 4294967296 := by
  have := Nat.pow_le_pow_right (n := 2) (by decide) h; omega
theorem pow_cut (f n : Nat) (h3 : f + n ≤ 32) : 2 ^ f * 2 ^ n ≤ 4294967296 ∧ 2 ^ f ≤ 4294967296 ∧ 2 ^ n ≤ 4294967296 ∧ 1 ≤ 2 ^ f ∧ 1 ≤ 2 ^ n := by
  refine ⟨?_, two_le _ (by omega), two_le _ (by omega), Nat.one_le_two_pow, Nat.one_le_two_pow⟩
  rw [← Nat.pow_add]; exact two_le _ h3
theorem maskN_lt (f n : Nat) (h3 : f + n ≤ 32) : (2 ^ n - 1) * 2 ^ f < 4294967296 := by
  obtain ⟨h1, _, _, h4, h5⟩ := pow_cut f n h3
  have : (2 ^ n - 1) * 2 ^ f + 2 ^ f = 2 ^ f * 2 ^ n := by
    rw [Nat.sub_mul, Nat.one_mul, Nat.mul_comm (2 ^ f)]
    have : 2 ^ f ≤ 2 ^ n * 2 ^ f := Nat.le_mul_of_pos_left _ (by omega)
    omega
  omega
theorem maskv_eq (f n : Nat) (h3 : f + n ≤ 32) : maskv f n = (((2 ^ n - 1) * 2 ^ f : Nat) : Int) := by
  obtain ⟨h1, _, h6, h4, h2⟩ := pow_cut f n h3
  have h5 := maskN_lt f n h3
  unfold maskv
  have h7 : ((2 : Int) ^ n - 1) = ((2 ^ n - 1 : Nat) : Int) := by
    rw [Int.natCast_sub h2]; simp
  rw [h7, show (4294967296 : Int) = ((4294967296 : Nat) : Int) from rfl, ← Int.natCast_emod, show (2 : Int) ^ f = ((2 ^ f : Nat) : Int) by simp, ← Int.natCast_mul, ← Int.natCast_emod]
  congr 1
  rw [Nat.mod_eq_of_lt (a := 2 ^ n - 1) (by omega)]
  exact Nat.mod_eq_of_lt (by omega)
theorem maskv_pos (f n : Nat) (h2 : 1 ≤ n) (h3 : f + n ≤ 32) : (maskv f n == 0) = false := by
  rw [maskv_eq f n h3]
  have h1 : 2 ^ 1 ≤ 2 ^ n := Nat.pow_le_pow_right (by omega) h2
  have h4 : 1 ≤ 2 ^ f := Nat.one_le_two_pow
  have : 0 < (2 ^ n - 1) * 2 ^ f := Nat.mul_pos (by omega) h4
  simp only [beq_eq_false_iff_ne]
  omega
theorem maskv_div (f n : Nat) (h3 : f + n ≤ 32) : maskv f n / 2 ^ f = 2 ^ n - 1 := by
  rw [maskv_eq f n h3, show (2 : Int) ^ f = ((2 ^ f : Nat) : Int) by simp, ← Int.natCast_ediv, Nat.mul_div_cancel _ (Nat.two_pow_pos f), Int.natCast_sub (Nat.two_pow_pos n)]
  simp
theorem testBit_maskN (f n i : Nat) : ((2 ^ n - 1) * 2 ^ f).testBit i = (decide (f ≤ i) && decide (i < f + n)) := by
  rw [Nat.testBit_mul_two_pow, Nat.testBit_two_pow_sub_one]
  by_cases h : f ≤ i
  · simp [h]; omega
  · simp [h]
/-- a field's value -/
def fieldN (x f n : Nat) : Nat := x / 2 ^ f % 2 ^ n
theorem field_val (x f n : Nat) (hx : x < 4294967296) (h3 : f + n ≤ 32) : bits .and .u32 x (maskv f n) / 2 ^ f = ((fieldN x f n : Nat) : Int) := by
  rw [maskv_eq f n h3, and_u32 _ _ hx (maskN_lt f n h3), show (2 : Int) ^ f = ((2 ^ f : Nat) : Int) by simp, ← Int.natCast_ediv]
  congr 1
  unfold fieldN
  apply Nat.eq_of_testBit_eq
  intro i
  rw [Nat.testBit_div_two_pow, Nat.testBit_and, testBit_maskN, Nat.testBit_mod_two_pow, Nat.testBit_div_two_pow]
  by_cases h : i < n <;> simp [h] <;> omega
/-- a word with a number in a field -/
def putN (x f n v : Nat) : Nat := 2 ^ f * (2 ^ n * (x / 2 ^ (f + n)) + v) + x % 2 ^ f
theorem testBit_putN (x f n v i : Nat) (hv : v < 2 ^ n) : (putN x f n v).testBit i = if i < f then x.testBit i else if i < f + n then v.testBit (i - f) else x.testBit i := by
  unfold putN
  rw [Nat.testBit_two_pow_mul_add _ (Nat.mod_lt _ (Nat.two_pow_pos f))]
  by_cases h : i < f
  · simp [h, Nat.testBit_mod_two_pow]
  · rw [if_neg h, if_neg h, Nat.testBit_two_pow_mul_add _ hv]
    by_cases h2 : i < f + n
    · rw [if_pos (by omega), if_pos h2]
    · rw [if_neg (by omega), if_neg h2, Nat.testBit_div_two_pow]
      congr 1; omega
theorem high_bit (x i : Nat) (hx : x < 4294967296) (hi : ¬ i < 32) : x.testBit i = false :=
  Nat.testBit_lt_two_pow (Nat.lt_of_lt_of_le (m := 2 ^ 32) (by omega) (Nat.pow_le_pow_right (by omega) (by omega)))
theorem putN_lt (x f n v : Nat) (hx : x < 4294967296) (h3 : f + n ≤ 32) (hv : v < 2 ^ n) : putN x f n v < 4294967296 := by
  apply Nat.lt_pow_two_of_testBit (n := 32)
  intro i hi
  rw [testBit_putN _ _ _ _ _ hv, if_neg (by omega), if_neg (by omega)]
  exact high_bit x i hx (by omega)
theorem shl_val (f n v : Nat) (h3 : f + n ≤ 32) (hv : v < 2 ^ n) : v * 2 ^ f < 4294967296 := by
  obtain ⟨h1, h2, h6, h4, h5⟩ := pow_cut f n h3
  have : v * 2 ^ f < 2 ^ n * 2 ^ f := Nat.mul_lt_mul_of_pos_right hv (by omega)
  rw [Nat.mul_comm (2 ^ n)] at this; omega
theorem put_val (x f n v : Nat) (hx : x < 4294967296) (h3 : f + n ≤ 32) (hv : v < 2 ^ n) :
    bits .or .u32 (bits .andNot .u32 x (maskv f n)) (v * 2 ^ f % 4294967296) = ((putN x f n v : Nat) : Int) := by
  have hvf := shl_val f n v h3 hv
  have e : (v : Int) * 2 ^ f % 4294967296 = ((v * 2 ^ f : Nat) : Int) := by
    rw [show (v : Int) * 2 ^ f = ((v * 2 ^ f : Nat) : Int) by simp]
    generalize v * 2 ^ f = z at hvf ⊢
    omega
  rw [maskv_eq f n h3, andNot_u32, e, or_u32 _ _ (andNotN_lt _ _) hvf]
  congr 1
  apply Nat.eq_of_testBit_eq
  intro i
  rw [testBit_putN _ _ _ _ _ hv, Nat.testBit_or, testBit_andNotN, testBit_maskN, Nat.testBit_mul_two_pow]
  by_cases hi : i < f
  · have h1 : ¬ f ≤ i := by omega
    have h2 : i < 32 := by omega
    simp [hi, h1, h2]
  · have h1 : f ≤ i := by omega
    by_cases h8 : i < f + n
    · simp [hi, h8, h1]
    · have h9 : v.testBit (i - f) = false := Nat.testBit_lt_two_pow (Nat.lt_of_lt_of_le hv (Nat.pow_le_pow_right (by omega) (by omega)))
      by_cases h10 : i < 32
      · simp [hi, h8, h1, h9, h10]
      · simp [hi, h8, h1, h9, h10, high_bit x i hx h10]
/-- the sign of the lowest n bits -/
def signN (x n : Nat) : Int := if x % 2 ^ n < 2 ^ (n - 1) then (x % 2 ^ n : Nat) else (x % 2 ^ n : Nat) - (2 ^ n : Nat)
theorem sign_val (x n : Nat) (h2 : 1 ≤ n) (h3 : n ≤ 32) : wrap32 (x * 2 ^ (32 - n) % 4294967296) / 2 ^ (32 - n) = signN x n := by
  obtain ⟨k, hk⟩ : ∃ k, k = 32 - n := ⟨_, rfl⟩
  have e1 : 2 ^ n * 2 ^ k = 4294967296 := by rw [← Nat.pow_add, show n + k = 32 by omega]
  have e2 : 2 ^ (n - 1) * 2 = 2 ^ n := by rw [← Nat.pow_succ, show (n - 1).succ = n by omega]
  have e3 : (x : Int) * 2 ^ k % 4294967296 = ((x % 2 ^ n * 2 ^ k : Nat) : Int) := by
    rw [show (x : Int) * 2 ^ k = ((x * 2 ^ k : Nat) : Int) by simp, show (4294967296 : Int) = ((2 ^ n * 2 ^ k : Nat) : Int) by rw [e1]; rfl, ← Int.natCast_emod]
    congr 1
    exact Nat.mul_mod_mul_right _ _ _
  rw [← hk, e3]
  unfold signN
  have h4 : x % 2 ^ n < 2 ^ n := Nat.mod_lt _ (Nat.two_pow_pos n)
  generalize x % 2 ^ n = r at h4 ⊢
  have hp : 1 ≤ 2 ^ k := Nat.one_le_two_pow
  have e5 : (2 : Int) ^ k = ((2 ^ k : Nat) : Int) := by simp
  rw [e5]
  have e6 : 2 ^ (n - 1) * 2 ^ k = 2147483648 := by
    have : 2 ^ (n - 1) * 2 ^ k * 2 = 4294967296 := by rw [Nat.mul_right_comm, e2, e1]
    omega
  generalize 2 ^ (n - 1) = q at *
  generalize 2 ^ k = d at *
  generalize 2 ^ n = m at *
  by_cases h : r < q
  · rw [if_pos h]
    have h7 : r * d < q * d := Nat.mul_lt_mul_of_pos_right h (by omega)
    rw [show wrap32 ((r * d : Nat) : Int) = ((r * d : Nat) : Int) by unfold wrap32; omega, ← Int.natCast_ediv, Nat.mul_div_cancel _ (by omega)]
  · rw [if_neg h]
    have h7 : q * d ≤ r * d := Nat.mul_le_mul_right d (by omega)
    have h8 : r * d < m * d := Nat.mul_lt_mul_of_pos_right h4 (by omega)
    rw [show wrap32 ((r * d : Nat) : Int) = ((r : Int) - (m : Int)) * (d : Int) by
      unfold wrap32
      rw [Int.sub_mul, ← Int.natCast_mul, ← Int.natCast_mul]; omega]
    exact Int.mul_ediv_cancel _ (by omega)
theorem signN_bd (x n : Nat) (h2 : 1 ≤ n) (h3 : n ≤ 32) : -2147483648 ≤ signN x n ∧ signN x n ≤ 2147483647 := by
  have e2 : 2 ^ (n - 1) * 2 = 2 ^ n := by rw [← Nat.pow_succ, show (n - 1).succ = n by omega]
  have h4 : x % 2 ^ n < 2 ^ n := Nat.mod_lt _ (Nat.two_pow_pos n)
  have h5 := two_le n h3
  unfold signN
  split <;> omega
end Go.Proofs.Ytkagconllphdiaa
