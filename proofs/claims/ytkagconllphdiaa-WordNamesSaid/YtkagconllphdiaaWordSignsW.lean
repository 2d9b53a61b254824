/- The walk of the law WordSigns. -/
import Derived.Test.YtkagconllphdiaaWordBytes
namespace Go.Proofs.Ytkagconllphdiaa
open Go.ChangeShapes Go.WideShapes Go.ChangeAt Go.RowKit
theorem sign_int (x n : Int) (w : World) (h0 : 0 ≤ x) (h2 : 1 ≤ n) (h3 : n ≤ 32) :
    Calls Try.prog 20 #[.int .u32 x, .int .i64 n] w fun e w' => e = .returned (.tuple #[.int .i32 (signN x.toNat n.toNat), .int .i64 0]) ∧ w = w' := by
  obtain ⟨a, rfl⟩ := Int.eq_ofNat_of_zero_le h0
  obtain ⟨b, rfl⟩ := Int.eq_ofNat_of_zero_le (show 0 ≤ n by omega)
  exact sign_yes a b w (by omega) (by omega)
/-- so many low bits -/
def lowM (n : Nat) : Nat := 2 ^ n - 1
theorem lowM_le (n : Nat) (h : n ≤ 32) : lowM n < 4294967296 := by
  have h1 := two_le n h
  have h2 := Nat.two_pow_pos n
  unfold lowM; omega
theorem lowM_val (n : Nat) (h : n ≤ 32) : IntKind.u64.wrap (IntKind.u64.wrap (2 ^ n) - 1) = (lowM n : Int) := by
  have h1 := two_le n h
  have h2 := Nat.two_pow_pos n
  rw [show (2 : Int) ^ n = ((2 ^ n : Nat) : Int) by simp]
  unfold lowM
  generalize 2 ^ n = p at *
  simp only [IntKind.wrap_u64]
  omega
/-- low bits of the one, high bits of the other -/
def mixN (x v n : Nat) : Nat := ((x &&& lowM n) ||| andNot64 v (lowM n)) % 4294967296
theorem mixN_val (x v n : Nat) (hx : x < 4294967296) (h : n ≤ 32) :
    bits .or .u64 (bits .and .u64 x (lowM n)) (bits .andNot .u64 v (lowM n)) % 4294967296 = (mixN x v n : Int) := by
  have h1 := lowM_le n h
  have h3 : x &&& lowM n < 2 ^ 32 := Nat.and_lt_two_pow _ (by omega)
  rw [and_u64 _ _ (by omega) (by omega), andNot_u64, or_u64 _ _ (by omega) (andNot64_lt _ _)]
  rfl
theorem mixN_lt (x v n : Nat) : mixN x v n < 4294967296 := Nat.mod_lt _ (by omega)
theorem mixN_mod (x v n : Nat) (h : n ≤ 32) : mixN x v n % 2 ^ n = x % 2 ^ n := by
  apply Nat.eq_of_testBit_eq
  intro i
  have e : (4294967296 : Nat) = 2 ^ 32 := by decide
  rw [Nat.testBit_mod_two_pow, Nat.testBit_mod_two_pow]
  by_cases hi : i < n
  · have h32 : i < 32 := by omega
    unfold mixN
    rw [e, Nat.testBit_mod_two_pow, Nat.testBit_or, Nat.testBit_and, testBit_andNot64]
    unfold lowM
    rw [Nat.testBit_two_pow_sub_one]
    simp [hi, h32]
  · simp [hi]
theorem signN_mod (x y n : Nat) (h : x % 2 ^ n = y % 2 ^ n) : signN x n = signN y n := by unfold signN; rw [h]
/-- a sign's number as a word -/
def swN (x n : Nat) : Nat := (signN x n % 4294967296).toNat
theorem swN_val (x n : Nat) : signN x n % 4294967296 = (swN x n : Int) := by unfold swN; omega
theorem swN_lt (x n : Nat) : swN x n < 4294967296 := by unfold swN; omega
theorem signN_32 (y : Nat) (hy : y < 4294967296) : signN y 32 = if y < 2147483648 then (y : Int) else y - 4294967296 := by
  unfold signN
  rw [Nat.mod_eq_of_lt (by omega)]
  rfl
theorem signN_sw (x n : Nat) (h2 : 1 ≤ n) (h3 : n ≤ 32) : signN (swN x n) 32 = signN x n := by
  have hb := signN_bd x n h2 h3
  rw [signN_32 _ (swN_lt x n)]
  have := swN_val x n
  split <;> omega
/-- 2 to some power, closed to the walk -/
def pw (n : Nat) : Nat := 2 ^ n
theorem pw_le (n : Nat) (h : n ≤ 31) : 1 ≤ pw n ∧ pw n ≤ 2147483648 := ⟨Nat.one_le_two_pow, by have := Nat.pow_le_pow_right (n := 2) (by decide) h; unfold pw; omega⟩
theorem pw_val (n : Nat) (h : n ≤ 31) : wrap64 (2 ^ n) = (pw n : Int) := by
  have := pw_le n h
  rw [show (2 : Int) ^ n = (pw n : Int) by unfold pw; simp]
  unfold wrap64; omega
theorem signN_range (x n : Nat) : -(pw n : Int) ≤ signN x (1 + n) ∧ signN x (1 + n) < (pw n : Int) := by
  unfold pw
  have e2 : 2 ^ (1 + n) = 2 ^ n * 2 := by rw [Nat.add_comm, Nat.pow_succ]
  have h4 : x % 2 ^ (1 + n) < 2 ^ (1 + n) := Nat.mod_lt _ (Nat.two_pow_pos _)
  unfold signN
  rw [show 1 + n - 1 = n by omega]
  split <;> omega
theorem sw_mod (x n : Nat) (h3 : n ≤ 32) : swN x n % 2 ^ n = x % 2 ^ n := by
  have e : ((2 ^ n : Nat) : Int) ∣ 4294967296 := by
    have : 2 ^ n ∣ 2 ^ 32 := Nat.pow_dvd_pow 2 h3
    exact Int.natCast_dvd_natCast.2 this
  have h4 : ((swN x n % 2 ^ n : Nat) : Int) = ((x % 2 ^ n : Nat) : Int) := by
    rw [Int.natCast_emod, ← swN_val, Int.emod_emod_of_dvd _ e]
    unfold signN
    by_cases h : x % 2 ^ n < 2 ^ (n - 1)
    · rw [if_pos h, Int.natCast_emod, Int.emod_emod_of_dvd _ (Int.dvd_refl _)]
    · rw [if_neg h, Int.sub_emod_right, Int.natCast_emod, Int.emod_emod_of_dvd _ (Int.dvd_refl _)]
  exact_mod_cast h4
theorem and_lowM (x n : Nat) : x &&& lowM n = x % 2 ^ n := by unfold lowM; exact Nat.and_two_pow_sub_one_eq_mod x n
theorem sw_and (x n : Nat) (hx : x < 4294967296) (h3 : n ≤ 32) : bits .and .u64 (swN x n) (lowM n) = bits .and .u64 x (lowM n) := by
  have h1 := lowM_le n h3
  have h4 := swN_lt x n
  rw [and_u64 _ _ (by omega) (by omega), and_u64 _ _ (by omega) (by omega), and_lowM, and_lowM, sw_mod x n h3]
set_option maxHeartbeats 1000000 in
theorem wordSigns_nat (x v b : Nat) (w : World) (hx : x < 4294967296) (hv : v < 4294967296) :
    Calls Try.prog 5 #[.int .u32 x, .int .u32 v, .int .u8 b] w fun e w' => e = .returned (.bool true) ∧ Below w.heap.size w w' := by
  have hb := Below.refl w.heap.size w
  obtain ⟨m, hm⟩ : ∃ m, m = b % 32 := ⟨_, rfl⟩
  have hm32 : m < 32 := by omega
  have e0 : (b : Int) % 32 = (m : Int) := by omega
  have e1 := lowM_val (1 + m) (by omega)
  have e2 := mixN_val x v (1 + m) hx (by omega)
  have e3 := signN_mod _ _ _ (mixN_mod x v (1 + m) (by omega))
  have e4 := swN_val x (1 + m)
  have e5 := signN_sw x (1 + m) (by omega) (by omega)
  have e6 := sw_and x (1 + m) hx (by omega)
  have e7 := pw_val m (by omega)
  obtain ⟨hr1, hr2⟩ := signN_range x m
  obtain ⟨hp1, hp2⟩ := pw_le m (by omega)
  clear hm
  go_enter Try.func5, Try.ntmps5
  go_wp2_with (go_at_call 22; refine (alive_any _).mono ?_; rintro e w1 ⟨rfl, hb1⟩; replace hb := Below.step hb hb1; clear hb1)
  refine (sign_int _ _ _ (by omega) (by omega) (by omega)).mono ?_; rintro e w2 ⟨rfl, rfl⟩
  go_wp2_with fail
  refine (sign_int _ _ _ (by omega) (by omega) (by omega)).mono ?_; rintro e w2 ⟨rfl, rfl⟩
  go_wp2_with fail
  refine (sign_int _ _ _ (by omega) (by omega) (by omega)).mono ?_; rintro e w2 ⟨rfl, rfl⟩
  go_wp2_with fail
  go_ret
  exact ⟨rfl, hb⟩
theorem wordSigns_any (x v b : Int) (w : World) (hx0 : 0 ≤ x) (hx : x ≤ 4294967295) (hv0 : 0 ≤ v) (hv : v ≤ 4294967295) (hb0 : 0 ≤ b) :
    Calls Try.prog 5 #[.int .u32 x, .int .u32 v, .int .u8 b] w fun e w' => e = .returned (.bool true) ∧ Below w.heap.size w w' := by
  obtain ⟨x, rfl⟩ := Int.eq_ofNat_of_zero_le hx0
  obtain ⟨v, rfl⟩ := Int.eq_ofNat_of_zero_le hv0
  obtain ⟨b, rfl⟩ := Int.eq_ofNat_of_zero_le hb0
  exact wordSigns_nat x v b w (by omega) (by omega)
end Go.Proofs.Ytkagconllphdiaa
