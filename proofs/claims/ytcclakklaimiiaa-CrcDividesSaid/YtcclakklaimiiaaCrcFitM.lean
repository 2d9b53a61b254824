/- What stands ahead of a number, times x: backN; the word that makes a sum what it shall be. -/
import Derived.Test.YtcclakklaimiiaaCrcMath
namespace Go.Proofs.Ytcclakklaimiiaa
set_option linter.unusedVariables false
def backN (n : Nat) : Nat := if n / 2 ^ 31 = 1 then 2 * (n ^^^ divisorN) + 1 else 2 * n
def backsN : Nat → Nat → Nat
  | 0, n => n
  | k + 1, n => backsN k (backN n)
theorem crcT_odd (m : Nat) : crcT (2 * m + 1) = m ^^^ divisorN := by
  unfold crcT
  rw [if_pos (by omega), show (2 * m + 1) / 2 = m by omega]
theorem top_xor (n : Nat) (h : n < 4294967296) (h1 : n / 2 ^ 31 = 1) : n ^^^ divisorN < 2147483648 := by
  have h0 := Nat.xor_div_two_pow (a := n) (b := divisorN) (n := 31)
  rw [h1, show divisorN / 2 ^ 31 = 1 by decide, Nat.xor_self] at h0
  omega
theorem backN_lt (n : Nat) (h : n < 4294967296) : backN n < 4294967296 := by
  unfold backN
  split
  · next h1 => have := top_xor n h h1; omega
  · next h1 => omega
theorem crcT_back (n : Nat) : crcT (backN n) = n := by
  unfold backN
  split
  · rw [crcT_odd]; exact xor_back n divisorN
  · exact crcT_even n
theorem crcT_zero_of (x : Nat) (h : x < 4294967296) (h0 : crcT x = 0) : x = 0 := by
  unfold crcT at h0
  by_cases h1 : x % 2 = 1
  · rw [if_pos h1] at h0
    have h2 := congrArg (· ^^^ divisorN) h0
    simp only [xor_back, Nat.zero_xor] at h2
    have : divisorN = 3988292384 := rfl
    omega
  · rw [if_neg h1, Nat.xor_zero] at h0
    omega
theorem xor_zero_of {a b : Nat} (h : a ^^^ b = 0) : a = b := by
  have := xor_back a b
  rw [h, Nat.zero_xor] at this
  exact this.symm
theorem crcT_inj {a b : Nat} (ha : a < 4294967296) (hb : b < 4294967296) (h : crcT a = crcT b) : a = b := by
  refine xor_zero_of (crcT_zero_of _ (Nat.xor_lt_two_pow (n := 32) ha hb) ?_)
  rw [crcT_xor, h, Nat.xor_self]
theorem crcTs_inj (k : Nat) : ∀ {a b : Nat}, a < 4294967296 → b < 4294967296 → crcTs k a = crcTs k b → a = b := by
  induction k with
  | zero => intro a b _ _ h; exact h
  | succ k ih => intro a b ha hb h; exact crcT_inj ha hb (ih (crcT_lt ha) (crcT_lt hb) h)
theorem backsN_lt (k : Nat) : ∀ n, n < 4294967296 → backsN k n < 4294967296 := by
  induction k with
  | zero => intro n h; exact h
  | succ k ih => intro n h; exact ih _ (backN_lt n h)
theorem backsN_succ (k : Nat) : ∀ n, backsN (k + 1) n = backN (backsN k n) := by
  induction k with
  | zero => intro n; rfl
  | succ k ih => intro n; rw [backsN, ih]; rfl
theorem crcTs_back (k : Nat) : ∀ n, crcTs k (backsN k n) = n := by
  induction k with
  | zero => intro n; rfl
  | succ k ih => intro n; rw [backsN_succ, crcTs, crcT_back, ih]
theorem backs_crcTs (k n : Nat) (h : n < 4294967296) : backsN k (crcTs k n) = n :=
  crcTs_inj k (backsN_lt k _ (crcTs_lt k h)) h (crcTs_back k _)
/-- the bytes of a word -/
def wbytes (x : Nat) : List Nat := [x % 256, x / 256 % 256, x / 65536 % 256, x / 16777216]
theorem low_high (x : Nat) : x = x % 256 ^^^ 2 ^ 8 * (x / 256) := by
  refine Nat.eq_of_testBit_eq fun i => ?_
  have e : x % 256 = x % 2 ^ 8 := rfl
  rw [Nat.testBit_xor, e, Nat.testBit_mod_two_pow, Nat.testBit_two_pow_mul]
  by_cases hi : i < 8
  · have : ¬ 8 ≤ i := by omega
    simp [hi, this]
  · have h4 : 8 ≤ i := by omega
    rw [show x / 256 = x / 2 ^ 8 from rfl, Nat.testBit_div_two_pow, show i - 8 + 8 = i by omega]
    simp [hi, h4]
theorem crc_step8 (k s x : Nat) : crcTs (8 + k) (s ^^^ x) = crcTs k (crcTs 8 (s ^^^ x % 256) ^^^ x / 256) := by
  rw [crcTs_add]
  congr 1
  conv => lhs; rw [low_high x, ← Nat.xor_assoc, crcTs_xor 8 (s ^^^ x % 256), crcTs_even]
theorem crcF_word (s x : Nat) : crcF s (wbytes x) = crcTs 32 (s ^^^ x) := by
  rw [show (32 : Nat) = 8 + 24 from rfl, crc_step8, show (24 : Nat) = 8 + 16 from rfl, crc_step8, show (16 : Nat) = 8 + 8 from rfl, crc_step8,
    show x / 256 / 256 = x / 65536 by omega, show x / 65536 / 256 = x / 16777216 by omega]
  rfl
theorem wbytes_lt (x : Nat) (h : x < 4294967296) : ∀ b ∈ wbytes x, b < 256 := by
  intro b hb
  simp only [wbytes, List.mem_cons, List.not_mem_nil, or_false] at hb
  omega
theorem sumN_word (b : List Nat) (x : Nat) : sumN (b ++ wbytes x) = crcTs 32 (sumN b ^^^ onesN ^^^ x) ^^^ onesN := by
  show moreN 0 _ = crcTs 32 (moreN 0 b ^^^ onesN ^^^ x) ^^^ onesN
  rw [moreN_append]
  show crcF (moreN 0 b ^^^ onesN) _ ^^^ onesN = _
  rw [crcF_word]
def fitN (n want : Nat) : Nat := backsN 32 (want ^^^ onesN) ^^^ n ^^^ onesN
theorem fitN_lt (n want : Nat) (hn : n < 4294967296) (h : want < 4294967296) : fitN n want < 4294967296 :=
  ones_lt (Nat.xor_lt_two_pow (n := 32) (backsN_lt 32 _ (ones_lt h)) hn)
theorem fit_sum (b : List Nat) (want : Nat) : sumN (b ++ wbytes (fitN (sumN b) want)) = want := by
  rw [sumN_word]
  have e : sumN b ^^^ onesN ^^^ fitN (sumN b) want = backsN 32 (want ^^^ onesN) := by
    unfold fitN
    rw [Nat.xor_assoc (backsN _ _), Nat.xor_comm (backsN _ _), ← Nat.xor_assoc, Nat.xor_self, Nat.zero_xor]
  rw [e, crcTs_back, xor_back]
theorem fit_back (b : List Nat) (x : Nat) (hb : sumN b < 4294967296) (hx : x < 4294967296) : fitN (sumN b) (sumN (b ++ wbytes x)) = x := by
  unfold fitN
  rw [sumN_word, xor_back, backs_crcTs _ _ (Nat.xor_lt_two_pow (n := 32) (ones_lt hb) hx)]
  rw [Nat.xor_assoc (sumN b ^^^ onesN ^^^ x), Nat.xor_comm _ x, Nat.xor_assoc x, Nat.xor_self, Nat.xor_zero]
theorem fit_iff (b : List Nat) (want x : Nat) (hb : sumN b < 4294967296) (hx : x < 4294967296) : sumN (b ++ wbytes x) = want ↔ x = fitN (sumN b) want := by
  constructor
  · intro h; rw [← h, fit_back b x hb hx]
  · intro h; rw [h, fit_sum]
end Go.Proofs.Ytcclakklaimiiaa
