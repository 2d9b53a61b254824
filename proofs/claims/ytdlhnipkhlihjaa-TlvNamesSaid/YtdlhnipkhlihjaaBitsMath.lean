/- Plain lemmas on words of 32 bits: the model's bit operations as Nat's. -/
import Derived.WalkKit
import Derived.Laws.BitsLemmas
namespace Go.Proofs.Ytdlhnipkhlihjaa
open Go.RowKit
theorem b32_nat (a : Nat) (ha : a < 4294967296) : (BitVec.ofInt 32 (a : Int)).toNat = a := by
  rw [BitVec.ofInt_natCast, BitVec.toNat_ofNat]; exact Nat.mod_eq_of_lt (by omega)
theorem wrap_u32_nat (a : Nat) (ha : a < 4294967296) : IntKind.u32.wrap (a : Int) = (a : Int) := by
  rw [IntKind.wrap_u32]; omega
theorem and_u32 (a b : Nat) (ha : a < 4294967296) (hb : b < 4294967296) : bits .and .u32 a b = ((a &&& b : Nat) : Int) := by
  have h : a &&& b < 2 ^ 32 := Nat.and_lt_two_pow _ (by omega)
  show IntKind.u32.wrap ((BitVec.ofInt 32 (a : Int) &&& BitVec.ofInt 32 (b : Int)).toNat : Int) = _
  rw [BitVec.toNat_and, b32_nat a ha, b32_nat b hb, wrap_u32_nat _ (by omega)]
theorem or_u32 (a b : Nat) (ha : a < 4294967296) (hb : b < 4294967296) : bits .or .u32 a b = ((a ||| b : Nat) : Int) := by
  have h : a ||| b < 2 ^ 32 := Nat.or_lt_two_pow (by omega) (by omega)
  show IntKind.u32.wrap ((BitVec.ofInt 32 (a : Int) ||| BitVec.ofInt 32 (b : Int)).toNat : Int) = _
  rw [BitVec.toNat_or, b32_nat a ha, b32_nat b hb, wrap_u32_nat _ (by omega)]
theorem xor_u32 (a b : Nat) (ha : a < 4294967296) (hb : b < 4294967296) : bits .xor .u32 a b = ((a ^^^ b : Nat) : Int) := by
  have h : a ^^^ b < 2 ^ 32 := Nat.xor_lt_two_pow (by omega) (by omega)
  show IntKind.u32.wrap ((BitVec.ofInt 32 (a : Int) ^^^ BitVec.ofInt 32 (b : Int)).toNat : Int) = _
  rw [BitVec.toNat_xor, b32_nat a ha, b32_nat b hb, wrap_u32_nat _ (by omega)]
/-- a without the bits of b -/
def andNotN (a b : Nat) : Nat := (BitVec.ofNat 32 a &&& ~~~ BitVec.ofNat 32 b).toNat
theorem andNotN_lt (a b : Nat) : andNotN a b < 4294967296 := by
  have := (BitVec.ofNat 32 a &&& ~~~ BitVec.ofNat 32 b).isLt
  unfold andNotN; omega
theorem andNot_u32 (a b : Nat) : bits .andNot .u32 a b = ((andNotN a b : Nat) : Int) := by
  show IntKind.u32.wrap ((BitVec.ofInt 32 (a : Int) &&& ~~~ BitVec.ofInt 32 (b : Int)).toNat : Int) = _
  rw [BitVec.ofInt_natCast, BitVec.ofInt_natCast]
  exact wrap_u32_nat _ (andNotN_lt a b)
theorem testBit_andNotN (a b i : Nat) : (andNotN a b).testBit i = (decide (i < 32) && a.testBit i && !b.testBit i) := by
  unfold andNotN
  rw [← BitVec.getLsbD]
  rw [BitVec.getLsbD_and, BitVec.getLsbD_not, BitVec.getLsbD_ofNat, BitVec.getLsbD_ofNat]
  by_cases h : i < 32 <;> simp [h]
theorem ofInt_toNat (n : Nat) (x : Int) : ((BitVec.ofInt n x).toNat : Int) = x % (2 ^ n : Nat) := by
  rw [BitVec.toNat_ofInt]
  exact Int.toNat_of_nonneg (Int.emod_nonneg _ (by have := Nat.two_pow_pos n; omega))
/-- 'x & (2^i - 1)' on a word, whatever x is -/
theorem and_low_u32 (x : Int) (i : Nat) (hi : i ≤ 32) : bits .and .u32 x ((2 ^ i - 1 : Nat) : Int) = x % ((2 ^ i : Nat) : Int) := by
  have h1 : 2 ^ i ≤ 4294967296 := by have := Nat.pow_le_pow_right (n := 2) (by decide) hi; omega
  have h2 := Nat.two_pow_pos i
  show IntKind.u32.wrap ((BitVec.ofInt 32 x &&& BitVec.ofInt 32 ((2 ^ i - 1 : Nat) : Int)).toNat : Int) = _
  rw [BitVec.toNat_and, b32_nat _ (by omega), Nat.and_two_pow_sub_one_eq_mod]
  have h3 : (BitVec.ofInt 32 x).toNat % 2 ^ i < 2 ^ i := Nat.mod_lt _ h2
  rw [wrap_u32_nat _ (by omega), Int.natCast_emod, ofInt_toNat]
  exact Int.emod_emod_of_dvd _ (by exact_mod_cast Nat.pow_dvd_pow 2 hi)
theorem b64_nat (a : Nat) (ha : a < 18446744073709551616) : (BitVec.ofInt 64 (a : Int)).toNat = a := by
  rw [BitVec.ofInt_natCast, BitVec.toNat_ofNat]; exact Nat.mod_eq_of_lt (by omega)
theorem wrap_u64_nat (a : Nat) (ha : a < 18446744073709551616) : IntKind.u64.wrap (a : Int) = (a : Int) := by
  rw [IntKind.wrap_u64]; omega
theorem and_u64 (a b : Nat) (ha : a < 18446744073709551616) (hb : b < 18446744073709551616) : bits .and .u64 a b = ((a &&& b : Nat) : Int) := by
  have h : a &&& b < 2 ^ 64 := Nat.and_lt_two_pow _ (by omega)
  show IntKind.u64.wrap ((BitVec.ofInt 64 (a : Int) &&& BitVec.ofInt 64 (b : Int)).toNat : Int) = _
  rw [BitVec.toNat_and, b64_nat a ha, b64_nat b hb, wrap_u64_nat _ (by omega)]
theorem or_u64 (a b : Nat) (ha : a < 18446744073709551616) (hb : b < 18446744073709551616) : bits .or .u64 a b = ((a ||| b : Nat) : Int) := by
  have h : a ||| b < 2 ^ 64 := Nat.or_lt_two_pow (by omega) (by omega)
  show IntKind.u64.wrap ((BitVec.ofInt 64 (a : Int) ||| BitVec.ofInt 64 (b : Int)).toNat : Int) = _
  rw [BitVec.toNat_or, b64_nat a ha, b64_nat b hb, wrap_u64_nat _ (by omega)]
/-- a without the bits of b, 64 bits -/
def andNot64 (a b : Nat) : Nat := (BitVec.ofNat 64 a &&& ~~~ BitVec.ofNat 64 b).toNat
theorem andNot64_lt (a b : Nat) : andNot64 a b < 18446744073709551616 := by
  have := (BitVec.ofNat 64 a &&& ~~~ BitVec.ofNat 64 b).isLt
  unfold andNot64; omega
theorem andNot_u64 (a b : Nat) : bits .andNot .u64 a b = ((andNot64 a b : Nat) : Int) := by
  show IntKind.u64.wrap ((BitVec.ofInt 64 (a : Int) &&& ~~~ BitVec.ofInt 64 (b : Int)).toNat : Int) = _
  rw [BitVec.ofInt_natCast, BitVec.ofInt_natCast]
  exact wrap_u64_nat _ (andNot64_lt a b)
theorem testBit_andNot64 (a b i : Nat) : (andNot64 a b).testBit i = (decide (i < 64) && a.testBit i && !b.testBit i) := by
  unfold andNot64
  rw [← BitVec.getLsbD]
  rw [BitVec.getLsbD_and, BitVec.getLsbD_not, BitVec.getLsbD_ofNat, BitVec.getLsbD_ofNat]
  by_cases h : i < 64 <;> simp [h]
theorem and15_u32 (x : Int) : bits .and .u32 x 15 = x % 16 := and_low_u32 x 4 (by decide)
theorem and1_u32 (x : Int) : bits .and .u32 x 1 = x % 2 := and_low_u32 x 1 (by decide)
end Go.Proofs.Ytdlhnipkhlihjaa
