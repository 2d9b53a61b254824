/- Two numbers' fields: their bytes, and what these read as. -/
import Derived.Test.YtdlhnipkhlihjaaTlvReadT
import Derived.Test.YtdlhnipkhlihjaaTlvVal
namespace Go.Proofs.Ytdlhnipkhlihjaa
open Go Go.RowKit
set_option linter.unusedVariables false
theorem valB_num (n : Nat) (hn : n < 18446744073709551616) : valB (numB n) = n := by
  simp only [numB, bytesL, valB, List.cons_append, List.nil_append]
  omega
theorem numB_inj {n m : Nat} (hn : n < 18446744073709551616) (hm : m < 18446744073709551616) (h : numB n = numB m) : n = m := by
  have h1 := valB_num n hn
  rw [h, valB_num m hm] at h1
  omega
/-- two numbers' fields -/
def two (t : Int) (n m : Nat) : Forest := .cons t (numB n) .nil (.cons t (numB m) .nil .nil)
theorem two_bad (t : Int) (n m : Nat) (h : t < 1 ∨ 128 ≤ t) : tlvE (two t n m) = 220 ∧ outB (two t n m) = [] := by
  have hb : Forest.bad t (numB n) Forest.nil.length 1 (Forest.nil.sizeL (1 + 1) 0) := by
    unfold Forest.bad
    rw [numB_len]
    omega
  have hs : (two t n m).sizeL 1 0 = -1 := Forest.sizeL_bad hb
  unfold tlvE outB
  rw [hs]
  exact ⟨rfl, rfl⟩
theorem two_ok (t : Int) (n m : Nat) (h1 : 1 ≤ t) (h2 : t < 128) : tlvE (two t n m) = 0 ∧ outB (two t n m) = (two t n m).layF ∧ (two t n m).layF.length = 26 ∧ readL 1 (two t n m).layF = some (two t n m) := by
  have hi : ∀ k, Forest.innerOf t (numB k) Forest.nil.length 1 (Forest.nil.sizeL (1 + 1) 0) = 8 := fun k => by
    unfold Forest.innerOf
    rw [if_neg (by omega), numB_len]; rfl
  have hb : ∀ k, ¬ Forest.bad t (numB k) Forest.nil.length 1 (Forest.nil.sizeL (1 + 1) 0) := fun k => by
    unfold Forest.bad
    rw [hi]
    simp only [Forest.length]
    omega
  have hs : (two t n m).sizeL 1 0 = 26 := by
    unfold two
    rw [Forest.sizeL_next (hb n) (hi n) (by omega), Forest.sizeL_next (hb m) (hi m) (by omega), Forest.sizeL]
    rfl
  have hl := layF_len (two t n m) 1 0 (Int.le_refl _) (by omega)
  have hr := read_lay (two t n m) 1 0 (by decide) (Int.le_refl _) (by omega)
  refine ⟨?_, ?_, by omega, hr⟩
  · unfold tlvE; rw [if_neg (by omega)]
  · unfold outB; rw [if_neg (by omega)]
end Go.Proofs.Ytdlhnipkhlihjaa
