/- What bytes read as: the plain law of read. -/
import Derived.Test.YtdlhnipkhlihjaaTlvMath
namespace Go.Proofs.Ytdlhnipkhlihjaa
open Go
set_option linter.unusedVariables false
/-- a field's length, as its head says it -/
def lenH (b1 b2 b3 b4 : Int) : Nat := (b1 + 256 * b2 + 65536 * b3 + 16777216 * b4).toNat
/-- the fields that bytes are, that stand so deep (the first number is fuel: the bytes' length is enough) -/
def readF : Nat → Nat → List Int → Option Forest
  | _, _, [] => some .nil
  | n + 1, d, b0 :: b1 :: b2 :: b3 :: b4 :: rest =>
    if 8 < d ∨ b0 = 0 ∨ rest.length < lenH b1 b2 b3 b4 then none
    else if 128 ≤ b0 then
      (readF n (d + 1) (rest.take (lenH b1 b2 b3 b4))).bind fun k => (readF n d (rest.drop (lenH b1 b2 b3 b4))).map fun r => .cons b0 [] k r
    else (readF n d (rest.drop (lenH b1 b2 b3 b4))).map fun r => .cons b0 (rest.take (lenH b1 b2 b3 b4)) .nil r
  | _, _, _ => none
/-- fuel that is enough: more says the same -/
theorem readF_fuel : ∀ (m n d : Nat) (bs : List Int), bs.length ≤ n → n ≤ m → readF m d bs = readF n d bs
  | m, n, d, [], h, hm => by simp [readF]
  | 0, n, d, b :: r, h, hm => by simp at h; omega
  | m + 1, 0, d, b :: r, h, hm => by simp at h
  | m + 1, n + 1, d, [b0], h, hm => by simp [readF]
  | m + 1, n + 1, d, [b0, b1], h, hm => by simp [readF]
  | m + 1, n + 1, d, [b0, b1, b2], h, hm => by simp [readF]
  | m + 1, n + 1, d, [b0, b1, b2, b3], h, hm => by simp [readF]
  | m + 1, n + 1, d, b0 :: b1 :: b2 :: b3 :: b4 :: rest, h, hm => by
    simp only [List.length_cons] at h
    have e1 := readF_fuel m n (d + 1) (rest.take (lenH b1 b2 b3 b4)) (by simp only [List.length_take]; omega) (by omega)
    have e2 := readF_fuel m n d (rest.drop (lenH b1 b2 b3 b4)) (by simp only [List.length_drop]; omega) (by omega)
    simp only [readF, e1, e2]
/-- with all the fuel -/
def readL (d : Nat) (bs : List Int) : Option Forest := readF bs.length d bs
theorem readL_nil (d : Nat) : readL d [] = some .nil := by simp [readL, readF]
theorem readL_cons (d : Nat) (b0 b1 b2 b3 b4 : Int) (rest : List Int) : readL d (b0 :: b1 :: b2 :: b3 :: b4 :: rest) =
    if 8 < d ∨ b0 = 0 ∨ rest.length < lenH b1 b2 b3 b4 then none
    else if 128 ≤ b0 then
      (readL (d + 1) (rest.take (lenH b1 b2 b3 b4))).bind fun k => (readL d (rest.drop (lenH b1 b2 b3 b4))).map fun r => .cons b0 [] k r
    else (readL d (rest.drop (lenH b1 b2 b3 b4))).map fun r => .cons b0 (rest.take (lenH b1 b2 b3 b4)) .nil r := by
  unfold readL
  have e1 := readF_fuel (rest.length + 4) (rest.take (lenH b1 b2 b3 b4)).length (d + 1) (rest.take (lenH b1 b2 b3 b4)) (Nat.le_refl _) (by simp only [List.length_take]; omega)
  have e2 := readF_fuel (rest.length + 4) (rest.drop (lenH b1 b2 b3 b4)).length d (rest.drop (lenH b1 b2 b3 b4)) (Nat.le_refl _) (by simp only [List.length_drop]; omega)
  rw [← e1, ← e2]
  simp only [List.length_cons, readF]
theorem readL_short (d : Nat) (bs : List Int) (h : 0 < bs.length) (h5 : bs.length < 5) : readL d bs = none := by
  match bs, h, h5 with
  | [_], _, _ => simp [readL, readF]
  | [_, _], _, _ => simp [readL, readF]
  | [_, _, _], _, _ => simp [readL, readF]
  | [_, _, _, _], _, _ => simp [readL, readF]
end Go.Proofs.Ytdlhnipkhlihjaa
