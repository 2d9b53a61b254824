/- Reading, place by place: what has been read, and what is left. -/
import Derived.Test.YtdlhnipkhlihjaaTlvReadP
import Derived.Test.YtdlhnipkhlihjaaRow
namespace Go.Proofs.Ytdlhnipkhlihjaa
open Go
set_option linter.unusedVariables false
theorem drop_cons0 (bs : List Int) (A : Nat) (h : A < bs.length) : bs.drop A = bs.getD A 0 :: bs.drop (A + 1) := by rw [List.drop_eq_getElem_cons h, getD_at _ _ h]
theorem drop5 (bs : List Int) (A : Nat) (h : A + 5 ≤ bs.length) : bs.drop A = bs.getD A 0 :: bs.getD (A + 1) 0 :: bs.getD (A + 2) 0 :: bs.getD (A + 3) 0 :: bs.getD (A + 4) 0 :: bs.drop (A + 5) := by
  rw [drop_cons0 bs A (by omega), drop_cons0 bs (A + 1) (by omega), drop_cons0 bs (A + 1 + 1) (by omega), drop_cons0 bs (A + 1 + 1 + 1) (by omega), drop_cons0 bs (A + 1 + 1 + 1 + 1) (by omega)]
theorem Forest.app_one (F : Forest) (t : Int) (b : List Int) (k r : Forest) : (F.app (.cons t b k .nil)).app r = F.app (.cons t b k r) := by
  induction F with
  | nil => rfl
  | cons t' b' k' r' _ ih => simp only [Forest.app, ih]
/-- how long the value is, as the head at A says it -/
def lenAt (bs : List Int) (A : Nat) : Nat := lenH (bs.getD (A + 1) 0) (bs.getD (A + 2) 0) (bs.getD (A + 3) 0) (bs.getD (A + 4) 0)
/-- the value behind the head at A -/
def valAt (bs : List Int) (A : Nat) : List Int := (bs.drop (A + 5)).take (lenAt bs A)
/-- P has been read, up to A -/
def Rd (d : Nat) (bs : List Int) (A : Nat) (P : Forest) : Prop := (readL d (bs.drop A)).map (P.app ·) = readL d bs
theorem Rd.start (d : Nat) (bs : List Int) : Rd d bs 0 .nil := by
  unfold Rd
  rw [List.drop_zero]
  cases readL d bs <;> rfl
theorem Rd.end {d : Nat} {bs : List Int} {A : Nat} {P : Forest} (h : Rd d bs A P) (hA : bs.length ≤ A) : readL d bs = some P := by
  unfold Rd at h
  rw [List.drop_eq_nil_of_le hA, readL_nil] at h
  rw [← h]
  simp [Forest.app_nil]
theorem Rd.none {d : Nat} {bs : List Int} {A : Nat} {P : Forest} (h : Rd d bs A P) (hn : readL d (bs.drop A) = .none) : readL d bs = .none := by
  unfold Rd at h
  rw [hn] at h
  exact h.symm
theorem Rd.short {d : Nat} {bs : List Int} {A : Nat} {P : Forest} (h : Rd d bs A P) (h1 : A < bs.length) (h2 : bs.length < A + 5) : readL d bs = .none :=
  h.none (readL_short _ _ (by rw [List.length_drop]; omega) (by rw [List.length_drop]; omega))
theorem readL_at (d : Nat) (bs : List Int) (A : Nat) (h : A + 5 ≤ bs.length) : readL d (bs.drop A) =
    if 8 < d ∨ bs.getD A 0 = 0 ∨ bs.length < A + 5 + lenAt bs A then .none
    else if 128 ≤ bs.getD A 0 then (readL (d + 1) (valAt bs A)).bind fun k => (readL d (bs.drop (A + 5 + lenAt bs A))).map fun r => .cons (bs.getD A 0) [] k r
    else (readL d (bs.drop (A + 5 + lenAt bs A))).map fun r => .cons (bs.getD A 0) (valAt bs A) .nil r := by
  conv => lhs; rw [drop5 bs A h, readL_cons]
  rw [show lenH (bs.getD (A + 1) 0) (bs.getD (A + 2) 0) (bs.getD (A + 3) 0) (bs.getD (A + 4) 0) = lenAt bs A from rfl]
  have e2 : (bs.drop (A + 5)).drop (lenAt bs A) = bs.drop (A + 5 + lenAt bs A) := by rw [List.drop_drop]
  rw [e2]
  by_cases hc : 8 < d ∨ bs.getD A 0 = 0 ∨ bs.length < A + 5 + lenAt bs A
  · rw [if_pos hc, if_pos (by rw [List.length_drop]; omega)]
  · rw [if_neg hc, if_neg (by rw [List.length_drop]; omega)]
    rfl
theorem Rd.bad {d : Nat} {bs : List Int} {A : Nat} {P : Forest} (h : Rd d bs A P) (h5 : A + 5 ≤ bs.length) (h2 : 8 < d ∨ bs.getD A 0 = 0 ∨ bs.length < A + 5 + lenAt bs A) : readL d bs = .none :=
  h.none (by rw [readL_at _ _ _ h5, if_pos h2])
theorem Rd.kidsNone {d : Nat} {bs : List Int} {A : Nat} {P : Forest} (h : Rd d bs A P) (h5 : A + 5 ≤ bs.length) (ht : 128 ≤ bs.getD A 0) (hk : readL (d + 1) (valAt bs A) = .none) : readL d bs = .none := by
  refine h.none ?_
  rw [readL_at _ _ _ h5]
  split
  · rfl
  · rw [hk]; rfl
theorem Rd.kids {d : Nat} {bs : List Int} {A : Nat} {P k : Forest} (h : Rd d bs A P) (h5 : A + 5 + lenAt bs A ≤ bs.length) (hd : d ≤ 8) (ht : 128 ≤ bs.getD A 0) (hk : readL (d + 1) (valAt bs A) = some k) : Rd d bs (A + 5 + lenAt bs A) (P.app (.cons (bs.getD A 0) [] k .nil)) := by
  unfold Rd at h ⊢
  rw [← h, readL_at d bs A (by omega), if_neg (by omega), if_pos ht, hk]
  cases readL d (bs.drop (A + 5 + lenAt bs A)) with
  | none => rfl
  | some r => simp [Forest.app_one]
theorem Rd.plain {d : Nat} {bs : List Int} {A : Nat} {P : Forest} (h : Rd d bs A P) (h5 : A + 5 + lenAt bs A ≤ bs.length) (hd : d ≤ 8) (h0 : bs.getD A 0 ≠ 0) (ht : ¬ 128 ≤ bs.getD A 0) : Rd d bs (A + 5 + lenAt bs A) (P.app (.cons (bs.getD A 0) (valAt bs A) .nil .nil)) := by
  unfold Rd at h ⊢
  rw [← h, readL_at d bs A (by omega), if_neg (by omega), if_neg ht]
  cases readL d (bs.drop (A + 5 + lenAt bs A)) with
  | none => rfl
  | some r => simp [Forest.app_one]
theorem valAt_length (bs : List Int) (A : Nat) (h5 : A + 5 + lenAt bs A ≤ bs.length) : (valAt bs A).length = lenAt bs A := by unfold valAt; rw [List.length_take, List.length_drop]; omega
theorem valAt_byte {bs : List Int} (A : Nat) (hb : ∀ z ∈ bs, 0 ≤ z ∧ z ≤ 255) : ∀ z ∈ valAt bs A, 0 ≤ z ∧ z ≤ 255 := fun z hz => hb z (List.mem_of_mem_drop (List.mem_of_mem_take hz))
end Go.Proofs.Ytdlhnipkhlihjaa
