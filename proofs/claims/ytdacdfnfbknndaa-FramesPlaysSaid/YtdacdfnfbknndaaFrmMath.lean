/- Frames as cells. No program in sight. -/
import Derived.Test.YtdacdfnfbknndaaRow
namespace Go.Proofs.Ytdacdfnfbknndaa
open Go Go.RowKit
set_option linter.unusedVariables false
set_option linter.unusedSimpArgs false
/-- a frame: its bytes, its count -/
structure Fr where
  b : List Int
  n : Int
def encF (x : Fr) : List Value := x.b.map (Value.int .u8) ++ [.int .i64 x.n]
def flatFr (fs : List Fr) : List Value := fs.flatMap encF
/-- each has 64 bytes -/
def Len64 (fs : List Fr) : Prop := ∀ x ∈ fs, x.b.length = 64
theorem encF_len {x : Fr} (h : x.b.length = 64) : (encF x).length = 65 := by simp [encF, h]
theorem flatFr_len {fs : List Fr} (h : Len64 fs) : (flatFr fs).length = fs.length * 65 := by
  induction fs with
  | nil => rfl
  | cons x r ih =>
    have h1 := encF_len (h x (List.mem_cons_self ..))
    have h2 := ih fun y hy => h y (List.mem_cons_of_mem _ hy)
    unfold flatFr at h2 ⊢
    rw [List.flatMap_cons, List.length_append, h1, h2, List.length_cons]
    omega
theorem flatFr_append (a b : List Fr) : flatFr (a ++ b) = flatFr a ++ flatFr b := by simp [flatFr]
theorem Len64.take {fs : List Fr} (h : Len64 fs) (i : Nat) : Len64 (fs.take i) := fun x hx => h x (List.mem_of_mem_take hx)
theorem Len64.at {fs : List Fr} (h : Len64 fs) {i : Nat} (hi : i < fs.length) : fs[i].b.length = 64 := h _ (List.getElem_mem hi)
theorem Len64.set {fs : List Fr} (h : Len64 fs) (i : Nat) {x : Fr} (hx : x.b.length = 64) : Len64 (fs.set i x) := fun y hy => by
  rcases List.mem_or_eq_of_mem_set hy with hy | rfl
  · exact h y hy
  · exact hx
theorem split_at {α : Type} (fs : List α) (i : Nat) (hi : i < fs.length) : fs = fs.take i ++ fs[i] :: fs.drop (i + 1) := by
  rw [List.getElem_cons_drop hi, List.take_append_drop]
theorem set_split {α : Type} (fs : List α) (i : Nat) (hi : i < fs.length) (x : α) : fs.set i x = fs.take i ++ x :: fs.drop (i + 1) := by
  rw [List.set_eq_take_append_cons_drop, if_pos hi]
theorem flatFr_parts (fs : List Fr) (i : Nat) (hi : i < fs.length) : flatFr fs = flatFr (fs.take i) ++ (encF fs[i] ++ flatFr (fs.drop (i + 1))) := by
  have h := congrArg flatFr (split_at fs i hi)
  rw [h]
  unfold flatFr
  rw [List.flatMap_append, List.flatMap_cons]
theorem flatFr_set (fs : List Fr) (i : Nat) (hi : i < fs.length) (x : Fr) : flatFr (fs.set i x) = flatFr (fs.take i) ++ (encF x ++ flatFr (fs.drop (i + 1))) := by
  rw [set_split fs i hi]
  simp [flatFr]
theorem flatFr_takeLen {fs : List Fr} (h : Len64 fs) (i : Nat) (hi : i < fs.length) : (flatFr (fs.take i)).length = i * 65 := by
  rw [flatFr_len (h.take i), List.length_take]; congr 1; omega
theorem flatFr_get {fs : List Fr} (h : Len64 fs) (i : Nat) (hi : i < fs.length) (s : Nat) (hs : s < 65) : (flatFr fs)[i * 65 + s]? = (encF fs[i])[s]? := by
  have hl := flatFr_takeLen h i hi
  have h1 := encF_len (h.at hi)
  rw [flatFr_parts fs i hi, List.getElem?_append_right (by omega), List.getElem?_append_left (by omega)]
  congr 1; omega
theorem encF_byte {x : Fr} (h : x.b.length = 64) (s : Nat) (hs : s < 64) : (encF x)[s]? = some (.int .u8 (x.b[s]'(by omega))) := by
  unfold encF
  rw [List.getElem?_append_left (by rw [List.length_map]; omega), List.getElem?_map, List.getElem?_eq_getElem (by omega)]
  rfl
theorem encF_count {x : Fr} (h : x.b.length = 64) : (encF x)[64]? = some (.int .i64 x.n) := by
  unfold encF
  rw [List.getElem?_append_right (by rw [List.length_map]; omega), List.length_map, h]
  rfl
theorem flatFr_count {fs : List Fr} (h : Len64 fs) (i : Nat) (hi : i < fs.length) : (flatFr fs)[i * 65 + 64]? = some (.int .i64 fs[i].n) := by
  rw [flatFr_get h i hi 64 (by omega), encF_count (h.at hi)]
/-- some cells written within a frame -/
theorem flatFr_write {fs : List Fr} (h : Len64 fs) (i : Nat) (hi : i < fs.length) (s : Nat) (vs : List Value) (hs : s + vs.length ≤ 65) (x : Fr)
    (hx : (encF fs[i]).take s ++ vs ++ (encF fs[i]).drop (s + vs.length) = encF x) :
    (flatFr fs).take (i * 65 + s) ++ vs ++ (flatFr fs).drop (i * 65 + s + vs.length) = flatFr (fs.set i x) := by
  have hl := flatFr_takeLen h i hi
  have h1 := encF_len (h.at hi)
  rw [flatFr_set fs i hi, ← hx, flatFr_parts fs i hi]
  rw [List.take_append, List.take_of_length_le (by omega), List.drop_append, List.drop_eq_nil_of_le (as := flatFr (fs.take i)) (by omega)]
  rw [show i * 65 + s - (flatFr (fs.take i)).length = s from by omega, show i * 65 + s + vs.length - (flatFr (fs.take i)).length = s + vs.length from by omega]
  rw [List.take_append_of_le_length (by omega), List.drop_append_of_le_length (by omega)]
  simp only [List.append_assoc, List.nil_append]
theorem flatFr_setCell {fs : List Fr} (h : Len64 fs) (i : Nat) (hi : i < fs.length) (n : Int) : (flatFr fs).set (i * 65 + 64) (.int .i64 n) = flatFr (fs.set i ⟨fs[i].b, n⟩) := by
  have hb := h.at hi
  rw [← flatFr_write h i hi 64 [.int .i64 n] (by simp) ⟨fs[i].b, n⟩ (by
    simp only [encF, List.length_singleton]
    rw [List.take_append_of_le_length (by rw [List.length_map]; omega), List.take_of_length_le (by rw [List.length_map]; omega), List.drop_eq_nil_of_le (by simp [hb]), List.append_nil])]
  rw [List.set_eq_take_append_cons_drop, if_pos (by rw [flatFr_len h]; omega)]
  simp
end Go.Proofs.Ytdacdfnfbknndaa
