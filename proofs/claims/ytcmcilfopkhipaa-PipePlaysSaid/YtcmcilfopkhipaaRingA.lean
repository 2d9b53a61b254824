/- The functions of package ring that make no loop: none, Len, Cap, Room, New. -/
import Derived.Test.YtcmcilfopkhipaaRows
import Derived.Test.YtcmcilfopkhipaaRow
import Derived.WalkKit
import Derived.ProofKit
import Derived.OpenShut
import Derived.Outline
import Derived.Deep.QuietTactic
import Derived.BigQuiet
import Derived.Lib.Hide
import Derived.WalkSpells
import Derived.WalkLawsBesides
import Derived.Laws.Tables
namespace Go.Proofs.Ytcmcilfopkhipaa
open Go Go.RowKit
set_option linter.unusedVariables false
set_option linter.unnecessarySimpa false
/-- the cells of a ring -/
def ringCells (f : Nat → Int) (most first n : Int) : Array Value := ((List.range 64).map (fun i => Value.int .u8 (f i)) ++ [Value.int .i64 most, Value.int .i64 first, Value.int .i64 n]).toArray
/-- a ring lies in the block g -/
def RingAt (W : World) (g : Nat) (f : Nat → Int) (most first n : Int) : Prop := W.heap[g]? = some (.cells (ringCells f most first n) 86 (0, 0))
theorem zeroRing (w : World) : (zeroValue 86).run Try.prog w = .ok (.agg (ringCells (fun _ => 0) 0 0 0)) w := by kernel_rfl
theorem size_ringCells (f : Nat → Int) (a b c : Int) : (ringCells f a b c).size = 67 := by simp [ringCells]
theorem ringCells_get (f : Nat → Int) (a b c : Int) (i : Nat) (h : i < 64) : (ringCells f a b c)[i]? = some (.int .u8 (f i)) := by
  simp [ringCells, List.getElem?_append, h]
theorem ringCells_set (f : Nat → Int) (a b c : Int) (i : Nat) (v : Int) (h : i < 64) : (ringCells f a b c).setIfInBounds i (.int .u8 v) = ringCells (fun j => if j = i then v else f j) a b c := by
  unfold ringCells
  apply Array.ext'
  simp only [Array.toList_setIfInBounds]
  rw [List.set_append_left _ _ (by simpa using h)]
  congr 1
  apply List.ext_getElem (by simp)
  intro j h1 h2
  simp [List.getElem_set]
  by_cases e : i = j
  · simp [e]
  · simp [e, Ne.symm e]
theorem ringCells_64 (f : Nat → Int) (a b c m : Int) : (ringCells f a b c).setIfInBounds 64 (.int .i64 m) = ringCells f m b c := by
  unfold ringCells
  apply Array.ext'
  simp only [Array.toList_setIfInBounds]
  rw [List.set_append_right _ _ (by simp)]
  simp
theorem ringCells_65 (f : Nat → Int) (a b c m : Int) : (ringCells f a b c).setIfInBounds 65 (.int .i64 m) = ringCells f a m c := by
  unfold ringCells
  apply Array.ext'
  simp only [Array.toList_setIfInBounds]
  rw [List.set_append_right _ _ (by simp)]
  simp
theorem ringCells_66 (f : Nat → Int) (a b c m : Int) : (ringCells f a b c).setIfInBounds 66 (.int .i64 m) = ringCells f a b m := by
  unfold ringCells
  apply Array.ext'
  simp only [Array.toList_setIfInBounds]
  rw [List.set_append_right _ _ (by simp)]
  simp
section
variable {W : World} {g : Nat} {f : Nat → Int} {a b c : Int}
theorem RingAt.cell (h : RingAt W g f a b c) (i : Nat) (v : Value) (hv : (ringCells f a b c)[i]? = some v) : W.cell? ⟨g, i, none⟩ = some v := by
  rw [cell_of_row W g i _ _ _ h]; exact hv
theorem RingAt.most (h : RingAt W g f a b c) : W.cell? ⟨g, 64, none⟩ = some (.int .i64 a) := h.cell 64 _ (by simp [ringCells])
theorem RingAt.first (h : RingAt W g f a b c) : W.cell? ⟨g, 65, none⟩ = some (.int .i64 b) := h.cell 65 _ (by simp [ringCells])
theorem RingAt.num (h : RingAt W g f a b c) : W.cell? ⟨g, 66, none⟩ = some (.int .i64 c) := h.cell 66 _ (by simp [ringCells])
theorem RingAt.byte (h : RingAt W g f a b c) (i : Nat) (hi : i < 64) : W.cell? ⟨g, i, none⟩ = some (.int .u8 (f i)) := h.cell i _ (ringCells_get f a b c i hi)
theorem RingAt.frozen (h : RingAt W g f a b c) (i : Nat) : W.frozen? ⟨g, i, none⟩ = false := by
  unfold World.frozen?
  rw [show W.heap[(⟨g, i, none⟩ : Addr).block]? = _ from h]
  simp
theorem RingAt.set (h : RingAt W g f a b c) (i : Nat) (v : Value) {f' : Nat → Int} {a' b' c' : Int} (hs : (ringCells f a b c).setIfInBounds i v = ringCells f' a' b' c') : RingAt (W.setCell ⟨g, i, none⟩ v) g f' a' b' c' := by
  obtain ⟨hlt, hk⟩ := Array.getElem?_eq_some_iff.1 h
  show (W.heap.modify g _)[g]? = _
  rw [Array.getElem?_eq_getElem (by rw [Array.size_modify]; exact hlt), Array.getElem_modify_self, hk, ← hs]
  rfl
theorem RingAt.lt (h : RingAt W g f a b c) : g < W.heap.size := (Array.getElem?_eq_some_iff.1 h).1
theorem RingAt.same {B : World} (h : RingAt W g f a b c) (hs : B.heap[g]? = W.heap[g]?) : RingAt B g f a b c := hs.trans h
theorem RingAt.below {n : Nat} {B : World} (h : RingAt W g f a b c) (hn : g < n) (hs : Below n W B) : RingAt B g f a b c := h.same (hs.block _ hn)
end
set_option maxHeartbeats 1000000 in
theorem new_yes (c : Int) (w : World) (h1 : 1 ≤ c) (h2 : c ≤ 64) :
    Calls Try.prog 49 #[.int .i64 c] w fun e w' => e = .returned (.tuple #[.pointer (some ⟨w.heap.size, 0, none⟩), .int .i64 0]) ∧ w' = w.alloc (.cells (ringCells (fun _ => 0) c 0 0) 86) := by
  have hz := zeroRing
  have hs := size_ringCells (fun _ => 0) 0 0 0
  have h64 := ringCells_64 (fun _ => 0) 0 0 0 c
  go_enter Try.func49, Try.ntmps49
  go_wp2
  go_ret2
  exact ⟨rfl, rfl⟩
theorem new_no (c : Int) (w : World) (h : c < 1 ∨ (¬ c < 1 ∧ 64 < c)) :
    Calls Try.prog 49 #[.int .i64 c] w fun e w' => e = .returned (.tuple #[.pointer none, .int .i64 80]) ∧ w = w' := by
  rcases h with h | ⟨h1, h⟩ <;>
  · go_enter Try.func49, Try.ntmps49
    go_wp2
    go_ret2
    exact ⟨rfl, rfl⟩
theorem none_no (W : World) (g : Nat) (f : Nat → Int) (a b c : Int) (h : RingAt W g f a b c) (ha : 1 ≤ a) :
    Calls Try.prog 47 #[.pointer (some ⟨g, 0, none⟩)] W fun e w' => e = .returned (.bool false) ∧ W = w' := by
  have c1 := h.most
  have ha0 : (a == 0) = false := by simp; omega
  go_enter Try.func47, Try.ntmps47
  go_wp2
  go_ret
  exact ⟨rfl, rfl⟩
theorem len_any (W : World) (g : Nat) (f : Nat → Int) (a b c : Int) (h : RingAt W g f a b c) (ha : 1 ≤ a) :
    Calls Try.prog 34 #[.pointer (some ⟨g, 0, none⟩)] W fun e w' => e = .returned (.int .i64 c) ∧ W = w' := by
  have c1 := h.num
  go_enter Try.func34, Try.ntmps34
  go_wp2_with (go_at_call 47; refine (none_no W g f a b c h ha).mono ?_; rintro e w1 ⟨rfl, rfl⟩)
  go_ret
  exact ⟨rfl, rfl⟩
theorem cap_any (W : World) (g : Nat) (f : Nat → Int) (a b c : Int) (h : RingAt W g f a b c) (ha : 1 ≤ a) :
    Calls Try.prog 41 #[.pointer (some ⟨g, 0, none⟩)] W fun e w' => e = .returned (.int .i64 a) ∧ W = w' := by
  have c1 := h.most
  go_enter Try.func41, Try.ntmps41
  go_wp2_with (go_at_call 47; refine (none_no W g f a b c h ha).mono ?_; rintro e w1 ⟨rfl, rfl⟩)
  go_ret
  exact ⟨rfl, rfl⟩
theorem room_any (W : World) (g : Nat) (f : Nat → Int) (a b c : Int) (h : RingAt W g f a b c) (ha : 1 ≤ a) (ha2 : a ≤ 64) (hc : 0 ≤ c) (hc2 : c ≤ a) :
    Calls Try.prog 46 #[.pointer (some ⟨g, 0, none⟩)] W fun e w' => e = .returned (.int .i64 (a - c)) ∧ W = w' := by
  go_enter Try.func46, Try.ntmps46
  go_wp2_with (first
    | (go_at_call 41; refine (cap_any W g f a b c h ha).mono ?_; rintro e w1 ⟨rfl, rfl⟩)
    | (go_at_call 34; refine (len_any W g f a b c h ha).mono ?_; rintro e w1 ⟨rfl, rfl⟩))
  go_ret
  exact ⟨rfl, rfl⟩
end Go.Proofs.Ytcmcilfopkhipaa
