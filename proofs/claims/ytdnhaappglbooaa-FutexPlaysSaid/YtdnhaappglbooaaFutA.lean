/- The walks of futex.Check, find, and of slices.Clone, IndexFunc at those who wait. -/
import Derived.Test.YtdnhaappglbooaaFutMath
import Derived.Test.YtdnhaappglbooaaAppendVals
import Derived.Test.YtdnhaappglbooaaIter
import Derived.Test.YtdnhaappglbooaaRows
import Derived.WalkKit
import Derived.ProofKit
import Derived.OpenShut
import Derived.Outline
import Derived.Deep.QuietTactic
import Derived.BigQuiet
import Derived.Lib.Hide
import Derived.WalkSpells
import Derived.WalkLawsBesides
import Derived.Laws.Tables
import Derived.Laws.StructEq
import Derived.BigRegion
namespace Go.Proofs.Ytdnhaappglbooaa
open Go Go.RowKit
set_option linter.unusedVariables false
set_option linter.unnecessarySimpa false
set_option linter.unusedSimpArgs false
theorem info_w : (Try.prog.info? 35).map (fun i => (i.zero, i.size, i.bytes)) = some (some (.agg #[.int .i64 0, .int .i64 0, .int .i64 0, .int .i64 0]), 4, 32) := by kernel_rfl
/-- may a key be? -/
def MayK (k : Ky) : Prop := 0 ≤ k.o ∧ ((k.p = 0 ∧ 0 ≤ k.f ∧ k.f < 256 ∧ k.o < 64) ∨ (1 ≤ k.p ∧ k.f = 0 ∧ k.o < 4096))
instance (k : Ky) : Decidable (MayK k) := by unfold MayK; exact inferInstance
def mayK (k : Ky) : Bool := decide (MayK k)
def aggK (k : Ky) : Value := .agg (encK k).toArray
def aggW (x : Wt) : Value := .agg (encW x).toArray
set_option maxRecDepth 100000 in
set_option maxHeartbeats 4000000 in
theorem check_any (k : Ky) (W : World) : Calls Try.prog 18 #[aggK k] W fun e W' => e = .returned (.int .i64 (if mayK k then 0 else 2)) ∧ Below W.heap.size W W' := by
  obtain ⟨p, f, o⟩ := k
  show Calls Try.prog _ #[.agg #[.int .i64 p, .int .i64 f, .int .i64 o]] W _
  obtain ⟨m, hm⟩ : ∃ m, m = mayK ⟨p, f, o⟩ := ⟨_, rfl⟩
  rw [← hm]
  have bX : ∀ X : Obj, Below W.heap.size W (W.alloc X) := fun X => (Below.refl _ W).alloc (Nat.le_refl _) X
  have no : ¬ MayK ⟨p, f, o⟩ → m = false := fun h => by rw [hm]; exact decide_eq_false h
  have yes : MayK ⟨p, f, o⟩ → m = true := fun h => by rw [hm]; exact decide_eq_true h
  clear hm
  have gE : ∀ b : Bool, (m = b) → Value.int .i64 (if m then 0 else 2) = .int .i64 (if b then 0 else 2) := fun b h => by rw [h]
  have geq : ∀ x y : Int, decide (y ≤ x) = decide (x ≥ y) := fun x y => rfl
  rcases (by omega : p = 0 ∨ 1 ≤ p ∨ p < 0) with h0 | h0 | h0
  · subst h0
    rcases (by omega : f < 0 ∨ (0 ≤ f ∧ 256 ≤ f) ∨ (0 ≤ f ∧ f < 256)) with h | h | h
    · rcases (by omega : o < 0 ∨ ¬ o < 0) with h | h
      · rw [gE _ (no (by unfold MayK; simp only; omega))]
        have t0 : decide (f ≥ 0) = false := decide_eq_false (by omega)
        have t1 : decide (o < 0) = true := decide_eq_true (by omega)
        clear no yes gE geq
        go_enter Try.func18, Try.ntmps18
        go_wp2
        go_ret
        exact ⟨rfl, bX _⟩
      · rw [gE _ (no (by unfold MayK; simp only; omega))]
        have t0 : decide (f ≥ 0) = false := decide_eq_false (by omega)
        have t1 : decide (o < 0) = false := decide_eq_false (by omega)
        clear no yes gE geq
        go_enter Try.func18, Try.ntmps18
        go_wp2
        go_ret
        exact ⟨rfl, bX _⟩
    · rcases (by omega : o < 0 ∨ ¬ o < 0) with h | h
      · rw [gE _ (no (by unfold MayK; simp only; omega))]
        have t0 : decide (f ≥ 0) = true := decide_eq_true (by omega)
        have t1 : decide (f < 256) = false := decide_eq_false (by omega)
        have t2 : decide (o < 0) = true := decide_eq_true (by omega)
        clear no yes gE geq
        go_enter Try.func18, Try.ntmps18
        go_wp2
        go_ret
        exact ⟨rfl, bX _⟩
      · rw [gE _ (no (by unfold MayK; simp only; omega))]
        have t0 : decide (f ≥ 0) = true := decide_eq_true (by omega)
        have t1 : decide (f < 256) = false := decide_eq_false (by omega)
        have t2 : decide (o < 0) = false := decide_eq_false (by omega)
        clear no yes gE geq
        go_enter Try.func18, Try.ntmps18
        go_wp2
        go_ret
        exact ⟨rfl, bX _⟩
    · rcases (by omega : 64 ≤ o ∨ o < 0 ∨ (0 ≤ o ∧ o < 64)) with h | h | h
      · rw [gE _ (no (by unfold MayK; simp only; omega))]
        have t0 : decide (f ≥ 0) = true := decide_eq_true (by omega)
        have t1 : decide (f < 256) = true := decide_eq_true (by omega)
        have t2 : decide (o < 64) = false := decide_eq_false (by omega)
        have t3 : decide (o < 0) = false := decide_eq_false (by omega)
        clear no yes gE geq
        go_enter Try.func18, Try.ntmps18
        go_wp2
        go_ret
        exact ⟨rfl, bX _⟩
      · rw [gE _ (no (by unfold MayK; simp only; omega))]
        have t0 : decide (f ≥ 0) = true := decide_eq_true (by omega)
        have t1 : decide (f < 256) = true := decide_eq_true (by omega)
        have t2 : decide (o < 64) = true := decide_eq_true (by omega)
        have t3 : decide (o < 0) = true := decide_eq_true (by omega)
        clear no yes gE geq
        go_enter Try.func18, Try.ntmps18
        go_wp2
        go_ret
        exact ⟨rfl, bX _⟩
      · rw [gE _ (yes (by unfold MayK; simp; omega))]
        have t0 : decide (f ≥ 0) = true := decide_eq_true (by omega)
        have t1 : decide (f < 256) = true := decide_eq_true (by omega)
        have t2 : decide (o < 64) = true := decide_eq_true (by omega)
        have t3 : decide (o < 0) = false := decide_eq_false (by omega)
        clear no yes gE geq
        go_enter Try.func18, Try.ntmps18
        go_wp2
        go_ret
        exact ⟨rfl, bX _⟩
  · rcases (by omega : f ≠ 0 ∨ f = 0) with h | h
    · rcases (by omega : o < 0 ∨ ¬ o < 0) with h | h
      · rw [gE _ (no (by unfold MayK; simp only; omega))]
        have t0 : (p == 0) = false := by simpa using (by omega : ¬ p = 0)
        have t1 : decide (p ≥ 1) = true := decide_eq_true (by omega)
        have t2 : (f == 0) = false := by simpa using (by omega : ¬ f = 0)
        have t3 : decide (o < 0) = true := decide_eq_true (by omega)
        clear no yes gE geq
        go_enter Try.func18, Try.ntmps18
        go_wp2
        go_ret
        exact ⟨rfl, bX _⟩
      · rw [gE _ (no (by unfold MayK; simp only; omega))]
        have t0 : (p == 0) = false := by simpa using (by omega : ¬ p = 0)
        have t1 : decide (p ≥ 1) = true := decide_eq_true (by omega)
        have t2 : (f == 0) = false := by simpa using (by omega : ¬ f = 0)
        have t3 : decide (o < 0) = false := decide_eq_false (by omega)
        clear no yes gE geq
        go_enter Try.func18, Try.ntmps18
        go_wp2
        go_ret
        exact ⟨rfl, bX _⟩
    · rcases (by omega : 4096 ≤ o ∨ o < 0 ∨ (0 ≤ o ∧ o < 4096)) with h | h | h
      · rw [gE _ (no (by unfold MayK; simp only; omega))]
        have t0 : (p == 0) = false := by simpa using (by omega : ¬ p = 0)
        have t1 : decide (p ≥ 1) = true := decide_eq_true (by omega)
        have t2 : (f == 0) = true := by simpa using (by omega : f = 0)
        have t3 : decide (o < 4096) = false := decide_eq_false (by omega)
        have t4 : decide (o < 0) = false := decide_eq_false (by omega)
        clear no yes gE geq
        go_enter Try.func18, Try.ntmps18
        go_wp2
        go_ret
        exact ⟨rfl, bX _⟩
      · rw [gE _ (no (by unfold MayK; simp only; omega))]
        have t0 : (p == 0) = false := by simpa using (by omega : ¬ p = 0)
        have t1 : decide (p ≥ 1) = true := decide_eq_true (by omega)
        have t2 : (f == 0) = true := by simpa using (by omega : f = 0)
        have t3 : decide (o < 4096) = true := decide_eq_true (by omega)
        have t4 : decide (o < 0) = true := decide_eq_true (by omega)
        clear no yes gE geq
        go_enter Try.func18, Try.ntmps18
        go_wp2
        go_ret
        exact ⟨rfl, bX _⟩
      · rw [gE _ (yes (by unfold MayK; simp; omega))]
        have t0 : (p == 0) = false := by simpa using (by omega : ¬ p = 0)
        have t1 : decide (p ≥ 1) = true := decide_eq_true (by omega)
        have t2 : (f == 0) = true := by simpa using (by omega : f = 0)
        have t3 : decide (o < 4096) = true := decide_eq_true (by omega)
        have t4 : decide (o < 0) = false := decide_eq_false (by omega)
        clear no yes gE geq
        go_enter Try.func18, Try.ntmps18
        go_wp2
        go_ret
        exact ⟨rfl, bX _⟩
  · rcases (by omega : o < 0 ∨ ¬ o < 0) with h | h
    · rw [gE _ (no (by unfold MayK; simp only; omega))]
      have t0 : (p == 0) = false := by simpa using (by omega : ¬ p = 0)
      have t1 : decide (p ≥ 1) = false := decide_eq_false (by omega)
      have t2 : decide (o < 0) = true := decide_eq_true (by omega)
      clear no yes gE geq
      go_enter Try.func18, Try.ntmps18
      go_wp2
      go_ret
      exact ⟨rfl, bX _⟩
    · rw [gE _ (no (by unfold MayK; simp only; omega))]
      have t0 : (p == 0) = false := by simpa using (by omega : ¬ p = 0)
      have t1 : decide (p ≥ 1) = false := decide_eq_false (by omega)
      have t2 : decide (o < 0) = false := decide_eq_false (by omega)
      clear no yes gE geq
      go_enter Try.func18, Try.ntmps18
      go_wp2
      go_ret
      exact ⟨rfl, bX _⟩
end Go.Proofs.Ytdnhaappglbooaa
