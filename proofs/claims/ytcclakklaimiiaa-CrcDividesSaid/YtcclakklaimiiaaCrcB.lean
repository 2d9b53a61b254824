/- The walk of crc.table and of the iterator crc.halves. -/
import Derived.Test.YtcclakklaimiiaaCrcA
import Derived.Test.YtcclakklaimiiaaRow
import Derived.WalkSpells
import Derived.WalkLawsBesides
import Derived.Laws.NewBlocks
namespace Go.Proofs.Ytcclakklaimiiaa
open Go Go.RowKit
set_option linter.unusedVariables false
set_option linter.unnecessarySimpa false
/-- the table, when so many are in -/
def tabV (k : Nat) : Array Value := ((List.range 16).map fun i => Value.int .u32 ((if i < k then crcTs 4 i else 0 : Nat) : Int)).toArray
theorem tabV_size (k : Nat) : (tabV k).size = 16 := by simp [tabV]
theorem tabV_at (k i : Nat) (h : i < 16) : (tabV k)[i]? = some (.int .u32 ((if i < k then crcTs 4 i else 0 : Nat) : Int)) := by
  simp [tabV, h]
theorem tabV_zero : tabV 0 = #[.int .u32 0, .int .u32 0, .int .u32 0, .int .u32 0, .int .u32 0, .int .u32 0, .int .u32 0, .int .u32 0, .int .u32 0, .int .u32 0, .int .u32 0, .int .u32 0, .int .u32 0, .int .u32 0, .int .u32 0, .int .u32 0] := by kernel_rfl
theorem tabV_all : tabV 16 = #[.int .u32 (crcTs 4 0 : Nat), .int .u32 (crcTs 4 1 : Nat), .int .u32 (crcTs 4 2 : Nat), .int .u32 (crcTs 4 3 : Nat), .int .u32 (crcTs 4 4 : Nat), .int .u32 (crcTs 4 5 : Nat), .int .u32 (crcTs 4 6 : Nat), .int .u32 (crcTs 4 7 : Nat), .int .u32 (crcTs 4 8 : Nat), .int .u32 (crcTs 4 9 : Nat), .int .u32 (crcTs 4 10 : Nat), .int .u32 (crcTs 4 11 : Nat), .int .u32 (crcTs 4 12 : Nat), .int .u32 (crcTs 4 13 : Nat), .int .u32 (crcTs 4 14 : Nat), .int .u32 (crcTs 4 15 : Nat)] := by kernel_rfl
theorem tabV_set (k : Nat) (h : k < 16) : (tabV k).setIfInBounds k (.int .u32 (crcTs 4 k : Nat)) = tabV (k + 1) := by
  apply Array.ext_getElem?
  intro i
  rw [Array.getElem?_setIfInBounds]
  by_cases hi : i < 16
  · rw [tabV_at _ i hi, tabV_at _ i hi, tabV_size]
    by_cases hk : k = i
    · subst hk; simp [h]
    · by_cases h2 : i < k
      · have h3 : i < k + 1 := by omega
        simp [hk, h2, h3]
      · have h3 : ¬ i < k + 1 := by omega
        simp [hk, h2, h3]
  · have e1 : (tabV k)[i]? = none := Array.getElem?_eq_none (by rw [tabV_size]; omega)
    have e2 : (tabV (k + 1))[i]? = none := Array.getElem?_eq_none (by rw [tabV_size]; omega)
    have hk : ¬ k = i := by omega
    simp [hk, e1, e2]
set_option maxRecDepth 100000 in
set_option maxHeartbeats 2000000 in
theorem table_any (w : World) :
    Calls Try.prog 23 #[] w fun e w' => e = .returned (.agg (tabV 16)) ∧ Below w.heap.size w w' := by
  go_enter Try.func23, Try.ntmps23
  go_wp2
  rw [← tabV_zero]
  go_loopw [2, 3] (fun u i wr => ∃ k : Nat, k ≤ 16 ∧ i = .int .i64 k ∧ wr = (w.alloc (.cells (tabV 0) 46)).alloc (.cells (tabV k) 46)) (fun _ i _ => 16 - (intOf i).toNat)
  case atStart => exact ⟨0, by omega, rfl, rfl⟩
  case round =>
    obtain ⟨k, hk, rfl, rfl⟩ := hrel
    by_cases hlt : k < 16
    · have t1 : decide ((k : Int) < 16) = true := by simp; omega
      have hg : (tabV k)[k]? = some (.int .u32 0) := by rw [tabV_at k k hlt]; simp
      have hw : (k : Int) % 4294967296 = k := by omega
      go_wp2_with (go_at_call 34; refine (times_any k 4 _ (by omega) (by decide)).mono ?_; rintro e w' ⟨rfl, rfl⟩)
      go_roundw
      case rel => exact ⟨k + 1, by omega, rfl, by rw [tabV_set k hlt]⟩
      case measure => simp [intOf]; omega
    · have t1 : decide ((k : Int) < 16) = false := by simp; omega
      obtain rfl : k = 16 := by omega
      rw [tabV_all, tabV_zero]
      go_wp2
      refine bodyPost_ret (v := .agg (tabV 16)) ?_ rfl ⟨rfl, ?_⟩
      · rw [tabV_all]; simp [results, Try.results23, go_sem]
      · exact ((Below.refl _ w).alloc (Nat.le_refl _) _).alloc (by simp) _
end Go.Proofs.Ytcclakklaimiiaa
