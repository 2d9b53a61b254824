/- The walk of slices.Clone; what twin owes. -/
import Derived.Test.YtdlhnipkhlihjaaTlvE
import Derived.Test.YtdlhnipkhlihjaaTlvF
import Derived.Test.YtdlhnipkhlihjaaAnyV
import Derived.Deep.Cut
import Derived.Deep.CutRange
import Derived.Deep.CutBlock
import Derived.Deep.RegionWith
namespace Go.Proofs.Ytdlhnipkhlihjaa
open Go Go.RowKit
attribute [local go_sem] upV_value upV_skip upV_enter
set_option linter.unusedVariables false
set_option linter.unnecessarySimpa false
set_option maxHeartbeats 1000000 in
theorem clone_any (a : Option Addr) (len cap : Nat) (zs : List Int) (w : World) (n : Nat) (hn : n ≤ w.heap.size) (hr : Row8 n w (.slice a len cap) zs) (hsm : zs.length ≤ 1000000000) :
    Calls Try.prog 40 #[.slice a len cap] w fun e w' => ∃ v, e = .returned v ∧ w'.ownsRow w.heap.size 5 1 v len (zs.map (Value.int .u8)) ∧ Below w.heap.size w w' := by
  obtain ⟨i0, hi, hz0, hz1, hz2⟩ := info_parts info_u8
  have e1 := hr.1.open.1
  have qn := fun (a : Option Addr) (n c : Nat) (W : World) => Lib.run_eql_slice_nil (P := Try.prog) W 25 5 a n c 0 0 Try.underlying25
  cases a with
  | none =>
    have h0 : len = 0 := by
      rcases hr.1 with ⟨_, _, h, _⟩ | ⟨_, _, _, h, _⟩
      · injection h
      · injection h with h; cases h
    subst h0
    have hz : zs = [] := List.eq_nil_of_length_eq_zero e1
    subst hz
    go_enter Try.func40, Try.ntmps40
    go_wp2
    go_ret
    exact ⟨_, rfl, World.ownsRow_nil _ _ _ _, Below.refl _ _⟩
  | some p =>
    go_enter Try.func40, Try.ntmps40
    go_wp2_with (at_builtin; refine held ?_)
    unfold Held
    have hl0 := World.ownsRow_lit (base := w.heap.size) (e := 5) (size := 1) w #[] 0 (Nat.le_refl _) (by decide) rfl
    obtain ⟨W2, hW2⟩ : ∃ W2, W2 = w.alloc (.cells #[] 5) := ⟨_, rfl⟩
    have bb : Below w.heap.size w W2 := by rw [hW2]; exact (Below.refl _ w).alloc (Nat.le_refl _) _
    rw [← hW2] at hl0 ⊢
    refine wpList_append_row rfl _ _ 25 rfl w.heap.size 5 i0 Try.underlying25 hi hz0 hz1 hz2 (.slice (some ⟨w.heap.size, 0, none⟩) 0 0) 0 [] rfl hl0 (some p) len cap n zs rfl (hr.1.below ⟨bb.os, bb.tape, bb.output, bb.size, fun q hq => bb.block q (by omega)⟩) (by omega) bb.size ?_
    intro v1 u1 o1 hg1 hv1
    have b10 : Below w.heap.size w u1 := bb.grown hg1 bb.size (fun b h => by simp [Value.ownBlock] at h; omega)
    rw [Nat.zero_add, List.nil_append] at o1
    clear hl0 hW2 bb hg1 hv1
    go_wp2
    go_ret
    exact ⟨_, rfl, o1, b10⟩
end Go.Proofs.Ytdlhnipkhlihjaa
