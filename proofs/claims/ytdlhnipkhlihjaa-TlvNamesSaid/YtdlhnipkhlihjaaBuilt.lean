/- Rows that a function built, and their strings. -/
import Derived.Test.YtdlhnipkhlihjaaRow
import Derived.OwnWalk
import Derived.Test.YtdlhnipkhlihjaaIter
import Derived.Test.YtdlhnipkhlihjaaRows
import Derived.Lib.SlBytesConst
namespace Go.Proofs.Ytdlhnipkhlihjaa
open Go Go.RowKit
set_option linter.unusedVariables false
set_option linter.unnecessarySimpa false
theorem info_u8 : (Try.prog.info? 5).map (fun i => (i.zero, i.size, i.bytes)) = some (some (.int .u8 0), 1, 1) := by kernel_rfl
theorem ownsRow_slice {W : World} {base : Nat} {e : TypeId} {size : Nat} {v : Value} {n : Nat} {xs : List Value} (h : W.ownsRow base e size v n xs) : ∃ a cap, v = .slice a n cap ∧ (n = 0 ∨ ∃ g', a = some ⟨g', 0, none⟩ ∧ v.ownBlock = some g') := by
  rcases h.2 with ⟨rfl, h0⟩ | ⟨g', cap, cur, rfl, h1, h2, h3, h4, _⟩
  · exact ⟨none, 0, by rw [h0], .inl h0⟩
  · exact ⟨_, _, rfl, .inr ⟨g', rfl, rfl⟩⟩
theorem Row8.built (W : World) (t : TypeId) (fr : Nat × Nat) (zs : List Int) (hz : ∀ z ∈ zs, 0 ≤ z ∧ z ≤ 255) (hm : zs.length ≤ maxLen) (cs : Array Value) (hcs : cs = (zs.map (Value.int .u8)).toArray) (n : Nat) (hn : n = zs.length) :
    Row8 (W.alloc (.cells cs t fr)).heap.size (W.alloc (.cells cs t fr)) (.slice (some ⟨W.heap.size, 0, none⟩) n n) zs := by
  subst hcs hn
  refine ⟨.inr ⟨W.heap.size, 0, zs.length, rfl, by simp, Nat.le_refl _, hm, fun j hj => ?_⟩, hz⟩
  rw [Nat.zero_add, World.cell?_alloc_mark, getD_at _ _ hj]
  simp [hj]
theorem OwnBytes.conv {base : Nat} {zs : List Int} {v : Value} {W : World} (h : W.ownsRow base 5 1 v zs.length (zs.map (Value.int .u8))) :
    (convert 25 9 v).run Try.prog W = .ok (.string (strOfNums zs)) W :=
  convRow (RowI.of_own h).2 25 5 9 Try.underlying25 Try.underlying5 Try.underlying9
theorem below_of_wr {n g : Nat} {A B : World} (h : Wr (· = g) (· = g) A B) (hg : n ≤ g) (hn : n ≤ A.heap.size) : Below n A B :=
  ⟨h.os, h.tape, h.output, h.size, fun b hb => h.block b (by omega) (by omega)⟩
end Go.Proofs.Ytdlhnipkhlihjaa
