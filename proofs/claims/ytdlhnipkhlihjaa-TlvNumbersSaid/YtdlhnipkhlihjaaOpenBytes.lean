/- A slice of bytes, as it comes in. -/
import Derived.Test.YtdlhnipkhlihjaaRows
import Derived.Test.YtdlhnipkhlihjaaRow
import Derived.Deep.Slices
import Derived.Deep.Fields
import Derived.ChangeSame
import Derived.ShutString
import Derived.ChangeOld
namespace Go.Proofs.Ytdlhnipkhlihjaa
open Go Go.RowKit Go.ChangeShapes Go.WideShapes Go.ChangeAt Go.Deep
set_option linter.unusedVariables false
section
variable {H : Type} {enc : TypeId × Value → H} {w : World} {held : Bool}
theorem open_bytes {fuel : Nat} {v : Value} {x : DataW H × List MemPlace} (h : DataW.trod enc Try.prog w 0 (fun _ => true) held fuel 25 [v] = some x) :
    ∃ (a : Option Addr) (len cap : Nat) (zs : List Int), v = .slice a len cap ∧ Row8 w.heap.size w (.slice a len cap) zs := by
  rcases open_ints Try.underlying25 Try.underlying5 (by kernel_rfl) h with ⟨hcs, _⟩ | ⟨x, l, c, zs, hcs, _, hl, hm, hz, _, hcell, hwz⟩
  · injection hcs with hcs
    exact ⟨none, 0, 0, [], hcs, ⟨.inl ⟨_, _, rfl, rfl⟩, by simp⟩⟩
  · injection hcs with hcs
    exact ⟨some x, l, c, zs.take l, hcs, IsRow.row8 (.inr ⟨_, rfl, hl, hm, by simpa using hz, hcell, hwz⟩)⟩
end
end Go.Proofs.Ytdlhnipkhlihjaa
