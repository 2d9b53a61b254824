/-
  No cell of these rows narrows 'for every input' (looked for: loops, veiled, ifaces, maps, wideKeys, modest, calm, conditions, laid).
  DERIVED. THE GIVEN ROWS OF THIS SEAT. 6 by the template 'for every input the law returns true; each argument reads behind the call as it read before'; 0 by the template 'total and deterministic' (their statements: YtcmcilfopkhipaaTotals.lean).
  GIVEN WITH THE SEED: the statements are not yours to turn. If you find one false, say at which input.
  Laid BY PROGRAM, IN A SANDBOX (cutbox-rows.mjs): the forced cells as the released guide's own fill.sh prints them over the translation 541fcb8dfb1c7640… (all of the seat's roots in one cut). By AI agents, Wed Nov 11 2026. No macro, syntax, notation, axiom, sorry.
-/
import Derived.Test.YtcmcilfopkhipaaChecked
import GoSem.Claim
import GoSem.ClaimJoined
import GoSem.ClaimMapViews
import Derived.JoinedTies
import Derived.KernelRfl
namespace Go.Proofs.Ytcmcilfopkhipaa
/- THE CELL 'sum', in the pinned program and in every row, IS THE sha256 OF THE DUMP (.gsa) THAT YtcmcilfopkhipaaProg.lean LOADS. Nothing in Lean hashes anything: it is a label: what it is worth is what the hold of that sum in a sandbox is worth. -/
noncomputable def Try.pinned : Pinned := { name := "ytcmcilfopkhipaa", sum := "541fcb8dfb1c7640200362c7bde6b261c76cee5e0a8a1c46b2f899a8ab8843e6", checked := Try.checked }
namespace Rows
def none {H : Type} : Left H := { results := [], args := [] }

/-- 'carryalllaw09.PipeStreams': WHATEVER THE INPUT: true; the input reads as it did. -/
def pipeStreamsSpec : ChangeSpec := { name := "pipeStreams", fn := fun _ => fun
  | [d1, d2, d3] => { results := [.lit (.bool true)], args := [d1, d2, d3] }
  | _ => none }
def pipeStreamsRow : OpenClaim := { program := "ytcmcilfopkhipaa", sum := "541fcb8dfb1c7640200362c7bde6b261c76cee5e0a8a1c46b2f899a8ab8843e6", func := "carryall/carryalllaw09.PipeStreams", spec := "pipeStreams", unfollowed := true, recurses := true, apart := false }
def PipeStreamsSaid : Prop := pipeStreamsRow.holds Try.pinned (OpenSpec.ofChange pipeStreamsSpec)

/-- ITS FALSE NEIGHBOUR: 'it returns false'. Refute it at one input. -/
def pipeStreamsWrong : ChangeSpec := { name := "pipeStreams", fn := fun _ => fun
  | [d1, d2, d3] => { results := [.lit (.bool false)], args := [d1, d2, d3] }
  | _ => none }
def PipeStreamsWrongFalsely : Prop := pipeStreamsRow.holds Try.pinned (OpenSpec.ofChange pipeStreamsWrong)

/-- 'carryalllaw09.PipeCounts': WHATEVER THE INPUT: true; the input reads as it did. -/
def pipeCountsSpec : ChangeSpec := { name := "pipeCounts", fn := fun _ => fun
  | [d1, d2, d3] => { results := [.lit (.bool true)], args := [d1, d2, d3] }
  | _ => none }
def pipeCountsRow : OpenClaim := { program := "ytcmcilfopkhipaa", sum := "541fcb8dfb1c7640200362c7bde6b261c76cee5e0a8a1c46b2f899a8ab8843e6", func := "carryall/carryalllaw09.PipeCounts", spec := "pipeCounts", unfollowed := true, recurses := true, apart := false }
def PipeCountsSaid : Prop := pipeCountsRow.holds Try.pinned (OpenSpec.ofChange pipeCountsSpec)

/-- ITS FALSE NEIGHBOUR: 'it returns false'. Refute it at one input. -/
def pipeCountsWrong : ChangeSpec := { name := "pipeCounts", fn := fun _ => fun
  | [d1, d2, d3] => { results := [.lit (.bool false)], args := [d1, d2, d3] }
  | _ => none }
def PipeCountsWrongFalsely : Prop := pipeCountsRow.holds Try.pinned (OpenSpec.ofChange pipeCountsWrong)

/-- 'carryalllaw09.PipeSides': WHATEVER THE INPUT: true; the input reads as it did. -/
def pipeSidesSpec : ChangeSpec := { name := "pipeSides", fn := fun _ => fun
  | [d1, d2] => { results := [.lit (.bool true)], args := [d1, d2] }
  | _ => none }
def pipeSidesRow : OpenClaim := { program := "ytcmcilfopkhipaa", sum := "541fcb8dfb1c7640200362c7bde6b261c76cee5e0a8a1c46b2f899a8ab8843e6", func := "carryall/carryalllaw09.PipeSides", spec := "pipeSides", unfollowed := true, recurses := true, apart := false }
def PipeSidesSaid : Prop := pipeSidesRow.holds Try.pinned (OpenSpec.ofChange pipeSidesSpec)

/-- ITS FALSE NEIGHBOUR: 'it returns false'. Refute it at one input. -/
def pipeSidesWrong : ChangeSpec := { name := "pipeSides", fn := fun _ => fun
  | [d1, d2] => { results := [.lit (.bool false)], args := [d1, d2] }
  | _ => none }
def PipeSidesWrongFalsely : Prop := pipeSidesRow.holds Try.pinned (OpenSpec.ofChange pipeSidesWrong)

/-- 'carryalllaw09.PipePlace': WHATEVER THE INPUT: true; the input reads as it did. -/
def pipePlaceSpec : ChangeSpec := { name := "pipePlace", fn := fun _ => fun
  | [d1, d2, d3] => { results := [.lit (.bool true)], args := [d1, d2, d3] }
  | _ => none }
def pipePlaceRow : OpenClaim := { program := "ytcmcilfopkhipaa", sum := "541fcb8dfb1c7640200362c7bde6b261c76cee5e0a8a1c46b2f899a8ab8843e6", func := "carryall/carryalllaw09.PipePlace", spec := "pipePlace", unfollowed := true, recurses := true, apart := false }
def PipePlaceSaid : Prop := pipePlaceRow.holds Try.pinned (OpenSpec.ofChange pipePlaceSpec)

/-- ITS FALSE NEIGHBOUR: 'it returns false'. Refute it at one input. -/
def pipePlaceWrong : ChangeSpec := { name := "pipePlace", fn := fun _ => fun
  | [d1, d2, d3] => { results := [.lit (.bool false)], args := [d1, d2, d3] }
  | _ => none }
def PipePlaceWrongFalsely : Prop := pipePlaceRow.holds Try.pinned (OpenSpec.ofChange pipePlaceWrong)

/-- 'carryalllaw09.PipePlays': WHATEVER THE INPUT: true; the input reads as it did. -/
def pipePlaysSpec : ChangeSpec := { name := "pipePlays", fn := fun _ => fun
  | [d1, d2] => { results := [.lit (.bool true)], args := [d1, d2] }
  | _ => none }
def pipePlaysRow : OpenClaim := { program := "ytcmcilfopkhipaa", sum := "541fcb8dfb1c7640200362c7bde6b261c76cee5e0a8a1c46b2f899a8ab8843e6", func := "carryall/carryalllaw09.PipePlays", spec := "pipePlays", unfollowed := true, recurses := true, apart := false }
def PipePlaysSaid : Prop := pipePlaysRow.holds Try.pinned (OpenSpec.ofChange pipePlaysSpec)

/-- ITS FALSE NEIGHBOUR: 'it returns false'. Refute it at one input. -/
def pipePlaysWrong : ChangeSpec := { name := "pipePlays", fn := fun _ => fun
  | [d1, d2] => { results := [.lit (.bool false)], args := [d1, d2] }
  | _ => none }
def PipePlaysWrongFalsely : Prop := pipePlaysRow.holds Try.pinned (OpenSpec.ofChange pipePlaysWrong)

/-- 'carryalllaw09.PipeNames': WHATEVER THE INPUT: true; the input reads as it did. -/
def pipeNamesSpec : ChangeSpec := { name := "pipeNames", fn := fun _ => fun
  | [] => { results := [.lit (.bool true)], args := [] }
  | _ => none }
def pipeNamesRow : OpenClaim := { program := "ytcmcilfopkhipaa", sum := "541fcb8dfb1c7640200362c7bde6b261c76cee5e0a8a1c46b2f899a8ab8843e6", func := "carryall/carryalllaw09.PipeNames", spec := "pipeNames", unfollowed := true, recurses := true, apart := false }
def PipeNamesSaid : Prop := pipeNamesRow.holds Try.pinned (OpenSpec.ofChange pipeNamesSpec)

/-- ITS FALSE NEIGHBOUR: 'it returns false'. Refute it at one input. -/
def pipeNamesWrong : ChangeSpec := { name := "pipeNames", fn := fun _ => fun
  | [] => { results := [.lit (.bool false)], args := [] }
  | _ => none }
def PipeNamesWrongFalsely : Prop := pipeNamesRow.holds Try.pinned (OpenSpec.ofChange pipeNamesWrong)

/- THE SECOND FORM. 'bulk': how many values and letters a reading holds, each counted each time it is reached (what is shared counts as often as it is met; a slice's spare places count too). A statement '..UptoSaid' is the law's where the arguments, and the package variables that the reading takes, are together of bulk at most 1048576: NARROWER than '..Said'. Prove '..Said' where nothing that the law and all that it calls make is longer than what came in: it says more and counts as full. Else prove '..UptoSaid'. A law counts once. -/
mutual
def uptoBulk {H : Type} : DataW H → Nat
  | .lit (.string bytes) => bytes.length + 1
  | .lit _ => 1
  | .nil => 1
  | .ptr d => uptoBulk d + 1
  | .slice elems spare => uptoBulkAll elems + uptoBulkAll spare + 1
  | .agg parts => uptoBulkAll parts + 1
  | .iface _ d => uptoBulk d + 1
  | .map entries => uptoBulkEntries entries + 1
  | .held _ => 1
def uptoBulkAll {H : Type} : List (DataW H) → Nat
  | [] => 0
  | d :: r => uptoBulk d + uptoBulkAll r
def uptoBulkEntries {H : Type} : List (Lit × DataW H) → Nat
  | [] => 0
  | x :: r => uptoBulkEntry x + uptoBulkEntries r
def uptoBulkEntry {H : Type} : Lit × DataW H → Nat
  | (.string bytes, d) => bytes.length + uptoBulk d + 1
  | (_, d) => uptoBulk d + 1
 end
def uptoSmall : (H : Type) → List (DataW H) → Bool := fun _ ds => decide (uptoBulkAll ds ≤ 1048576)
def OpenSpec.upto (s : _root_.Go.ChangeSpec) : _root_.Go.OpenSpec := { _root_.Go.OpenSpec.ofChange s with cond := some uptoSmall }

/-- 'carryalllaw09.PipeStreams', WHERE WHAT IT READS IS OF BULK AT MOST 1048576: true; the input reads as it did. -/
def pipeStreamsUptoRow : OpenClaim := { program := "ytcmcilfopkhipaa", sum := "541fcb8dfb1c7640200362c7bde6b261c76cee5e0a8a1c46b2f899a8ab8843e6", func := "carryall/carryalllaw09.PipeStreams", spec := "pipeStreams", unfollowed := true, recurses := true, apart := false, narrowed := true }
def PipeStreamsUptoSaid : Prop := pipeStreamsUptoRow.holds Try.pinned (OpenSpec.upto pipeStreamsSpec)

/-- 'carryalllaw09.PipeCounts', WHERE WHAT IT READS IS OF BULK AT MOST 1048576: true; the input reads as it did. -/
def pipeCountsUptoRow : OpenClaim := { program := "ytcmcilfopkhipaa", sum := "541fcb8dfb1c7640200362c7bde6b261c76cee5e0a8a1c46b2f899a8ab8843e6", func := "carryall/carryalllaw09.PipeCounts", spec := "pipeCounts", unfollowed := true, recurses := true, apart := false, narrowed := true }
def PipeCountsUptoSaid : Prop := pipeCountsUptoRow.holds Try.pinned (OpenSpec.upto pipeCountsSpec)

/-- 'carryalllaw09.PipeSides', WHERE WHAT IT READS IS OF BULK AT MOST 1048576: true; the input reads as it did. -/
def pipeSidesUptoRow : OpenClaim := { program := "ytcmcilfopkhipaa", sum := "541fcb8dfb1c7640200362c7bde6b261c76cee5e0a8a1c46b2f899a8ab8843e6", func := "carryall/carryalllaw09.PipeSides", spec := "pipeSides", unfollowed := true, recurses := true, apart := false, narrowed := true }
def PipeSidesUptoSaid : Prop := pipeSidesUptoRow.holds Try.pinned (OpenSpec.upto pipeSidesSpec)

/-- 'carryalllaw09.PipePlace', WHERE WHAT IT READS IS OF BULK AT MOST 1048576: true; the input reads as it did. -/
def pipePlaceUptoRow : OpenClaim := { program := "ytcmcilfopkhipaa", sum := "541fcb8dfb1c7640200362c7bde6b261c76cee5e0a8a1c46b2f899a8ab8843e6", func := "carryall/carryalllaw09.PipePlace", spec := "pipePlace", unfollowed := true, recurses := true, apart := false, narrowed := true }
def PipePlaceUptoSaid : Prop := pipePlaceUptoRow.holds Try.pinned (OpenSpec.upto pipePlaceSpec)

/-- 'carryalllaw09.PipePlays', WHERE WHAT IT READS IS OF BULK AT MOST 1048576: true; the input reads as it did. -/
def pipePlaysUptoRow : OpenClaim := { program := "ytcmcilfopkhipaa", sum := "541fcb8dfb1c7640200362c7bde6b261c76cee5e0a8a1c46b2f899a8ab8843e6", func := "carryall/carryalllaw09.PipePlays", spec := "pipePlays", unfollowed := true, recurses := true, apart := false, narrowed := true }
def PipePlaysUptoSaid : Prop := pipePlaysUptoRow.holds Try.pinned (OpenSpec.upto pipePlaysSpec)

/-- 'carryalllaw09.PipeNames', WHERE WHAT IT READS IS OF BULK AT MOST 1048576: true; the input reads as it did. -/
def pipeNamesUptoRow : OpenClaim := { program := "ytcmcilfopkhipaa", sum := "541fcb8dfb1c7640200362c7bde6b261c76cee5e0a8a1c46b2f899a8ab8843e6", func := "carryall/carryalllaw09.PipeNames", spec := "pipeNames", unfollowed := true, recurses := true, apart := false, narrowed := true }
def PipeNamesUptoSaid : Prop := pipeNamesUptoRow.holds Try.pinned (OpenSpec.upto pipeNamesSpec)

end Rows
end Go.Proofs.Ytcmcilfopkhipaa
