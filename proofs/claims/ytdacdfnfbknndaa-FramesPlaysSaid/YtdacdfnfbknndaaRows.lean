/-
  No cell of these rows narrows 'for every input' (looked for: loops, veiled, ifaces, maps, wideKeys, modest, calm, conditions, laid).
  DERIVED. THE GIVEN ROWS OF THIS SEAT. 7 by the template 'for every input the law returns true; each argument reads behind the call as it read before'; 0 by the template 'total and deterministic' (their statements: YtdacdfnfbknndaaTotals.lean).
  GIVEN WITH THE SEED: the statements are not yours to turn. If you find one false, say at which input.
  Laid BY PROGRAM, IN A SANDBOX (cutbox-rows.mjs): the forced cells as the released guide's own fill.sh prints them over the translation 4e011d315f4609a6… (all of the seat's roots in one cut). By AI agents, Wed Nov 11 2026. No macro, syntax, notation, axiom, sorry.
-/
import Derived.Test.YtdacdfnfbknndaaChecked
import GoSem.Claim
import GoSem.ClaimJoined
import GoSem.ClaimMapViews
import Derived.JoinedTies
import Derived.KernelRfl
namespace Go.Proofs.Ytdacdfnfbknndaa
/- THE CELL 'sum', in the pinned program and in every row, IS THE sha256 OF THE DUMP (.gsa) THAT YtdacdfnfbknndaaProg.lean LOADS. Nothing in Lean hashes anything: it is a label: what it is worth is what the hold of that sum in a sandbox is worth. -/
noncomputable def Try.pinned : Pinned := { name := "ytdacdfnfbknndaa", sum := "4e011d315f4609a6dd875433db7f7171cac2c297cdc2942de0ee5da73b4af022", checked := Try.checked }
namespace Rows
def none {H : Type} : Left H := { results := [], args := [] }

/-- 'carryalllaw04.FramesParts': WHATEVER THE INPUT: true; the input reads as it did. -/
def framesPartsSpec : ChangeSpec := { name := "framesParts", fn := fun _ => fun
  | [d1, d2, d3] => { results := [.lit (.bool true)], args := [d1, d2, d3] }
  | _ => none }
def framesPartsRow : OpenClaim := { program := "ytdacdfnfbknndaa", sum := "4e011d315f4609a6dd875433db7f7171cac2c297cdc2942de0ee5da73b4af022", func := "carryall/carryalllaw04.FramesParts", spec := "framesParts", unfollowed := true, recurses := true, apart := false }
def FramesPartsSaid : Prop := framesPartsRow.holds Try.pinned (OpenSpec.ofChange framesPartsSpec)

/-- ITS FALSE NEIGHBOUR: 'it returns false'. Refute it at one input. -/
def framesPartsWrong : ChangeSpec := { name := "framesParts", fn := fun _ => fun
  | [d1, d2, d3] => { results := [.lit (.bool false)], args := [d1, d2, d3] }
  | _ => none }
def FramesPartsWrongFalsely : Prop := framesPartsRow.holds Try.pinned (OpenSpec.ofChange framesPartsWrong)

/-- 'carryalllaw04.FramesDouble': WHATEVER THE INPUT: true; the input reads as it did. -/
def framesDoubleSpec : ChangeSpec := { name := "framesDouble", fn := fun _ => fun
  | [d1, d2, d3] => { results := [.lit (.bool true)], args := [d1, d2, d3] }
  | _ => none }
def framesDoubleRow : OpenClaim := { program := "ytdacdfnfbknndaa", sum := "4e011d315f4609a6dd875433db7f7171cac2c297cdc2942de0ee5da73b4af022", func := "carryall/carryalllaw04.FramesDouble", spec := "framesDouble", unfollowed := true, recurses := true, apart := false }
def FramesDoubleSaid : Prop := framesDoubleRow.holds Try.pinned (OpenSpec.ofChange framesDoubleSpec)

/-- ITS FALSE NEIGHBOUR: 'it returns false'. Refute it at one input. -/
def framesDoubleWrong : ChangeSpec := { name := "framesDouble", fn := fun _ => fun
  | [d1, d2, d3] => { results := [.lit (.bool false)], args := [d1, d2, d3] }
  | _ => none }
def FramesDoubleWrongFalsely : Prop := framesDoubleRow.holds Try.pinned (OpenSpec.ofChange framesDoubleWrong)

/-- 'carryalllaw04.FramesApart': WHATEVER THE INPUT: true; the input reads as it did. -/
def framesApartSpec : ChangeSpec := { name := "framesApart", fn := fun _ => fun
  | [d1, d2] => { results := [.lit (.bool true)], args := [d1, d2] }
  | _ => none }
def framesApartRow : OpenClaim := { program := "ytdacdfnfbknndaa", sum := "4e011d315f4609a6dd875433db7f7171cac2c297cdc2942de0ee5da73b4af022", func := "carryall/carryalllaw04.FramesApart", spec := "framesApart", unfollowed := true, recurses := true, apart := false }
def FramesApartSaid : Prop := framesApartRow.holds Try.pinned (OpenSpec.ofChange framesApartSpec)

/-- ITS FALSE NEIGHBOUR: 'it returns false'. Refute it at one input. -/
def framesApartWrong : ChangeSpec := { name := "framesApart", fn := fun _ => fun
  | [d1, d2] => { results := [.lit (.bool false)], args := [d1, d2] }
  | _ => none }
def FramesApartWrongFalsely : Prop := framesApartRow.holds Try.pinned (OpenSpec.ofChange framesApartWrong)

/-- 'carryalllaw04.FramesLeast': WHATEVER THE INPUT: true; the input reads as it did. -/
def framesLeastSpec : ChangeSpec := { name := "framesLeast", fn := fun _ => fun
  | [d] => { results := [.lit (.bool true)], args := [d] }
  | _ => none }
def framesLeastRow : OpenClaim := { program := "ytdacdfnfbknndaa", sum := "4e011d315f4609a6dd875433db7f7171cac2c297cdc2942de0ee5da73b4af022", func := "carryall/carryalllaw04.FramesLeast", spec := "framesLeast", unfollowed := true, recurses := true, apart := false }
def FramesLeastSaid : Prop := framesLeastRow.holds Try.pinned (OpenSpec.ofChange framesLeastSpec)

/-- ITS FALSE NEIGHBOUR: 'it returns false'. Refute it at one input. -/
def framesLeastWrong : ChangeSpec := { name := "framesLeast", fn := fun _ => fun
  | [d] => { results := [.lit (.bool false)], args := [d] }
  | _ => none }
def FramesLeastWrongFalsely : Prop := framesLeastRow.holds Try.pinned (OpenSpec.ofChange framesLeastWrong)

/-- 'carryalllaw04.FramesPlays': WHATEVER THE INPUT: true; the input reads as it did. -/
def framesPlaysSpec : ChangeSpec := { name := "framesPlays", fn := fun _ => fun
  | [d1, d2] => { results := [.lit (.bool true)], args := [d1, d2] }
  | _ => none }
def framesPlaysRow : OpenClaim := { program := "ytdacdfnfbknndaa", sum := "4e011d315f4609a6dd875433db7f7171cac2c297cdc2942de0ee5da73b4af022", func := "carryall/carryalllaw04.FramesPlays", spec := "framesPlays", unfollowed := true, recurses := true, apart := false }
def FramesPlaysSaid : Prop := framesPlaysRow.holds Try.pinned (OpenSpec.ofChange framesPlaysSpec)

/-- ITS FALSE NEIGHBOUR: 'it returns false'. Refute it at one input. -/
def framesPlaysWrong : ChangeSpec := { name := "framesPlays", fn := fun _ => fun
  | [d1, d2] => { results := [.lit (.bool false)], args := [d1, d2] }
  | _ => none }
def FramesPlaysWrongFalsely : Prop := framesPlaysRow.holds Try.pinned (OpenSpec.ofChange framesPlaysWrong)

/-- 'carryalllaw04.FramesNames': WHATEVER THE INPUT: true; the input reads as it did. -/
def framesNamesSpec : ChangeSpec := { name := "framesNames", fn := fun _ => fun
  | [] => { results := [.lit (.bool true)], args := [] }
  | _ => none }
def framesNamesRow : OpenClaim := { program := "ytdacdfnfbknndaa", sum := "4e011d315f4609a6dd875433db7f7171cac2c297cdc2942de0ee5da73b4af022", func := "carryall/carryalllaw04.FramesNames", spec := "framesNames", unfollowed := true, recurses := true, apart := false }
def FramesNamesSaid : Prop := framesNamesRow.holds Try.pinned (OpenSpec.ofChange framesNamesSpec)

/-- ITS FALSE NEIGHBOUR: 'it returns false'. Refute it at one input. -/
def framesNamesWrong : ChangeSpec := { name := "framesNames", fn := fun _ => fun
  | [] => { results := [.lit (.bool false)], args := [] }
  | _ => none }
def FramesNamesWrongFalsely : Prop := framesNamesRow.holds Try.pinned (OpenSpec.ofChange framesNamesWrong)

/-- 'carryalllaw04.FramesTraces': WHATEVER THE INPUT: true; the input reads as it did. -/
def framesTracesSpec : ChangeSpec := { name := "framesTraces", fn := fun _ => fun
  | [d1, d2, d3] => { results := [.lit (.bool true)], args := [d1, d2, d3] }
  | _ => none }
def framesTracesRow : OpenClaim := { program := "ytdacdfnfbknndaa", sum := "4e011d315f4609a6dd875433db7f7171cac2c297cdc2942de0ee5da73b4af022", func := "carryall/carryalllaw04.FramesTraces", spec := "framesTraces", unfollowed := true, recurses := true, apart := false }
def FramesTracesSaid : Prop := framesTracesRow.holds Try.pinned (OpenSpec.ofChange framesTracesSpec)

/-- ITS FALSE NEIGHBOUR: 'it returns false'. Refute it at one input. -/
def framesTracesWrong : ChangeSpec := { name := "framesTraces", fn := fun _ => fun
  | [d1, d2, d3] => { results := [.lit (.bool false)], args := [d1, d2, d3] }
  | _ => none }
def FramesTracesWrongFalsely : Prop := framesTracesRow.holds Try.pinned (OpenSpec.ofChange framesTracesWrong)

/- THE SECOND FORM. 'bulk': how many values and letters a reading holds, each counted each time it is reached (what is shared counts as often as it is met; a slice's spare places count too). A statement '..UptoSaid' is the law's where the arguments, and the package variables that the reading takes, are together of bulk at most 1048576: NARROWER than '..Said'. Prove '..Said' where nothing that the law and all that it calls make is longer than what came in: it says more and counts as full. Else prove '..UptoSaid'. A law counts once. -/
mutual
def uptoBulk {H : Type} : DataW H → Nat
  | .lit (.string bytes) => bytes.length + 1
  | .lit _ => 1
  | .nil => 1
  | .ptr d => uptoBulk d + 1
  | .slice elems spare => uptoBulkAll elems + uptoBulkAll spare + 1
  | .agg parts => uptoBulkAll parts + 1
  | .iface _ d => uptoBulk d + 1
  | .map entries => uptoBulkEntries entries + 1
  | .held _ => 1
def uptoBulkAll {H : Type} : List (DataW H) → Nat
  | [] => 0
  | d :: r => uptoBulk d + uptoBulkAll r
def uptoBulkEntries {H : Type} : List (Lit × DataW H) → Nat
  | [] => 0
  | x :: r => uptoBulkEntry x + uptoBulkEntries r
def uptoBulkEntry {H : Type} : Lit × DataW H → Nat
  | (.string bytes, d) => bytes.length + uptoBulk d + 1
  | (_, d) => uptoBulk d + 1
 end
def uptoSmall : (H : Type) → List (DataW H) → Bool := fun _ ds => decide (uptoBulkAll ds ≤ 1048576)
def OpenSpec.upto (s : _root_.Go.ChangeSpec) : _root_.Go.OpenSpec := { _root_.Go.OpenSpec.ofChange s with cond := some uptoSmall }

/-- 'carryalllaw04.FramesParts', WHERE WHAT IT READS IS OF BULK AT MOST 1048576: true; the input reads as it did. -/
def framesPartsUptoRow : OpenClaim := { program := "ytdacdfnfbknndaa", sum := "4e011d315f4609a6dd875433db7f7171cac2c297cdc2942de0ee5da73b4af022", func := "carryall/carryalllaw04.FramesParts", spec := "framesParts", unfollowed := true, recurses := true, apart := false, narrowed := true }
def FramesPartsUptoSaid : Prop := framesPartsUptoRow.holds Try.pinned (OpenSpec.upto framesPartsSpec)

/-- 'carryalllaw04.FramesDouble', WHERE WHAT IT READS IS OF BULK AT MOST 1048576: true; the input reads as it did. -/
def framesDoubleUptoRow : OpenClaim := { program := "ytdacdfnfbknndaa", sum := "4e011d315f4609a6dd875433db7f7171cac2c297cdc2942de0ee5da73b4af022", func := "carryall/carryalllaw04.FramesDouble", spec := "framesDouble", unfollowed := true, recurses := true, apart := false, narrowed := true }
def FramesDoubleUptoSaid : Prop := framesDoubleUptoRow.holds Try.pinned (OpenSpec.upto framesDoubleSpec)

/-- 'carryalllaw04.FramesApart', WHERE WHAT IT READS IS OF BULK AT MOST 1048576: true; the input reads as it did. -/
def framesApartUptoRow : OpenClaim := { program := "ytdacdfnfbknndaa", sum := "4e011d315f4609a6dd875433db7f7171cac2c297cdc2942de0ee5da73b4af022", func := "carryall/carryalllaw04.FramesApart", spec := "framesApart", unfollowed := true, recurses := true, apart := false, narrowed := true }
def FramesApartUptoSaid : Prop := framesApartUptoRow.holds Try.pinned (OpenSpec.upto framesApartSpec)

/-- 'carryalllaw04.FramesLeast', WHERE WHAT IT READS IS OF BULK AT MOST 1048576: true; the input reads as it did. -/
def framesLeastUptoRow : OpenClaim := { program := "ytdacdfnfbknndaa", sum := "4e011d315f4609a6dd875433db7f7171cac2c297cdc2942de0ee5da73b4af022", func := "carryall/carryalllaw04.FramesLeast", spec := "framesLeast", unfollowed := true, recurses := true, apart := false, narrowed := true }
def FramesLeastUptoSaid : Prop := framesLeastUptoRow.holds Try.pinned (OpenSpec.upto framesLeastSpec)

/-- 'carryalllaw04.FramesPlays', WHERE WHAT IT READS IS OF BULK AT MOST 1048576: true; the input reads as it did. -/
def framesPlaysUptoRow : OpenClaim := { program := "ytdacdfnfbknndaa", sum := "4e011d315f4609a6dd875433db7f7171cac2c297cdc2942de0ee5da73b4af022", func := "carryall/carryalllaw04.FramesPlays", spec := "framesPlays", unfollowed := true, recurses := true, apart := false, narrowed := true }
def FramesPlaysUptoSaid : Prop := framesPlaysUptoRow.holds Try.pinned (OpenSpec.upto framesPlaysSpec)

/-- 'carryalllaw04.FramesNames', WHERE WHAT IT READS IS OF BULK AT MOST 1048576: true; the input reads as it did. -/
def framesNamesUptoRow : OpenClaim := { program := "ytdacdfnfbknndaa", sum := "4e011d315f4609a6dd875433db7f7171cac2c297cdc2942de0ee5da73b4af022", func := "carryall/carryalllaw04.FramesNames", spec := "framesNames", unfollowed := true, recurses := true, apart := false, narrowed := true }
def FramesNamesUptoSaid : Prop := framesNamesUptoRow.holds Try.pinned (OpenSpec.upto framesNamesSpec)

/-- 'carryalllaw04.FramesTraces', WHERE WHAT IT READS IS OF BULK AT MOST 1048576: true; the input reads as it did. -/
def framesTracesUptoRow : OpenClaim := { program := "ytdacdfnfbknndaa", sum := "4e011d315f4609a6dd875433db7f7171cac2c297cdc2942de0ee5da73b4af022", func := "carryall/carryalllaw04.FramesTraces", spec := "framesTraces", unfollowed := true, recurses := true, apart := false, narrowed := true }
def FramesTracesUptoSaid : Prop := framesTracesUptoRow.holds Try.pinned (OpenSpec.upto framesTracesSpec)

end Rows
end Go.Proofs.Ytdacdfnfbknndaa
