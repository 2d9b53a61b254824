/-
  No cell of these rows narrows 'for every input' (looked for: loops, veiled, ifaces, maps, wideKeys, modest, calm, conditions, laid).
  DERIVED. THE GIVEN ROWS OF THIS SEAT. 6 by the template 'for every input the law returns true; each argument reads behind the call as it read before'; 0 by the template 'total and deterministic' (their statements: YtcclakklaimiiaaTotals.lean).
  GIVEN WITH THE SEED: the statements are not yours to turn. If you find one false, say at which input.
  Laid BY PROGRAM, IN A SANDBOX (cutbox-rows.mjs): the forced cells as the released guide's own fill.sh prints them over the translation 994f32123d28e310… (all of the seat's roots in one cut). By AI agents, Wed Nov 11 2026. No macro, syntax, notation, axiom, sorry.
-/
import Derived.Test.YtcclakklaimiiaaChecked
import GoSem.Claim
import GoSem.ClaimJoined
import GoSem.ClaimMapViews
import Derived.JoinedTies
import Derived.KernelRfl
namespace Go.Proofs.Ytcclakklaimiiaa
/- THE CELL 'sum', in the pinned program and in every row, IS THE sha256 OF THE DUMP (.gsa) THAT YtcclakklaimiiaaProg.lean LOADS. Nothing in Lean hashes anything: it is a label: what it is worth is what the hold of that sum in a sandbox is worth. -/
noncomputable def Try.pinned : Pinned := { name := "ytcclakklaimiiaa", sum := "994f32123d28e310154390801c00bb8271aecb45aa00830d6500095a8de11c22", checked := Try.checked }
namespace Rows
def none {H : Type} : Left H := { results := [], args := [] }

/-- 'carryalllaw23.CrcPowers': WHATEVER THE INPUT: true; the input reads as it did. -/
def crcPowersSpec : ChangeSpec := { name := "crcPowers", fn := fun _ => fun
  | [d1, d2, d3] => { results := [.lit (.bool true)], args := [d1, d2, d3] }
  | _ => none }
def crcPowersRow : OpenClaim := { program := "ytcclakklaimiiaa", sum := "994f32123d28e310154390801c00bb8271aecb45aa00830d6500095a8de11c22", func := "carryall/carryalllaw23.CrcPowers", spec := "crcPowers", unfollowed := true, recurses := true, apart := false }
def CrcPowersSaid : Prop := crcPowersRow.holds Try.pinned (OpenSpec.ofChange crcPowersSpec)

/-- ITS FALSE NEIGHBOUR: 'it returns false'. Refute it at one input. -/
def crcPowersWrong : ChangeSpec := { name := "crcPowers", fn := fun _ => fun
  | [d1, d2, d3] => { results := [.lit (.bool false)], args := [d1, d2, d3] }
  | _ => none }
def CrcPowersWrongFalsely : Prop := crcPowersRow.holds Try.pinned (OpenSpec.ofChange crcPowersWrong)

/-- 'carryalllaw23.CrcJoins': WHATEVER THE INPUT: true; the input reads as it did. -/
def crcJoinsSpec : ChangeSpec := { name := "crcJoins", fn := fun _ => fun
  | [d1, d2, d3] => { results := [.lit (.bool true)], args := [d1, d2, d3] }
  | _ => none }
def crcJoinsRow : OpenClaim := { program := "ytcclakklaimiiaa", sum := "994f32123d28e310154390801c00bb8271aecb45aa00830d6500095a8de11c22", func := "carryall/carryalllaw23.CrcJoins", spec := "crcJoins", unfollowed := true, recurses := true, apart := false }
def CrcJoinsSaid : Prop := crcJoinsRow.holds Try.pinned (OpenSpec.ofChange crcJoinsSpec)

/-- ITS FALSE NEIGHBOUR: 'it returns false'. Refute it at one input. -/
def crcJoinsWrong : ChangeSpec := { name := "crcJoins", fn := fun _ => fun
  | [d1, d2, d3] => { results := [.lit (.bool false)], args := [d1, d2, d3] }
  | _ => none }
def CrcJoinsWrongFalsely : Prop := crcJoinsRow.holds Try.pinned (OpenSpec.ofChange crcJoinsWrong)

/-- 'carryalllaw23.CrcFits': WHATEVER THE INPUT: true; the input reads as it did. -/
def crcFitsSpec : ChangeSpec := { name := "crcFits", fn := fun _ => fun
  | [d1, d2, d3] => { results := [.lit (.bool true)], args := [d1, d2, d3] }
  | _ => none }
def crcFitsRow : OpenClaim := { program := "ytcclakklaimiiaa", sum := "994f32123d28e310154390801c00bb8271aecb45aa00830d6500095a8de11c22", func := "carryall/carryalllaw23.CrcFits", spec := "crcFits", unfollowed := true, recurses := true, apart := false }
def CrcFitsSaid : Prop := crcFitsRow.holds Try.pinned (OpenSpec.ofChange crcFitsSpec)

/-- ITS FALSE NEIGHBOUR: 'it returns false'. Refute it at one input. -/
def crcFitsWrong : ChangeSpec := { name := "crcFits", fn := fun _ => fun
  | [d1, d2, d3] => { results := [.lit (.bool false)], args := [d1, d2, d3] }
  | _ => none }
def CrcFitsWrongFalsely : Prop := crcFitsRow.holds Try.pinned (OpenSpec.ofChange crcFitsWrong)

/-- 'carryalllaw23.CrcDivides': WHATEVER THE INPUT: true; the input reads as it did. -/
def crcDividesSpec : ChangeSpec := { name := "crcDivides", fn := fun _ => fun
  | [d1, d2] => { results := [.lit (.bool true)], args := [d1, d2] }
  | _ => none }
def crcDividesRow : OpenClaim := { program := "ytcclakklaimiiaa", sum := "994f32123d28e310154390801c00bb8271aecb45aa00830d6500095a8de11c22", func := "carryall/carryalllaw23.CrcDivides", spec := "crcDivides", unfollowed := true, recurses := true, apart := false }
def CrcDividesSaid : Prop := crcDividesRow.holds Try.pinned (OpenSpec.ofChange crcDividesSpec)

/-- ITS FALSE NEIGHBOUR: 'it returns false'. Refute it at one input. -/
def crcDividesWrong : ChangeSpec := { name := "crcDivides", fn := fun _ => fun
  | [d1, d2] => { results := [.lit (.bool false)], args := [d1, d2] }
  | _ => none }
def CrcDividesWrongFalsely : Prop := crcDividesRow.holds Try.pinned (OpenSpec.ofChange crcDividesWrong)

/-- 'carryalllaw23.CrcTurned': WHATEVER THE INPUT: true; the input reads as it did. -/
def crcTurnedSpec : ChangeSpec := { name := "crcTurned", fn := fun _ => fun
  | [d1, d2, d3] => { results := [.lit (.bool true)], args := [d1, d2, d3] }
  | _ => none }
def crcTurnedRow : OpenClaim := { program := "ytcclakklaimiiaa", sum := "994f32123d28e310154390801c00bb8271aecb45aa00830d6500095a8de11c22", func := "carryall/carryalllaw23.CrcTurned", spec := "crcTurned", unfollowed := true, recurses := true, apart := false }
def CrcTurnedSaid : Prop := crcTurnedRow.holds Try.pinned (OpenSpec.ofChange crcTurnedSpec)

/-- ITS FALSE NEIGHBOUR: 'it returns false'. Refute it at one input. -/
def crcTurnedWrong : ChangeSpec := { name := "crcTurned", fn := fun _ => fun
  | [d1, d2, d3] => { results := [.lit (.bool false)], args := [d1, d2, d3] }
  | _ => none }
def CrcTurnedWrongFalsely : Prop := crcTurnedRow.holds Try.pinned (OpenSpec.ofChange crcTurnedWrong)

/-- 'carryalllaw23.CrcNames': WHATEVER THE INPUT: true; the input reads as it did. -/
def crcNamesSpec : ChangeSpec := { name := "crcNames", fn := fun _ => fun
  | [] => { results := [.lit (.bool true)], args := [] }
  | _ => none }
def crcNamesRow : OpenClaim := { program := "ytcclakklaimiiaa", sum := "994f32123d28e310154390801c00bb8271aecb45aa00830d6500095a8de11c22", func := "carryall/carryalllaw23.CrcNames", spec := "crcNames", unfollowed := true, recurses := true, apart := false }
def CrcNamesSaid : Prop := crcNamesRow.holds Try.pinned (OpenSpec.ofChange crcNamesSpec)

/-- ITS FALSE NEIGHBOUR: 'it returns false'. Refute it at one input. -/
def crcNamesWrong : ChangeSpec := { name := "crcNames", fn := fun _ => fun
  | [] => { results := [.lit (.bool false)], args := [] }
  | _ => none }
def CrcNamesWrongFalsely : Prop := crcNamesRow.holds Try.pinned (OpenSpec.ofChange crcNamesWrong)

/- THE SECOND FORM. 'bulk': how many values and letters a reading holds, each counted each time it is reached (what is shared counts as often as it is met; a slice's spare places count too). A statement '..UptoSaid' is the law's where the arguments, and the package variables that the reading takes, are together of bulk at most 1048576: NARROWER than '..Said'. Prove '..Said' where nothing that the law and all that it calls make is longer than what came in: it says more and counts as full. Else prove '..UptoSaid'. A law counts once. -/
mutual
def uptoBulk {H : Type} : DataW H → Nat
  | .lit (.string bytes) => bytes.length + 1
  | .lit _ => 1
  | .nil => 1
  | .ptr d => uptoBulk d + 1
  | .slice elems spare => uptoBulkAll elems + uptoBulkAll spare + 1
  | .agg parts => uptoBulkAll parts + 1
  | .iface _ d => uptoBulk d + 1
  | .map entries => uptoBulkEntries entries + 1
  | .held _ => 1
def uptoBulkAll {H : Type} : List (DataW H) → Nat
  | [] => 0
  | d :: r => uptoBulk d + uptoBulkAll r
def uptoBulkEntries {H : Type} : List (Lit × DataW H) → Nat
  | [] => 0
  | x :: r => uptoBulkEntry x + uptoBulkEntries r
def uptoBulkEntry {H : Type} : Lit × DataW H → Nat
  | (.string bytes, d) => bytes.length + uptoBulk d + 1
  | (_, d) => uptoBulk d + 1
 end
def uptoSmall : (H : Type) → List (DataW H) → Bool := fun _ ds => decide (uptoBulkAll ds ≤ 1048576)
def OpenSpec.upto (s : _root_.Go.ChangeSpec) : _root_.Go.OpenSpec := { _root_.Go.OpenSpec.ofChange s with cond := some uptoSmall }

/-- 'carryalllaw23.CrcPowers', WHERE WHAT IT READS IS OF BULK AT MOST 1048576: true; the input reads as it did. -/
def crcPowersUptoRow : OpenClaim := { program := "ytcclakklaimiiaa", sum := "994f32123d28e310154390801c00bb8271aecb45aa00830d6500095a8de11c22", func := "carryall/carryalllaw23.CrcPowers", spec := "crcPowers", unfollowed := true, recurses := true, apart := false, narrowed := true }
def CrcPowersUptoSaid : Prop := crcPowersUptoRow.holds Try.pinned (OpenSpec.upto crcPowersSpec)

/-- 'carryalllaw23.CrcJoins', WHERE WHAT IT READS IS OF BULK AT MOST 1048576: true; the input reads as it did. -/
def crcJoinsUptoRow : OpenClaim := { program := "ytcclakklaimiiaa", sum := "994f32123d28e310154390801c00bb8271aecb45aa00830d6500095a8de11c22", func := "carryall/carryalllaw23.CrcJoins", spec := "crcJoins", unfollowed := true, recurses := true, apart := false, narrowed := true }
def CrcJoinsUptoSaid : Prop := crcJoinsUptoRow.holds Try.pinned (OpenSpec.upto crcJoinsSpec)

/-- 'carryalllaw23.CrcFits', WHERE WHAT IT READS IS OF BULK AT MOST 1048576: true; the input reads as it did. -/
def crcFitsUptoRow : OpenClaim := { program := "ytcclakklaimiiaa", sum := "994f32123d28e310154390801c00bb8271aecb45aa00830d6500095a8de11c22", func := "carryall/carryalllaw23.CrcFits", spec := "crcFits", unfollowed := true, recurses := true, apart := false, narrowed := true }
def CrcFitsUptoSaid : Prop := crcFitsUptoRow.holds Try.pinned (OpenSpec.upto crcFitsSpec)

/-- 'carryalllaw23.CrcDivides', WHERE WHAT IT READS IS OF BULK AT MOST 1048576: true; the input reads as it did. -/
def crcDividesUptoRow : OpenClaim := { program := "ytcclakklaimiiaa", sum := "994f32123d28e310154390801c00bb8271aecb45aa00830d6500095a8de11c22", func := "carryall/carryalllaw23.CrcDivides", spec := "crcDivides", unfollowed := true, recurses := true, apart := false, narrowed := true }
def CrcDividesUptoSaid : Prop := crcDividesUptoRow.holds Try.pinned (OpenSpec.upto crcDividesSpec)

/-- 'carryalllaw23.CrcTurned', WHERE WHAT IT READS IS OF BULK AT MOST 1048576: true; the input reads as it did. -/
def crcTurnedUptoRow : OpenClaim := { program := "ytcclakklaimiiaa", sum := "994f32123d28e310154390801c00bb8271aecb45aa00830d6500095a8de11c22", func := "carryall/carryalllaw23.CrcTurned", spec := "crcTurned", unfollowed := true, recurses := true, apart := false, narrowed := true }
def CrcTurnedUptoSaid : Prop := crcTurnedUptoRow.holds Try.pinned (OpenSpec.upto crcTurnedSpec)

/-- 'carryalllaw23.CrcNames', WHERE WHAT IT READS IS OF BULK AT MOST 1048576: true; the input reads as it did. -/
def crcNamesUptoRow : OpenClaim := { program := "ytcclakklaimiiaa", sum := "994f32123d28e310154390801c00bb8271aecb45aa00830d6500095a8de11c22", func := "carryall/carryalllaw23.CrcNames", spec := "crcNames", unfollowed := true, recurses := true, apart := false, narrowed := true }
def CrcNamesUptoSaid : Prop := crcNamesUptoRow.holds Try.pinned (OpenSpec.upto crcNamesSpec)

end Rows
end Go.Proofs.Ytcclakklaimiiaa
