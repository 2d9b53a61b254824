/-
  NARROWER THAN 'FOR EVERY INPUT', by the rows' own cells (each row's printed sentence says how): TlvJoined: loops · TlvFound: loops · TlvFinds: loops · TlvBack: loops · TlvBytes: loops.
  DERIVED. THE GIVEN ROWS OF THIS SEAT. 7 by the template 'for every input the law returns true; each argument reads behind the call as it read before'; 0 by the template 'total and deterministic' (their statements: YtdlhnipkhlihjaaTotals.lean).
  GIVEN WITH THE SEED: the statements are not yours to turn. If you find one false, say at which input.
  Laid BY PROGRAM, IN A SANDBOX (cutbox-rows.mjs): the forced cells as the released guide's own fill.sh prints them over the translation 17390f4bd04ce9fd… (all of the seat's roots in one cut). By AI agents, Wed Nov 11 2026. No macro, syntax, notation, axiom, sorry.
-/
import Derived.Test.YtdlhnipkhlihjaaChecked
import GoSem.Claim
import GoSem.ClaimJoined
import GoSem.ClaimMapViews
import Derived.JoinedTies
import Derived.KernelRfl
namespace Go.Proofs.Ytdlhnipkhlihjaa
/- THE CELL 'sum', in the pinned program and in every row, IS THE sha256 OF THE DUMP (.gsa) THAT YtdlhnipkhlihjaaProg.lean LOADS. Nothing in Lean hashes anything: it is a label: what it is worth is what the hold of that sum in a sandbox is worth. -/
noncomputable def Try.pinned : Pinned := { name := "ytdlhnipkhlihjaa", sum := "17390f4bd04ce9fd79eba9df0e7702c2c953ae318121f90e8d51e46e4bce6573", checked := Try.checked }
namespace Rows
def none {H : Type} : Left H := { results := [], args := [] }

/-- 'carryalllaw22.TlvJoined': WHATEVER THE INPUT: true; the input reads as it did. -/
def tlvJoinedSpec : ChangeSpec := { name := "tlvJoined", fn := fun _ => fun
  | [d1, d2] => { results := [.lit (.bool true)], args := [d1, d2] }
  | _ => none }
def tlvJoinedRow : OpenClaim := { program := "ytdlhnipkhlihjaa", sum := "17390f4bd04ce9fd79eba9df0e7702c2c953ae318121f90e8d51e46e4bce6573", func := "carryall/carryalllaw22.TlvJoined", spec := "tlvJoined", recurses := true, loops := true, apart := false }
def TlvJoinedSaid : Prop := tlvJoinedRow.holds Try.pinned (OpenSpec.ofChange tlvJoinedSpec)

/-- ITS FALSE NEIGHBOUR: 'it returns false'. Refute it at one input. -/
def tlvJoinedWrong : ChangeSpec := { name := "tlvJoined", fn := fun _ => fun
  | [d1, d2] => { results := [.lit (.bool false)], args := [d1, d2] }
  | _ => none }
def TlvJoinedWrongFalsely : Prop := tlvJoinedRow.holds Try.pinned (OpenSpec.ofChange tlvJoinedWrong)

/-- 'carryalllaw22.TlvFound': WHATEVER THE INPUT: true; the input reads as it did. -/
def tlvFoundSpec : ChangeSpec := { name := "tlvFound", fn := fun _ => fun
  | [d1, d2] => { results := [.lit (.bool true)], args := [d1, d2] }
  | _ => none }
def tlvFoundRow : OpenClaim := { program := "ytdlhnipkhlihjaa", sum := "17390f4bd04ce9fd79eba9df0e7702c2c953ae318121f90e8d51e46e4bce6573", func := "carryall/carryalllaw22.TlvFound", spec := "tlvFound", unfollowed := true, recurses := true, loops := true, apart := false }
def TlvFoundSaid : Prop := tlvFoundRow.holds Try.pinned (OpenSpec.ofChange tlvFoundSpec)

/-- ITS FALSE NEIGHBOUR: 'it returns false'. Refute it at one input. -/
def tlvFoundWrong : ChangeSpec := { name := "tlvFound", fn := fun _ => fun
  | [d1, d2] => { results := [.lit (.bool false)], args := [d1, d2] }
  | _ => none }
def TlvFoundWrongFalsely : Prop := tlvFoundRow.holds Try.pinned (OpenSpec.ofChange tlvFoundWrong)

/-- 'carryalllaw22.TlvFinds': WHATEVER THE INPUT: true; the input reads as it did. -/
def tlvFindsSpec : ChangeSpec := { name := "tlvFinds", fn := fun _ => fun
  | [d1, d2, d3, d4, d5] => { results := [.lit (.bool true)], args := [d1, d2, d3, d4, d5] }
  | _ => none }
def tlvFindsRow : OpenClaim := { program := "ytdlhnipkhlihjaa", sum := "17390f4bd04ce9fd79eba9df0e7702c2c953ae318121f90e8d51e46e4bce6573", func := "carryall/carryalllaw22.TlvFinds", spec := "tlvFinds", unfollowed := true, recurses := true, loops := true, apart := false }
def TlvFindsSaid : Prop := tlvFindsRow.holds Try.pinned (OpenSpec.ofChange tlvFindsSpec)

/-- ITS FALSE NEIGHBOUR: 'it returns false'. Refute it at one input. -/
def tlvFindsWrong : ChangeSpec := { name := "tlvFinds", fn := fun _ => fun
  | [d1, d2, d3, d4, d5] => { results := [.lit (.bool false)], args := [d1, d2, d3, d4, d5] }
  | _ => none }
def TlvFindsWrongFalsely : Prop := tlvFindsRow.holds Try.pinned (OpenSpec.ofChange tlvFindsWrong)

/-- 'carryalllaw22.TlvBack': WHATEVER THE INPUT: true; the input reads as it did. -/
def tlvBackSpec : ChangeSpec := { name := "tlvBack", fn := fun _ => fun
  | [d1, d2, d3] => { results := [.lit (.bool true)], args := [d1, d2, d3] }
  | _ => none }
def tlvBackRow : OpenClaim := { program := "ytdlhnipkhlihjaa", sum := "17390f4bd04ce9fd79eba9df0e7702c2c953ae318121f90e8d51e46e4bce6573", func := "carryall/carryalllaw22.TlvBack", spec := "tlvBack", unfollowed := true, recurses := true, loops := true, apart := false }
def TlvBackSaid : Prop := tlvBackRow.holds Try.pinned (OpenSpec.ofChange tlvBackSpec)

/-- ITS FALSE NEIGHBOUR: 'it returns false'. Refute it at one input. -/
def tlvBackWrong : ChangeSpec := { name := "tlvBack", fn := fun _ => fun
  | [d1, d2, d3] => { results := [.lit (.bool false)], args := [d1, d2, d3] }
  | _ => none }
def TlvBackWrongFalsely : Prop := tlvBackRow.holds Try.pinned (OpenSpec.ofChange tlvBackWrong)

/-- 'carryalllaw22.TlvBytes': WHATEVER THE INPUT: true; the input reads as it did. -/
def tlvBytesSpec : ChangeSpec := { name := "tlvBytes", fn := fun _ => fun
  | [d1, d2] => { results := [.lit (.bool true)], args := [d1, d2] }
  | _ => none }
def tlvBytesRow : OpenClaim := { program := "ytdlhnipkhlihjaa", sum := "17390f4bd04ce9fd79eba9df0e7702c2c953ae318121f90e8d51e46e4bce6573", func := "carryall/carryalllaw22.TlvBytes", spec := "tlvBytes", unfollowed := true, recurses := true, loops := true, apart := false }
def TlvBytesSaid : Prop := tlvBytesRow.holds Try.pinned (OpenSpec.ofChange tlvBytesSpec)

/-- ITS FALSE NEIGHBOUR: 'it returns false'. Refute it at one input. -/
def tlvBytesWrong : ChangeSpec := { name := "tlvBytes", fn := fun _ => fun
  | [d1, d2] => { results := [.lit (.bool false)], args := [d1, d2] }
  | _ => none }
def TlvBytesWrongFalsely : Prop := tlvBytesRow.holds Try.pinned (OpenSpec.ofChange tlvBytesWrong)

/-- 'carryalllaw22.TlvNames': WHATEVER THE INPUT: true; the input reads as it did. -/
def tlvNamesSpec : ChangeSpec := { name := "tlvNames", fn := fun _ => fun
  | [] => { results := [.lit (.bool true)], args := [] }
  | _ => none }
def tlvNamesRow : OpenClaim := { program := "ytdlhnipkhlihjaa", sum := "17390f4bd04ce9fd79eba9df0e7702c2c953ae318121f90e8d51e46e4bce6573", func := "carryall/carryalllaw22.TlvNames", spec := "tlvNames", unfollowed := true, recurses := true, apart := false }
def TlvNamesSaid : Prop := tlvNamesRow.holds Try.pinned (OpenSpec.ofChange tlvNamesSpec)

/-- ITS FALSE NEIGHBOUR: 'it returns false'. Refute it at one input. -/
def tlvNamesWrong : ChangeSpec := { name := "tlvNames", fn := fun _ => fun
  | [] => { results := [.lit (.bool false)], args := [] }
  | _ => none }
def TlvNamesWrongFalsely : Prop := tlvNamesRow.holds Try.pinned (OpenSpec.ofChange tlvNamesWrong)

/-- 'carryalllaw22.TlvNumbers': WHATEVER THE INPUT: true; the input reads as it did. -/
def tlvNumbersSpec : ChangeSpec := { name := "tlvNumbers", fn := fun _ => fun
  | [d1, d2, d3] => { results := [.lit (.bool true)], args := [d1, d2, d3] }
  | _ => none }
def tlvNumbersRow : OpenClaim := { program := "ytdlhnipkhlihjaa", sum := "17390f4bd04ce9fd79eba9df0e7702c2c953ae318121f90e8d51e46e4bce6573", func := "carryall/carryalllaw22.TlvNumbers", spec := "tlvNumbers", unfollowed := true, recurses := true, apart := false }
def TlvNumbersSaid : Prop := tlvNumbersRow.holds Try.pinned (OpenSpec.ofChange tlvNumbersSpec)

/-- ITS FALSE NEIGHBOUR: 'it returns false'. Refute it at one input. -/
def tlvNumbersWrong : ChangeSpec := { name := "tlvNumbers", fn := fun _ => fun
  | [d1, d2, d3] => { results := [.lit (.bool false)], args := [d1, d2, d3] }
  | _ => none }
def TlvNumbersWrongFalsely : Prop := tlvNumbersRow.holds Try.pinned (OpenSpec.ofChange tlvNumbersWrong)

/- THE SECOND FORM. 'bulk': how many values and letters a reading holds, each counted each time it is reached (what is shared counts as often as it is met; a slice's spare places count too). A statement '..UptoSaid' is the law's where the arguments, and the package variables that the reading takes, are together of bulk at most 1048576: NARROWER than '..Said'. Prove '..Said' where nothing that the law and all that it calls make is longer than what came in: it says more and counts as full. Else prove '..UptoSaid'. A law counts once. -/
mutual
def uptoBulk {H : Type} : DataW H → Nat
  | .lit (.string bytes) => bytes.length + 1
  | .lit _ => 1
  | .nil => 1
  | .ptr d => uptoBulk d + 1
  | .slice elems spare => uptoBulkAll elems + uptoBulkAll spare + 1
  | .agg parts => uptoBulkAll parts + 1
  | .iface _ d => uptoBulk d + 1
  | .map entries => uptoBulkEntries entries + 1
  | .held _ => 1
def uptoBulkAll {H : Type} : List (DataW H) → Nat
  | [] => 0
  | d :: r => uptoBulk d + uptoBulkAll r
def uptoBulkEntries {H : Type} : List (Lit × DataW H) → Nat
  | [] => 0
  | x :: r => uptoBulkEntry x + uptoBulkEntries r
def uptoBulkEntry {H : Type} : Lit × DataW H → Nat
  | (.string bytes, d) => bytes.length + uptoBulk d + 1
  | (_, d) => uptoBulk d + 1
 end
def uptoSmall : (H : Type) → List (DataW H) → Bool := fun _ ds => decide (uptoBulkAll ds ≤ 1048576)
def OpenSpec.upto (s : _root_.Go.ChangeSpec) : _root_.Go.OpenSpec := { _root_.Go.OpenSpec.ofChange s with cond := some uptoSmall }

/-- 'carryalllaw22.TlvJoined', WHERE WHAT IT READS IS OF BULK AT MOST 1048576: true; the input reads as it did. -/
def tlvJoinedUptoRow : OpenClaim := { program := "ytdlhnipkhlihjaa", sum := "17390f4bd04ce9fd79eba9df0e7702c2c953ae318121f90e8d51e46e4bce6573", func := "carryall/carryalllaw22.TlvJoined", spec := "tlvJoined", recurses := true, loops := true, apart := false, narrowed := true }
def TlvJoinedUptoSaid : Prop := tlvJoinedUptoRow.holds Try.pinned (OpenSpec.upto tlvJoinedSpec)

/-- 'carryalllaw22.TlvFound', WHERE WHAT IT READS IS OF BULK AT MOST 1048576: true; the input reads as it did. -/
def tlvFoundUptoRow : OpenClaim := { program := "ytdlhnipkhlihjaa", sum := "17390f4bd04ce9fd79eba9df0e7702c2c953ae318121f90e8d51e46e4bce6573", func := "carryall/carryalllaw22.TlvFound", spec := "tlvFound", unfollowed := true, recurses := true, loops := true, apart := false, narrowed := true }
def TlvFoundUptoSaid : Prop := tlvFoundUptoRow.holds Try.pinned (OpenSpec.upto tlvFoundSpec)

/-- 'carryalllaw22.TlvFinds', WHERE WHAT IT READS IS OF BULK AT MOST 1048576: true; the input reads as it did. -/
def tlvFindsUptoRow : OpenClaim := { program := "ytdlhnipkhlihjaa", sum := "17390f4bd04ce9fd79eba9df0e7702c2c953ae318121f90e8d51e46e4bce6573", func := "carryall/carryalllaw22.TlvFinds", spec := "tlvFinds", unfollowed := true, recurses := true, loops := true, apart := false, narrowed := true }
def TlvFindsUptoSaid : Prop := tlvFindsUptoRow.holds Try.pinned (OpenSpec.upto tlvFindsSpec)

/-- 'carryalllaw22.TlvBack', WHERE WHAT IT READS IS OF BULK AT MOST 1048576: true; the input reads as it did. -/
def tlvBackUptoRow : OpenClaim := { program := "ytdlhnipkhlihjaa", sum := "17390f4bd04ce9fd79eba9df0e7702c2c953ae318121f90e8d51e46e4bce6573", func := "carryall/carryalllaw22.TlvBack", spec := "tlvBack", unfollowed := true, recurses := true, loops := true, apart := false, narrowed := true }
def TlvBackUptoSaid : Prop := tlvBackUptoRow.holds Try.pinned (OpenSpec.upto tlvBackSpec)

/-- 'carryalllaw22.TlvBytes', WHERE WHAT IT READS IS OF BULK AT MOST 1048576: true; the input reads as it did. -/
def tlvBytesUptoRow : OpenClaim := { program := "ytdlhnipkhlihjaa", sum := "17390f4bd04ce9fd79eba9df0e7702c2c953ae318121f90e8d51e46e4bce6573", func := "carryall/carryalllaw22.TlvBytes", spec := "tlvBytes", unfollowed := true, recurses := true, loops := true, apart := false, narrowed := true }
def TlvBytesUptoSaid : Prop := tlvBytesUptoRow.holds Try.pinned (OpenSpec.upto tlvBytesSpec)

/-- 'carryalllaw22.TlvNames', WHERE WHAT IT READS IS OF BULK AT MOST 1048576: true; the input reads as it did. -/
def tlvNamesUptoRow : OpenClaim := { program := "ytdlhnipkhlihjaa", sum := "17390f4bd04ce9fd79eba9df0e7702c2c953ae318121f90e8d51e46e4bce6573", func := "carryall/carryalllaw22.TlvNames", spec := "tlvNames", unfollowed := true, recurses := true, apart := false, narrowed := true }
def TlvNamesUptoSaid : Prop := tlvNamesUptoRow.holds Try.pinned (OpenSpec.upto tlvNamesSpec)

/-- 'carryalllaw22.TlvNumbers', WHERE WHAT IT READS IS OF BULK AT MOST 1048576: true; the input reads as it did. -/
def tlvNumbersUptoRow : OpenClaim := { program := "ytdlhnipkhlihjaa", sum := "17390f4bd04ce9fd79eba9df0e7702c2c953ae318121f90e8d51e46e4bce6573", func := "carryall/carryalllaw22.TlvNumbers", spec := "tlvNumbers", unfollowed := true, recurses := true, apart := false, narrowed := true }
def TlvNumbersUptoSaid : Prop := tlvNumbersUptoRow.holds Try.pinned (OpenSpec.upto tlvNumbersSpec)

end Rows
end Go.Proofs.Ytdlhnipkhlihjaa
