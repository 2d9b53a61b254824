/-
  No cell of these rows narrows 'for every input' (looked for: loops, veiled, ifaces, maps, wideKeys, modest, calm, conditions, laid).
  DERIVED. THE GIVEN ROWS OF THIS SEAT. 6 by the template 'for every input the law returns true; each argument reads behind the call as it read before'; 0 by the template 'total and deterministic' (their statements: YtdnhaappglbooaaTotals.lean).
  GIVEN WITH THE SEED: the statements are not yours to turn. If you find one false, say at which input.
  Laid BY PROGRAM, IN A SANDBOX (cutbox-rows.mjs): the forced cells as the released guide's own fill.sh prints them over the translation 04348dd2a6c4e2dd… (all of the seat's roots in one cut). By AI agents, Wed Nov 11 2026. No macro, syntax, notation, axiom, sorry.
-/
import Derived.Test.YtdnhaappglbooaaChecked
import GoSem.Claim
import GoSem.ClaimJoined
import GoSem.ClaimMapViews
import Derived.JoinedTies
import Derived.KernelRfl
namespace Go.Proofs.Ytdnhaappglbooaa
/- THE CELL 'sum', in the pinned program and in every row, IS THE sha256 OF THE DUMP (.gsa) THAT YtdnhaappglbooaaProg.lean LOADS. Nothing in Lean hashes anything: it is a label: what it is worth is what the hold of that sum in a sandbox is worth. -/
noncomputable def Try.pinned : Pinned := { name := "ytdnhaappglbooaa", sum := "04348dd2a6c4e2dd76e3415f354d24b174b03c1d7c5b8aefdfedcd23490da8ea", checked := Try.checked }
namespace Rows
def none {H : Type} : Left H := { results := [], args := [] }

/-- 'carryalllaw11.FutexAgain': WHATEVER THE INPUT: true; the input reads as it did. -/
def futexAgainSpec : ChangeSpec := { name := "futexAgain", fn := fun _ => fun
  | [d] => { results := [.lit (.bool true)], args := [d] }
  | _ => none }
def futexAgainRow : OpenClaim := { program := "ytdnhaappglbooaa", sum := "04348dd2a6c4e2dd76e3415f354d24b174b03c1d7c5b8aefdfedcd23490da8ea", func := "carryall/carryalllaw11.FutexAgain", spec := "futexAgain", unfollowed := true, recurses := true, apart := false }
def FutexAgainSaid : Prop := futexAgainRow.holds Try.pinned (OpenSpec.ofChange futexAgainSpec)

/-- ITS FALSE NEIGHBOUR: 'it returns false'. Refute it at one input. -/
def futexAgainWrong : ChangeSpec := { name := "futexAgain", fn := fun _ => fun
  | [d] => { results := [.lit (.bool false)], args := [d] }
  | _ => none }
def FutexAgainWrongFalsely : Prop := futexAgainRow.holds Try.pinned (OpenSpec.ofChange futexAgainWrong)

/-- 'carryalllaw11.FutexOrder': WHATEVER THE INPUT: true; the input reads as it did. -/
def futexOrderSpec : ChangeSpec := { name := "futexOrder", fn := fun _ => fun
  | [d1, d2, d3] => { results := [.lit (.bool true)], args := [d1, d2, d3] }
  | _ => none }
def futexOrderRow : OpenClaim := { program := "ytdnhaappglbooaa", sum := "04348dd2a6c4e2dd76e3415f354d24b174b03c1d7c5b8aefdfedcd23490da8ea", func := "carryall/carryalllaw11.FutexOrder", spec := "futexOrder", unfollowed := true, recurses := true, apart := false }
def FutexOrderSaid : Prop := futexOrderRow.holds Try.pinned (OpenSpec.ofChange futexOrderSpec)

/-- ITS FALSE NEIGHBOUR: 'it returns false'. Refute it at one input. -/
def futexOrderWrong : ChangeSpec := { name := "futexOrder", fn := fun _ => fun
  | [d1, d2, d3] => { results := [.lit (.bool false)], args := [d1, d2, d3] }
  | _ => none }
def FutexOrderWrongFalsely : Prop := futexOrderRow.holds Try.pinned (OpenSpec.ofChange futexOrderWrong)

/-- 'carryalllaw11.FutexKeys': WHATEVER THE INPUT: true; the input reads as it did. -/
def futexKeysSpec : ChangeSpec := { name := "futexKeys", fn := fun _ => fun
  | [d1, d2] => { results := [.lit (.bool true)], args := [d1, d2] }
  | _ => none }
def futexKeysRow : OpenClaim := { program := "ytdnhaappglbooaa", sum := "04348dd2a6c4e2dd76e3415f354d24b174b03c1d7c5b8aefdfedcd23490da8ea", func := "carryall/carryalllaw11.FutexKeys", spec := "futexKeys", unfollowed := true, recurses := true, apart := false }
def FutexKeysSaid : Prop := futexKeysRow.holds Try.pinned (OpenSpec.ofChange futexKeysSpec)

/-- ITS FALSE NEIGHBOUR: 'it returns false'. Refute it at one input. -/
def futexKeysWrong : ChangeSpec := { name := "futexKeys", fn := fun _ => fun
  | [d1, d2] => { results := [.lit (.bool false)], args := [d1, d2] }
  | _ => none }
def FutexKeysWrongFalsely : Prop := futexKeysRow.holds Try.pinned (OpenSpec.ofChange futexKeysWrong)

/-- 'carryalllaw11.FutexPlays': WHATEVER THE INPUT: true; the input reads as it did. -/
def futexPlaysSpec : ChangeSpec := { name := "futexPlays", fn := fun _ => fun
  | [d] => { results := [.lit (.bool true)], args := [d] }
  | _ => none }
def futexPlaysRow : OpenClaim := { program := "ytdnhaappglbooaa", sum := "04348dd2a6c4e2dd76e3415f354d24b174b03c1d7c5b8aefdfedcd23490da8ea", func := "carryall/carryalllaw11.FutexPlays", spec := "futexPlays", unfollowed := true, recurses := true, apart := false }
def FutexPlaysSaid : Prop := futexPlaysRow.holds Try.pinned (OpenSpec.ofChange futexPlaysSpec)

/-- ITS FALSE NEIGHBOUR: 'it returns false'. Refute it at one input. -/
def futexPlaysWrong : ChangeSpec := { name := "futexPlays", fn := fun _ => fun
  | [d] => { results := [.lit (.bool false)], args := [d] }
  | _ => none }
def FutexPlaysWrongFalsely : Prop := futexPlaysRow.holds Try.pinned (OpenSpec.ofChange futexPlaysWrong)

/-- 'carryalllaw11.FutexNames': WHATEVER THE INPUT: true; the input reads as it did. -/
def futexNamesSpec : ChangeSpec := { name := "futexNames", fn := fun _ => fun
  | [] => { results := [.lit (.bool true)], args := [] }
  | _ => none }
def futexNamesRow : OpenClaim := { program := "ytdnhaappglbooaa", sum := "04348dd2a6c4e2dd76e3415f354d24b174b03c1d7c5b8aefdfedcd23490da8ea", func := "carryall/carryalllaw11.FutexNames", spec := "futexNames", unfollowed := true, recurses := true, apart := false }
def FutexNamesSaid : Prop := futexNamesRow.holds Try.pinned (OpenSpec.ofChange futexNamesSpec)

/-- ITS FALSE NEIGHBOUR: 'it returns false'. Refute it at one input. -/
def futexNamesWrong : ChangeSpec := { name := "futexNames", fn := fun _ => fun
  | [] => { results := [.lit (.bool false)], args := [] }
  | _ => none }
def FutexNamesWrongFalsely : Prop := futexNamesRow.holds Try.pinned (OpenSpec.ofChange futexNamesWrong)

/-- 'carryalllaw11.FutexGone': WHATEVER THE INPUT: true; the input reads as it did. -/
def futexGoneSpec : ChangeSpec := { name := "futexGone", fn := fun _ => fun
  | [d1, d2, d3] => { results := [.lit (.bool true)], args := [d1, d2, d3] }
  | _ => none }
def futexGoneRow : OpenClaim := { program := "ytdnhaappglbooaa", sum := "04348dd2a6c4e2dd76e3415f354d24b174b03c1d7c5b8aefdfedcd23490da8ea", func := "carryall/carryalllaw11.FutexGone", spec := "futexGone", unfollowed := true, recurses := true, apart := false }
def FutexGoneSaid : Prop := futexGoneRow.holds Try.pinned (OpenSpec.ofChange futexGoneSpec)

/-- ITS FALSE NEIGHBOUR: 'it returns false'. Refute it at one input. -/
def futexGoneWrong : ChangeSpec := { name := "futexGone", fn := fun _ => fun
  | [d1, d2, d3] => { results := [.lit (.bool false)], args := [d1, d2, d3] }
  | _ => none }
def FutexGoneWrongFalsely : Prop := futexGoneRow.holds Try.pinned (OpenSpec.ofChange futexGoneWrong)

/- THE SECOND FORM. 'bulk': how many values and letters a reading holds, each counted each time it is reached (what is shared counts as often as it is met; a slice's spare places count too). A statement '..UptoSaid' is the law's where the arguments, and the package variables that the reading takes, are together of bulk at most 1048576: NARROWER than '..Said'. Prove '..Said' where nothing that the law and all that it calls make is longer than what came in: it says more and counts as full. Else prove '..UptoSaid'. A law counts once. -/
mutual
def uptoBulk {H : Type} : DataW H → Nat
  | .lit (.string bytes) => bytes.length + 1
  | .lit _ => 1
  | .nil => 1
  | .ptr d => uptoBulk d + 1
  | .slice elems spare => uptoBulkAll elems + uptoBulkAll spare + 1
  | .agg parts => uptoBulkAll parts + 1
  | .iface _ d => uptoBulk d + 1
  | .map entries => uptoBulkEntries entries + 1
  | .held _ => 1
def uptoBulkAll {H : Type} : List (DataW H) → Nat
  | [] => 0
  | d :: r => uptoBulk d + uptoBulkAll r
def uptoBulkEntries {H : Type} : List (Lit × DataW H) → Nat
  | [] => 0
  | x :: r => uptoBulkEntry x + uptoBulkEntries r
def uptoBulkEntry {H : Type} : Lit × DataW H → Nat
  | (.string bytes, d) => bytes.length + uptoBulk d + 1
  | (_, d) => uptoBulk d + 1
 end
def uptoSmall : (H : Type) → List (DataW H) → Bool := fun _ ds => decide (uptoBulkAll ds ≤ 1048576)
def OpenSpec.upto (s : _root_.Go.ChangeSpec) : _root_.Go.OpenSpec := { _root_.Go.OpenSpec.ofChange s with cond := some uptoSmall }

/-- 'carryalllaw11.FutexAgain', WHERE WHAT IT READS IS OF BULK AT MOST 1048576: true; the input reads as it did. -/
def futexAgainUptoRow : OpenClaim := { program := "ytdnhaappglbooaa", sum := "04348dd2a6c4e2dd76e3415f354d24b174b03c1d7c5b8aefdfedcd23490da8ea", func := "carryall/carryalllaw11.FutexAgain", spec := "futexAgain", unfollowed := true, recurses := true, apart := false, narrowed := true }
def FutexAgainUptoSaid : Prop := futexAgainUptoRow.holds Try.pinned (OpenSpec.upto futexAgainSpec)

/-- 'carryalllaw11.FutexOrder', WHERE WHAT IT READS IS OF BULK AT MOST 1048576: true; the input reads as it did. -/
def futexOrderUptoRow : OpenClaim := { program := "ytdnhaappglbooaa", sum := "04348dd2a6c4e2dd76e3415f354d24b174b03c1d7c5b8aefdfedcd23490da8ea", func := "carryall/carryalllaw11.FutexOrder", spec := "futexOrder", unfollowed := true, recurses := true, apart := false, narrowed := true }
def FutexOrderUptoSaid : Prop := futexOrderUptoRow.holds Try.pinned (OpenSpec.upto futexOrderSpec)

/-- 'carryalllaw11.FutexKeys', WHERE WHAT IT READS IS OF BULK AT MOST 1048576: true; the input reads as it did. -/
def futexKeysUptoRow : OpenClaim := { program := "ytdnhaappglbooaa", sum := "04348dd2a6c4e2dd76e3415f354d24b174b03c1d7c5b8aefdfedcd23490da8ea", func := "carryall/carryalllaw11.FutexKeys", spec := "futexKeys", unfollowed := true, recurses := true, apart := false, narrowed := true }
def FutexKeysUptoSaid : Prop := futexKeysUptoRow.holds Try.pinned (OpenSpec.upto futexKeysSpec)

/-- 'carryalllaw11.FutexPlays', WHERE WHAT IT READS IS OF BULK AT MOST 1048576: true; the input reads as it did. -/
def futexPlaysUptoRow : OpenClaim := { program := "ytdnhaappglbooaa", sum := "04348dd2a6c4e2dd76e3415f354d24b174b03c1d7c5b8aefdfedcd23490da8ea", func := "carryall/carryalllaw11.FutexPlays", spec := "futexPlays", unfollowed := true, recurses := true, apart := false, narrowed := true }
def FutexPlaysUptoSaid : Prop := futexPlaysUptoRow.holds Try.pinned (OpenSpec.upto futexPlaysSpec)

/-- 'carryalllaw11.FutexNames', WHERE WHAT IT READS IS OF BULK AT MOST 1048576: true; the input reads as it did. -/
def futexNamesUptoRow : OpenClaim := { program := "ytdnhaappglbooaa", sum := "04348dd2a6c4e2dd76e3415f354d24b174b03c1d7c5b8aefdfedcd23490da8ea", func := "carryall/carryalllaw11.FutexNames", spec := "futexNames", unfollowed := true, recurses := true, apart := false, narrowed := true }
def FutexNamesUptoSaid : Prop := futexNamesUptoRow.holds Try.pinned (OpenSpec.upto futexNamesSpec)

/-- 'carryalllaw11.FutexGone', WHERE WHAT IT READS IS OF BULK AT MOST 1048576: true; the input reads as it did. -/
def futexGoneUptoRow : OpenClaim := { program := "ytdnhaappglbooaa", sum := "04348dd2a6c4e2dd76e3415f354d24b174b03c1d7c5b8aefdfedcd23490da8ea", func := "carryall/carryalllaw11.FutexGone", spec := "futexGone", unfollowed := true, recurses := true, apart := false, narrowed := true }
def FutexGoneUptoSaid : Prop := futexGoneUptoRow.holds Try.pinned (OpenSpec.upto futexGoneSpec)

end Rows
end Go.Proofs.Ytdnhaappglbooaa
