/- Own texts of this seat, one behind the other (part 3 of 9). -/
import Derived.Test.YtejcandhijdnhaaGreatMN02
import Derived.Deep.Cut
import Derived.Deep.CutRange
import Derived.Deep.CutBlock
import Derived.WalkKit
import Derived.Laws.BitsLemmas
import Derived.RangeFuncBox
import Derived.RangeFuncLeaves
import Derived.Shelf.Abstract
import Derived.OwnWalkIn
import Derived.TacticsInMore
import Derived.LoopNIn
import Derived.LoopIn
import Derived.BigFrameIn
import Derived.BigRegionIn
import Derived.Maps.AppendAt
import Derived.Lib.Hide
import Derived.Test.YtejcandhijdnhaaGreatRows
import Derived.Maps.OwnIn
import Derived.Laws.Slices
import Derived.BigFrame
import Derived.OwnWalk
import Derived.Deep.RegionHeld3
import Derived.Deep.AppendLies

/- image.Check of an image of one zombie. -/
namespace Go.Proofs.YtejcandhijdnhaaGreat
open Go Go.RowKit
set_option linter.unusedVariables false
set_option linter.unnecessarySimpa false
set_option linter.unusedSimpArgs false
set_option maxHeartbeats 1000000 in
theorem indexNoneProc (f : Value) (W : World) :
    Calls Tryz.prog 76 #[.slice none 0 0, f] W fun e W' => e = .returned (.int .i64 (-1)) ∧ W' = W := by
  go_enter Tryz.func76, Tryz.ntmps76
  go_wp2
  go_loopw [5, 8] (fun _ i wr => i = .int .i64 0 ∧ wr = W) (fun _ _ _ => 0)
  case atStart => exact ⟨rfl, rfl⟩
  case round =>
    obtain ⟨rfl, rfl⟩ := hrel
    go_wp2
    go_ret
    exact ⟨rfl, rfl⟩
set_option maxHeartbeats 1000000 in
theorem containsNoneProc (f : Value) (W : World) :
    Calls Tryz.prog 34 #[.slice none 0 0, f] W fun e W' => e = .returned (.bool false) ∧ W' = W := by
  go_enter Tryz.func34, Tryz.ntmps34
  go_wp2_with (go_at_call 76; refine (indexNoneProc _ _).mono ?_; rintro e w' ⟨rfl, rfl⟩)
  go_ret
  exact ⟨rfl, rfl⟩
set_option maxHeartbeats 1000000 in
theorem indexNoneStr (f : Value) (W : World) :
    Calls Tryz.prog 82 #[.slice none 0 0, f] W fun e W' => e = .returned (.int .i64 (-1)) ∧ W' = W := by
  go_enter Tryz.func82, Tryz.ntmps82
  go_wp2
  go_loopw [5, 8] (fun _ i wr => i = .int .i64 0 ∧ wr = W) (fun _ _ _ => 0)
  case atStart => exact ⟨rfl, rfl⟩
  case round =>
    obtain ⟨rfl, rfl⟩ := hrel
    go_wp2
    go_ret
    exact ⟨rfl, rfl⟩
set_option maxHeartbeats 1000000 in
theorem containsNoneStr (f : Value) (W : World) :
    Calls Tryz.prog 37 #[.slice none 0 0, f] W fun e W' => e = .returned (.bool false) ∧ W' = W := by
  go_enter Tryz.func37, Tryz.ntmps37
  go_wp2_with (go_at_call 82; refine (indexNoneStr _ _).mono ?_; rintro e w' ⟨rfl, rfl⟩)
  go_ret
  exact ⟨rfl, rfl⟩
set_option maxHeartbeats 1000000 in
theorem indexNonePipe (f : Value) (W : World) :
    Calls Tryz.prog 83 #[.slice none 0 0, f] W fun e W' => e = .returned (.int .i64 (-1)) ∧ W' = W := by
  go_enter Tryz.func83, Tryz.ntmps83
  go_wp2
  go_loopw [5, 8] (fun _ i wr => i = .int .i64 0 ∧ wr = W) (fun _ _ _ => 0)
  case atStart => exact ⟨rfl, rfl⟩
  case round =>
    obtain ⟨rfl, rfl⟩ := hrel
    go_wp2
    go_ret
    exact ⟨rfl, rfl⟩
set_option maxHeartbeats 1000000 in
theorem containsNonePipe (f : Value) (W : World) :
    Calls Tryz.prog 39 #[.slice none 0 0, f] W fun e W' => e = .returned (.bool false) ∧ W' = W := by
  go_enter Tryz.func39, Tryz.ntmps39
  go_wp2_with (go_at_call 83; refine (indexNonePipe _ _).mono ?_; rintro e w' ⟨rfl, rfl⟩)
  go_ret
  exact ⟨rfl, rfl⟩
set_option maxHeartbeats 1000000 in
theorem indexNoneFile (f : Value) (W : World) :
    Calls Tryz.prog 84 #[.slice none 0 0, f] W fun e W' => e = .returned (.int .i64 (-1)) ∧ W' = W := by
  go_enter Tryz.func84, Tryz.ntmps84
  go_wp2
  go_loopw [5, 8] (fun _ i wr => i = .int .i64 0 ∧ wr = W) (fun _ _ _ => 0)
  case atStart => exact ⟨rfl, rfl⟩
  case round =>
    obtain ⟨rfl, rfl⟩ := hrel
    go_wp2
    go_ret
    exact ⟨rfl, rfl⟩
set_option maxHeartbeats 1000000 in
theorem containsNoneFile (f : Value) (W : World) :
    Calls Tryz.prog 41 #[.slice none 0 0, f] W fun e W' => e = .returned (.bool false) ∧ W' = W := by
  go_enter Tryz.func41, Tryz.ntmps41
  go_wp2_with (go_at_call 84; refine (indexNoneFile _ _).mono ?_; rintro e w' ⟨rfl, rfl⟩)
  go_ret
  exact ⟨rfl, rfl⟩
set_option maxHeartbeats 1000000 in
theorem indexNoneWait (f : Value) (W : World) :
    Calls Tryz.prog 85 #[.slice none 0 0, f] W fun e W' => e = .returned (.int .i64 (-1)) ∧ W' = W := by
  go_enter Tryz.func85, Tryz.ntmps85
  go_wp2
  go_loopw [5, 8] (fun _ i wr => i = .int .i64 0 ∧ wr = W) (fun _ _ _ => 0)
  case atStart => exact ⟨rfl, rfl⟩
  case round =>
    obtain ⟨rfl, rfl⟩ := hrel
    go_wp2
    go_ret
    exact ⟨rfl, rfl⟩
set_option maxHeartbeats 1000000 in
theorem containsNoneWait (f : Value) (W : World) :
    Calls Tryz.prog 43 #[.slice none 0 0, f] W fun e W' => e = .returned (.bool false) ∧ W' = W := by
  go_enter Tryz.func43, Tryz.ntmps43
  go_wp2_with (go_at_call 85; refine (indexNoneWait _ _).mono ?_; rintro e w' ⟨rfl, rfl⟩)
  go_ret
  exact ⟨rfl, rfl⟩
theorem infoProc (st ss wt : Int) : (Tryz.prog.info? 54).map (·.size) = some (procC st ss wt).size := by kernel_rfl
/-- what image.process answers of a zombie -/
def ProcOK (st ss wt : Int) (b : Bool) : Prop := ∀ W : World, Calls Tryz.prog 36 #[.agg (procC st ss wt)] W fun e W' => e = .returned (.bool b) ∧ Below W.heap.size W W'
set_option maxRecDepth 100000 in
set_option maxHeartbeats 1000000 in
theorem check1_any (st ss wt : Int) (b : Bool) (hp : ProcOK st ss wt b) (W : World) :
    Calls Tryz.prog 35 #[.agg (procC st ss wt)] W fun e W' => e = .returned (.bool (!b)) ∧ Below W.heap.size W W' := by
  obtain ⟨X, hX⟩ : ∃ X, X = procC st ss wt := ⟨_, rfl⟩
  have hi := infoProc st ss wt
  unfold ProcOK at hp
  rw [← hX] at hp hi ⊢
  clear hX
  go_enter Tryz.func35, Tryz.ntmps35
  go_upto_region 1 with fail
  obtain ⟨V, hV⟩ : ∃ V, V = W.alloc (.cells X 54) := ⟨_, rfl⟩
  have bV : Below W.heap.size W V := by rw [hV]; exact (Below.refl _ _).alloc (Nat.le_refl _) _
  have e : V.heap[W.heap.size]? = some (.cells X 54) := by rw [hV]; exact World.alloc_heap_new _ _
  rw [← hV]
  clear hV
  go_wp2_with first
    | (go_at_call 36; refine held ?_)
    | (refine wpList_load_part (by rfl) 54 (.tmp 1) rfl W.heap.size 0 rfl _ X _ e (by rw [List.drop_zero, List.take_of_length_le (by simp)]) _ Tryz.underlying54 rfl hi ?_)
  unfold Held
  refine (hp V).mono ?_
  rintro e' w' ⟨rfl, b2⟩
  have b3 := below_step bV b2
  clear hp hi
  cases b with
  | true =>
    go_wp2
    go_ret
    exact ⟨rfl, b3⟩
  | false =>
    go_wp2
    go_ret
    exact ⟨rfl, b3⟩
set_option maxRecDepth 100000 in
set_option maxHeartbeats 1000000 in
theorem indexOne (st ss wt : Int) (b : Bool) (r : Int) (hr : b = true ∧ r = -1 ∨ b = false ∧ r = 0) (hp : ProcOK st ss wt b) (W : World) (x cp : Nat) (hx : ZomAt W x (procC st ss wt)) :
    Calls Tryz.prog 76 #[.slice (some ⟨x, 0, none⟩) 1 cp, .func (.func 35) #[] #[]] W fun e W' => e = .returned (.int .i64 r) ∧ Below W.heap.size W W' := by
  have kc := check1_any st ss wt b hp
  have hxl := hx.1
  obtain ⟨X, hX⟩ : ∃ X, X = procC st ss wt := ⟨_, rfl⟩
  have hi := infoProc st ss wt
  rw [← hX] at kc hi hx
  clear hX hp
  go_enter Tryz.func76, Tryz.ntmps76
  go_wp2
  go_loopw [5, 8] (fun _ i wr => ∃ k : Nat, i = .int .i64 (k : Int) ∧ (k = 0 ∨ k = 1 ∧ b = true) ∧ Below W.heap.size W wr) (fun _ i _ => 1 - (intOf i).toNat)
  case atStart => exact ⟨0, rfl, .inl rfl, Below.refl _ _⟩
  case round =>
    obtain ⟨k, rfl, hk, hb⟩ := hrel
    rcases hk with rfl | ⟨rfl, rfl⟩
    · have e := hx.below hb hxl
      have hs := hb.size
      go_wp2_with first
        | (go_at_call 35; refine held ?_)
        | (refine wpList_load_zom (by rfl) 54 (.tmp 14) rfl x rfl X e _ Tryz.underlying54 rfl hi ?_)
      unfold Held
      refine (kc wr).mono ?_
      rintro e' w' ⟨rfl, b2⟩
      have b3 := below_step hb b2
      clear kc hi
      rcases hr with ⟨rfl, rfl⟩ | ⟨rfl, rfl⟩
      · go_wp2
        go_roundw
        case rel => exact ⟨1, by go_num, .inr (by simp), b3⟩
        case measure => simp [intOf]
      · go_wp2
        go_ret
        exact ⟨rfl, b3⟩
    · rcases hr with ⟨_, rfl⟩ | ⟨h, _⟩
      · go_wp2
        go_ret
        exact ⟨rfl, hb⟩
      · cases h
set_option maxHeartbeats 1000000 in
theorem containsOne (st ss wt : Int) (b : Bool) (hp : ProcOK st ss wt b) (W : World) (x cp : Nat) (hx : ZomAt W x (procC st ss wt)) :
    Calls Tryz.prog 34 #[.slice (some ⟨x, 0, none⟩) 1 cp, .func (.func 35) #[] #[]] W fun e W' => e = .returned (.bool (!b)) ∧ Below W.heap.size W W' := by
  have ki := fun r hr => indexOne st ss wt b r hr hp W x cp hx
  clear hx hp
  go_enter Tryz.func34, Tryz.ntmps34
  cases b with
  | true =>
    have k := ki (-1) (.inl ⟨rfl, rfl⟩)
    clear ki
    go_wp2_with (go_at_call 76; refine k.mono ?_; rintro e w' ⟨rfl, b1⟩)
    go_ret
    exact ⟨rfl, b1⟩
  | false =>
    have k := ki 0 (.inr ⟨rfl, rfl⟩)
    clear ki
    go_wp2_with (go_at_call 76; refine k.mono ?_; rintro e w' ⟨rfl, b1⟩)
    go_ret
    exact ⟨rfl, b1⟩
theorem within1 (n a b : Int) (W : World) (r : Bool) (h : decide (a ≤ n ∧ n ≤ b) = r) : Calls Tryz.prog 33 #[.int .i64 n, .int .i64 a, .int .i64 b] W fun e W' => e = .returned (.bool r) ∧ W' = W := by
  rw [← h]; exact within_any n a b W
set_option maxRecDepth 100000 in
set_option maxHeartbeats 2000000 in
theorem check_one (st ss wt : Int) (b : Bool) (hp : ProcOK st ss wt b) (W : World) (x cp : Nat) (hx : ZomAt W x (procC st ss wt)) (E : Int) (hE : b = true ∧ E = 0 ∨ b = false ∧ E = 240) :
    Calls Tryz.prog 10 #[.agg #[.slice (some ⟨x, 0, none⟩) 1 cp, .slice none 0 0, .slice none 0 0, .slice none 0 0, .slice none 0 0]] W fun e W' => e = .returned (.int .i64 E) ∧ Below W.heap.size W W' := by
  have hxl := hx.1
  have kc := fun (V : World) (hV : Below W.heap.size W V) => containsOne st ss wt b hp V x cp (hx.below hV hxl)
  have KC := Lib.hid kc
  clear hx hp kc
  go_enter Tryz.func10, Tryz.ntmps10
  go_upto_region 1 with fail
  obtain ⟨V, hV⟩ : ∃ V, V = W.alloc (.cells #[.slice (some ⟨x, 0, none⟩) 1 cp, .slice none 0 0, .slice none 0 0, .slice none 0 0, .slice none 0 0] 29) := ⟨_, rfl⟩
  have bV : Below W.heap.size W V := by rw [hV]; exact (Below.refl _ _).alloc (Nat.le_refl _) _
  have e : V.heap[W.heap.size]? = some (.cells #[.slice (some ⟨x, 0, none⟩) 1 cp, .slice none 0 0, .slice none 0 0, .slice none 0 0, .slice none 0 0] 29) := by rw [hV]; exact World.alloc_heap_new _ _
  have eV : W.heap.size < V.heap.size := (Array.getElem?_eq_some_iff.1 e).1
  rw [← hV]
  clear hV
  have c0 : V.cell? ⟨W.heap.size, 0, none⟩ = some (.slice (some ⟨x, 0, none⟩) 1 cp) := by rw [cell_of_row V _ 0 _ _ _ e]; rfl
  have c1 : V.cell? ⟨W.heap.size, 1, none⟩ = some (.slice none 0 0) := by rw [cell_of_row V _ 1 _ _ _ e]; rfl
  have c2 : V.cell? ⟨W.heap.size, 2, none⟩ = some (.slice none 0 0) := by rw [cell_of_row V _ 2 _ _ _ e]; rfl
  have c3 : V.cell? ⟨W.heap.size, 3, none⟩ = some (.slice none 0 0) := by rw [cell_of_row V _ 3 _ _ _ e]; rfl
  have c4 : V.cell? ⟨W.heap.size, 4, none⟩ = some (.slice none 0 0) := by rw [cell_of_row V _ 4 _ _ _ e]; rfl
  have kw := within1 1 1 32 V true rfl
  go_wp2_with first
    | (go_at_call 33; refine kw.mono ?_; rintro e' w' ⟨rfl, hw⟩; subst hw)
    | (go_at_call 34; refine held ?_)
  unfold Held
  rename_i V'
  refine ((show ∀ V, Below W.heap.size W V → _ from KC) _ bV).mono ?_
  rintro e' w2 ⟨rfl, b2⟩
  have b3 := below_step bV b2
  have e2 := (b2.block _ eV).trans e
  have c1' : w2.cell? ⟨W.heap.size, 1, none⟩ = some (.slice none 0 0) := by rw [cell_of_row w2 _ 1 _ _ _ e2]; rfl
  have c2' : w2.cell? ⟨W.heap.size, 2, none⟩ = some (.slice none 0 0) := by rw [cell_of_row w2 _ 2 _ _ _ e2]; rfl
  have c3' : w2.cell? ⟨W.heap.size, 3, none⟩ = some (.slice none 0 0) := by rw [cell_of_row w2 _ 3 _ _ _ e2]; rfl
  have c4' : w2.cell? ⟨W.heap.size, 4, none⟩ = some (.slice none 0 0) := by rw [cell_of_row w2 _ 4 _ _ _ e2]; rfl
  clear KC kw c0 c1 c2 c3 c4 e b2 e2
  rcases hE with ⟨rfl, rfl⟩ | ⟨rfl, rfl⟩
  · go_wp2_with first
      | (go_at_call 37; refine (containsNoneStr _ _).mono ?_; rintro e' w' ⟨rfl, hw⟩; subst hw)
      | (go_at_call 39; refine (containsNonePipe _ _).mono ?_; rintro e' w' ⟨rfl, hw⟩; subst hw)
      | (go_at_call 41; refine (containsNoneFile _ _).mono ?_; rintro e' w' ⟨rfl, hw⟩; subst hw)
      | (go_at_call 43; refine (containsNoneWait _ _).mono ?_; rintro e' w' ⟨rfl, hw⟩; subst hw)
    go_ret
    exact ⟨rfl, b3⟩
  · go_wp2
    go_ret
    exact ⟨rfl, b3⟩
/-- no process at all -/
theorem check_empty (W : World) :
    Calls Tryz.prog 10 #[.agg #[.slice none 0 0, .slice none 0 0, .slice none 0 0, .slice none 0 0, .slice none 0 0]] W fun e W' => e = .returned (.int .i64 240) ∧ Below W.heap.size W W' := by
  go_enter Tryz.func10, Tryz.ntmps10
  go_upto_region 1 with fail
  obtain ⟨V, hV⟩ : ∃ V, V = W.alloc (.cells #[.slice none 0 0, .slice none 0 0, .slice none 0 0, .slice none 0 0, .slice none 0 0] 29) := ⟨_, rfl⟩
  have bV : Below W.heap.size W V := by rw [hV]; exact (Below.refl _ _).alloc (Nat.le_refl _) _
  have e : V.heap[W.heap.size]? = some (.cells #[.slice none 0 0, .slice none 0 0, .slice none 0 0, .slice none 0 0, .slice none 0 0] 29) := by rw [hV]; exact World.alloc_heap_new _ _
  rw [← hV]
  clear hV
  have c0 : V.cell? ⟨W.heap.size, 0, none⟩ = some (.slice none 0 0) := by rw [cell_of_row V _ 0 _ _ _ e]; rfl
  have kw := within1 0 1 32 V false rfl
  clear e
  go_wp2_with first
    | (go_at_call 33; refine kw.mono ?_; rintro e' w' ⟨rfl, hw⟩; subst hw)
  go_ret
  exact ⟨rfl, bV⟩
set_option maxHeartbeats 1000000 in
/-- a content that is too short -/
theorem containsShort (W : World) (y : Nat) (hy : W.heap[y]? = some (.cells #[.string (ByteArray.mk #[115, 104, 111, 114, 116])] 9)) :
    Calls Tryz.prog 37 #[.slice (some ⟨y, 0, none⟩) 1 1, .func (.func 38) #[] #[]] W fun e W' => e = .returned (.bool true) ∧ W' = W := by
  have c0 : W.cell? ⟨y, 0, none⟩ = some (.string (ByteArray.mk #[115, 104, 111, 114, 116])) := by rw [cell_of_row W _ 0 _ _ _ hy]; rfl
  have ki : Calls Tryz.prog 82 #[.slice (some ⟨y, 0, none⟩) 1 1, .func (.func 38) #[] #[]] W fun e W' => e = .returned (.int .i64 0) ∧ W' = W := by
    go_enter Tryz.func82, Tryz.ntmps82
    go_wp2
    go_loopw [5, 8] (fun _ i wr => i = .int .i64 0 ∧ wr = W) (fun _ _ _ => 0)
    case atStart => exact ⟨rfl, rfl⟩
    case round =>
      obtain ⟨rfl, rfl⟩ := hrel
      go_wp2
      go_ret
      exact ⟨rfl, rfl⟩
  clear c0 hy
  go_enter Tryz.func37, Tryz.ntmps37
  go_wp2_with (go_at_call 82; refine ki.mono ?_; rintro e w' ⟨rfl, hw⟩; subst hw)
  go_ret
  exact ⟨rfl, rfl⟩
set_option maxRecDepth 100000 in
set_option maxHeartbeats 2000000 in
theorem check_short (hp : ProcOK 2 7 0 true) (W : World) (x y cp : Nat) (hx : ZomAt W x (procC 2 7 0)) (hy : W.heap[y]? = some (.cells #[.string (ByteArray.mk #[115, 104, 111, 114, 116])] 9)) :
    Calls Tryz.prog 10 #[.agg #[.slice (some ⟨x, 0, none⟩) 1 cp, .slice (some ⟨y, 0, none⟩) 1 1, .slice none 0 0, .slice none 0 0, .slice none 0 0]] W fun e W' => e = .returned (.int .i64 240) ∧ Below W.heap.size W W' := by
  have hxl := hx.1
  have hyl := (Array.getElem?_eq_some_iff.1 hy).1
  have kc := fun (V : World) (hV : Below W.heap.size W V) => containsOne 2 7 0 true hp V x cp (hx.below hV hxl)
  have ks := fun (V : World) (hV : Below W.heap.size W V) => containsShort V y ((hV.block y hyl).trans hy)
  have KC := Lib.hid kc
  have KS := Lib.hid ks
  clear hx hp kc ks hy
  go_enter Tryz.func10, Tryz.ntmps10
  go_upto_region 1 with fail
  obtain ⟨V, hV⟩ : ∃ V, V = W.alloc (.cells #[.slice (some ⟨x, 0, none⟩) 1 cp, .slice (some ⟨y, 0, none⟩) 1 1, .slice none 0 0, .slice none 0 0, .slice none 0 0] 29) := ⟨_, rfl⟩
  have bV : Below W.heap.size W V := by rw [hV]; exact (Below.refl _ _).alloc (Nat.le_refl _) _
  have e : V.heap[W.heap.size]? = some (.cells #[.slice (some ⟨x, 0, none⟩) 1 cp, .slice (some ⟨y, 0, none⟩) 1 1, .slice none 0 0, .slice none 0 0, .slice none 0 0] 29) := by rw [hV]; exact World.alloc_heap_new _ _
  have eV : W.heap.size < V.heap.size := (Array.getElem?_eq_some_iff.1 e).1
  rw [← hV]
  clear hV
  have c0 : V.cell? ⟨W.heap.size, 0, none⟩ = some (.slice (some ⟨x, 0, none⟩) 1 cp) := by rw [cell_of_row V _ 0 _ _ _ e]; rfl
  have c1 : V.cell? ⟨W.heap.size, 1, none⟩ = some (.slice (some ⟨y, 0, none⟩) 1 1) := by rw [cell_of_row V _ 1 _ _ _ e]; rfl
  have c2 : V.cell? ⟨W.heap.size, 2, none⟩ = some (.slice none 0 0) := by rw [cell_of_row V _ 2 _ _ _ e]; rfl
  have c3 : V.cell? ⟨W.heap.size, 3, none⟩ = some (.slice none 0 0) := by rw [cell_of_row V _ 3 _ _ _ e]; rfl
  have c4 : V.cell? ⟨W.heap.size, 4, none⟩ = some (.slice none 0 0) := by rw [cell_of_row V _ 4 _ _ _ e]; rfl
  have kw := within1 1 1 32 V true rfl
  go_wp2_with first
    | (go_at_call 33; refine kw.mono ?_; rintro e' w' ⟨rfl, hw⟩; subst hw)
    | (go_at_call 34; refine held ?_)
  unfold Held
  refine ((show ∀ V, Below W.heap.size W V → _ from KC) _ bV).mono ?_
  rintro e' w2 ⟨rfl, b2⟩
  have b3 := below_step bV b2
  have e2 := (b2.block _ eV).trans e
  have c1' : w2.cell? ⟨W.heap.size, 1, none⟩ = some (.slice (some ⟨y, 0, none⟩) 1 1) := by rw [cell_of_row w2 _ 1 _ _ _ e2]; rfl
  have k2 := (show ∀ V, Below W.heap.size W V → _ from KS) w2 b3
  clear KC KS kw c0 c1 c2 c3 c4 e b2 e2
  go_wp2_with first
    | (go_at_call 37; refine k2.mono ?_; rintro e' w' ⟨rfl, hw⟩; subst hw)
  go_ret
  exact ⟨rfl, b3⟩
end Go.Proofs.YtejcandhijdnhaaGreat

/- Plain lemmas on words of 32 bits: the model's bit operations as Nat's. -/
namespace Go.Proofs.YtejcandhijdnhaaGreat
open Go.RowKit
theorem b32_nat (a : Nat) (ha : a < 4294967296) : (BitVec.ofInt 32 (a : Int)).toNat = a := by
  rw [BitVec.ofInt_natCast, BitVec.toNat_ofNat]; exact Nat.mod_eq_of_lt (by omega)
theorem wrap_u32_nat (a : Nat) (ha : a < 4294967296) : IntKind.u32.wrap (a : Int) = (a : Int) := by
  rw [IntKind.wrap_u32]; omega
theorem and_u32 (a b : Nat) (ha : a < 4294967296) (hb : b < 4294967296) : bits .and .u32 a b = ((a &&& b : Nat) : Int) := by
  have h : a &&& b < 2 ^ 32 := Nat.and_lt_two_pow _ (by omega)
  show IntKind.u32.wrap ((BitVec.ofInt 32 (a : Int) &&& BitVec.ofInt 32 (b : Int)).toNat : Int) = _
  rw [BitVec.toNat_and, b32_nat a ha, b32_nat b hb, wrap_u32_nat _ (by omega)]
theorem or_u32 (a b : Nat) (ha : a < 4294967296) (hb : b < 4294967296) : bits .or .u32 a b = ((a ||| b : Nat) : Int) := by
  have h : a ||| b < 2 ^ 32 := Nat.or_lt_two_pow (by omega) (by omega)
  show IntKind.u32.wrap ((BitVec.ofInt 32 (a : Int) ||| BitVec.ofInt 32 (b : Int)).toNat : Int) = _
  rw [BitVec.toNat_or, b32_nat a ha, b32_nat b hb, wrap_u32_nat _ (by omega)]
theorem xor_u32 (a b : Nat) (ha : a < 4294967296) (hb : b < 4294967296) : bits .xor .u32 a b = ((a ^^^ b : Nat) : Int) := by
  have h : a ^^^ b < 2 ^ 32 := Nat.xor_lt_two_pow (by omega) (by omega)
  show IntKind.u32.wrap ((BitVec.ofInt 32 (a : Int) ^^^ BitVec.ofInt 32 (b : Int)).toNat : Int) = _
  rw [BitVec.toNat_xor, b32_nat a ha, b32_nat b hb, wrap_u32_nat _ (by omega)]
/-- a without the bits of b -/
def andNotN (a b : Nat) : Nat := (BitVec.ofNat 32 a &&& ~~~ BitVec.ofNat 32 b).toNat
theorem andNotN_lt (a b : Nat) : andNotN a b < 4294967296 := by
  have := (BitVec.ofNat 32 a &&& ~~~ BitVec.ofNat 32 b).isLt
  unfold andNotN; omega
theorem andNot_u32 (a b : Nat) : bits .andNot .u32 a b = ((andNotN a b : Nat) : Int) := by
  show IntKind.u32.wrap ((BitVec.ofInt 32 (a : Int) &&& ~~~ BitVec.ofInt 32 (b : Int)).toNat : Int) = _
  rw [BitVec.ofInt_natCast, BitVec.ofInt_natCast]
  exact wrap_u32_nat _ (andNotN_lt a b)
theorem testBit_andNotN (a b i : Nat) : (andNotN a b).testBit i = (decide (i < 32) && a.testBit i && !b.testBit i) := by
  unfold andNotN
  rw [← BitVec.getLsbD]
  rw [BitVec.getLsbD_and, BitVec.getLsbD_not, BitVec.getLsbD_ofNat, BitVec.getLsbD_ofNat]
  by_cases h : i < 32 <;> simp [h]
theorem ofInt_toNat (n : Nat) (x : Int) : ((BitVec.ofInt n x).toNat : Int) = x % (2 ^ n : Nat) := by
  rw [BitVec.toNat_ofInt]
  exact Int.toNat_of_nonneg (Int.emod_nonneg _ (by have := Nat.two_pow_pos n; omega))
/-- 'x & (2^i - 1)' on a word, whatever x is -/
theorem and_low_u32 (x : Int) (i : Nat) (hi : i ≤ 32) : bits .and .u32 x ((2 ^ i - 1 : Nat) : Int) = x % ((2 ^ i : Nat) : Int) := by
  have h1 : 2 ^ i ≤ 4294967296 := by have := Nat.pow_le_pow_right (n := 2) (by decide) hi; omega
  have h2 := Nat.two_pow_pos i
  show IntKind.u32.wrap ((BitVec.ofInt 32 x &&& BitVec.ofInt 32 ((2 ^ i - 1 : Nat) : Int)).toNat : Int) = _
  rw [BitVec.toNat_and, b32_nat _ (by omega), Nat.and_two_pow_sub_one_eq_mod]
  have h3 : (BitVec.ofInt 32 x).toNat % 2 ^ i < 2 ^ i := Nat.mod_lt _ h2
  rw [wrap_u32_nat _ (by omega), Int.natCast_emod, ofInt_toNat]
  exact Int.emod_emod_of_dvd _ (by exact_mod_cast Nat.pow_dvd_pow 2 hi)
theorem b64_nat (a : Nat) (ha : a < 18446744073709551616) : (BitVec.ofInt 64 (a : Int)).toNat = a := by
  rw [BitVec.ofInt_natCast, BitVec.toNat_ofNat]; exact Nat.mod_eq_of_lt (by omega)
theorem wrap_u64_nat (a : Nat) (ha : a < 18446744073709551616) : IntKind.u64.wrap (a : Int) = (a : Int) := by
  rw [IntKind.wrap_u64]; omega
theorem and_u64 (a b : Nat) (ha : a < 18446744073709551616) (hb : b < 18446744073709551616) : bits .and .u64 a b = ((a &&& b : Nat) : Int) := by
  have h : a &&& b < 2 ^ 64 := Nat.and_lt_two_pow _ (by omega)
  show IntKind.u64.wrap ((BitVec.ofInt 64 (a : Int) &&& BitVec.ofInt 64 (b : Int)).toNat : Int) = _
  rw [BitVec.toNat_and, b64_nat a ha, b64_nat b hb, wrap_u64_nat _ (by omega)]
theorem or_u64 (a b : Nat) (ha : a < 18446744073709551616) (hb : b < 18446744073709551616) : bits .or .u64 a b = ((a ||| b : Nat) : Int) := by
  have h : a ||| b < 2 ^ 64 := Nat.or_lt_two_pow (by omega) (by omega)
  show IntKind.u64.wrap ((BitVec.ofInt 64 (a : Int) ||| BitVec.ofInt 64 (b : Int)).toNat : Int) = _
  rw [BitVec.toNat_or, b64_nat a ha, b64_nat b hb, wrap_u64_nat _ (by omega)]
/-- a without the bits of b, 64 bits -/
def andNot64 (a b : Nat) : Nat := (BitVec.ofNat 64 a &&& ~~~ BitVec.ofNat 64 b).toNat
theorem andNot64_lt (a b : Nat) : andNot64 a b < 18446744073709551616 := by
  have := (BitVec.ofNat 64 a &&& ~~~ BitVec.ofNat 64 b).isLt
  unfold andNot64; omega
theorem andNot_u64 (a b : Nat) : bits .andNot .u64 a b = ((andNot64 a b : Nat) : Int) := by
  show IntKind.u64.wrap ((BitVec.ofInt 64 (a : Int) &&& ~~~ BitVec.ofInt 64 (b : Int)).toNat : Int) = _
  rw [BitVec.ofInt_natCast, BitVec.ofInt_natCast]
  exact wrap_u64_nat _ (andNot64_lt a b)
theorem testBit_andNot64 (a b i : Nat) : (andNot64 a b).testBit i = (decide (i < 64) && a.testBit i && !b.testBit i) := by
  unfold andNot64
  rw [← BitVec.getLsbD]
  rw [BitVec.getLsbD_and, BitVec.getLsbD_not, BitVec.getLsbD_ofNat, BitVec.getLsbD_ofNat]
  by_cases h : i < 64 <;> simp [h]
theorem and15_u32 (x : Int) : bits .and .u32 x 15 = x % 16 := and_low_u32 x 4 (by decide)
theorem and1_u32 (x : Int) : bits .and .u32 x 1 = x % 2 := and_low_u32 x 1 (by decide)
end Go.Proofs.YtejcandhijdnhaaGreat

/- The walk of the iterators slices.Chunk and word.fours. -/
namespace Go.Proofs.YtejcandhijdnhaaGreat
open Go Go.RowKit Go.Shelf
attribute [local go_sem] Oper.semAt_some
set_option linter.unusedVariables false
set_option linter.unnecessarySimpa false
theorem val_int {k : IntKind} {a b : Int} (h : a = b) : Value.int k a = .int k b := by rw [h]
/-- the k-th chunk of four -/
def chunk : Value → Nat → Value
  | .slice (some a) len _, k => .slice (some (a.add (4 * k))) (min 4 (len - 4 * k)) (min 4 (len - 4 * k))
  | v, _ => v
set_option maxRecDepth 100000 in
set_option maxHeartbeats 4000000 in
theorem chunk1_iter (B1 B2 : Nat) (sv : Value) (zs : List Int) (w : World) (h1 : B1 < w.heap.size) (h2 : B2 < w.heap.size) (c1 : w.cell? ⟨B1, 0, none⟩ = some sv) (c2 : w.cell? ⟨B2, 0, none⟩ = some (.int .i64 4)) (hr : Row8 w.heap.size w sv zs) (hsm : zs.length ≤ 140737488351232) :
    Iter Tryz.prog 87 #[.pointer (some ⟨B1, 0, none⟩), .pointer (some ⟨B2, 0, none⟩)] (fun k : Nat => #[chunk sv k]) (fun b => b = B1 ∨ b = B2 ∨ blockOf sv b) (List.range ((zs.length + 3) / 4)) w := by
  intro l J Jx S0 W hW hJ hJx hlt hX hY h0
  have C1 : W.cell? ⟨B1, 0, none⟩ = some sv := (hW.cell (p := ⟨B1, 0, none⟩) h1).trans c1
  have C2 : W.cell? ⟨B2, 0, none⟩ = some (.int .i64 4) := (hW.cell (p := ⟨B2, 0, none⟩) h2).trans c2
  refine (callsIn_wide (n := 101)).1 ?_
  rcases hr with ⟨⟨a, cap, rfl, rfl⟩ | ⟨b, off, cap, rfl, hb, hle, hcap, hc⟩, hz⟩
  · refine callsIn_of_wp Tryz.func87 rfl trivial ?_ rfl
    simp only [Tryz.ntmps87, List.size_toArray, List.length_cons, List.length_nil, Nat.reduceAdd, Nat.reduceSub, Array.replicate_succ, Array.replicate_zero, List.push_toArray, List.append_toArray, List.nil_append, List.cons_append]
    gi_wp2
    gi_loopw [4] (fun i wr => i = .int .i64 0 ∧ J 0 S0 wr ∧ wr.cell? ⟨B1, 0, none⟩ = some (.slice a 0 cap)) (fun _ _ => 0)
    case atStart => exact ⟨rfl, h0, C1⟩
    case round =>
      obtain ⟨rfl, hJs, hc1⟩ := hrel
      gi_wp2
      go_end0
      exact ⟨⟨_, rfl⟩, .inl ⟨S0, by simpa using hJs⟩⟩
  · have hlen : (⟨b, off, none⟩ : Addr).block = b := rfl
    have C2' : ∀ j, j < zs.length → W.cell? ⟨b, off + j, none⟩ = some (.int .u8 (zs.getD j 0)) := fun j hj => (hW.cell (p := ⟨b, off + j, none⟩) hb).trans (hc j hj)
    have x1 : ¬ S0 B1 := hX _ (.inl rfl)
    have x2 : ¬ S0 B2 := hX _ (.inr (.inl rfl))
    have hWs := hW.size
    refine callsIn_of_wp Tryz.func87 rfl trivial ?_ rfl
    simp only [Tryz.ntmps87, List.size_toArray, List.length_cons, List.length_nil, Nat.reduceAdd, Nat.reduceSub, Array.replicate_succ, Array.replicate_zero, List.push_toArray, List.append_toArray, List.nil_append, List.cons_append]
    gi_wp2
    gi_loopw [4] (fun i wr => ∃ (k : Nat) (S : Nat → Prop), i = .int .i64 (4 * (k : Int)) ∧ k ≤ (zs.length + 3) / 4 ∧ J k S wr ∧ Wr S0 S W wr) (fun i _ => (zs.length + 4) - (intOf i).toNat)
    case atStart => exact ⟨0, S0, rfl, Nat.zero_le _, h0, Wr.refl _ _⟩
    case round =>
      obtain ⟨k, S, rfl, hk, hJs, hw⟩ := hrel
      have hc1 : wr.cell? ⟨B1, 0, none⟩ = some (.slice (some ⟨b, off, none⟩) zs.length cap) := cell_same (hw.block _ (by show B1 < _; omega) x1) C1
      have hc2 : wr.cell? ⟨B2, 0, none⟩ = some (.int .i64 4) := cell_same (hw.block _ (by show B2 < _; omega) x2) C2
      by_cases hlt : 4 * k < zs.length
      · have t1 : decide (4 * (k : Int) < ((zs.length : Nat) : Int)) = true := by simp; omega
        have hmin : (if ((zs.length - 4 * k : Nat) : Int) < 4 then ((zs.length - 4 * k : Nat) : Int) else 4) = ((min 4 (zs.length - 4 * k) : Nat) : Int) := by split <;> omega
        gi_wp2
        gi_region
        obtain ⟨m, hm⟩ : ∃ m, m = min 4 (zs.length - 4 * k) := ⟨_, rfl⟩
        rw [← hm]
        have hk2 : k < (List.range ((zs.length + 3) / 4)).length := by simp; omega
        obtain ⟨fn, tmps, assign, body, hy, hR⟩ := hY k hk2 S wr.drew (hJ k S wr _ hJs ⟨rfl, rfl, rfl, Nat.le_refl _, fun _ _ => rfl⟩)
        rw [show (List.range ((zs.length + 3) / 4))[k] = k from by simp] at hy
        simp only [chunk, Addr.add_lit, ← hm] at hy
        have hc1d : wr.drew.cell? ⟨B1, 0, none⟩ = some (.slice (some ⟨b, off, none⟩) zs.length cap) := hc1
        have hc2d : wr.drew.cell? ⟨B2, 0, none⟩ = some (.int .i64 4) := hc2
        have m1 : 4 * k + m ≤ zs.length := by omega
        have m2 : m ≤ 4 := by omega
        have m3 : 4 * k + m ≤ cap := by omega
        have m4 : ¬ m = 0 := by omega
        have hwS := hw.size
        have hwd : Wr S0 S W wr.drew := hw.drew
        clear hmin hc1 hc2 hm
        gi_wp2
        refine hR.mono ?_
        rintro e W3 (⟨rfl, S', hJ3, hw3⟩ | ⟨rfl, S', hJx3, hw3⟩)
        · have hw' := hwd.trans hw3
          have hc23 : W3.cell? ⟨B2, 0, none⟩ = some (.int .i64 4) := cell_same (hw'.block _ (by show B2 < _; omega) x2) C2
          gi_wp2
          go_roundw
          case rel => exact ⟨k + 1, S', by congr 1, by omega, hJ3, hw'⟩
          case measure => simp [intOf]; omega
        · gi_wp2
          refine bodyPost_ret (results_none rfl _ _ _) rfl ?_
          exact ⟨⟨_, rfl⟩, .inr ⟨k + 1, S', hk2, hJx3⟩⟩
      · have t1 : decide (4 * (k : Int) < ((zs.length : Nat) : Int)) = false := by simp; omega
        gi_wp2
        go_end0
        obtain rfl : k = (zs.length + 3) / 4 := by omega
        exact ⟨⟨_, rfl⟩, .inl ⟨S, by simpa using hJs⟩⟩
set_option maxHeartbeats 1000000 in
theorem chunk_in (F : Fence) (n : Nat) (hF : F.fn 58) (hro : F.round = none) (a : Option Addr) (len cap : Nat) (w : World) :
    CallsIn F n Tryz.prog 58 #[.slice a len cap, .int .i64 4] w fun e w' =>
      e = .returned (.func (.func 87) #[] #[.pointer (some ⟨w.heap.size, 0, none⟩), .pointer (some ⟨w.heap.size + 1, 0, none⟩)]) ∧
      w' = (w.alloc (.cells #[.slice a len cap] 22)).alloc (.cells #[.int .i64 4] 3) := by
  refine callsIn_of_wp Tryz.func58 rfl hF ?_ hro
  simp only [Tryz.ntmps58, List.size_toArray, List.length_cons, List.length_nil, Nat.reduceAdd, Nat.reduceSub, Array.replicate_succ, Array.replicate_zero, List.push_toArray, List.append_toArray, List.nil_append, List.cons_append]
  gi_wp2
  go_ret
  exact ⟨by simp, rfl⟩
set_option maxHeartbeats 1000000 in
theorem fours_in (F : Fence) (n : Nat) (hF : F.fn 88) (hro : F.round = none) (a : Option Addr) (len cap : Nat) (w : World) :
    CallsIn F n Tryz.prog 88 #[.slice a len cap] w fun e w' =>
      e = .returned (.func (.func 109) #[] #[.pointer (some ⟨w.heap.size, 0, none⟩)]) ∧ w' = w.alloc (.cells #[.slice a len cap] 22) := by
  refine callsIn_of_wp Tryz.func88 rfl hF ?_ hro
  simp only [Tryz.ntmps88, List.size_toArray, List.length_cons, List.length_nil, Nat.reduceAdd, Nat.reduceSub, Array.replicate_succ, Array.replicate_zero, List.push_toArray, List.append_toArray, List.nil_append, List.cons_append]
  gi_wp2
  go_ret
  exact ⟨rfl, rfl⟩
/-- the word of bytes, the lowest first: so many from one on -/
def leW (zs : List Int) (b : Nat) : Nat → Nat
  | 0 => 0
  | i + 1 => leW zs b i + 256 ^ i * (zs.getD (b + i) 0).toNat
theorem leW_lt (zs : List Int) (hz : ∀ z ∈ zs, 0 ≤ z ∧ z ≤ 255) (b i : Nat) : leW zs b i < 256 ^ i := by
  induction i with
  | zero => simp [leW]
  | succ i ih =>
    have hC : (zs.getD (b + i) 0).toNat ≤ 255 := by
      by_cases h : b + i < zs.length
      · have := hz _ (List.getElem_mem h)
        rw [show zs.getD (b + i) 0 = zs[b + i] from by simp [List.getD, List.getElem?_eq_getElem h]]; omega
      · rw [show zs.getD (b + i) 0 = 0 from by simp [List.getD, List.getElem?_eq_none (Nat.le_of_not_lt h)]]; simp
    have : 256 ^ i * (zs.getD (b + i) 0).toNat ≤ 256 ^ i * 255 := Nat.mul_le_mul_left _ hC
    simp only [leW, Nat.pow_succ]; omega
theorem or_byte (X C j : Nat) (hj : j < 4) (hX : X < 256 ^ j) (hC : C ≤ 255) : bits .or .u32 (X : Int) ((C : Int) * 2 ^ (8 * j) % 4294967296) = ((X + 256 ^ j * C : Nat) : Int) := by
  have e : (256 : Nat) ^ j = 2 ^ (8 * j) := by rw [Nat.pow_mul]
  have h1 : 256 ^ j * C ≤ 256 ^ j * 255 := Nat.mul_le_mul_left _ hC
  have h2 : (256 : Nat) ^ (j + 1) ≤ 256 ^ 4 := Nat.pow_le_pow_right (by decide) hj
  rw [Nat.pow_succ] at h2
  have h4 : 256 ^ j * C < 4294967296 := by omega
  rw [show (C : Int) * 2 ^ (8 * j) = ((256 ^ j * C : Nat) : Int) from by rw [Nat.mul_comm, e]; simp [Nat.mul_comm], show ((256 ^ j * C : Nat) : Int) % 4294967296 = ((256 ^ j * C : Nat) : Int) from by omega,
    or_u32 X _ (by omega) h4]
  congr 1
  rw [Nat.or_comm, Nat.add_comm, e]
  exact (Nat.two_pow_add_eq_or_of_lt (by rw [← e]; exact hX) C).symm
/-- what fours tells of its k-th four -/
def fourV (zs : List Int) (k : Nat) : Array Value := #[.int .u32 (leW zs (4 * k) (min 4 (zs.length - 4 * k))), .bool (decide (4 * k + 4 ≤ zs.length))]
set_option maxRecDepth 100000 in
set_option maxHeartbeats 4000000 in
theorem fours1_iter (B1 : Nat) (sv : Value) (zs : List Int) (w : World) (h1 : B1 < w.heap.size) (c1 : w.cell? ⟨B1, 0, none⟩ = some sv) (hr : Row8 w.heap.size w sv zs) (hsm : zs.length ≤ 140737488351232) :
    Iter Tryz.prog 109 #[.pointer (some ⟨B1, 0, none⟩)] (fourV zs) (fun b => b = B1 ∨ blockOf sv b) (List.range ((zs.length + 3) / 4)) w := by
  intro l J Jx S0 W hW hJ hJx hlt hX hY h0
  have C1 : W.cell? ⟨B1, 0, none⟩ = some sv := (hW.cell (p := ⟨B1, 0, none⟩) h1).trans c1
  have hWs := hW.size
  have hrW : Row8 w.heap.size W sv zs := hr.same fun b hb => hW.block b (hr.lt b hb)
  obtain ⟨a, cap, hsv⟩ := hr.slice
  refine (callsIn_wide (n := 101)).1 ?_
  refine callsIn_of_wp_marks Tryz.func109 rfl trivial ?_ rfl
  simp only [Tryz.ntmps109, List.size_toArray, List.length_cons, List.length_nil, Nat.reduceAdd, Nat.reduceSub, Array.replicate_succ, Array.replicate_zero, List.push_toArray, List.append_toArray, List.nil_append, List.cons_append]
  have C1a : W.cell? ⟨B1, 0, none⟩ = some (.slice a zs.length cap) := by rw [C1, hsv]
  have C1b : (W.alloc (.cells #[.func (.yield l) #[] #[]] 175)).cell? ⟨B1, 0, none⟩ = some (.slice a zs.length cap) := (((Below.refl _ W).alloc (Nat.le_refl _) _).cell (p := ⟨B1, 0, none⟩) (by show B1 < _; omega)).trans C1a
  have hch : Fence.wide.fn 58 := trivial
  gi_wp2_with (gi_at_call 58; refine (chunk_in Fence.wide _ trivial rfl _ _ _ _).mono ?_; rintro e w' ⟨rfl, rfl⟩)
  clear hch C1b
  subst hsv
  obtain ⟨W3, hW3⟩ : ∃ W3, W3 = ((W.alloc (.cells #[.func (.yield l) #[] #[]] 175)).alloc (.cells #[.slice a zs.length cap] 22)).alloc (.cells #[.int .i64 4] 3) := ⟨_, rfl⟩
  have sz : W3.heap.size = W.heap.size + 3 := by rw [hW3]; simp
  have bW : Below W.heap.size W W3 := by rw [hW3]; exact (((Below.refl _ W).alloc (Nat.le_refl _) _).alloc (by simp) _).alloc (by simp; omega) _
  have cY : W3.cell? ⟨W.heap.size, 0, none⟩ = some (.func (.yield l) #[] #[]) := by
    rw [hW3]
    exact ((((Below.refl _ _).alloc (Nat.le_refl _) _).alloc (by simp) _).cell (p := ⟨W.heap.size, 0, none⟩) (by simp)).trans (World.cell?_alloc_mark ..)
  have cB : W3.cell? ⟨W.heap.size + 1, 0, none⟩ = some (.slice a zs.length cap) := by
    rw [hW3]
    refine (((Below.refl _ _).alloc (Nat.le_refl _) _).cell (p := ⟨W.heap.size + 1, 0, none⟩) (by simp)).trans ?_
    have := World.cell?_alloc_mark (W.alloc (.cells #[.func (.yield l) #[] #[]] 175)) #[.slice a zs.length cap] 22 (0, 0) 0
    simpa using this
  have cN : W3.cell? ⟨W.heap.size + 1 + 1, 0, none⟩ = some (.int .i64 4) := by
    rw [hW3]
    have := World.cell?_alloc_mark ((W.alloc (.cells #[.func (.yield l) #[] #[]] 175)).alloc (.cells #[.slice a zs.length cap] 22)) #[.int .i64 4] 3 (0, 0) 0
    simpa using this
  rw [← hW3]
  have hr3 : Row8 W3.heap.size W3 (.slice a zs.length cap) zs := (hrW.same fun b hb => bW.block b (by have := hr.lt b hb; omega)).mono (by omega)
  have s0 := hlt 0 S0 W h0
  refine range_law (gf := 87) rfl (enters_of Tryz.func87 (by kernel_rfl) rfl)
    (chunk1_iter (W.heap.size + 1) (W.heap.size + 1 + 1) _ zs W3 (by omega) (by omega) cB cN hr3 hsm) (fun _ => rfl)
    (fun k S A => J k S A ∧ A.cell? ⟨W.heap.size, 0, none⟩ = some (.func (.yield l) #[] #[]) ∧ ¬ S W.heap.size ∧ (∀ b, blockOf (.slice a zs.length cap) b → ¬ S b ∧ A.heap[b]? = W3.heap[b]?))
    (fun c k S A => c = .ret ∧ Jx k S A) S0 ?hX ?hI ?hIx ?hlt ?h0
    (fun k => { tmps := #[.func (.yield l) #[] #[], .pointer (some ⟨B1, 0, none⟩), .pointer (some ⟨W.heap.size, 0, none⟩), chunk (.slice a zs.length cap) k, undef, undef, undef, .slice a zs.length cap,
      .func (.func 87) #[] #[.pointer (some ⟨W.heap.size + 1, 0, none⟩), .pointer (some ⟨W.heap.size + 1 + 1, 0, none⟩)], chunk (.slice a zs.length cap) k,
      undef, undef, undef, undef, undef, undef, undef, undef, undef, undef, undef, undef, undef, undef, undef, undef, undef, undef, undef, undef, undef, undef], defers := [] }) ?assign ?body ?done ?stop
  case hX =>
    rintro b (rfl | rfl | hb)
    · exact ⟨by omega, fun h => by have := s0 _ h; omega⟩
    · exact ⟨by omega, fun h => by have := s0 _ h; omega⟩
    · exact ⟨by have := hr.lt b hb; omega, hX _ (.inr hb)⟩
  case hI =>
    rintro k S A A' ⟨hj, hc, hn, hb⟩ hs
    exact ⟨hJ _ _ _ _ hj (hs.mono fun b hb => hb.elim (fun h => .inl (by omega)) .inr), cell_same (hs.block _ (.inl (by show W.heap.size < _; omega))) hc, hn,
      fun b h => ⟨(hb b h).1, (hs.block b (.inl (by have := hr.lt b h; omega))).trans (hb b h).2⟩⟩
  case hIx =>
    rintro c k S A A' ⟨hc, hj⟩ hs
    exact ⟨hc, hJx _ _ _ _ hj (hs.mono fun b hb => hb.elim (fun h => .inl (by omega)) .inr)⟩
  case hlt =>
    rintro k S A ⟨hj, _⟩
    exact hlt _ _ _ hj
  case h0 =>
    exact ⟨hJ _ _ _ _ h0 ((SameOn.of_below bW).mono fun b hb => hb.elim id (s0 b)), cY, fun h => by have := s0 _ h; omega, fun b hb => ⟨hX _ (.inr hb), rfl⟩⟩
  case assign =>
    intro l' k A K hK
    gi_wp2
    exact hK
  case body =>
    rintro l' k hk S A ⟨hj, hcY, hnY, hbk⟩
    have hz := hr.2
    rw [show (List.range ((zs.length + 3) / 4))[k] = k from by simp]
    have hN : k < (zs.length + 3) / 4 := by simpa using hk
    rcases hr3.1 with ⟨a', cp', h, rfl⟩ | ⟨b, off, cp, h, hb, hle, hcap, hc⟩
    · simp at hN
    injection h with h2 _ h3
    subst h2; subst h3
    have hcA : ∀ j, j < zs.length → A.cell? ⟨b, off + j, none⟩ = some (.int .u8 (zs.getD j 0)) := fun j hj2 => cell_same (p := ⟨b, off + j, none⟩) (hbk b ⟨by omega, rfl⟩).2 (hc j hj2)
    obtain ⟨fn, tmps, assign, body, hy, hR⟩ := yield_any (l' := l') (m' := 99) (hY k hk S A hj)
    rw [show (List.range ((zs.length + 3) / 4))[k] = k from by simp] at hy
    simp only [chunk, Addr.add_lit, fourV] at hy ⊢
    obtain ⟨m, hm⟩ : ∃ m, m = min 4 (zs.length - 4 * k) := ⟨_, rfl⟩
    rw [← hm] at hy ⊢
    have m1 : 4 * k + m ≤ zs.length := by omega
    have m2 : m ≤ 4 := by omega
    have m4 : 1 ≤ m := by omega
    have hq : ((m : Int) == 4) = decide (4 * k + 4 ≤ zs.length) := by
      rw [Bool.eq_iff_iff]; simp; omega
    clear hm
    gi_wp2
    gi_loopw [4, 12] (fun a i wr => ∃ j : Nat, j ≤ m ∧ i = .int .i64 j ∧ a = .int .u32 (leW zs (4 * k) j) ∧ wr = A) (fun _ i _ => m - (intOf i).toNat)
    case atStart => exact ⟨0, Nat.zero_le _, rfl, rfl, rfl⟩
    case round =>
      obtain ⟨j, hj, rfl, rfl, rfl⟩ := hrel
      by_cases hlt : j < m
      · have hcj := hcA (4 * k + j) (by omega)
        rw [← Nat.add_assoc] at hcj
        obtain ⟨C, hC, hC2⟩ : ∃ C : Nat, zs.getD (4 * k + j) 0 = C ∧ C ≤ 255 := by
          have h := hz (zs[4 * k + j]'(by omega)) (List.getElem_mem _)
          exact ⟨(zs[4 * k + j]'(by omega)).toNat, by simp [List.getD, List.getElem?_eq_getElem (show 4 * k + j < zs.length by omega)]; omega, by omega⟩
        rw [hC] at hcj
        have h8 : 8 * (j : Int) ≤ 24 := by omega
        have hl := leW_lt zs hr.2 (4 * k) j
        have hC3 := Lib.hid hC
        clear hC
        gi_wp2
        refine ⟨⟨j + 1, by omega, by simp, val_int ?_, trivial⟩, by simp [intOf]; omega⟩
        rw [or_byte _ _ j (by omega) hl hC2]
        have hC : zs.getD (4 * k + j) 0 = C := hC3
        simp only [leW, hC, Int.toNat_natCast]
      · obtain rfl : j = m := by omega
        gi_wp2
        refine hR.mono ?_
        have hlA : W.heap.size < wr.heap.size := World.block_lt_of_cell? wr _ hcY
        rintro e W4 (⟨rfl, S', hJ4, hw4⟩ | ⟨rfl, S', hJx4, hw4⟩)
        · gi_wp2
          exact ⟨S', ⟨hJ4, cell_same (hw4.block _ hlA hnY) hcY, fun h => (hw4.new _ h).elim hnY (fun h => by omega), fun x hx => by
            have h1 := hr.lt x hx
            exact ⟨fun h => (hw4.new _ h).elim (hbk x hx).1 (fun h => by omega), (hw4.block x (by omega) (hbk x hx).1).trans (hbk x hx).2⟩⟩, hw4⟩
        · gi_wp2
          exact ⟨S', ⟨rfl, hJx4⟩, hw4⟩
  case done =>
    rintro D S A hD hS ⟨hj, _⟩ hK
    refine ⟨by simp, .inl ⟨_, _, rfl, run_takeDeferred hK, ?_⟩⟩
    refine ⟨_, results_none rfl _ _ _, ⟨_, rfl⟩, .inl ⟨S, ?_⟩⟩
    exact hJ _ _ _ _ (by simpa using hj) (SameOn.putObj _ _ _ (fun h => h.elim (fun h => by omega) hS))
  case stop =>
    rintro D c k S A hD hS hk ⟨rfl, hj⟩ hK
    gi_wp2
    refine ⟨by simp, .inl ⟨_, _, rfl, run_takeDeferred hK, ?_⟩⟩
    refine ⟨_, results_none rfl _ _ _, ⟨_, rfl⟩, .inr ⟨k, S, hk, ?_⟩⟩
    exact hJx _ _ _ _ hj (SameOn.putObj _ _ _ (fun h => h.elim (fun h => by omega) hS))
end Go.Proofs.YtejcandhijdnhaaGreat

/- The walk of word.Words and word.Read. -/
namespace Go.Proofs.YtejcandhijdnhaaGreat
open Go Go.RowKit Go.Shelf
attribute [local go_sem] Oper.semAt_some
set_option linter.unusedVariables false
set_option linter.unnecessarySimpa false
/-- the words of bytes: the first so many -/
def wordsV (zs : List Int) (k : Nat) : List Int := (List.range k).map fun i => ((leW zs (4 * i) 4 : Nat) : Int)
theorem wordsV_succ (zs : List Int) (k : Nat) : wordsV zs (k + 1) = wordsV zs k ++ [((leW zs (4 * k) 4 : Nat) : Int)] := by simp [wordsV, List.range_succ]
theorem wordsV_length (zs : List Int) (k : Nat) : (wordsV zs k).length = k := by simp [wordsV]
theorem info_u32 : (Tryz.prog.info? 40).map (fun i => (i.zero, i.size, i.bytes)) = some (some (.int .u32 0), 1, 4) := by kernel_rfl
/-- what Words answers -/
def WordsPost (w : World) (zs : List Int) (e : Ending) (w' : World) : Prop :=
  Below w.heap.size w w' ∧
  ((zs.length % 4 = 0 ∧ ∃ v, e = .returned (.tuple #[v, .int .i64 0]) ∧ w'.ownsRow w.heap.size 40 1 v (zs.length / 4) ((wordsV zs (zs.length / 4)).map (Value.int .u32)) ∧ (v = .slice none 0 0 ↔ zs.length = 0)) ∨
  (zs.length % 4 ≠ 0 ∧ e = .returned (.tuple #[.slice none 0 0, .int .i64 10])))
set_option maxRecDepth 100000 in
set_option maxHeartbeats 4000000 in
theorem words_in (n : Nat) (a : Option Addr) (len cap : Nat) (zs : List Int) (w : World) (hr : Row8 w.heap.size w (.slice a len cap) zs) (hsm : zs.length ≤ 140737488350000) :
    Calls Tryz.prog 60 #[.slice a len cap] w (WordsPost w zs) := by
  obtain ⟨i0, hi, hz0, hz1, hz2⟩ := info_parts info_u32
  refine (callsIn_wide (n := 102)).1 ?_
  refine callsIn_of_wp_marks Tryz.func60 rfl trivial ?_ rfl
  simp only [Tryz.ntmps60, List.size_toArray, List.length_cons, List.length_nil, Nat.reduceAdd, Nat.reduceSub, Array.replicate_succ, Array.replicate_zero, List.push_toArray, List.append_toArray, List.nil_append, List.cons_append]
  have hch : Fence.wide.fn 88 := trivial
  gi_wp2
  refine wideScope ?_
  gi_wp2
  refine wpIn_label ?_
  gi_wp2_with (gi_at_call 88; refine (fours_in Fence.wide _ trivial rfl _ _ _ _).mono ?_; rintro e w' ⟨rfl, rfl⟩)
  obtain ⟨W3, hW3⟩ : ∃ W3, W3 = ((w.alloc (.cells #[.slice none 0 0] 78)).alloc (.cells #[.bool true] 4)).alloc (.cells #[.slice a len cap] 22) := ⟨_, rfl⟩
  have sz : W3.heap.size = w.heap.size + 3 := by rw [hW3]; simp
  have bW : Below w.heap.size w W3 := by rw [hW3]; exact (((Below.refl _ w).alloc (Nat.le_refl _) _).alloc (by simp) _).alloc (by simp; omega) _
  have bO : Boxed W3 w.heap.size 78 (.slice none 0 0) := by rw [hW3]; exact ((Boxed.new w _ _).alloc _).alloc _
  have bF : Boxed W3 (w.heap.size + 1) 4 (.bool true) := by
    rw [hW3]
    have := Boxed.new (w.alloc (.cells #[.slice none 0 0] 78)) 4 (.bool true)
    rw [World.size_alloc] at this
    exact this.alloc _
  have bS : Boxed W3 (w.heap.size + 1 + 1) 22 (.slice a len cap) := by
    rw [hW3]
    have := Boxed.new ((w.alloc (.cells #[.slice none 0 0] 78)).alloc (.cells #[.bool true] 4)) 22 (.slice a len cap)
    rw [World.size_alloc, World.size_alloc] at this
    exact this
  rw [← hW3]
  have hr3 : Row8 W3.heap.size W3 (.slice a len cap) zs := (hr.same fun b hb => bW.block b (hr.lt b hb)).mono (by omega)
  refine range_law (gf := 109) rfl (enters_of Tryz.func109 (by kernel_rfl) rfl)
    (fours1_iter (w.heap.size + 1 + 1) _ zs W3 (by omega) bS.cell hr3 (by omega)) (fun _ => rfl)
    (fun k S A => ∃ v, S = (fun b => b = w.heap.size ∨ b = w.heap.size + 1 ∨ v.ownBlock = some b) ∧ Boxed A w.heap.size 78 v ∧ Boxed A (w.heap.size + 1) 4 (.bool true) ∧
      A.ownsRow w.heap.size 40 1 v k ((wordsV zs k).map (Value.int .u32)) ∧ (v = .slice none 0 0 ↔ k = 0) ∧ 4 * k ≤ zs.length ∧ Below w.heap.size w A)
    (fun c k S A => c = .exit 0 ∧ S = (fun b => b = w.heap.size + 1) ∧ Boxed A (w.heap.size + 1) 4 (.bool false) ∧ zs.length % 4 ≠ 0 ∧ Below w.heap.size w A)
    (fun b => b = w.heap.size ∨ b = w.heap.size + 1) ?hX ?hI ?hIx ?hlt ?h0
    (fun k => { tmps := #[.slice a len cap, undef, .slice none 0 0, .int .i64 0, .pointer (some ⟨w.heap.size, 0, none⟩), .pointer (some ⟨w.heap.size + 1, 0, none⟩),
      .int .u32 (leW zs (4 * k) (min 4 (zs.length - 4 * k))), .bool (decide (4 * k + 4 ≤ zs.length)), .slice a len cap, .func (.func 109) #[] #[.pointer (some ⟨w.heap.size + 1 + 1, 0, none⟩)],
      .int .u32 (leW zs (4 * k) (min 4 (zs.length - 4 * k))), .bool (decide (4 * k + 4 ≤ zs.length)), undef, undef, undef, undef, undef, undef, undef, undef, undef, undef], defers := [] }) ?assign ?body ?done ?stop
  case hX =>
    rintro b (rfl | hb)
    · exact ⟨by omega, fun h => by omega⟩
    · have := hr.lt b hb
      exact ⟨by omega, fun h => by omega⟩
  case hI =>
    rintro k S A A' ⟨v, rfl, h1, h2, h3, h4, h5, h6⟩ hs
    exact ⟨v, rfl, (hs.block _ (.inr (.inl rfl))).trans h1, (hs.block _ (.inr (.inr (.inl rfl)))).trans h2, ownsRow_same h3 (fun b hb => hs.block b (.inr (.inr (.inr hb)))), h4, h5, h6.trans (hs.below (fun b hb => .inl (by omega)))⟩
  case hIx =>
    rintro c k S A A' ⟨h1, rfl, h2, h3, h4⟩ hs
    exact ⟨h1, rfl, (hs.block _ (.inr rfl)).trans h2, h3, h4.trans (hs.below (fun b hb => .inl (by omega)))⟩
  case hlt =>
    rintro k S A ⟨v, rfl, h1, h2, h3, h4, h5, h6⟩ b (rfl | rfl | hb)
    · exact h1.lt
    · exact h2.lt
    · exact (h3.lt b hb).2
  case h0 =>
    refine ⟨.slice none 0 0, ?_, bO, bF, World.ownsRow_nil _ _ _ _, by simp, by omega, bW⟩
    funext b; simp [Value.ownBlock]
  case assign =>
    intro l' k A K hK
    dsimp only [fourV]
    gi_wp2
    exact hK
  case body =>
    rintro l' k hk S A ⟨v, rfl, h1, h2, h3, h4, h5, h6⟩
    rw [show (List.range ((zs.length + 3) / 4))[k] = k from by simp]
    have hN : k < (zs.length + 3) / 4 := by simpa using hk
    by_cases hw : 4 * k + 4 ≤ zs.length
    · obtain ⟨x, hx⟩ : ∃ x, x = leW zs (4 * k) (min 4 (zs.length - 4 * k)) := ⟨_, rfl⟩
      have hx4 : x = leW zs (4 * k) 4 := by rw [hx, Nat.min_eq_left (by omega)]
      rw [← hx, show decide (4 * k + 4 ≤ zs.length) = true from by simpa using hw]
      clear hx
      have c1 := h1.cell
      have c2 := h2.cell
      have f2 := h2.frozen
      have wr1 := (Wr.refl (fun b => b = w.heap.size ∨ b = w.heap.size + 1 ∨ v.ownBlock = some b) A).setCell (p := ⟨w.heap.size + 1, 0, none⟩) (.inl (.inr (.inl rfl))) (.bool true)
      have g1 := grownBy_setCell' A (w.heap.size + 1) (.bool true)
      have h1' := h1.kept g1 (by simp)
      have h2' := h2.set (.bool true)
      have h3' := h3.kept g1 (.inr (h2.not_row (by decide) h3).symm)
      have h6' : Below w.heap.size w (A.setCell ⟨w.heap.size + 1, 0, none⟩ (.bool true)) := h6.setCell (p := ⟨w.heap.size + 1, 0, none⟩) (by show w.heap.size ≤ w.heap.size + 1; omega) _
      have hsA := h6.size
      have c1' := h1'.cell
      have c2' := h2'.cell
      have hkl : k < 140737488350000 := by omega
      have eA : (A.setCell ⟨w.heap.size + 1, 0, none⟩ (.bool true)).heap.size = A.heap.size := by show (A.heap.modify _ _).size = _; rw [Array.size_modify]
      have hbase : w.heap.size ≤ (A.setCell ⟨w.heap.size + 1, 0, none⟩ (.bool true)).heap.size := by rw [eA]; omega
      have hcn : ∀ j u, [Value.int .u32 x][j]? = some u → ((A.setCell ⟨w.heap.size + 1, 0, none⟩ (.bool true)).alloc (.cells #[.int .u32 x] 40)).cell? ((⟨A.heap.size, 0, none⟩ : Addr).add j) = some u := by
        rw [← eA]; exact cell_one_new _ _ _
      have HX := Lib.hid hx4
      have HN := Lib.hid hcn
      have HE := Lib.hid eA
      clear hx4 hcn eA
      gi_wp2_with (gi_at_builtin; refine held ?_)
      unfold Held
      refine wpListIn_append_own_at _ rfl _ _ 78 rfl w.heap.size 40 i0 (.int .u32 0) 1 4 Tryz.underlying78 hi hz0 hz1 hz2 rfl (by decide) v k _ rfl (h3'.alloc _) ⟨A.heap.size, 0, none⟩ 1 1 [.int .u32 x] rfl rfl HN (by simp [Value.oneCell']) (by simp only [maxLen]; omega) (by omega) (by rw [World.size_alloc]; omega) ?_
      intro v' w1 hown' hgrow hnil hv
      obtain ⟨g', cap', rfl⟩ := ownsRow_succ hown'
      obtain ⟨hv1, hv2, hr2, hk2, hb2⟩ := h1'.appended (by decide) h3' hbase (Nat.le_refl _) hown' hgrow
      have hc1 := hv1.cell
      have hf1 := hv1.frozen
      gi_wp2
      have hx4 : x = leW zs (4 * k) 4 := HX
      have eA : (A.setCell ⟨w.heap.size + 1, 0, none⟩ (.bool true)).heap.size = A.heap.size := HE
      have k2 := (h2'.alloc (.cells #[.int .u32 x] 40)).kept hgrow (h2'.not_row (by decide) h3')
      refine ⟨fun b => b = w.heap.size ∨ b = w.heap.size + 1 ∨ (Value.slice (some ⟨g', 0, none⟩) (k + 1) cap').ownBlock = some b, ⟨_, rfl, hv2, k2.kept (grownBy_setCell' _ _ _) (by simp), ?_, by simp, by omega, h6'.trans hb2⟩, ?_⟩
      · rw [wordsV_succ, List.map_append, ← hx4]; exact hr2
      · refine ((((wr1.alloc (.cells #[.int .u32 x] 40)).grown hgrow (fun b hb => .inl (.inr (.inr hb)))).setCell (p := ⟨w.heap.size, 0, none⟩) (.inl (.inl rfl)) _).to ?_)
        rintro b (rfl | rfl | hb)
        · exact .inl (.inl rfl)
        · exact .inl (.inr (.inl rfl))
        · rcases hv with hv | hv
          · exact .inl (.inr (.inr (by rw [← hv]; exact hb)))
          · rw [hv, World.size_alloc, eA] at hb
            injection hb with hb
            exact .inr (by omega)
    · have c2 := h2.cell
      have f2 := h2.frozen
      rw [show decide (4 * k + 4 ≤ zs.length) = false from by simpa using hw]
      gi_wp2
      exact ⟨_, ⟨rfl, rfl, h2.set _, by omega, h6.setCell (p := ⟨w.heap.size + 1, 0, none⟩) (by show w.heap.size ≤ w.heap.size + 1; omega) _⟩, ((Wr.refl _ A).setCell (p := ⟨w.heap.size + 1, 0, none⟩) (.inl (.inr (.inl rfl))) (.bool false)).to (fun b hb => .inl (.inr (.inl hb)))⟩
  case done =>
    rintro D S A hD hS ⟨v, rfl, h1, h2, h3, h4, h5, h6⟩ hK
    have c1 := h1.cell
    have c2 := h2.cell
    gi_wp2
    refine ⟨by simp, .inl ⟨_, _, rfl, run_takeDeferred hK, ?_⟩⟩
    rw [List.length_range] at h3 h4 h5
    have e4 : zs.length % 4 = 0 := by omega
    have ek : (zs.length + 3) / 4 = zs.length / 4 := by omega
    rw [ek] at h3 h4
    refine ⟨.tuple #[v, .int .i64 0], by simp [results, Tryz.results60, go_sem], h6.trans (SameOn.below (SameOn.putObj (p := fun b => b < w.heap.size) _ _ _ (by show ¬ D < w.heap.size; omega)) (fun b hb => hb)), .inl ⟨e4, v, rfl, ?_, by rw [h4]; omega⟩⟩
    exact ownsRow_same h3 fun b hb => World.putObj_heap_other (fun e => hS (.inr (.inr (by rw [← e]; exact hb))))
  case stop =>
    rintro D c k S A hD hS hk ⟨rfl, rfl, h2, h3, h4⟩ hK
    have c2 := h2.cell
    gi_wp2
    refine ⟨by simp, .inl ⟨_, _, rfl, run_takeDeferred hK, ?_⟩⟩
    exact ⟨.tuple #[.slice none 0 0, .int .i64 10], by simp [results, Tryz.results60, go_sem], h4.trans (SameOn.below (SameOn.putObj (p := fun b => b < w.heap.size) _ _ _ (by show ¬ D < w.heap.size; omega)) (fun b hb => hb)), .inr ⟨h3, rfl⟩⟩
end Go.Proofs.YtejcandhijdnhaaGreat

/- The walk of word.Read. -/
namespace Go.Proofs.YtejcandhijdnhaaGreat
open Go Go.RowKit
set_option linter.unusedVariables false
set_option linter.unnecessarySimpa false
/-- what Read answers -/
def readV (zs : List Int) : Int := if zs.length = 4 then (leW zs 0 4 : Nat) else 0
def readE (zs : List Int) : Int := if zs.length = 4 then 0 else 10
set_option maxHeartbeats 1000000 in
theorem read_any (a : Option Addr) (len cap : Nat) (zs : List Int) (w : World) (hr : Row8 w.heap.size w (.slice a len cap) zs) (hsm : zs.length ≤ 140737488350000) :
    Calls Tryz.prog 55 #[.slice a len cap] w fun e w' => e = .returned (.tuple #[.int .u32 (readV zs), .int .i64 (readE zs)]) ∧ Below w.heap.size w w' := by
  go_enter Tryz.func55, Tryz.ntmps55
  go_wp2_with fail
  go_wp2_with (go_at_call 60; refine (words_in 0 a len cap zs w hr hsm).mono ?_; rintro e w1 ⟨hb, ⟨h4, v, rfl, hown, hnil⟩ | ⟨h4, rfl⟩⟩ <;> refine held ?_)
  · unfold Held
    have hown' := RowI.of_own hown
    obtain ⟨hn, hrow⟩ := hown'
    obtain ⟨a1, cap1, rfl⟩ := hrow.slice
    obtain ⟨_, b, off, hopen, hc⟩ := hrow.open
    have hl1 : (wordsV zs (zs.length / 4)).length = zs.length / 4 := wordsV_length _ _
    by_cases h1 : zs.length = 4
    · have h5 : zs.length / 4 = 1 := by omega
      have hl2 : (wordsV zs (zs.length / 4)).length = 1 := by omega
      obtain ⟨rfl, _⟩ := hopen (by omega)
      have c0 := hc 0 (by omega)
      have e0 : (wordsV zs (zs.length / 4)).getD 0 0 = leW zs 0 4 := by rw [h5]; rfl
      rw [e0] at c0
      rw [hl2]
      simp only [Nat.add_zero] at c0
      have HH := Lib.hid h1
      clear hc e0 hopen hl1 hl2 h1 h5 hown hrow hnil hn h4
      go_wp2
      go_ret2
      have h1 : zs.length = 4 := HH
      exact ⟨by simp [readV, readE, h1], hb⟩
    · have hq : (((wordsV zs (zs.length / 4)).length : Int) != 1) = true := by simp; omega
      have HH := Lib.hid h1
      clear hc hopen hl1 h1 hown hrow hnil hn h4
      go_wp2
      go_ret2
      have h1 : ¬ zs.length = 4 := HH
      exact ⟨by simp [readV, readE, h1], hb⟩
  · unfold Held
    have HH := Lib.hid h4
    clear h4
    go_wp2
    go_ret2
    have h4 : zs.length % 4 ≠ 0 := HH
    have h1 : ¬ zs.length = 4 := by omega
    exact ⟨by simp [readV, readE, h1], hb⟩
end Go.Proofs.YtejcandhijdnhaaGreat

/- The walk of tlv.Find. -/
namespace Go.Proofs.YtejcandhijdnhaaGreat
open Go Go.RowKit
attribute [local go_sem] upV_value upV_skip upV_enter
set_option linter.unusedVariables false
set_option linter.unnecessarySimpa false
set_option linter.unusedSimpArgs false
theorem results_cellK {fn : Func} {p u : Tmp} {ty : TypeId} (h : fn.results = #[.cell p ty, .tmp u]) (tmps : Array Value) (P : Program) (w : World) (g : Nat) (t : TypeId) (cs : Array Value) (fr : Nat × Nat) (d : Array Field)
    (hp : tmps.getD p undef = .pointer (some ⟨g, 0, none⟩)) (hg : w.heap[g]? = some (.cells cs t fr))
    (hu : P.underlying ty = some (.struct d)) (hi : (P.info? ty).map (·.size) = some cs.size) :
    (results fn tmps).run P w = .ok (.tuple #[.agg cs, tmps.getD u undef]) w := by
  have hp' : tmps[p]?.getD undef = .pointer (some ⟨g, 0, none⟩) := by simpa using hp
  simp [results, h, hp', asAddr, run_loadVar_row w g t ty cs fr (.struct d) hg hu rfl hi]
/-- the n-th field of a tag -/
def findF : Forest → Int → Int → Option (List Int × Forest)
  | .nil, _, _ => none
  | .cons t b k r, tag, n => if t = tag then (if n = 0 then some (b, k) else findF r tag (n - 1)) else findF r tag n
/-- a field, as a value -/
structure Fld (W : World) (t : Int) (bs : List Int) (k : Forest) (a : Option Addr) (len cap : Nat) (ka : Option Addr) (kl kc : Nat) : Prop where
  row : Row8 W.heap.size W (.slice a len cap) bs
  kids : SlF W.heap.size W ka kl kc k
  t1 : -9223372036854775808 ≤ t
  t2 : t ≤ 9223372036854775807
  small : 1 + bs.length + k.cnt ≤ 20000
theorem Fld.below {W W' : World} {t : Int} {bs : List Int} {k : Forest} {a : Option Addr} {len cap : Nat} {ka : Option Addr} {kl kc : Nat} (h : Fld W t bs k a len cap ka kl kc) (hb : Below W.heap.size W W') : Fld W' t bs k a len cap ka kl kc :=
  ⟨(h.row.below hb).mono hb.size, (h.kids.below hb).mono hb.size, h.t1, h.t2, h.small⟩
/-- what Find answers -/
def FindPost (W : World) (r : Option (List Int × Forest)) (tag : Int) (e : Ending) (W' : World) : Prop :=
  Below W.heap.size W W' ∧ match r with
  | none => e = .returned (.tuple #[.agg #[.int .i64 0, .slice none 0 0, .slice none 0 0], .bool false])
  | some (bs, k) => ∃ (a : Option Addr) (len cap : Nat) (ka : Option Addr) (kl kc : Nat), e = .returned (.tuple #[.agg #[.int .i64 tag, .slice a len cap, .slice ka kl kc], .bool true]) ∧ Fld W' tag bs k a len cap ka kl kc
set_option maxRecDepth 100000 in
set_option maxHeartbeats 8000000 in
theorem find_any (f : Forest) (W : World) (n : Nat) (hn : n ≤ W.heap.size) (a : Option Addr) (len cap : Nat) (h : SlF n W a len cap f) (hcnt : f.cnt ≤ 20000) (tag nth : Int) (hn2 : nth ≤ 9223372036854775807) (hn3 : -9223372036854775808 ≤ nth) :
    Calls Tryz.prog 17 #[.slice a len cap, .int .i64 tag, .int .i64 nth] W (FindPost W (findF f tag nth) tag) := by
  have hs := h.small
  obtain ⟨hl, hc⟩ := h
  have hlc := Forest.length_le_cnt f
  have bn : ∀ V, Below W.heap.size W V → Below n W V := fun V h => ⟨h.os, h.tape, h.output, h.size, fun q hq => h.block q (by omega)⟩
  go_enter Tryz.func17, Tryz.ntmps17
  obtain ⟨Z, hZ⟩ : ∃ Z, Z = W.alloc (.cells #[.int .i64 0, .slice none 0 0, .slice none 0 0] 66) := ⟨_, rfl⟩
  have bZ : Below W.heap.size W Z := by rw [hZ]; exact (Below.refl _ W).alloc (Nat.le_refl _) _
  have pZ : Z.heap[W.heap.size]? = some (.cells zT 66) := by rw [hZ]; exact World.alloc_heap_new W _
  have sZ : W.heap.size + 1 ≤ Z.heap.size := by rw [hZ]; simp
  go_wp2
  rw [← hZ]
  go_loopw [2, 12] (fun m i wr => ∃ (k : Nat) (F : Forest) (N M : Int), m = .int .i64 M ∧ Hid ((M = N ∨ M = N + 18446744073709551616) ∧ -9223372036854775808 - (k : Int) ≤ N ∧ N ≤ 9223372036854775807 ∧ -9223372036854775808 ≤ M ∧ M ≤ 9223372036854775807) ∧ i = .int .i64 (k : Int) ∧ k + F.length = len ∧ F.cnt ≤ 20000 ∧ Hid (findF F tag N = findF f tag nth) ∧ (∀ q off, a = some ⟨q, off, none⟩ → 0 < len → q < n ∧ len ≤ cap ∧ cap ≤ maxLen ∧ RowF n W F q (off + k * 3)) ∧ (0 < len → ∃ q off, a = some ⟨q, off, none⟩) ∧ wr.heap[W.heap.size]? = some (.cells zT 66) ∧ W.heap.size + 1 ≤ wr.heap.size ∧ Below W.heap.size W wr) (fun _ i _ => len - (intOf i).toNat)
  case atStart =>
    refine ⟨0, f, nth, nth, rfl, ⟨.inl rfl, by omega, by omega, by omega, by omega⟩, rfl, by omega, hcnt, rfl, fun q off ha hl => ?_, fun hl => ?_, pZ, sZ, bZ⟩
    · rcases hc with h0 | ⟨b', off', ha', hb', hc1, hc2, hrow⟩
      · omega
      · rw [ha] at ha'; injection ha' with ha'; injection ha' with e1 e2; subst e1 e2
        exact ⟨hb', hc1, hc2, by simpa using hrow⟩
    · rcases hc with h0 | ⟨b', off', ha', _⟩
      · omega
      · exact ⟨b', off', ha'⟩
  case round =>
    clear pZ sZ bZ hZ hc
    obtain ⟨k, F, N, M, rfl, hNM, rfl, hkF, hcF, hV, hrF, hha, hp, hps, hb0⟩ := hrel
    by_cases hlt : k < len
    rotate_left
    · have t1 : decide ((k : Int) < (len : Int)) = false := by simp; omega
      have hF : F = .nil := by
        cases F with
        | nil => rfl
        | cons t bs k2 r => simp [Forest.length] at hkF; omega
      subst hF
      have hnone : findF f tag nth = none := (show findF .nil tag N = findF f tag nth from hV).symm
      have HN := Lib.hid hnone
      have e9 : (wr.setRow W.heap.size zT).heap[W.heap.size]? = some (.cells zT 66) := setRow_heap _ _ _ _ _ _ hp
      have b9 := below_setRow hb0 (Nat.le_refl _) zT
      clear hnone hV hrF hha hb0
      go_wp2_with ((fail_if_success (unfold Held)); refine at_store (t := 66) rfl ?_)
      unfold Held
      refine wpList_store_row rfl 66 (.tmp 6) (.tmp 27) rfl W.heap.size zT rfl rfl 66 zT hp infoT rfl (agg3_one ..) ?_
      go_wp2_with fail
      refine bodyPost_ret (results_cellK rfl _ _ _ W.heap.size 66 zT (0, 0) _ rfl e9 Tryz.underlying66 infoT) rfl ?_
      unfold FindPost
      rw [show findF f tag nth = none from HN]
      exact ⟨b9, rfl⟩
    have t1 : decide ((k : Int) < (len : Int)) = true := by simp; omega
    obtain ⟨q, off, rfl⟩ := hha (by omega)
    obtain ⟨hqn, hc1, hc2, hrow⟩ := hrF q off rfl (by omega)
    simp only [maxLen] at hc2
    have hrow' : RowF n wr F q (off + k * 3) := RowF.below (bn _ hb0) F q _ hqn hrow
    obtain ⟨t', bs', k', r, a1, l1, c1, ka1, kl1, kc1, rfl, q0, q1, q2, hr1, hr2, hrb, hrk, hrr⟩ := hrow'.open (by omega)
    have hNext := Lib.hid (fun (q' : Nat) (off' : Nat) (ha : some (Addr.mk q off none) = some ⟨q', off', none⟩) (_ : 0 < len) => (by
      injection ha with ha; injection ha with e1 e2 _
      subst e1 e2
      have hc := hrow
      obtain ⟨_, _, _, _, _, _, _, _, _, _, _, _, _, _, hc'⟩ := hc
      refine ⟨hqn, hc1, by simp only [maxLen]; omega, ?_⟩
      rw [show off + (k + 1) * 3 = off + k * 3 + 3 by omega]
      exact hc' : q' < n ∧ len ≤ cap ∧ cap ≤ maxLen ∧ RowF n W r q' (off' + (k + 1) * 3)))
    have hHA := Lib.hid (fun (_ : 0 < len) => (⟨q, off, rfl⟩ : ∃ q' off', some (Addr.mk q off none) = some ⟨q', off', none⟩))
    have hcF2 : r.cnt ≤ 20000 ∧ 1 + bs'.length + k'.cnt ≤ 20000 := by simp only [Forest.cnt] at hcF; omega
    have hkr : k + 1 + r.length = len := by simp only [Forest.length] at hkF; omega
    clear hrF hha hrow hrow' hrr hcF hkF
    go_wp2_with ((fail_if_success (unfold Held)); refine at_store (t := 66) rfl ?_)
    unfold Held
    refine wpList_store_row rfl 66 (.tmp 9) (.tmp 15) rfl wr.heap.size #[.int .i64 t', .slice a1 l1 c1, .slice ka1 kl1 kc1] rfl rfl 66 zT (World.alloc_heap_new _ _) infoT rfl (agg3_one ..) ?_
    rw [World.setRow_alloc_new]
    obtain ⟨V4, hV4⟩ : ∃ V4, V4 = wr.alloc (.cells #[.int .i64 t', .slice a1 l1 c1, .slice ka1 kl1 kc1] 66) := ⟨_, rfl⟩
    have x4 : V4.heap[wr.heap.size]? = some (.cells #[.int .i64 t', .slice a1 l1 c1, .slice ka1 kl1 kc1] 66) := by rw [hV4]; exact World.alloc_heap_new _ _
    have b4 : Below wr.heap.size wr V4 := by rw [hV4]; exact (Below.refl _ _).alloc (Nat.le_refl _) _
    have y0 : V4.cell? ⟨wr.heap.size, 0, none⟩ = some (.int .i64 t') := by rw [cell_of_row V4 _ 0 _ _ _ x4]; rfl
    have y1 : V4.cell? ⟨wr.heap.size, 1, none⟩ = some (.slice a1 l1 c1) := by rw [cell_of_row V4 _ 1 _ _ _ x4]; rfl
    have y2 : V4.cell? ⟨wr.heap.size, 2, none⟩ = some (.slice ka1 kl1 kc1) := by rw [cell_of_row V4 _ 2 _ _ _ x4]; rfl
    rw [← hV4]
    have hb4 := hb0.trans (b4.mono (by omega))
    have p4 := (b4.block W.heap.size (by omega)).trans hp
    have s4 : W.heap.size + 1 ≤ V4.heap.size := by have := b4.size; omega
    have hrb4 : Row8 n V4 (.slice a1 l1 c1) bs' := hrb.1.below ⟨b4.os, b4.tape, b4.output, b4.size, fun x hx => b4.block x (by omega)⟩
    have hrk4 : SlF n V4 ka1 kl1 kc1 k' := hrk.below ⟨b4.os, b4.tape, b4.output, b4.size, fun x hx => b4.block x (by omega)⟩
    clear hV4 x4 b4 q0 q1 q2 hrb hrk hp hb0
    by_cases htt : t' = tag
    rotate_left
    · have t2 : (t' != tag) = true := by simpa using htt
      have hV' : findF r tag N = findF f tag nth := by
        rw [← (show findF (.cons t' bs' k' r) tag N = findF f tag nth from hV), findF, if_neg htt]
      have HV' := Lib.hid hV'
      have hNM' : Hid ((M = N ∨ M = N + 18446744073709551616) ∧ -9223372036854775808 - ((k + 1 : Nat) : Int) ≤ N ∧ N ≤ 9223372036854775807 ∧ -9223372036854775808 ≤ M ∧ M ≤ 9223372036854775807) := ⟨hNM.1, by have := hNM.2.1; omega, hNM.2.2⟩
      clear htt hV' hV hrb4 hrk4
      go_wp2_with fail
      go_roundw
      case rel => exact ⟨k + 1, r, N, M, rfl, hNM', by go_num, hkr, hcF2.1, HV', hNext, hHA, p4, s4, hb4⟩
      case measure => simp [intOf]; omega
    subst htt
    have t2 : (t' != t') = false := by simp
    by_cases hN0 : N = 0
    rotate_left
    · have hMz : M ≠ 0 := by
        obtain ⟨h1, h2, h3, h4, h5⟩ := (show _ ∧ _ ∧ _ ∧ _ ∧ _ from hNM)
        omega
      have t3 : (M == 0) = false := by simpa using hMz
      have hV' : findF r t' (N - 1) = findF f t' nth := by
        rw [← (show findF (.cons t' bs' k' r) t' N = findF f t' nth from hV), findF, if_pos rfl, if_neg hN0]
      have HV' := Lib.hid hV'
      have hw : ∃ M', IntKind.i64.wrap (M - 1) = M' ∧ Hid ((M' = N - 1 ∨ M' = N - 1 + 18446744073709551616) ∧ -9223372036854775808 - ((k + 1 : Nat) : Int) ≤ N - 1 ∧ N - 1 ≤ 9223372036854775807 ∧ -9223372036854775808 ≤ M' ∧ M' ≤ 9223372036854775807) := by
        obtain ⟨h1, h2, h3, h4, h5⟩ := (show _ ∧ _ ∧ _ ∧ _ ∧ _ from hNM)
        by_cases hm : M = -9223372036854775808
        · refine ⟨9223372036854775807, by rw [hm]; decide, ?_, by omega, by omega, by omega, by omega⟩
          omega
        · exact ⟨M - 1, by rw [IntKind.wrap_i64]; omega, by omega, by omega, by omega, by omega, by omega⟩
      obtain ⟨M', hM', HM'⟩ := hw
      have HMM := Lib.hid hM'
      clear hN0 hMz hV' hV hrb4 hrk4 hNM hM'
      go_wp2_with fail
      go_roundw
      case rel => exact ⟨k + 1, r, N - 1, M', by rw [← show IntKind.i64.wrap (M - 1) = M' from HMM, IntKind.wrap_i64]; unfold wrap64; rfl, HM', by go_num, hkr, hcF2.1, HV', hNext, hHA, p4, s4, hb4⟩
      case measure => simp [intOf]; omega
    subst hN0
    obtain rfl : M = 0 := by
      obtain ⟨h1, h2, h3, h4, h5⟩ := (show _ ∧ _ ∧ _ ∧ _ ∧ _ from hNM)
      omega
    have hsome : findF f t' nth = some (bs', k') := by
      rw [← (show findF (.cons t' bs' k' r) t' 0 = findF f t' nth from hV), findF, if_pos rfl, if_pos rfl]
    have HN := Lib.hid hsome
    have k1 := twin_any k' V4 n t' a1 l1 c1 bs' ka1 kl1 kc1 (by omega) hr1 hr2 hrb4 hrk4 hcF2.2
    have K1 := Lib.hid k1
    have hcs := hcF2.2
    clear hsome hV hNM k1 hrb4 hrk4 hNext hHA hcF2
    go_wp2_with (go_at_call 59; refine held ?_)
    unfold Held
    refine Calls.mono K1 ?_
    rintro e w5 ⟨a5, l5, c5, ka5, kl5, kc5, rfl, _, r5, b5⟩
    have p5 := (b5.block W.heap.size (by omega)).trans p4
    have e9 : (w5.setRow W.heap.size #[.int .i64 t', .slice a5 l5 c5, .slice ka5 kl5 kc5]).heap[W.heap.size]? = some (.cells #[.int .i64 t', .slice a5 l5 c5, .slice ka5 kl5 kc5] 66) := setRow_heap _ _ _ _ _ _ p5
    have b9 := below_setRow (hb4.trans (b5.mono (by omega))) (Nat.le_refl _) #[.int .i64 t', .slice a5 l5 c5, .slice ka5 kl5 kc5]
    obtain ⟨W9, hW9⟩ : ∃ W9, W9 = w5.setRow W.heap.size #[.int .i64 t', .slice a5 l5 c5, .slice ka5 kl5 kc5] := ⟨_, rfl⟩
    have hP : Fld W9 t' bs' k' a5 l5 c5 ka5 kl5 kc5 := by
      have h9 : ∀ x, x ≠ W.heap.size → W9.heap[x]? = w5.heap[x]? := fun x hx => by rw [hW9]; exact setRow_other _ _ _ _ hx
      have s9 : W9.heap.size = w5.heap.size := by rw [hW9]; exact size_setRow _ _ _
      obtain ⟨z1, z2⟩ := r5 W9 W9.heap.size (fun x hx => h9 x (by omega)) (fun x hx => by omega)
      exact ⟨z1, z2, hr1, hr2, hcs⟩
    rw [← hW9] at e9 b9
    have HW9 := Lib.hid hW9
    clear K1 y0 y1 y2 p4 b5 r5 hb4 hW9
    go_wp2_with ((fail_if_success (unfold Held)); refine at_store (t := 66) rfl ?_)
    unfold Held
    refine wpList_store_row rfl 66 (.tmp 6) (.tmp 23) rfl W.heap.size #[.int .i64 t', .slice a5 l5 c5, .slice ka5 kl5 kc5] rfl rfl 66 zT p5 infoT rfl (agg3_one ..) ?_
    rw [show w5.setRow W.heap.size #[.int .i64 t', .slice a5 l5 c5, .slice ka5 kl5 kc5] = W9 from (show W9 = _ from HW9).symm]
    clear HW9 p5
    go_wp2_with fail
    refine bodyPost_ret (results_cellK rfl _ _ _ W.heap.size 66 #[.int .i64 t', .slice a5 l5 c5, .slice ka5 kl5 kc5] (0, 0) _ rfl e9 Tryz.underlying66 infoT) rfl ?_
    unfold FindPost
    rw [show findF f t' nth = some (bs', k') from HN]
    exact ⟨b9, _, _, _, _, _, _, rfl, hP⟩
end Go.Proofs.YtejcandhijdnhaaGreat

/- A part of a slice of integers. -/
namespace Go.Proofs.YtejcandhijdnhaaGreat
open Go Go.RowKit
set_option linter.unusedVariables false
/-- the cells of a part -/
theorem RowI.sub {k : IntKind} {n₀ : Nat} {W : World} {a : Option Addr} {len cap : Nat} {zs : List Int} (h : RowI k n₀ W (.slice a len cap) zs) (l m : Nat) (h1 : l ≤ m) (h2 : m ≤ len) :
    RowI k n₀ W (sliced a l m cap 1) ((zs.drop l).take (m - l)) ∧ ∀ b, blockOf (sliced a l m cap 1) b → blockOf (.slice a len cap) b := by
  rcases h with ⟨a', c, h, rfl⟩ | ⟨b, off, c, h, hb, h3, h4, hc⟩
  · injection h with e1 e2 e3; subst e1 e2 e3
    obtain rfl : m = 0 := by omega
    obtain rfl : l = 0 := by omega
    refine ⟨.inl ⟨_, _, rfl, by simp⟩, fun b hb => ?_⟩
    unfold sliced at hb
    split at hb
    · exact hb
    · cases a <;> simp [blockOf] at hb
  · injection h with e1 e2 e3; subst e1 e2 e3
    by_cases hm : m = l
    · subst hm
      refine ⟨.inl ⟨_, _, by unfold sliced; rw [Nat.sub_self], by simp⟩, fun b' hb' => ?_⟩
      unfold sliced at hb'
      rw [Nat.sub_self] at hb'
      split at hb' <;> simp [blockOf] at hb'
    · have e : sliced (some ⟨b, off, none⟩) l m cap 1 = .slice (some ⟨b, off + l, none⟩) (m - l) (cap - l) := by
        unfold sliced
        rw [if_neg (by omega)]
        simp [Addr.add_lit]
      have el : ((zs.drop l).take (m - l)).length = m - l := by rw [List.length_take, List.length_drop]; omega
      rw [e]
      refine ⟨.inr ⟨b, off + l, cap - l, by rw [el], hb, by rw [el]; omega, by omega, fun j hj => ?_⟩, ?_⟩
      · rw [el] at hj
        rw [Nat.add_assoc, hc (l + j) (by omega)]
        congr 2
        rw [getD_at _ _ (by omega), getD_at _ _ (by rw [el]; exact hj)]
        simp
      · rintro b' ⟨h5, rfl⟩
        exact ⟨by omega, rfl⟩
theorem Row8.sub {n₀ : Nat} {W : World} {a : Option Addr} {len cap : Nat} {zs : List Int} (h : Row8 n₀ W (.slice a len cap) zs) (l m : Nat) (h1 : l ≤ m) (h2 : m ≤ len) :
    Row8 n₀ W (sliced a l m cap 1) ((zs.drop l).take (m - l)) ∧ ∀ b, blockOf (sliced a l m cap 1) b → blockOf (.slice a len cap) b :=
  ⟨⟨(h.1.sub l m h1 h2).1, fun z hz => h.2 z (List.mem_of_mem_drop (List.mem_of_mem_take hz))⟩, (h.1.sub l m h1 h2).2⟩
theorem RowI.cap {k : IntKind} {n₀ : Nat} {W : World} {a : Option Addr} {len cap : Nat} {zs : List Int} (h : RowI k n₀ W (.slice a len cap) zs) : len ≤ cap := by
  rcases h with ⟨a', c, h, rfl⟩ | ⟨b, off, c, h, hb, h3, h4, hc⟩
  · injection h with e1 e2 e3; omega
  · injection h with e1 e2 e3; omega
theorem strOfNums_append (a b : List Int) : strOfNums (a ++ b) = strOfNums a ++ strOfNums b := by
  apply ByteArray.ext
  apply Array.ext'
  rw [ByteArray.data_append, Array.toList_append, strOfNums_data, strOfNums_data, strOfNums_data, List.map_append]
theorem strAdd {P : Program} (a b : List Int) (h : a.length + b.length ≤ maxLen) (W : World) : (Op.stringOp .add (strOfNums a) (strOfNums b)).run P W = .ok (.string (strOfNums (a ++ b))) W := by
  rw [strOfNums_append]
  exact run_string_add_sum W _ _ (by rw [strOfNums_size, strOfNums_size]; exact h)
section
variable {P : Program} {ops : Array Oper} {rest : List Oper} {o : Oper} {a : Act} {w : World} {Q : Exit → Act → World → Prop}
/-- the operation x[l:m], at any slice -/
theorem exec_slice (T : TypeId) (x : Operand) (lo hi : Option Operand) (ho : o.op = .slice T x lo hi none) (p : Option Addr) (len cap l m : Nat)
    (hx : a.eval x = .slice p len cap) (hlo : (lo = none ∧ l = 0) ∨ ∃ t, lo = some t ∧ a.eval t = .int .i64 (l : Int)) (hhi : (hi = none ∧ m = len) ∨ ∃ t, hi = some t ∧ a.eval t = .int .i64 (m : Int))
    (hu : P.underlying T = some (.slice (P.elem T))) (hs : (P.info? (P.elem T)).map (·.size) = some 1) (h0 : l ≤ m) (h1 : m ≤ len) (h2 : len ≤ cap) (q : Value) (hq : sliced p l m cap 1 = q) :
    (execOp a.eval o).run P w = .ok (.value q) w := by
  have hsz : (sizeOf (P.elem T)).run P w = .ok 1 w := by
    cases hq : P.info? (P.elem T) with
    | none => simp [hq] at hs
    | some i => simp [sizeOf, typeInfo, hq]; simpa [hq] using hs
  have hr : (Instr.sliceAt T (.slice p len cap) (lo.map a.eval) (hi.map a.eval) none).run P w = .ok (sliced p l m cap 1) w := by
    rw [run_sliceAt_slice _ T _ _ _ _ hu]
    rcases hlo with ⟨rfl, rfl⟩ | ⟨t1, rfl, e1⟩ <;> rcases hhi with ⟨rfl, rfl⟩ | ⟨t2, rfl, e2⟩
    · simp only [Option.map_none]
      rw [run_slice_all _ T p m cap hu, hsz]; rfl
    · simp only [Option.map_none, Option.map_some, e2]
      rw [run_slice_h _ T p len cap hu _ _ (by omega) (by omega), hsz]; rfl
    · simp only [Option.map_none, Option.map_some, e1]
      rw [run_slice_l _ T p m cap hu _ _ (by omega) (by omega), hsz]; rfl
    · simp only [Option.map_some, e1, e2]
      rw [run_slice_lh _ T p len cap hu _ _ _ _ (by omega) (by omega) (by omega), hsz]; rfl
  unfold execOp
  simp only [ho, hx, Option.map_none]
  rw [Sem.run_bind, hr, ← hq]
  rfl
theorem wpList_slice (hw : Region.wanted o (yielded ops a.tmps) = true) (T : TypeId) (x : Operand) (lo hi : Option Operand) (ho : o.op = .slice T x lo hi none) (p : Option Addr) (len cap l m : Nat)
    (hx : a.eval x = .slice p len cap) (hlo : (lo = none ∧ l = 0) ∨ ∃ t, lo = some t ∧ a.eval t = .int .i64 (l : Int)) (hhi : (hi = none ∧ m = len) ∨ ∃ t, hi = some t ∧ a.eval t = .int .i64 (m : Int))
    (hu : P.underlying T = some (.slice (P.elem T))) (hs : (P.info? (P.elem T)).map (·.size) = some 1) (h0 : l ≤ m) (h1 : m ≤ len) (h2 : len ≤ cap)
    (h : ∀ q, sliced p l m cap 1 = .slice q (m - l) (cap - l) → wpList P ops Q rest (a.put o.dst (.slice q (m - l) (cap - l))) w) : wpList P ops Q (o :: rest) a w := by
  refine BigFrame.wpList_want hw fun K hK => ?_
  have hr := exec_slice (P := P) (o := o) (a := a) (w := w) T x lo hi ho p len cap l m hx hlo hhi hu hs h0 h1 h2 _ rfl
  unfold Oper.wp
  rw [hr]
  exact hK _ _ (h _ rfl)
end
end Go.Proofs.YtejcandhijdnhaaGreat

/- The walk of the law TlvFound. -/
namespace Go.Proofs.YtejcandhijdnhaaGreat
open Go Go.RowKit
attribute [local go_sem] upV_value upV_skip upV_enter
set_option linter.unusedVariables false
set_option linter.unnecessarySimpa false
set_option linter.unusedSimpArgs false
section
variable {P : Program} {o : Oper} {a : Act} {w : World}
/-- the operation x[l:m], at any slice, of elements of any size -/
theorem exec_sliceN (s : Nat) (T : TypeId) (x : Operand) (lo hi : Option Operand) (ho : o.op = .slice T x lo hi none) (p : Option Addr) (len cap l m : Nat)
    (hx : a.eval x = .slice p len cap) (hlo : (lo = none ∧ l = 0) ∨ ∃ t, lo = some t ∧ a.eval t = .int .i64 (l : Int)) (hhi : (hi = none ∧ m = len) ∨ ∃ t, hi = some t ∧ a.eval t = .int .i64 (m : Int))
    (hu : P.underlying T = some (.slice (P.elem T))) (hs : (P.info? (P.elem T)).map (·.size) = some s) (h0 : l ≤ m) (h1 : m ≤ len) (h2 : len ≤ cap) (q : Value) (hq : sliced p l m cap s = q) :
    (execOp a.eval o).run P w = .ok (.value q) w := by
  have hsz : (sizeOf (P.elem T)).run P w = .ok s w := by
    cases hq : P.info? (P.elem T) with
    | none => simp [hq] at hs
    | some i => simp [sizeOf, typeInfo, hq]; simpa [hq] using hs
  have hr : (Instr.sliceAt T (.slice p len cap) (lo.map a.eval) (hi.map a.eval) none).run P w = .ok (sliced p l m cap s) w := by
    rw [run_sliceAt_slice _ T _ _ _ _ hu]
    rcases hlo with ⟨rfl, rfl⟩ | ⟨t1, rfl, e1⟩ <;> rcases hhi with ⟨rfl, rfl⟩ | ⟨t2, rfl, e2⟩
    · simp only [Option.map_none]
      rw [run_slice_all _ T p m cap hu, hsz]; rfl
    · simp only [Option.map_none, Option.map_some, e2]
      rw [run_slice_h _ T p len cap hu _ _ (by omega) (by omega), hsz]; rfl
    · simp only [Option.map_none, Option.map_some, e1]
      rw [run_slice_l _ T p m cap hu _ _ (by omega) (by omega), hsz]; rfl
    · simp only [Option.map_some, e1, e2]
      rw [run_slice_lh _ T p len cap hu _ _ _ _ (by omega) (by omega) (by omega), hsz]; rfl
  unfold execOp
  simp only [ho, hx, Option.map_none]
  rw [Sem.run_bind, hr, ← hq]
  rfl
end
/-- how many have the tag -/
def cntT : Forest → Int → Nat
  | .nil, _ => 0
  | .cons t _ _ r, tag => (if t = tag then 1 else 0) + cntT r tag
theorem cntT_app : ∀ (F G : Forest) (tag : Int), cntT (F.app G) tag = cntT F tag + cntT G tag
  | .nil, _, _ => by simp [Forest.app, cntT]
  | .cons t _ _ r, G, tag => by simp only [Forest.app, cntT, cntT_app r G tag]; omega
theorem cntT_le : ∀ (F : Forest) (tag : Int), cntT F tag ≤ F.length
  | .nil, _ => Nat.le_refl _
  | .cons t _ _ r, tag => by have := cntT_le r tag; simp only [cntT, Forest.length]; split <;> omega
theorem findF_app : ∀ (F G : Forest) (tag : Int) (n : Int), 0 ≤ n → findF (F.app G) tag ((cntT F tag : Int) + n) = findF G tag n
  | .nil, G, tag, n, _ => by simp [Forest.app, cntT]
  | .cons t b k r, G, tag, n, hn => by
    simp only [Forest.app, findF, cntT]
    by_cases h : t = tag
    · rw [if_pos h, if_pos h, if_neg (by omega), ← findF_app r G tag n hn]
      congr 1; omega
    · rw [if_neg h, if_neg h, ← findF_app r G tag n hn]
      congr 1; omega
theorem findF_neg : ∀ (F : Forest) (tag : Int) (n : Int), n < 0 → findF F tag n = none
  | .nil, tag, n, _ => rfl
  | .cons t b k r, tag, n, hn => by
    simp only [findF]
    split
    · rw [if_neg (by omega)]; exact findF_neg r tag (n - 1) (by omega)
    · exact findF_neg r tag n hn
theorem findF_all (F : Forest) (tag : Int) : findF F tag (cntT F tag) = none := by
  have := findF_app F .nil tag 0 (Int.le_refl _)
  rw [Forest.app_nil, Int.add_zero] at this
  exact this
/-- one field of a slice -/
theorem RowF.single {n : Nat} {W : World} {t : Int} {bs : List Int} {k r : Forest} {b off : Nat} (h : RowF n W (.cons t bs k r) b off) : RowF n W (.cons t bs k .nil) b off := by
  obtain ⟨a, len, cap, ka, kl, kc, h1, h2, h3, h4, h5, h6, h7, h8, h9⟩ := h
  exact ⟨a, len, cap, ka, kl, kc, h1, h2, h3, h4, h5, h6, h7, h8, trivial⟩
end Go.Proofs.YtejcandhijdnhaaGreat

/- The walk of the document's Find. -/
namespace Go.Proofs.YtejcandhijdnhaaGreat
open Go Go.RowKit
attribute [local go_sem] upV_value upV_skip upV_enter
set_option linter.unusedVariables false
set_option linter.unnecessarySimpa false
set_option linter.unusedSimpArgs false
set_option maxRecDepth 100000 in
set_option maxHeartbeats 8000000 in
theorem rfind_any (f : Forest) (W : World) (n : Nat) (hn : n ≤ W.heap.size) (a : Option Addr) (len cap : Nat) (h : SlF n W a len cap f) (hcnt : f.cnt ≤ 20000) (tag nth : Int) :
    Calls Tryz.prog 24 #[.slice a len cap, .int .i64 tag, .int .i64 nth] W (FindPost W (findF f tag nth) tag) := by
  have hs := h.small
  obtain ⟨hl, hc⟩ := h
  have hlc := Forest.length_le_cnt f
  have bn : ∀ V, Below W.heap.size W V → Below n W V := fun V h => ⟨h.os, h.tape, h.output, h.size, fun q hq => h.block q (by omega)⟩
  go_enter Tryz.func24, Tryz.ntmps24
  obtain ⟨Z, hZ⟩ : ∃ Z, Z = W.alloc (.cells #[.int .i64 0, .slice none 0 0, .slice none 0 0] 66) := ⟨_, rfl⟩
  have bZ : Below W.heap.size W Z := by rw [hZ]; exact (Below.refl _ W).alloc (Nat.le_refl _) _
  have pZ : Z.heap[W.heap.size]? = some (.cells zT 66) := by rw [hZ]; exact World.alloc_heap_new W _
  have sZ : W.heap.size + 1 ≤ Z.heap.size := by rw [hZ]; simp
  go_wp2
  rw [← hZ]
  go_loopw [8, 9] (fun m i wr => ∃ (k c : Nat) (F : Forest), m = .int .i64 (c : Int) ∧ c ≤ k ∧ i = .int .i64 (k : Int) ∧ k + F.length = len ∧ F.cnt ≤ 20000 ∧ Hid (findF F tag (nth - c) = findF f tag nth) ∧ (∀ q off, a = some ⟨q, off, none⟩ → 0 < len → q < n ∧ len ≤ cap ∧ cap ≤ maxLen ∧ RowF n W F q (off + k * 3)) ∧ (0 < len → ∃ q off, a = some ⟨q, off, none⟩) ∧ wr.heap[W.heap.size]? = some (.cells zT 66) ∧ W.heap.size + 1 ≤ wr.heap.size ∧ Below W.heap.size W wr) (fun _ i _ => len - (intOf i).toNat)
  case atStart =>
    refine ⟨0, 0, f, rfl, Nat.le_refl _, rfl, by omega, hcnt, by simp [Hid], fun q off ha hl => ?_, fun hl => ?_, pZ, sZ, bZ⟩
    · rcases hc with h0 | ⟨b', off', ha', hb', hc1, hc2, hrow⟩
      · omega
      · rw [ha] at ha'; injection ha' with ha'; injection ha' with e1 e2; subst e1 e2
        exact ⟨hb', hc1, hc2, by simpa using hrow⟩
    · rcases hc with h0 | ⟨b', off', ha', _⟩
      · omega
      · exact ⟨b', off', ha'⟩
  case round =>
    clear pZ sZ bZ hZ hc
    obtain ⟨k, c, F, rfl, hck, rfl, hkF, hcF, hV, hrF, hha, hp, hps, hb0⟩ := hrel
    by_cases hlt : k < len
    rotate_left
    · have t1 : decide ((k : Int) < (len : Int)) = false := by simp; omega
      have hF : F = .nil := by
        cases F with
        | nil => rfl
        | cons t bs k2 r => simp [Forest.length] at hkF; omega
      subst hF
      have hnone : findF f tag nth = none := (show findF .nil tag (nth - c) = findF f tag nth from hV).symm
      have HN := Lib.hid hnone
      have e9 : (wr.setRow W.heap.size zT).heap[W.heap.size]? = some (.cells zT 66) := setRow_heap _ _ _ _ _ _ hp
      have b9 := below_setRow hb0 (Nat.le_refl _) zT
      clear hnone hV hrF hha hb0
      go_wp2_with ((fail_if_success (unfold Held)); refine at_store (t := 66) rfl ?_)
      unfold Held
      refine wpList_store_row rfl 66 (.tmp 6) (.tmp 32) rfl W.heap.size zT rfl rfl 66 zT hp infoT rfl (agg3_one ..) ?_
      go_wp2_with fail
      refine bodyPost_ret (results_cellK rfl _ _ _ W.heap.size 66 zT (0, 0) _ rfl e9 Tryz.underlying66 infoT) rfl ?_
      unfold FindPost
      rw [show findF f tag nth = none from HN]
      exact ⟨b9, rfl⟩
    have t1 : decide ((k : Int) < (len : Int)) = true := by simp; omega
    obtain ⟨q, off, rfl⟩ := hha (by omega)
    obtain ⟨hqn, hc1, hc2, hrow⟩ := hrF q off rfl (by omega)
    simp only [maxLen] at hc2
    have hrow' : RowF n wr F q (off + k * 3) := RowF.below (bn _ hb0) F q _ hqn hrow
    obtain ⟨t', bs', k', r, a1, l1, c1, ka1, kl1, kc1, rfl, q0, q1, q2, hr1, hr2, hrb, hrk, hrr⟩ := hrow'.open (by omega)
    have hNext := Lib.hid (fun (q' : Nat) (off' : Nat) (ha : some (Addr.mk q off none) = some ⟨q', off', none⟩) (_ : 0 < len) => (by
      injection ha with ha; injection ha with e1 e2 _
      subst e1 e2
      have hc := hrow
      obtain ⟨_, _, _, _, _, _, _, _, _, _, _, _, _, _, hc'⟩ := hc
      refine ⟨hqn, hc1, by simp only [maxLen]; omega, ?_⟩
      rw [show off + (k + 1) * 3 = off + k * 3 + 3 by omega]
      exact hc' : q' < n ∧ len ≤ cap ∧ cap ≤ maxLen ∧ RowF n W r q' (off' + (k + 1) * 3)))
    have hHA := Lib.hid (fun (_ : 0 < len) => (⟨q, off, rfl⟩ : ∃ q' off', some (Addr.mk q off none) = some ⟨q', off', none⟩))
    have hcF2 : r.cnt ≤ 20000 ∧ 1 + bs'.length + k'.cnt ≤ 20000 := by simp only [Forest.cnt] at hcF; omega
    have hkr : k + 1 + r.length = len := by simp only [Forest.length] at hkF; omega
    clear hrF hha hrow hrow' hrr hcF hkF
    by_cases htt : t' = tag
    rotate_left
    · have t2 : (t' == tag) = false := by simpa using htt
      have hV' : findF r tag (nth - c) = findF f tag nth := by
        rw [← (show findF (.cons t' bs' k' r) tag (nth - c) = findF f tag nth from hV), findF, if_neg htt]
      have HV' := Lib.hid hV'
      clear htt hV' hV hrb hrk
      go_wp2_with fail
      go_roundw
      case rel => exact ⟨k + 1, c, r, rfl, by omega, by go_num, hkr, hcF2.1, HV', hNext, hHA, hp, hps, hb0⟩
      case measure => simp [intOf]; omega
    subst htt
    have t2 : (t' == t') = true := by simp
    by_cases hN0 : (c : Int) = nth
    rotate_left
    · have t3 : ((c : Int) == nth) = false := by simpa using hN0
      have hV' : findF r t' (nth - ((c + 1 : Nat) : Int)) = findF f t' nth := by
        rw [← (show findF (.cons t' bs' k' r) t' (nth - c) = findF f t' nth from hV), findF, if_pos rfl, if_neg (by omega)]
        congr 1; omega
      have HV' := Lib.hid hV'
      clear hN0 hV' hV hrb hrk
      go_wp2_with fail
      go_roundw
      case rel => exact ⟨k + 1, c + 1, r, by go_num, by omega, by go_num, hkr, hcF2.1, HV', hNext, hHA, hp, hps, hb0⟩
      case measure => simp [intOf]; omega
    subst hN0
    have hsome : findF f t' (c : Int) = some (bs', k') := by
      rw [← (show findF (.cons t' bs' k' r) t' ((c : Int) - c) = findF f t' (c : Int) from hV), findF, if_pos rfl, if_pos (by omega)]
    have HN := Lib.hid hsome
    have t3 : ((c : Int) == (c : Int)) = true := by simp
    have hcs := hcF2.2
    have e9 : (wr.setRow W.heap.size #[.int .i64 t', .slice a1 l1 c1, .slice ka1 kl1 kc1]).heap[W.heap.size]? = some (.cells #[.int .i64 t', .slice a1 l1 c1, .slice ka1 kl1 kc1] 66) := setRow_heap _ _ _ _ _ _ hp
    have b9 := below_setRow hb0 (Nat.le_refl _) #[.int .i64 t', .slice a1 l1 c1, .slice ka1 kl1 kc1]
    obtain ⟨W9, hW9⟩ : ∃ W9, W9 = wr.setRow W.heap.size #[.int .i64 t', .slice a1 l1 c1, .slice ka1 kl1 kc1] := ⟨_, rfl⟩
    have hP : Fld W9 t' bs' k' a1 l1 c1 ka1 kl1 kc1 := by
      have h9 : Below n wr W9 := by
        rw [hW9]
        exact ⟨rfl, rfl, rfl, by rw [size_setRow]; exact Nat.le_refl _, fun b hb => setRow_other _ _ _ _ (by omega)⟩
      have s9 : n ≤ W9.heap.size := by rw [hW9, size_setRow]; omega
      exact ⟨(hrb.1.below h9).mono s9, (hrk.below h9).mono s9, hr1, hr2, hcs⟩
    rw [← hW9] at e9 b9
    have HW9 := Lib.hid hW9
    clear hsome hV hrb hrk hNext hHA hcF2 hb0 hW9
    go_wp2_with ((fail_if_success (unfold Held)); refine at_store (t := 66) rfl ?_)
    unfold Held
    refine wpList_store_row rfl 66 (.tmp 6) (.tmp 29) rfl W.heap.size #[.int .i64 t', .slice a1 l1 c1, .slice ka1 kl1 kc1] rfl rfl 66 zT hp infoT rfl (agg3_one ..) ?_
    rw [show wr.setRow W.heap.size #[.int .i64 t', .slice a1 l1 c1, .slice ka1 kl1 kc1] = W9 from (show W9 = _ from HW9).symm]
    clear HW9 hp
    go_wp2_with fail
    refine bodyPost_ret (results_cellK rfl _ _ _ W.heap.size 66 #[.int .i64 t', .slice a1 l1 c1, .slice ka1 kl1 kc1] (0, 0) _ rfl e9 Tryz.underlying66 infoT) rfl ?_
    unfold FindPost
    rw [show findF f t' (c : Int) = some (bs', k') from HN]
    exact ⟨b9, _, _, _, _, _, _, rfl, hP⟩
end Go.Proofs.YtejcandhijdnhaaGreat

/- The walk of the document's Same. -/
namespace Go.Proofs.YtejcandhijdnhaaGreat
open Go Go.RowKit
attribute [local go_sem] upV_value upV_skip upV_enter
set_option linter.unusedVariables false
set_option linter.unnecessarySimpa false
set_option linter.unusedSimpArgs false
theorem strOfNums_inj {xs ys : List Int} (hx : ∀ z ∈ xs, 0 ≤ z ∧ z ≤ 255) (hy : ∀ z ∈ ys, 0 ≤ z ∧ z ≤ 255) (h1 : (strOfNums xs).data.toList = (strOfNums ys).data.toList) : xs = ys := by
  simp only [strOfNums_data] at h1
  induction xs generalizing ys with
  | nil =>
    cases ys with
    | nil => rfl
    | cons y ys => simp at h1
  | cons x xs ih =>
    cases ys with
    | nil => simp at h1
    | cons y ys =>
      simp only [List.map_cons, List.cons.injEq] at h1
      have e := ih (fun z hz => hx z (List.mem_cons_of_mem _ hz)) (fun z hz => hy z (List.mem_cons_of_mem _ hz)) h1.2
      have := congrArg UInt8.toNat h1.1
      have a1 := hx x (List.mem_cons_self ..)
      have a2 := hy y (List.mem_cons_self ..)
      simp at this
      rw [e]
      congr 1
      omega
end Go.Proofs.YtejcandhijdnhaaGreat

/- The walk of word.All; of tlv.Number and the document's Number. -/
namespace Go.Proofs.YtejcandhijdnhaaGreat
open Go Go.RowKit
set_option linter.unusedVariables false
set_option linter.unnecessarySimpa false
set_option linter.unusedSimpArgs false
theorem bytes_below {w w1 : World} (hb : Below w.heap.size w w1) (x : Nat) : Below w.heap.size w ((w1.alloc (bytesO x)).alloc (bytesO x)) :=
  (hb.alloc hb.size _).alloc (by have := hb.size; simp; omega) _
/-- the bytes of words -/
def bytesLL (zs : List Int) : List Int := (zs.map fun z => bytesL z.toNat).flatten
theorem bytesLL_length (zs : List Int) : (bytesLL zs).length = 4 * zs.length := by
  induction zs with
  | nil => rfl
  | cons z zs ih => simp only [bytesLL, List.map_cons, List.flatten_cons, List.length_append, List.length_cons] at ih ⊢; rw [ih]; simp [bytesL]; omega
theorem bytesLL_snoc (zs : List Int) (z : Int) : bytesLL (zs ++ [z]) = bytesLL zs ++ bytesL z.toNat := by simp [bytesLL]
theorem take_succ_getD (zs : List Int) (k : Nat) (h : k < zs.length) : zs.take (k + 1) = zs.take k ++ [zs.getD k 0] := by
  rw [getD_at _ _ h]; simp
/-- the cells of a word's bytes, where they were laid -/
theorem bytes_news (W : World) (x : Nat) (e : TypeId) : ∀ j u, ((bytesL x).map (Value.int .u8))[j]? = some u → (W.alloc (.cells #[.int .u8 ((x : Int) % 256), .int .u8 ((x : Int) / 256 % 256), .int .u8 ((x : Int) / 65536 % 256), .int .u8 ((x : Int) / 16777216)] e)).cell? ((⟨W.heap.size, 0, none⟩ : Addr).add j) = some u := by
  intro j u hj
  rw [Addr.add_lit]
  rw [Nat.zero_add, World.cell?_alloc_mark]
  match j, hj with
  | 0, h => exact h
  | 1, h => exact h
  | 2, h => exact h
  | 3, h => exact h
  | j + 4, h => simp [bytesL] at h
theorem bytes_one (x : Nat) : ∀ u ∈ (bytesL x).map (Value.int .u8), u.oneCell' = true := by
  intro u h; simp [bytesL] at h; rcases h with rfl | rfl | rfl | rfl <;> rfl
set_option maxRecDepth 100000 in
set_option maxHeartbeats 1000000 in
theorem all_any (a : Option Addr) (len cap : Nat) (zs : List Int) (w : World) (hr : RowI .u32 w.heap.size w (.slice a len cap) zs) (hz : ∀ z ∈ zs, 0 ≤ z ∧ z < 4294967296) (hsm : zs.length ≤ 1000000000000) :
    Calls Tryz.prog 112 #[.slice a len cap] w fun e w' => ∃ v, e = .returned v ∧ Below w.heap.size w w' ∧ w'.ownsRow w.heap.size 5 1 v (4 * len) ((bytesLL zs).map (Value.int .u8)) := by
  obtain ⟨i0, hi, hz0, hz1, hz2⟩ := info_parts info_u8
  obtain ⟨hlen, b, off, hopen, hc⟩ := hr.open
  subst hlen
  go_enter Tryz.func112, Tryz.ntmps112
  go_wp2
  go_loopw [3, 8] (fun v i wr => ∃ k : Nat, k ≤ zs.length ∧ i = .int .i64 k ∧ Below w.heap.size w wr ∧ wr.ownsRow w.heap.size 5 1 v (4 * k) ((bytesLL (zs.take k)).map (Value.int .u8))) (fun _ i _ => zs.length - (intOf i).toNat)
  case atStart => exact ⟨0, Nat.zero_le _, rfl, Below.refl _ _, by simpa [bytesLL] using World.ownsRow_nil w w.heap.size 5 1⟩
  case round =>
    obtain ⟨k, hk, rfl, hb, hown⟩ := hrel
    by_cases hlt : k < zs.length
    · obtain ⟨rfl, hbn, _, _⟩ := hopen (by omega)
      have hck : wr.cell? ⟨b, off + k, none⟩ = some (.int .u32 (zs.getD k 0)) := (hb.cell (p := ⟨b, off + k, none⟩) hbn).trans (hc k hlt)
      obtain ⟨hx0, hx1⟩ := hz _ (List.getElem_mem hlt)
      rw [← getD_at _ _ hlt] at hx0 hx1
      obtain ⟨x, hx⟩ : ∃ x : Nat, zs.getD k 0 = x := ⟨_, (Int.toNat_of_nonneg hx0).symm⟩
      rw [hx] at hck
      have HX := Lib.hid hx
      have hxl : x < 4294967296 := by omega
      have hs := hb.size
      have HC := Lib.hid hc
      clear hx hx0 hx1 hc
      have hn := Lib.hid (bytes_news (wr.alloc (bytesO x)) x 138)
      rw [World.size_alloc] at hn
      have hb2 := bytes_below hb x
      go_wp2_with (first
        | (go_at_call 31; refine (bytes_any x _ (by omega)).mono ?_; rintro e w1 ⟨rfl, rfl⟩)
        | (at_builtin; refine held ?_))
      unfold Held
      refine wpList_append_own _ rfl _ _ 22 rfl w.heap.size 5 i0 (.int .u8 0) 1 1 Tryz.underlying22 hi hz0 hz1 hz2 rfl (by decide) _ (4 * k) _ (by rfl) ((hown.alloc _).alloc _) ⟨wr.heap.size + 1, 0, none⟩ 4 4 ((bytesL x).map (Value.int .u8)) (by rfl) rfl hn (bytes_one x) (by simp only [maxLen]; omega) (by omega) (by simp; omega) ?_
      intro v' w1 hown' hgrow hnil
      have hb3 := hb2.grown hgrow (by simp; omega) (fun g hg => (hown.lt g hg).1)
      clear hn hb2
      go_wp2
      go_roundw
      case rel =>
        refine ⟨k + 1, by omega, by go_num, hb3, ?_⟩
        rw [take_succ_getD _ _ hlt, bytesLL_snoc, List.map_append, show zs.getD k 0 = (x : Int) from HX]
        exact hown'
      case measure => simp [intOf]; omega
    · obtain rfl : k = zs.length := by omega
      go_wp2
      go_ret
      rw [List.take_length] at hown
      exact ⟨_, rfl, hb, hown⟩
/-- a number's bytes -/
def numB (n : Nat) : List Int := bytesL (n % 4294967296) ++ bytesL (n / 4294967296)
theorem numB_len (n : Nat) : (numB n).length = 8 := rfl
theorem byteL_in (x : Nat) (hx : x < 4294967296) : ∀ z ∈ bytesL x, 0 ≤ z ∧ z ≤ 255 := by
  intro z hz
  simp only [bytesL, List.mem_cons, List.not_mem_nil, or_false] at hz
  rcases hz with rfl | rfl | rfl | rfl <;> omega
theorem numB_in (n : Nat) (hn : n < 18446744073709551616) : ∀ z ∈ numB n, 0 ≤ z ∧ z ≤ 255 := by
  intro z hz
  rcases List.mem_append.1 hz with h | h
  · exact byteL_in _ (by omega) z h
  · exact byteL_in _ (by omega) z h
theorem numB_all (n : Nat) : bytesLL [((n % 4294967296 : Nat) : Int), ((n / 4294967296 : Nat) : Int)] = numB n := by
  simp only [bytesLL, numB, List.map_cons, List.map_nil, List.flatten_cons, List.flatten_nil, List.append_nil, Int.toNat_natCast]
/-- what Number answers -/
def NumPost (tag : Int) (n : Nat) (W : World) (e : Ending) (W' : World) : Prop :=
  ∃ (a : Option Addr) (c : Nat), e = .returned (.agg #[.int .i64 tag, .slice a 8 c, .slice none 0 0]) ∧ Row8 W'.heap.size W' (.slice a 8 c) (numB n) ∧ Below W.heap.size W W'
set_option maxRecDepth 100000 in
set_option maxHeartbeats 4000000 in
theorem number_any (tag : Int) (n : Nat) (hn : n < 18446744073709551616) (W : World) :
    Calls Tryz.prog 93 #[.int .i64 tag, .int .u64 (n : Int)] W (NumPost tag n W) := by
  go_enter Tryz.func93, Tryz.ntmps93
  go_wp2_with (go_at_call 112; refine held ?_)
  unfold Held
  obtain ⟨Z, hZ⟩ : ∃ Z, Z = W.alloc (.cells #[.int .i64 0, .slice none 0 0, .slice none 0 0] 66) := ⟨_, rfl⟩
  have pZ : Z.heap[W.heap.size]? = some (.cells zT 66) := by rw [hZ]; exact World.alloc_heap_new W _
  have bZ : Below W.heap.size W Z := by rw [hZ]; exact (Below.refl _ W).alloc (Nat.le_refl _) _
  have sZ : Z.heap.size = W.heap.size + 1 := by rw [hZ]; simp
  rw [← hZ]
  obtain ⟨V, hV⟩ : ∃ V, V = Z.alloc (.cells #[.int .u32 ((n : Int) % 4294967296), .int .u32 ((n : Int) / 4294967296)] 40) := ⟨_, rfl⟩
  have bV : Below Z.heap.size Z V := by rw [hV]; exact (Below.refl _ _).alloc (Nat.le_refl _) _
  have rV : RowI .u32 V.heap.size V (.slice (some ⟨W.heap.size + 1, 0, none⟩) 2 2) [((n % 4294967296 : Nat) : Int), ((n / 4294967296 : Nat) : Int)] := by
    refine .inr ⟨W.heap.size + 1, 0, 2, rfl, by rw [hV]; simp; omega, Nat.le_refl 2, by decide, fun j hj => ?_⟩
    rw [hV, ← sZ, Nat.zero_add, World.cell?_alloc_mark]
    simp at hj
    match j, hj with
    | 0, _ => rfl
    | 1, _ => rfl
  rw [← hV]
  have sV : W.heap.size < V.heap.size := by have := bV.size; omega
  have pV := (bV.block W.heap.size (by omega)).trans pZ
  have bWV : Below W.heap.size W V := bZ.trans (bV.mono (by omega))
  clear hV hZ pZ bV bZ sZ
  refine (all_any _ 2 2 _ V rV (by intro z hz; simp at hz; rcases hz with rfl | rfl <;> omega) (by simp)).mono ?_
  rintro e w3 ⟨v, rfl, b3, o3⟩
  rw [numB_all] at o3
  obtain ⟨a3, c3, rfl, _⟩ := ownsRow_slice o3
  have p3 := (b3.block W.heap.size sV).trans pV
  have B3 := bWV.trans (b3.mono bWV.size)
  have e9 : (w3.setRow W.heap.size #[.int .i64 tag, .slice a3 8 c3, .slice none 0 0]).heap[W.heap.size]? = some (.cells #[.int .i64 tag, .slice a3 8 c3, .slice none 0 0] 66) := setRow_heap _ _ _ _ _ _ p3
  have b9 := below_setRow B3 (Nat.le_refl _) #[.int .i64 tag, .slice a3 8 c3, .slice none 0 0]
  have hP : Row8 (w3.setRow W.heap.size #[.int .i64 tag, .slice a3 8 c3, .slice none 0 0]).heap.size (w3.setRow W.heap.size #[.int .i64 tag, .slice a3 8 c3, .slice none 0 0]) (.slice a3 8 c3) (numB n) :=
    own_row8 (v := .slice a3 8 c3) (n := 8) o3 (numB_in n hn) _ _ fun b hb => ⟨setRow_other _ _ _ _ (by have := (o3.lt b hb).1; omega), by rw [size_setRow]; exact (o3.lt b hb).2⟩
  clear b3 o3 rV bWV pV B3
  go_wp2_with ((fail_if_success (unfold Held)); refine at_store (t := 66) rfl ?_)
  unfold Held
  refine wpList_store_row rfl 66 (.tmp 4) (.tmp 13) rfl W.heap.size #[.int .i64 tag, .slice a3 8 c3, .slice none 0 0] rfl rfl 66 zT p3 infoT rfl (agg3_one ..) ?_
  go_wp2_with fail
  refine bodyPost_ret (results_cell_row rfl _ _ W.heap.size 66 #[.int .i64 tag, .slice a3 8 c3, .slice none 0 0] (0, 0) _ rfl e9 Tryz.underlying66 rfl infoT) rfl ?_
  exact ⟨a3, c3, rfl, hP, b9⟩
/-- the low bytes -/
def lowB (n : Nat) (j : Nat) : List Int := (List.range j).map fun i => ((n / 256 ^ i % 256 : Nat) : Int)
theorem lowB_succ (n j : Nat) : lowB n (j + 1) = lowB n j ++ [((n / 256 ^ j % 256 : Nat) : Int)] := by simp [lowB, List.range_succ]
theorem lowB_len (n j : Nat) : (lowB n j).length = j := by simp [lowB]
theorem lowB_eight (n : Nat) (hn : n < 18446744073709551616) : lowB n 8 = numB n := by
  simp only [lowB, numB, bytesL, List.range_succ, List.range_zero, List.nil_append, List.map_append, List.map_cons, List.map_nil, List.cons_append]
  simp only [List.cons.injEq, and_true]
  refine ⟨?_, ?_, ?_, ?_, ?_, ?_, ?_, ?_⟩ <;> omega
end Go.Proofs.YtejcandhijdnhaaGreat
