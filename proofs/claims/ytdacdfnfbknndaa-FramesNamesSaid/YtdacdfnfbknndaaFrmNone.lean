/- A memory that is none: what each function does with it. -/
import Derived.Test.YtdacdfnfbknndaaFrmDocD
namespace Go.Proofs.Ytdacdfnfbknndaa
open Go Go.RowKit
attribute [local go_sem] upV_value upV_skip upV_enter
set_option linter.unusedVariables false
set_option linter.unnecessarySimpa false
set_option linter.unusedSimpArgs false
/-- A MEMORY THAT IS NONE: no pointer, or one to a memory without frames -/
def NoMem (W : World) (p : Option Addr) : Prop := p = none ∨ ∃ g, p = some ⟨g, 0, none⟩ ∧ W.heap[g]? = some (.cells #[.slice none 0 0] 62)
theorem NoMem.same {W B : World} {p : Option Addr} (h : NoMem W p) (hs : ∀ g, p = some ⟨g, 0, none⟩ → g < W.heap.size → B.heap[g]? = W.heap[g]?) : NoMem B p := by
  rcases h with h | ⟨g, h, h1⟩
  · exact .inl h
  · exact .inr ⟨g, h, (hs g h (Array.getElem?_eq_some_iff.1 h1).1).trans h1⟩
theorem NoMem.below {W B : World} {p : Option Addr} (h : NoMem W p) (hb : Below W.heap.size W B) : NoMem B p := h.same fun g _ hg => hb.block g hg
theorem NoMem.cell {W : World} {g : Nat} (h1 : W.heap[g]? = some (.cells #[.slice none 0 0] 62)) : W.cell? ⟨g, 0, none⟩ = some (.slice none 0 0) := by rw [cell_of_row _ _ 0 _ _ _ h1]; rfl
set_option maxHeartbeats 1000000 in
theorem may_none (W : World) (p : Option Addr) (k : Int) (h : NoMem W p) :
    Calls Try.prog 30 #[.pointer p, .int .i64 k] W fun e w' => e = .returned (.int .i64 1) ∧ w' = W := by
  rcases h with rfl | ⟨g, rfl, h1⟩
  · go_enter Try.func30, Try.ntmps30
    go_wp2
    go_ret
    exact ⟨rfl, rfl⟩
  · have c1 := NoMem.cell h1
    go_enter Try.func30, Try.ntmps30
    go_wp2
    go_ret
    exact ⟨rfl, rfl⟩
set_option maxHeartbeats 1000000 in
theorem len_none (W : World) (p : Option Addr) (h : NoMem W p) :
    Calls Try.prog 27 #[.pointer p] W fun e w' => e = .returned (.int .i64 0) ∧ w' = W := by
  rcases h with rfl | ⟨g, rfl, h1⟩
  · go_enter Try.func27, Try.ntmps27
    go_wp2
    go_ret
    exact ⟨rfl, rfl⟩
  · have c1 := NoMem.cell h1
    go_enter Try.func27, Try.ntmps27
    go_wp2
    go_ret
    exact ⟨rfl, rfl⟩
set_option maxHeartbeats 1000000 in
theorem take_none (W : World) (p : Option Addr) (h : NoMem W p) :
    Calls Try.prog 23 #[.pointer p] W fun e w' => e = .returned (.tuple #[.int .i64 0, .int .i64 1]) ∧ w' = W := by
  rcases h with rfl | ⟨g, rfl, h1⟩
  · go_enter Try.func23, Try.ntmps23
    go_wp2
    go_ret2
    exact ⟨rfl, rfl⟩
  · have c1 := NoMem.cell h1
    go_enter Try.func23, Try.ntmps23
    go_wp2
    go_ret2
    exact ⟨rfl, rfl⟩
set_option maxHeartbeats 1000000 in
theorem copy_none (W : World) (p : Option Addr) (h : NoMem W p) :
    Calls Try.prog 20 #[.pointer p] W fun e w' => e = .returned (.pointer none) ∧ w' = W := by
  rcases h with rfl | ⟨g, rfl, h1⟩
  · go_enter Try.func20, Try.ntmps20
    go_wp2
    go_ret
    exact ⟨rfl, rfl⟩
  · have c1 := NoMem.cell h1
    go_enter Try.func20, Try.ntmps20
    go_wp2
    go_ret
    exact ⟨rfl, rfl⟩
set_option maxHeartbeats 1000000 in
theorem share_none (W : World) (p : Option Addr) (k : Int) (h : NoMem W p) :
    Calls Try.prog 29 #[.pointer p, .int .i64 k] W fun e w' => e = .returned (.int .i64 1) ∧ w' = W := by
  go_enter Try.func29, Try.ntmps29
  go_wp2_with (go_at_call 30; refine (may_none W p k h).mono ?_; rintro e w1 ⟨rfl, rfl⟩)
  go_ret
  exact ⟨rfl, rfl⟩
set_option maxHeartbeats 1000000 in
theorem drop_none (W : World) (p : Option Addr) (k : Int) (h : NoMem W p) :
    Calls Try.prog 24 #[.pointer p, .int .i64 k] W fun e w' => e = .returned (.tuple #[.int .i64 0, .int .i64 1]) ∧ w' = W := by
  go_enter Try.func24, Try.ntmps24
  go_wp2_with (go_at_call 30; refine (may_none W p k h).mono ?_; rintro e w1 ⟨rfl, rfl⟩)
  go_ret2
  exact ⟨rfl, rfl⟩
set_option maxHeartbeats 1000000 in
theorem refs_none (W : World) (p : Option Addr) (k : Int) (h : NoMem W p) :
    Calls Try.prog 19 #[.pointer p, .int .i64 k] W fun e w' => e = .returned (.int .i64 0) ∧ w' = W := by
  go_enter Try.func19, Try.ntmps19
  go_wp2_with (go_at_call 30; refine (may_none W p k h).mono ?_; rintro e w1 ⟨rfl, rfl⟩)
  go_ret
  exact ⟨rfl, rfl⟩
set_option maxHeartbeats 1000000 in
theorem read_none (W : World) (p : Option Addr) (k off n : Int) (h : NoMem W p) :
    Calls Try.prog 13 #[.pointer p, .int .i64 k, .int .i64 off, .int .i64 n] W fun e w' => e = .returned (.tuple #[.slice none 0 0, .int .i64 1]) ∧ w' = W := by
  go_enter Try.func13, Try.ntmps13
  go_wp2_with (go_at_call 30; refine (may_none W p k h).mono ?_; rintro e w1 ⟨rfl, rfl⟩)
  go_ret2
  exact ⟨rfl, rfl⟩
set_option maxHeartbeats 1000000 in
theorem write_none (W : World) (p : Option Addr) (k off : Int) (a : Option Addr) (len cap : Nat) (h : NoMem W p) :
    Calls Try.prog 18 #[.pointer p, .int .i64 k, .int .i64 off, .slice a len cap] W fun e w' => e = .returned (.int .i64 1) ∧ w' = W := by
  go_enter Try.func18, Try.ntmps18
  go_wp2_with (go_at_call 30; refine (may_none W p k h).mono ?_; rintro e w1 ⟨rfl, rfl⟩)
  go_ret
  exact ⟨rfl, rfl⟩
set_option maxHeartbeats 1000000 in
theorem double_none (W : World) (p : Option Addr) (k : Int) (h : NoMem W p) :
    Calls Try.prog 17 #[.pointer p, .int .i64 k] W fun e w' => e = .returned (.tuple #[.int .i64 0, .int .i64 1]) ∧ w' = W := by
  go_enter Try.func17, Try.ntmps17
  go_wp2_with (go_at_call 30; refine (may_none W p k h).mono ?_; rintro e w1 ⟨rfl, rfl⟩)
  go_ret2
  exact ⟨rfl, rfl⟩
set_option maxRecDepth 100000 in
set_option maxHeartbeats 4000000 in
theorem used1_none (B1 g : Nat) (w : World) (h1 : B1 < w.heap.size) (c1 : w.cell? ⟨B1, 0, none⟩ = some (.pointer (some ⟨g, 0, none⟩))) (hg : w.heap[g]? = some (.cells #[.slice none 0 0] 62)) :
    Iter Try.prog 43 #[.pointer (some ⟨B1, 0, none⟩)] (fun x : Int => #[.int .i64 x]) (fun b => b = B1 ∨ b = g) [] w := by
  intro l J Jx S0 W hW hJ hJx hlt hX hY h0
  have C1 : W.cell? ⟨B1, 0, none⟩ = some (.pointer (some ⟨g, 0, none⟩)) := (hW.cell (p := ⟨B1, 0, none⟩) h1).trans c1
  have cp := NoMem.cell ((hW.block g (Array.getElem?_eq_some_iff.1 hg).1).trans hg)
  refine (callsIn_wide (n := 101)).1 ?_
  refine callsIn_of_wp Try.func43 rfl trivial ?_ rfl
  simp only [Try.ntmps43, List.size_toArray, List.length_cons, List.length_nil, Nat.reduceAdd, Nat.reduceSub, Array.replicate_succ, Array.replicate_zero, List.push_toArray, List.append_toArray, List.nil_append, List.cons_append]
  refine wideScope ?_
  gi_wp2
  refine wpIn_label ?_
  gi_wp2
  gi_loopw [3, 4, 12] (fun _ _ i wr => i = .int .i64 0 ∧ J 0 S0 wr) (fun _ _ i _ => 0)
  case atStart => exact ⟨rfl, h0⟩
  case round =>
    obtain ⟨rfl, hJs⟩ := hrel
    gi_wp2
    simp only [Exit.noGoto]
    go_end0
    exact ⟨⟨_, rfl⟩, .inl ⟨S0, hJs⟩⟩
theorem handed_none {w : World} {g : Nat} (hg : w.heap[g]? = some (.cells #[.slice none 0 0] 62)) : Handed w (some ⟨g, 0, none⟩) [] (fun b => b = g) :=
  ⟨fun b hb => by subst hb; exact (Array.getElem?_eq_some_iff.1 hg).1, fun B1 W' hb h1 c1 => used1_none B1 g W' h1 c1 ((hb.block g (Array.getElem?_eq_some_iff.1 hg).1).trans hg)⟩
theorem used_none (g : Nat) (w : World) (hg : w.heap[g]? = some (.cells #[.slice none 0 0] 62)) :
    Calls Try.prog 21 #[.pointer (some ⟨g, 0, none⟩)] w fun e w' => ∃ v, e = .returned v ∧ w'.ownsRow w.heap.size 3 1 v 0 [] ∧ Below w.heap.size w w' :=
  Used_gen _ w _ _ (handed_none hg) (by decide)
set_option maxHeartbeats 1000000 in
theorem free_none (g : Nat) (w : World) (hg : w.heap[g]? = some (.cells #[.slice none 0 0] 62)) :
    Calls Try.prog 22 #[.pointer (some ⟨g, 0, none⟩)] w fun e w' => e = .returned (.int .i64 0) ∧ Below w.heap.size w w' := by
  have K1 := Lib.hid (len_none w _ (.inr ⟨g, rfl, hg⟩))
  have K2 := Lib.hid (used_none g w hg)
  clear hg
  go_enter Try.func22, Try.ntmps22
  go_wp2_with (go_at_call 27; refine held ?_)
  unfold Held
  refine Calls.mono K1 ?_
  rintro e w2 ⟨rfl, rfl⟩
  go_wp2_with (go_at_call 21; refine held ?_)
  unfold Held
  refine Calls.mono K2 ?_
  rintro e w3 ⟨v, rfl, ho, hb⟩
  obtain ⟨a, c, rfl⟩ := sl_own ho
  clear ho K1 K2
  go_wp2
  go_ret
  exact ⟨rfl, hb⟩
end Go.Proofs.Ytdacdfnfbknndaa
