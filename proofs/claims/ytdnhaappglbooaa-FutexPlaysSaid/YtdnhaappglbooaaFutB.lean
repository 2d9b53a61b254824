/- The walks of find, Key, and of slices.IndexFunc at those who wait. -/
import Derived.Test.YtdnhaappglbooaaFutA
namespace Go.Proofs.Ytdnhaappglbooaa
open Go Go.RowKit
set_option linter.unusedVariables false
set_option linter.unnecessarySimpa false
set_option linter.unusedSimpArgs false
/-- where one stands -/
def FindAt (ws : List Wt) (pid : Int) (r : Int) : Prop :=
  (r = -1 ∧ ∀ j (h : j < ws.length), ws[j].pid ≠ pid) ∨ ∃ (j : Nat) (h : j < ws.length), r = j ∧ ws[j].pid = pid ∧ ∀ i (h : i < j), ws[i].pid ≠ pid
theorem RowW.cells4 {n : Nat} {A : World} {b off len cap : Nat} {ws : List Wt} (h : RowW n A (some ⟨b, off, none⟩) len cap ws) (j : Nat) (hj : j < ws.length) :
    A.cell? ⟨b, off + j * 4, none⟩ = some (.int .i64 ws[j].pid) ∧ A.cell? ⟨b, off + j * 4 + 1, none⟩ = some (.int .i64 ws[j].k.p) ∧ A.cell? ⟨b, off + j * 4 + 2, none⟩ = some (.int .i64 ws[j].k.f) ∧ A.cell? ⟨b, off + j * 4 + 3, none⟩ = some (.int .i64 ws[j].k.o) := by
  refine ⟨?_, ?_, ?_, ?_⟩
  · have := h.cell j hj 0 _ rfl; rwa [show off + (j * 4 + 0) = off + j * 4 by omega] at this
  · have := h.cell j hj 1 _ rfl; rwa [show off + (j * 4 + 1) = off + j * 4 + 1 by omega] at this
  · have := h.cell j hj 2 _ rfl; rwa [show off + (j * 4 + 2) = off + j * 4 + 2 by omega] at this
  · have := h.cell j hj 3 _ rfl; rwa [show off + (j * 4 + 3) = off + j * 4 + 3 by omega] at this
set_option maxRecDepth 100000 in
set_option maxHeartbeats 4000000 in
theorem find1_any (pid x0 x1 x2 x3 : Int) (c : Nat) (W : World) (hc : W.cell? ⟨c, 0, none⟩ = some (.int .i64 pid)) :
    Calls Try.prog 35 #[.agg #[.int .i64 x0, .int .i64 x1, .int .i64 x2, .int .i64 x3], .pointer (some ⟨c, 0, none⟩)] W fun e W' => e = .returned (.bool (x0 == pid)) ∧ Below W.heap.size W W' := by
  have hlt := World.block_lt_of_cell? W _ hc
  have hc2 : ∀ X : Obj, (W.alloc X).cell? ⟨c, 0, none⟩ = some (.int .i64 pid) := fun X => (((Below.refl _ W).alloc (Nat.le_refl _) X).cell (p := ⟨c, 0, none⟩) hlt).trans hc
  have bX : ∀ X : Obj, Below W.heap.size W (W.alloc X) := fun X => (Below.refl _ W).alloc (Nat.le_refl _) X
  have hc3 := hc2 (.cells #[.int .i64 x0, .int .i64 x1, .int .i64 x2, .int .i64 x3] 35)
  go_enter Try.func35, Try.ntmps35
  go_wp2
  go_ret
  exact ⟨rfl, bX _⟩
set_option maxRecDepth 100000 in
set_option maxHeartbeats 4000000 in
theorem index_any (pid : Int) (c n : Nat) (W : World) (hn : n ≤ W.heap.size) (hc : W.cell? ⟨c, 0, none⟩ = some (.int .i64 pid)) (a : Option Addr) (len cap : Nat) (ws : List Wt) (hr : RowW n W a len cap ws) (hsm : len ≤ 140737488351232) :
    Calls Try.prog 34 #[.slice a len cap, .func (.func 35) #[] #[.pointer (some ⟨c, 0, none⟩)]] W fun e W' => (∃ r : Int, e = .returned (.int .i64 r) ∧ FindAt ws pid r) ∧ Below W.heap.size W W' := by
  have hlt0 := World.block_lt_of_cell? W _ hc
  have bn : ∀ V, Below W.heap.size W V → Below n W V := fun V h => ⟨h.os, h.tape, h.output, h.size, fun q hq => h.block q (by omega)⟩
  go_enter Try.func34, Try.ntmps34
  go_wp2
  go_loopw [5, 8] (fun _ i wr => ∃ k : Nat, i = .int .i64 (k : Int) ∧ k ≤ len ∧ Hid (∀ j (h : j < ws.length), j < k → ws[j].pid ≠ pid) ∧ Below W.heap.size W wr) (fun _ i _ => len - (intOf i).toNat)
  case atStart => exact ⟨0, rfl, Nat.zero_le _, fun j h hj => absurd hj (Nat.not_lt_zero _), Below.refl _ _⟩
  case round =>
    obtain ⟨k, rfl, hk, hT, hb⟩ := hrel
    by_cases hlt : k < len
    · have t1 : decide ((k : Int) < (len : Int)) = true := by simp; omega
      have hL := hr.1
      have hr' := hr.below (bn wr hb)
      obtain ⟨_, h0 | ⟨b, off, rfl, hbn, hlc, hcm, _⟩⟩ := hr
      · omega
      obtain ⟨c0, c1, c2, c3⟩ := hr'.cells4 k (by omega)
      have hcw : wr.cell? ⟨c, 0, none⟩ = some (.int .i64 pid) := (hb.cell (p := ⟨c, 0, none⟩) hlt0).trans hc
      obtain ⟨x0, hx0⟩ : ∃ x, x = (ws[k]'(by omega)).pid := ⟨_, rfl⟩
      obtain ⟨x1, hx1⟩ : ∃ x, x = (ws[k]'(by omega)).k.p := ⟨_, rfl⟩
      obtain ⟨x2, hx2⟩ : ∃ x, x = (ws[k]'(by omega)).k.f := ⟨_, rfl⟩
      obtain ⟨x3, hx3⟩ : ∃ x, x = (ws[k]'(by omega)).k.o := ⟨_, rfl⟩
      rw [← hx0] at c0
      rw [← hx1] at c1
      rw [← hx2] at c2
      rw [← hx3] at c3
      have HX := Lib.hid hx0
      clear hx0 hx1 hx2 hx3 hr'
      have ff := find1_any pid x0 x1 x2 x3 c wr hcw
      go_wp2_with (go_at_call 35; refine held ?_)
      unfold Held
      refine ff.mono ?_
      rintro e w3 ⟨rfl, b3⟩
      have b4 : Below W.heap.size W w3 := hb.trans (b3.mono hb.size)
      clear ff b3 c0 c1 c2 c3 hcw
      by_cases hX : x0 = pid
      · have t2 : (x0 == pid) = true := by simpa using hX
        rw [t2]
        have HE := Lib.hid hX
        clear hX t2
        go_wp2
        go_ret
        refine ⟨⟨_, rfl, .inr ⟨k, by omega, rfl, ?_, fun i hi => ?_⟩⟩, b4⟩
        · have hX : x0 = pid := HE
          have : x0 = (ws[k]'(by omega)).pid := HX
          rw [← this, hX]
        · exact (show ∀ j (h : j < ws.length), j < k → ws[j].pid ≠ pid from hT) i (by omega) hi
      · have t2 : (x0 == pid) = false := by simpa using hX
        rw [t2]
        have HE := Lib.hid hX
        clear hX t2
        go_wp2
        go_roundw
        case rel =>
          refine ⟨k + 1, by go_num, by omega, fun j h hj => ?_, b4⟩
          rcases (by omega : j < k ∨ j = k) with h' | rfl
          · exact (show ∀ j (h : j < ws.length), j < k → ws[j].pid ≠ pid from hT) j h h'
          · have hX : ¬ x0 = pid := HE
            have hx : x0 = (ws[j]'(by omega)).pid := HX
            rw [← hx]; exact hX
        case measure => simp [intOf]; omega
    · have t1 : decide ((k : Int) < (len : Int)) = false := by simp; omega
      obtain rfl : k = len := by omega
      have hL := hr.1
      go_wp2
      go_ret
      exact ⟨⟨_, rfl, .inl ⟨rfl, fun j h => (show ∀ j (h : j < ws.length), j < k → ws[j].pid ≠ pid from hT) j h (by omega)⟩⟩, hb⟩
/-- a futex at p, with its row v -/
structure FutAt (W : World) (p : Nat) (v : Value) (ws : List Wt) : Prop where
  at_ : W.heap[p]? = some (.cells #[v] 28)
  own : W.ownsRow 0 35 4 v ws.length (flatW ws)
  ne : ∀ b, v.ownBlock = some b → b ≠ p
/-- what it may write -/
def SFut (p : Nat) (v : Value) : Nat → Prop := fun b => b = p ∨ v.ownBlock = some b
theorem FutAt.same {A B : World} {p : Nat} {v : Value} {ws : List Wt} (h : FutAt A p v ws) (hs : ∀ b, SFut p v b → B.heap[b]? = A.heap[b]?) : FutAt B p v ws :=
  ⟨(hs p (.inl rfl)).trans h.at_, ownsRow_same h.own (fun b hb => hs b (.inr hb)), h.ne⟩
theorem FutAt.lt {W : World} {p : Nat} {v : Value} {ws : List Wt} (h : FutAt W p v ws) : ∀ b, SFut p v b → b < W.heap.size := by
  intro b hb
  rcases hb with rfl | hb
  · exact (Array.getElem?_eq_some_iff.1 h.at_).1
  · exact (h.own.lt b hb).2
theorem FutAt.below {A B : World} {p : Nat} {v : Value} {ws : List Wt} (h : FutAt A p v ws) (hb : Below A.heap.size A B) : FutAt B p v ws := h.same fun b hs => hb.block b (h.lt b hs)
theorem FutAt.sl {W : World} {p : Nat} {v : Value} {ws : List Wt} (h : FutAt W p v ws) : ∃ a cap, v = .slice a ws.length cap ∧ RowW W.heap.size W a ws.length cap ws := by
  have ho := h.own
  rcases ho.2 with ⟨h1, h2⟩ | ⟨g, cap, cur, h1, _⟩
  · subst h1
    have := RowW.of_own ho
    exact ⟨none, 0, by rw [h2], by rw [h2]; have h3 := this.2; exact h3⟩
  · subst h1
    have := RowW.of_own ho
    exact ⟨_, cap, rfl, this.2⟩
set_option maxRecDepth 100000 in
set_option maxHeartbeats 4000000 in
theorem find_any (p : Nat) (v : Value) (ws : List Wt) (pid : Int) (W : World) (h : FutAt W p v ws) (hsm : ws.length ≤ 140737488351232) :
    Calls Try.prog 31 #[.pointer (some ⟨p, 0, none⟩), .int .i64 pid] W fun e W' => (∃ r : Int, e = .returned (.int .i64 r) ∧ FindAt ws pid r) ∧ Below W.heap.size W W' := by
  obtain ⟨a, cap, rfl, hr⟩ := h.sl
  have b1 : Below W.heap.size W (W.alloc (.cells #[.int .i64 pid] 3)) := (Below.refl _ W).alloc (Nat.le_refl _) _
  have h2 := h.below b1
  have c1 : (W.alloc (.cells #[.int .i64 pid] 3)).cell? ⟨p, 0, none⟩ = some (.slice a ws.length cap) := by rw [cell_of_row _ _ 0 _ _ _ h2.at_]; rfl
  have c2 : (W.alloc (.cells #[.int .i64 pid] 3)).cell? ⟨W.heap.size, 0, none⟩ = some (.int .i64 pid) := by rw [cell_of_row _ _ 0 _ _ _ (World.alloc_heap_new _ _)]; rfl
  have hh := index_any pid W.heap.size W.heap.size _ b1.size c2 a ws.length cap ws (hr.below b1) hsm
  have hlp := h.lt p (.inl rfl)
  clear h h2 hr c2
  go_enter Try.func31, Try.ntmps31
  go_wp2_with (go_at_call 34; refine held ?_)
  unfold Held
  refine hh.mono ?_
  rintro e w3 ⟨⟨r, rfl, hr⟩, b3⟩
  have HR := Lib.hid hr
  have b4 : Below W.heap.size W w3 := b1.trans (b3.mono b1.size)
  clear hr hh b3 c1
  go_wp2
  go_ret
  exact ⟨⟨r, rfl, HR⟩, b4⟩
set_option maxRecDepth 100000 in
set_option maxHeartbeats 4000000 in
theorem find_nil (pid : Int) (W : World) : Calls Try.prog 31 #[.pointer none, .int .i64 pid] W fun e W' => e = .returned (.int .i64 (-1)) ∧ Below W.heap.size W W' := by
  have b1 : Below W.heap.size W (W.alloc (.cells #[.int .i64 pid] 3)) := (Below.refl _ W).alloc (Nat.le_refl _) _
  go_enter Try.func31, Try.ntmps31
  go_wp2
  go_ret
  exact ⟨rfl, b1⟩
end Go.Proofs.Ytdnhaappglbooaa
