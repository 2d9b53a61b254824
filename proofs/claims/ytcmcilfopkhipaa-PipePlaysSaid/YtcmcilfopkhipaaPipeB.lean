/- The iterator (*pipe.Pipe).stuck$1, waits, Read, Write, Ready, Copy, Of. -/
import Derived.Test.YtcmcilfopkhipaaPipeA
import Derived.Laws.Rows
import Derived.Deep.WholeRow
namespace Go.Proofs.Ytcmcilfopkhipaa
open Go Go.RowKit Go.Shelf
attribute [local go_sem] Oper.semAt_some upV_value upV_skip upV_enter
set_option linter.unusedVariables false
set_option linter.unnecessarySimpa false
theorem wide_none : ∀ f : FuncId, none = some f → Fence.wide.fn f := fun f h => by cases h
/-- the sides that are stuck -/
def stuckL (m : Nat) (bs : List Int) (rd wr : Nat) : List Int := (if bs.length = 0 ∧ 0 < wr then [0] else []) ++ (if m - bs.length = 0 ∧ 0 < rd then [1] else [])
def waitsB (m : Nat) (bs : List Int) (rd wr : Nat) (s : Bool) : Bool := if s then decide (m - bs.length = 0 ∧ 0 < rd) else decide (bs.length = 0 ∧ 0 < wr)
theorem stuck_mem (m : Nat) (bs : List Int) (rd wr : Nat) (s : Bool) : (sideN s ∈ stuckL m bs rd wr) ↔ waitsB m bs rd wr s = true := by
  unfold stuckL waitsB sideN
  cases s <;> by_cases h1 : bs.length = 0 ∧ 0 < wr <;> by_cases h2 : m - bs.length = 0 ∧ 0 < rd <;> simp [h1, h2]
set_option maxRecDepth 100000 in
set_option maxHeartbeats 4000000 in
theorem stuck1_iter (B1 p g m : Nat) (bs : List Int) (rd wr : Nat) (w : World) (hB : B1 < w.heap.size) (c1 : w.cell? ⟨B1, 0, none⟩ = some (.pointer (some ⟨p, 0, none⟩))) (h : IsPipe w p g m bs rd wr) :
    Iter Try.prog 51 #[.pointer (some ⟨B1, 0, none⟩)] (fun s : Int => #[.int .i64 s]) (fun b => b = B1 ∨ b = p ∨ b = g) (stuckL m bs rd wr) w := by
  intro l J Jx S0 W hW hJ hJx hlt hX hY h0
  have C1 : W.cell? ⟨B1, 0, none⟩ = some (.pointer (some ⟨p, 0, none⟩)) := (hW.cell (p := ⟨B1, 0, none⟩) hB).trans c1
  have hP : IsPipe W p g m bs rd wr := h.below hW
  have x1 : ¬ S0 B1 := hX _ (.inl rfl)
  have x2 : ¬ S0 p := hX _ (.inr (.inl rfl))
  have x3 : ¬ S0 g := hX _ (.inr (.inr rfl))
  have hWs := hW.size
  have hml := hP.ring.most_le
  refine (callsIn_wide (n := 101)).1 ?_
  refine callsIn_of_wp Try.func51 rfl trivial ?_ rfl
  simp only [Try.ntmps51, List.size_toArray, List.length_cons, List.length_nil, Nat.reduceAdd, Nat.reduceSub, Array.replicate_succ, Array.replicate_zero, List.push_toArray, List.append_toArray, List.nil_append, List.cons_append]
  have p0 := hP.at_.c0
  have p1 := hP.at_.c1
  have p2 := hP.at_.c2
  have hch : Fence.wide.fn 34 := trivial
  have hch2 : Fence.wide.fn 46 := trivial
  have kl := fun n => (callsIn_wide (n := n)).2 (len_ring W g m bs hP.ring)
  have kr := fun (W : World) (hr : IsRing W g m bs) n => (callsIn_wide (n := n)).2 (room_ring W g m bs hr)
  have hring := hP.ring
  obtain ⟨L, hL⟩ : ∃ L, L = bs.length := ⟨_, rfl⟩
  obtain ⟨R, hR⟩ : ∃ R, R = m - L := ⟨_, rfl⟩
  have hLR : L + R = m := by omega
  have estk : stuckL m bs rd wr = (if L = 0 ∧ 0 < wr then [0] else []) ++ (if R = 0 ∧ 0 < rd then [1] else []) := by unfold stuckL; rw [← hL, ← hR]
  rw [← hL] at kl
  rw [← hL, ← hR] at kr
  have HP := Lib.hid hP
  clear hL hR hP
  by_cases hA : L = 0 ∧ 0 < wr
  · obtain ⟨hL0, hw0⟩ := hA
    subst hL0
    have hR0 : ¬ R = 0 := by omega
    have e0 : ((R : Int) == 0) = false := by simpa using hR0
    have t1 : decide ((0 : Int) < (wr : Int)) = true := by simp; omega
    rw [if_pos ⟨rfl, hw0⟩, if_neg (fun e => hR0 e.1), List.append_nil] at estk
    rw [estk] at hY ⊢
    obtain ⟨fn, tmps, assign, body, hy, hRd⟩ := hY 0 (by simp) S0 W h0
    simp only [List.getElem_cons_zero] at hy
    gi_wp2_with (first
      | (gi_at_call 34; refine (kl _).mono ?_; rintro e w1 ⟨rfl, rfl⟩)
      | (refine held ?_; refine hRd.mono ?_))
    rintro e W3 (⟨rfl, S', hJ3, hw3⟩ | ⟨rfl, S', hJx3, hw3⟩)
    · have hP := (show IsPipe W p g m bs rd wr from HP)
      have hP3 : IsPipe W3 p g m bs rd wr := hP.same (hw3.block p hP.lt.1 x2) (hw3.block g hP.lt.2 x3)
      have C13 : W3.cell? ⟨B1, 0, none⟩ = some (.pointer (some ⟨p, 0, none⟩)) := cell_same (hw3.block B1 (by omega) x1) C1
      have q0 := hP3.at_.c0
      have q1 := hP3.at_.c1
      have kr3 := kr W3 hP3.ring
      clear hP hP3 p0 p1 p2 C1
      gi_wp2_with (gi_at_call 46; refine (kr3 _).mono ?_; rintro e w1 ⟨rfl, rfl⟩)
      go_end0
      exact ⟨⟨_, rfl⟩, .inl ⟨S', hJ3⟩⟩
    · gi_wp2
      refine bodyPost_ret (results_none rfl _ _ _) rfl ?_
      exact ⟨⟨_, rfl⟩, .inr ⟨1, S', by simp, hJx3⟩⟩
  · rw [if_neg hA, List.nil_append] at estk
    rw [estk] at hY ⊢
    have kr1 := kr W hring
    have hzu : ¬ L = 0 ∨ (L = 0 ∧ wr = 0) := by omega
    by_cases hB2 : R = 0 ∧ 0 < rd
    · obtain ⟨hR0, hr0⟩ := hB2
      subst hR0
      have t1 : decide ((0 : Int) < (rd : Int)) = true := by simp; omega
      rw [if_pos ⟨rfl, hr0⟩] at hY ⊢
      obtain ⟨fn, tmps, assign, body, hy, hRd⟩ := hY 0 (by simp) S0 W h0
      simp only [List.getElem_cons_zero] at hy
      have hz : ¬ L = 0 := by omega
      have e0 : ((L : Int) == 0) = false := by simpa using hz
      gi_wp2_with (first
        | (gi_at_call 34; refine (kl _).mono ?_; rintro e w1 ⟨rfl, rfl⟩)
        | (gi_at_call 46; refine (kr1 _).mono ?_; rintro e w1 ⟨rfl, rfl⟩)
        | (refine held ?_; refine hRd.mono ?_)
        | (with_reducible refine And.intro wide_none ?_))
      rintro e W3 (⟨rfl, S', hJ3, hw3⟩ | ⟨rfl, S', hJx3, hw3⟩)
      · gi_wp2
        go_end0
        exact ⟨⟨_, rfl⟩, .inl ⟨S', hJ3⟩⟩
      · gi_wp2
        go_end0
        exact ⟨⟨_, rfl⟩, .inr ⟨1, S', by simp, hJx3⟩⟩
    · rw [if_neg hB2] at hY ⊢
      have hzu' : ¬ R = 0 ∨ (R = 0 ∧ rd = 0) := by omega
      rcases hzu with hz | ⟨hz, hz2⟩
      · rcases hzu' with hz' | ⟨hz', hz2'⟩
        · have e0 : ((L : Int) == 0) = false := by simpa using hz
          have e1 : ((R : Int) == 0) = false := by simpa using hz'
          gi_wp2_with (first
            | (gi_at_call 34; refine (kl _).mono ?_; rintro e w1 ⟨rfl, rfl⟩)
            | (gi_at_call 46; refine (kr1 _).mono ?_; rintro e w1 ⟨rfl, rfl⟩)
            | (with_reducible refine And.intro wide_none ?_))
          go_end0
          exact ⟨⟨_, rfl⟩, .inl ⟨S0, by simpa using h0⟩⟩
        · subst hz' hz2'
          have e0 : ((L : Int) == 0) = false := by simpa using hz
          gi_wp2_with (first
            | (gi_at_call 34; refine (kl _).mono ?_; rintro e w1 ⟨rfl, rfl⟩)
            | (gi_at_call 46; refine (kr1 _).mono ?_; rintro e w1 ⟨rfl, rfl⟩)
            | (with_reducible refine And.intro wide_none ?_))
          go_end0
          exact ⟨⟨_, rfl⟩, .inl ⟨S0, by simpa using h0⟩⟩
      · subst hz hz2
        rcases hzu' with hz' | ⟨hz', hz2'⟩
        · have e1 : ((R : Int) == 0) = false := by simpa using hz'
          gi_wp2_with (first
            | (gi_at_call 34; refine (kl _).mono ?_; rintro e w1 ⟨rfl, rfl⟩)
            | (gi_at_call 46; refine (kr1 _).mono ?_; rintro e w1 ⟨rfl, rfl⟩)
            | (with_reducible refine And.intro wide_none ?_))
          go_end0
          exact ⟨⟨_, rfl⟩, .inl ⟨S0, by simpa using h0⟩⟩
        · omega
end Go.Proofs.Ytcmcilfopkhipaa
