/- Two lists of numbers are the same. -/
import Derived.Test.YtdacdfnfbknndaaFrmDocD
namespace Go.Proofs.Ytdacdfnfbknndaa
open Go Go.RowKit
attribute [local go_sem] upV_value upV_skip upV_enter
set_option linter.unusedVariables false
set_option linter.unnecessarySimpa false
set_option linter.unusedSimpArgs false
theorem take_next {α : Type} {xs ys : List α} {k : Nat} (h : xs.take k = ys.take k) (h1 : k < xs.length) (h2 : k < ys.length) (he : xs[k] = ys[k]) : xs.take (k + 1) = ys.take (k + 1) := by
  rw [List.take_succ_eq_append_getElem h1, List.take_succ_eq_append_getElem h2, h, he]
set_option maxRecDepth 100000 in
set_option maxHeartbeats 4000000 in
theorem same04_any (a : Option Addr) (la ca : Nat) (xs : List Int) (b : Option Addr) (lb cb : Nat) (ys : List Int) (n : Nat) (W : World) (hn : n ≤ W.heap.size) (h1 : RowI .i64 n W (.slice a la ca) xs) (h2 : RowI .i64 n W (.slice b lb cb) ys) (hsm : la ≤ 140737488351232) :
    Calls Try.prog 25 #[.slice a la ca, .slice b lb cb] W fun e W' => e = .returned (.bool (decide (xs = ys))) ∧ Below W.heap.size W W' := by
  obtain ⟨e1, b1, o1, op1, hc1⟩ := h1.open
  obtain ⟨e2, b2, o2, op2, hc2⟩ := h2.open
  obtain ⟨E, hE⟩ : ∃ E, E = decide (xs = ys) := ⟨_, rfl⟩
  rw [← hE]
  by_cases hl : la = lb
  rotate_left
  · have t1 : ((la : Int) != (lb : Int)) = true := by simp; omega
    have hne : E = false := by rw [hE]; simp; intro h; subst h; omega
    subst hne
    clear hE
    go_enter Try.func25, Try.ntmps25
    go_wp2
    go_ret
    exact ⟨rfl, Below.refl _ _⟩
  subst hl
  go_enter Try.func25, Try.ntmps25
  have HE := Lib.hid hE
  clear hE
  go_wp2
  go_loopw [5] (fun i wr => ∃ k : Nat, k ≤ la ∧ i = .int .i64 (k : Int) ∧ Hid (xs.take k = ys.take k) ∧ Below W.heap.size W wr) (fun i _ => la - (intOf i).toNat)
  case atStart => exact ⟨0, Nat.zero_le _, rfl, rfl, Below.refl _ _⟩
  case round =>
    obtain ⟨k, hk, rfl, hT, hb⟩ := hrel
    by_cases hlt : k < la
    · have t1 : decide ((k : Int) < (la : Int)) = true := by simp; omega
      obtain ⟨rfl, hb1, _, _⟩ := op1 (by omega)
      obtain ⟨rfl, hb2, _, _⟩ := op2 (by omega)
      have c1 : wr.cell? ⟨b1, o1 + k, none⟩ = some (.int .i64 (xs.getD k 0)) := (hb.cell (p := ⟨b1, o1 + k, none⟩) (by show b1 < _; omega)).trans (hc1 k hlt)
      have c2 : wr.cell? ⟨b2, o2 + k, none⟩ = some (.int .i64 (ys.getD k 0)) := (hb.cell (p := ⟨b2, o2 + k, none⟩) (by show b2 < _; omega)).trans (hc2 k hlt)
      rw [getD_at _ _ (by omega)] at c1 c2
      obtain ⟨X, hX⟩ : ∃ X, X = xs[k]'(by omega) := ⟨_, rfl⟩
      obtain ⟨Y, hY⟩ : ∃ Y, Y = ys[k]'(by omega) := ⟨_, rfl⟩
      rw [← hX] at c1
      rw [← hY] at c2
      have HX := Lib.hid hX
      have HY := Lib.hid hY
      have HC1 := Lib.hid hc1
      have HC2 := Lib.hid hc2
      clear hX hY hc1 hc2
      by_cases hXY : X = Y
      · have t2 : (X != Y) = false := by simp [hXY]
        have HQ := Lib.hid hXY
        clear hXY
        go_wp2_with fail
        go_region
        go_wp2
        go_roundw
        case rel =>
          have hX : X = xs[k]'(by omega) := HX
          have hY : Y = ys[k]'(by omega) := HY
          have hXY : X = Y := HQ
          exact ⟨k + 1, by omega, by go_num, take_next hT (by omega) (by omega) (by rw [← hX, ← hY, hXY]), ⟨hb.os, hb.tape, hb.output, hb.size, hb.block⟩⟩
        case measure => simp [intOf]; omega
      · have t2 : (X != Y) = true := by simpa using hXY
        have hne : E = false := by
          rw [show E = decide (xs = ys) from HE]
          simp; intro h; subst h
          exact hXY ((show X = _ from HX).trans (show Y = _ from HY).symm)
        have HN := Lib.hid hne
        clear hXY hne
        go_wp2_with fail
        go_region
        go_wp2
        go_ret
        exact ⟨by rw [show E = false from HN]; rfl, ⟨hb.os, hb.tape, hb.output, hb.size, hb.block⟩⟩
    · have t1 : decide ((k : Int) < (la : Int)) = false := by simp; omega
      obtain rfl : k = la := by omega
      have hT2 : xs.take k = ys.take k := hT
      rw [List.take_of_length_le (by omega), List.take_of_length_le (by omega)] at hT2
      have heq : E = true := by rw [show E = decide (xs = ys) from HE]; simpa using hT2
      have HN := Lib.hid heq
      clear hT2 hT heq
      go_wp2
      go_ret
      exact ⟨by rw [show E = true from HN]; rfl, hb⟩
end Go.Proofs.Ytdacdfnfbknndaa
