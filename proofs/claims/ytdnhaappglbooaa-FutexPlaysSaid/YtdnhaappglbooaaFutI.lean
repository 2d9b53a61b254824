/- The documents' Same; calls on none; the chapter's examples. -/
import Derived.Test.YtdnhaappglbooaaFutH
import Derived.Deep.Cut
namespace Go.Proofs.Ytdnhaappglbooaa
open Go Go.RowKit
attribute [local go_sem] upV_value upV_skip upV_enter
set_option linter.unusedVariables false
set_option linter.unnecessarySimpa false
set_option linter.unusedSimpArgs false
theorem take_next {α : Type} {xs ys : List α} {k : Nat} (h : xs.take k = ys.take k) (h1 : k < xs.length) (h2 : k < ys.length) (he : xs[k] = ys[k]) : xs.take (k + 1) = ys.take (k + 1) := by
  rw [List.take_succ_eq_append_getElem h1, List.take_succ_eq_append_getElem h2, h, he]
set_option maxRecDepth 100000 in
set_option maxHeartbeats 4000000 in
theorem same04_any (a : Option Addr) (la ca : Nat) (xs : List Int) (b : Option Addr) (lb cb : Nat) (ys : List Int) (n : Nat) (W : World) (hn : n ≤ W.heap.size) (h1 : RowI .i64 n W (.slice a la ca) xs) (h2 : RowI .i64 n W (.slice b lb cb) ys) (hsm : la ≤ 140737488351232) :
    Calls Try.prog 16 #[.slice a la ca, .slice b lb cb] W fun e W' => e = .returned (.bool (decide (xs = ys))) ∧ Below W.heap.size W W' := by
  obtain ⟨e1, b1, o1, op1, hc1⟩ := h1.open
  obtain ⟨e2, b2, o2, op2, hc2⟩ := h2.open
  obtain ⟨E, hE⟩ : ∃ E, E = decide (xs = ys) := ⟨_, rfl⟩
  rw [← hE]
  by_cases hl : la = lb
  rotate_left
  · have t1 : ((la : Int) != (lb : Int)) = true := by simp; omega
    have hne : E = false := by rw [hE]; simp; intro h; subst h; omega
    subst hne
    clear hE
    go_enter Try.func16, Try.ntmps16
    go_wp2
    go_ret
    exact ⟨rfl, Below.refl _ _⟩
  subst hl
  go_enter Try.func16, Try.ntmps16
  have HE := Lib.hid hE
  clear hE
  go_wp2
  go_loopw [5] (fun i wr => ∃ k : Nat, k ≤ la ∧ i = .int .i64 (k : Int) ∧ Hid (xs.take k = ys.take k) ∧ Below W.heap.size W wr) (fun i _ => la - (intOf i).toNat)
  case atStart => exact ⟨0, Nat.zero_le _, rfl, rfl, Below.refl _ _⟩
  case round =>
    obtain ⟨k, hk, rfl, hT, hb⟩ := hrel
    by_cases hlt : k < la
    · have t1 : decide ((k : Int) < (la : Int)) = true := by simp; omega
      obtain ⟨rfl, hb1, _, _⟩ := op1 (by omega)
      obtain ⟨rfl, hb2, _, _⟩ := op2 (by omega)
      have c1 : wr.cell? ⟨b1, o1 + k, none⟩ = some (.int .i64 (xs.getD k 0)) := (hb.cell (p := ⟨b1, o1 + k, none⟩) (by show b1 < _; omega)).trans (hc1 k hlt)
      have c2 : wr.cell? ⟨b2, o2 + k, none⟩ = some (.int .i64 (ys.getD k 0)) := (hb.cell (p := ⟨b2, o2 + k, none⟩) (by show b2 < _; omega)).trans (hc2 k hlt)
      rw [getD_at _ _ (by omega)] at c1 c2
      obtain ⟨X, hX⟩ : ∃ X, X = xs[k]'(by omega) := ⟨_, rfl⟩
      obtain ⟨Y, hY⟩ : ∃ Y, Y = ys[k]'(by omega) := ⟨_, rfl⟩
      rw [← hX] at c1
      rw [← hY] at c2
      have HX := Lib.hid hX
      have HY := Lib.hid hY
      have HC1 := Lib.hid hc1
      have HC2 := Lib.hid hc2
      clear hX hY hc1 hc2
      by_cases hXY : X = Y
      · have t2 : (X != Y) = false := by simp [hXY]
        have HQ := Lib.hid hXY
        clear hXY
        go_wp2_with fail
        go_region
        go_wp2
        go_roundw
        case rel =>
          have hX : X = xs[k]'(by omega) := HX
          have hY : Y = ys[k]'(by omega) := HY
          have hXY : X = Y := HQ
          exact ⟨k + 1, by omega, by go_num, take_next hT (by omega) (by omega) (by rw [← hX, ← hY, hXY]), ⟨hb.os, hb.tape, hb.output, hb.size, hb.block⟩⟩
        case measure => simp [intOf]; omega
      · have t2 : (X != Y) = true := by simpa using hXY
        have hne : E = false := by
          rw [show E = decide (xs = ys) from HE]
          simp; intro h; subst h
          exact hXY ((show X = _ from HX).trans (show Y = _ from HY).symm)
        have HN := Lib.hid hne
        clear hXY hne
        go_wp2_with fail
        go_region
        go_wp2
        go_ret
        exact ⟨by rw [show E = false from HN]; rfl, ⟨hb.os, hb.tape, hb.output, hb.size, hb.block⟩⟩
    · have t1 : decide ((k : Int) < (la : Int)) = false := by simp; omega
      obtain rfl : k = la := by omega
      have hT2 : xs.take k = ys.take k := hT
      rw [List.take_of_length_le (by omega), List.take_of_length_le (by omega)] at hT2
      have heq : E = true := by rw [show E = decide (xs = ys) from HE]; simpa using hT2
      have HN := Lib.hid heq
      clear hT2 hT heq
      go_wp2
      go_ret
      exact ⟨by rw [show E = true from HN]; rfl, hb⟩
theorem wt_eqIn (d : Nat) (x y : Wt) (w : World) : (Op.equalIn (d + 3) 35 (.agg #[.int .i64 x.pid, .int .i64 x.k.p, .int .i64 x.k.f, .int .i64 x.k.o]) (.agg #[.int .i64 y.pid, .int .i64 y.k.p, .int .i64 y.k.f, .int .i64 y.k.o])).run Try.prog w = .ok (decide (x = y)) w := by
  have hk := key_eqIn d x.k.p x.k.f x.k.o y.k.p y.k.f y.k.o
  rw [run_equalIn_agg _ _ _ _ _ (by kernel_rfl) (by kernel_rfl)]
  simp [Program.fieldsOf, Try.underlying35, Op.eqFields, go_sem, hk]
  obtain ⟨p1, a1, a2, a3⟩ := x
  obtain ⟨p2, b1, b2, b3⟩ := y
  simp only
  by_cases h0 : p1 = p2 <;> by_cases h1 : a1 = b1 <;> by_cases h2 : a2 = b2 <;> by_cases h3 : a3 = b3 <;> simp [h0, h1, h2, h3]
theorem wt_neq (x y : Wt) (w : World) : (binOp .neq 35 (.agg #[.int .i64 x.pid, .int .i64 x.k.p, .int .i64 x.k.f, .int .i64 x.k.o]) (.agg #[.int .i64 y.pid, .int .i64 y.k.p, .int .i64 y.k.f, .int .i64 y.k.o])).run Try.prog w = .ok (.bool (!decide (x = y))) w := by
  rw [run_neq_struct, wt_eqIn]
  rfl
set_option maxRecDepth 100000 in
set_option maxHeartbeats 4000000 in
theorem same11_any (a : Option Addr) (la ca : Nat) (xs : List Wt) (b : Option Addr) (lb cb : Nat) (ys : List Wt) (n : Nat) (W : World) (hn : n ≤ W.heap.size) (h1 : RowW n W a la ca xs) (h2 : RowW n W b lb cb ys) (hsm : la ≤ 140737488351232) :
    Calls Try.prog 13 #[.slice a la ca, .slice b lb cb] W fun e W' => e = .returned (.bool (decide (xs = ys))) ∧ Below W.heap.size W W' := by
  have e1 := h1.1
  have e2 := h2.1
  have bn : ∀ V, Below W.heap.size W V → Below n W V := fun V h => ⟨h.os, h.tape, h.output, h.size, fun q hq => h.block q (by omega)⟩
  obtain ⟨E, hE⟩ : ∃ E, E = decide (xs = ys) := ⟨_, rfl⟩
  rw [← hE]
  by_cases hl : la = lb
  rotate_left
  · have t1 : ((la : Int) != (lb : Int)) = true := by simp; omega
    have hne : E = false := by rw [hE]; simp; intro h; subst h; omega
    subst hne
    clear hE
    go_enter Try.func13, Try.ntmps13
    go_wp2
    go_ret
    exact ⟨rfl, Below.refl _ _⟩
  subst hl
  go_enter Try.func13, Try.ntmps13
  have HE := Lib.hid hE
  clear hE
  go_wp2
  go_loopw [5] (fun i wr => ∃ k : Nat, k ≤ la ∧ i = .int .i64 (k : Int) ∧ Hid (xs.take k = ys.take k) ∧ Below W.heap.size W wr) (fun i _ => la - (intOf i).toNat)
  case atStart => exact ⟨0, Nat.zero_le _, rfl, rfl, Below.refl _ _⟩
  case round =>
    obtain ⟨k, hk, rfl, hT, hb⟩ := hrel
    by_cases hlt : k < la
    · have t1 : decide ((k : Int) < (la : Int)) = true := by simp; omega
      have g1 := h1.below (bn wr hb)
      have g2 := h2.below (bn wr hb)
      obtain ⟨_, h0 | ⟨b1, o1, rfl, hb1, hc1, hm1, _⟩⟩ := h1
      · omega
      obtain ⟨_, h0 | ⟨b2, o2, rfl, hb2, hc2, hm2, _⟩⟩ := h2
      · omega
      obtain ⟨c0, c1, c2, c3⟩ := g1.cells4 k (by omega)
      obtain ⟨d0, d1, d2, d3⟩ := g2.cells4 k (by omega)
      obtain ⟨X, hX⟩ : ∃ X, X = xs[k]'(by omega) := ⟨_, rfl⟩
      obtain ⟨Y, hY⟩ : ∃ Y, Y = ys[k]'(by omega) := ⟨_, rfl⟩
      rw [← hX] at c0 c1 c2 c3
      rw [← hY] at d0 d1 d2 d3
      have HX := Lib.hid hX
      have HY := Lib.hid hY
      clear hX hY g1 g2
      by_cases hXY : X = Y
      · have t2 : ∀ w, (binOp .neq 35 (.agg #[.int .i64 X.pid, .int .i64 X.k.p, .int .i64 X.k.f, .int .i64 X.k.o]) (.agg #[.int .i64 Y.pid, .int .i64 Y.k.p, .int .i64 Y.k.f, .int .i64 Y.k.o])).run Try.prog w = .ok (.bool false) w := fun w => by rw [wt_neq, decide_eq_true hXY]; rfl
        have HQ := Lib.hid hXY
        clear hXY
        go_wp2_with fail
        go_region
        go_wp2
        go_roundw
        case rel =>
          have hX : X = xs[k]'(by omega) := HX
          have hY : Y = ys[k]'(by omega) := HY
          have hXY : X = Y := HQ
          exact ⟨k + 1, by omega, by go_num, take_next hT (by omega) (by omega) (by rw [← hX, ← hY, hXY]), ⟨hb.os, hb.tape, hb.output, hb.size, hb.block⟩⟩
        case measure => simp [intOf]; omega
      · have t2 : ∀ w, (binOp .neq 35 (.agg #[.int .i64 X.pid, .int .i64 X.k.p, .int .i64 X.k.f, .int .i64 X.k.o]) (.agg #[.int .i64 Y.pid, .int .i64 Y.k.p, .int .i64 Y.k.f, .int .i64 Y.k.o])).run Try.prog w = .ok (.bool true) w := fun w => by rw [wt_neq, decide_eq_false hXY]; rfl
        have hne : E = false := by
          rw [show E = decide (xs = ys) from HE]
          simp; intro h; subst h
          exact hXY ((show X = _ from HX).trans (show Y = _ from HY).symm)
        have HN := Lib.hid hne
        clear hXY hne
        go_wp2_with fail
        go_region
        go_wp2
        go_ret
        exact ⟨by rw [show E = false from HN]; rfl, ⟨hb.os, hb.tape, hb.output, hb.size, hb.block⟩⟩
    · have t1 : decide ((k : Int) < (la : Int)) = false := by simp; omega
      obtain rfl : k = la := by omega
      have hT2 : xs.take k = ys.take k := hT
      rw [List.take_of_length_le (by omega), List.take_of_length_le (by omega)] at hT2
      have heq : E = true := by rw [show E = decide (xs = ys) from HE]; simpa using hT2
      have HN := Lib.hid heq
      clear hT2 hT heq
      go_wp2
      go_ret
      exact ⟨by rw [show E = true from HN]; rfl, hb⟩
set_option maxHeartbeats 1000000 in
theorem gone_nil (pid : Int) (W : World) : Calls Try.prog 22 #[.pointer none, .int .i64 pid] W fun e W' => e = .returned (.bool false) ∧ Below W.heap.size W W' := by
  go_enter Try.func22, Try.ntmps22
  go_wp2_with (go_at_call 31; refine held ?_)
  unfold Held
  refine (find_nil pid W).mono ?_
  rintro e w4 ⟨rfl, b4⟩
  go_wp2
  go_ret
  exact ⟨rfl, b4⟩
set_option maxHeartbeats 1000000 in
theorem wait_nil (pid : Int) (k : Ky) (W : World) : Calls Try.prog 12 #[.pointer none, .int .i64 pid, aggK k] W fun e W' => e = .returned (.int .i64 1) ∧ Below W.heap.size W W' := by
  show Calls Try.prog _ #[_, _, .agg #[.int .i64 k.p, .int .i64 k.f, .int .i64 k.o]] W _
  have b1 : ∀ X : Obj, Below W.heap.size W (W.alloc X) := fun X => (Below.refl _ W).alloc (Nat.le_refl _) X
  go_enter Try.func12, Try.ntmps12
  go_wp2
  go_ret
  exact ⟨rfl, b1 _⟩
def oneK1 : Ky := ⟨0, 5, 8⟩
set_option maxRecDepth 100000 in
set_option maxHeartbeats 1000000 in
theorem one_any (W : World) : Calls Try.prog 29 #[] W fun e W' => e = .returned (aggK oneK1) ∧ Below W.heap.size W W' := by
  go_enter Try.func29, Try.ntmps29
  go_wp2
  (try simp only [Exit.inBlock, Exit.then])
  refine bodyPost_ret (results_cell_row rfl _ _ W.heap.size 33 #[.int .i64 0, .int .i64 5, .int .i64 8] (0, 0) _ rfl (World.alloc_heap_new _ _) Try.underlying33 rfl infoK) rfl ?_
  exact ⟨rfl, (Below.refl _ W).alloc (Nat.le_refl _) _⟩
end Go.Proofs.Ytdnhaappglbooaa
