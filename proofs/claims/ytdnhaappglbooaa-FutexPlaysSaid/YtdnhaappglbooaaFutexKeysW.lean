/- The walk of the law FutexKeys. -/
import Derived.Test.YtdnhaappglbooaaFutexOrderW
import Derived.Test.YtdnhaappglbooaaFutKeysM
import Derived.Maps.Own
import Derived.Maps.OwnOps
import Derived.Maps.Views
namespace Go.Proofs.Ytdnhaappglbooaa
open Go Go.RowKit Go.Maps Go.WideAt
attribute [local go_sem] upV_value upV_skip upV_enter
set_option linter.unusedVariables false
set_option linter.unnecessarySimpa false
set_option linter.unusedSimpArgs false
theorem int_law : Keyed Try.prog 3 := int_keyed Try.underlying3
theorem zeroE (w : World) : (zeroValue 3).run Try.prog w = .ok (.int .i64 0) w := by kernel_rfl
theorem ownsMap_same {H : Type} {P : Program} {k : TypeId} {R : Value → Option (DataW H × List MemPlace)} {A B : World} {b n : Nat} {D : DataW H} (h : A.ownsMap P k R b n D) (hs : B.heap[b]? = A.heap[b]?) : B.ownsMap P k R b n D := by
  obtain ⟨es, clock, hb, F, hs', hD⟩ := h
  exact ⟨es, clock, hs.trans hb, F, hs', hD⟩
/-- what met holds: naught at all whose turn is still to come -/
def MetInv (ws : List Wt) (j : Nat) (D : DataW Unit) : Prop := ∀ (i : Nat) (h : i < ws.length), j ≤ i → D.atKey (.int .i64 ws[i].pid) (.lit (.int .i64 0)) = .lit (.int .i64 0)
theorem MetInv.start (ws : List Wt) : MetInv ws 0 (.map []) := fun i h _ => rfl
theorem MetInv.step {ws : List Wt} (hG : Good ws) {j : Nat} {D : DataW Unit} (h : MetInv ws j D) (hj : j < ws.length) (d : DataW Unit) : MetInv ws (j + 1) (D.put (.int .i64 ws[j].pid) d) := by
  intro i hi hij
  rw [atKey_put_other (fun e => by
    injection e with _ e
    exact hG.apart j i hj hi (by omega) e.symm)]
  exact h i hi (by omega)
set_option maxRecDepth 100000 in
set_option maxHeartbeats 16000000 in
theorem futexKeys_any (W : World) (a : Option Addr) (len cap : Nat) (os : List OpF) (k : Ky) (h : IsOps W.heap.size W a len cap os) (hwfs : ∀ o ∈ os, (Lit.int .i64 o.pid).wf = true) :
    Calls Try.prog 5 #[.slice a len cap, .agg #[.int .i64 k.p, .int .i64 k.f, .int .i64 k.o]] W fun e W' => e = .returned (.bool true) ∧ Below W.heap.size W W' := by
  have hsm := h.small
  have hol := h.1
  obtain ⟨i1, hi1, hz10, hz11, hz12⟩ := info_parts info_i64
  obtain ⟨W1, hW1⟩ : ∃ W1, W1 = W.alloc (.cells #[.int .i64 k.p, .int .i64 k.f, .int .i64 k.o] 33) := ⟨_, rfl⟩
  have bW1 : Below W.heap.size W W1 := by rw [hW1]; exact (Below.refl _ W).alloc (Nat.le_refl _) _
  have zW1 : W1.heap[W.heap.size]? = some (.cells #[.int .i64 k.p, .int .i64 k.f, .int .i64 k.o] 33) := by rw [hW1]; exact World.alloc_heap_new _ _
  have sW1 : W.heap.size < W1.heap.size := by rw [hW1]; simp
  have hfin : ∀ V, Below W1.heap.size W1 V → Below W.heap.size W V := fun V hb => bW1.trans (hb.mono (by omega))
  have hzb : ∀ V, Below W1.heap.size W1 V → V.cell? ⟨W.heap.size, 0, none⟩ = some (.int .i64 k.p) ∧ V.cell? ⟨W.heap.size, 1, none⟩ = some (.int .i64 k.f) ∧ V.cell? ⟨W.heap.size, 2, none⟩ = some (.int .i64 k.o) := fun V hb => by
    have z := (hb.block W.heap.size sW1).trans zW1
    exact ⟨by rw [cell_of_row _ _ 0 _ _ _ z]; rfl, by rw [cell_of_row _ _ 1 _ _ _ z]; rfl, by rw [cell_of_row _ _ 2 _ _ _ z]; rfl⟩
  have HZB := Lib.hid hzb
  have HFIN := Lib.hid hfin
  have HWF := Lib.hid hwfs
  clear hzb hfin hwfs
  have hmm := @run_makeMap Try.prog
  go_enter Try.func5, Try.ntmps5
  go_wp2_with (go_at_call 9; refine held ?_)
  unfold Held
  rw [← hW1]
  clear hW1
  refine (alive_any W1).mono ?_
  rintro e w2 ⟨rfl, b2⟩
  by_cases hlen : (len : Int) > 200
  · have t1 : decide ((len : Int) > 200) = true := decide_eq_true hlen
    go_wp2
    go_ret
    exact ⟨rfl, (show ∀ V, Below W1.heap.size W1 V → Below W.heap.size W V from HFIN) _ b2⟩
  have t1 : decide ((len : Int) > 200) = false := decide_eq_false hlen
  have h2 := ((h.below bW1).mono (Nat.le_of_lt sW1)).below b2
  have kg := grown_any w2 a len cap os (h2.mono b2.size) (by omega)
  go_wp2_with (go_at_call 10; refine held ?_)
  unfold Held
  refine kg.mono ?_
  rintro e w3 ⟨q, v3, rfl, f3, b3⟩
  have b3' := b2.trans (b3.mono b2.size)
  have hG := good_grow os
  have hL := growL_len os
  have hpw : ∀ x ∈ growL os, (Lit.int .i64 x.pid).wf = true := fun x hx => by
    obtain ⟨o, ho, he⟩ := growL_pid os x hx
    rw [he]
    exact (show ∀ o ∈ os, _ from HWF) o ho
  obtain ⟨ws, hws⟩ : ∃ ws, ws = growL os := ⟨_, rfl⟩
  rw [← hws] at f3 hG hL hpw
  replace f3 : Fresh W1.heap.size w3 q v3 ws := ⟨f3.fut, fun b hb => Nat.le_trans b2.size (f3.lo b hb)⟩
  have HPW := Lib.hid hpw
  clear hws kg h h2 b2 b3 bW1 hpw HWF
  go_wp2_with (go_at_call 11; refine held ?_)
  unfold Held
  refine (all_any q v3 ws w3 f3.fut (by omega)).mono ?_
  rintro e w5 ⟨u5, rfl, o5, b5⟩
  have b5' := b3'.trans (b5.mono b3'.size)
  have f5 := f3.below b5
  have n5 : Kept (SFut q v3) u5 := fun b hb hs => by have := (o5.lt b hb).1; have := f3.fut.lt b hs; omega
  obtain ⟨a5, d5, rfl⟩ := sl_own o5
  have o5' := ownsRow_mono o5 (Nat.zero_le _)
  have l5 : ∀ b, (Value.slice a5 ws.length d5).ownBlock = some b → b < w5.heap.size := fun b hb => (o5.lt b hb).2
  have hs5 := b5'.size
  obtain ⟨W6, hW6⟩ : ∃ W6, W6 = w5.alloc (.map #[] 0) := ⟨_, rfl⟩
  have b6 : Below w5.heap.size w5 W6 := by rw [hW6]; exact (Below.refl _ _).alloc (Nat.le_refl _) _
  have m6 : W6.ownsMap Try.prog 3 (plainElem Try.prog 3) w5.heap.size 0 (.map [] : DataW Unit) := by rw [hW6]; exact World.ownsMap_made _ _ _ _
  have f6 := f5.below b6
  have o6 := row_below o5' b6
  have b6' := b5'.trans (b6.mono hs5)
  have nB : ¬ SFut q v3 w5.heap.size := fun hs => by have := f5.fut.lt _ hs; omega
  clear o5 o5' f3 b3' b5 f5 b6
  go_wp2
  rw [← hW6]
  clear hW6
  go_loopw [31] (fun i wr => ∃ (j : Nat) (v : Value) (D : DataW Unit), i = .int .i64 (j : Int) ∧ j ≤ ws.length ∧ Fresh W1.heap.size wr q v ws ∧ ¬ SFut q v w5.heap.size ∧ wr.ownsRow 0 35 4 (.slice a5 ws.length d5) ws.length (flatW ws) ∧ Kept (SFut q v) (.slice a5 ws.length d5) ∧ wr.ownsMap Try.prog 3 (plainElem Try.prog 3) w5.heap.size j D ∧ Hid (MetInv ws j D) ∧ Below W1.heap.size W1 wr) (fun i _ => ws.length - (intOf i).toNat)
  case atStart => exact ⟨0, v3, .map [], rfl, Nat.zero_le _, f6, nB, o6, n5, m6, MetInv.start ws, b6'⟩
  case round =>
    obtain ⟨wr_0, hwr0⟩ : ∃ x, x = wr := ⟨_, rfl⟩
    obtain ⟨j, v, D, rfl, hj, hf, nB, ho, hk, hm, hI, hb⟩ := hrel
    subst hwr0
    obtain ⟨_, hrw, hlc⟩ := own_cells4 ho
    by_cases hlt : j < ws.length
    · have t3 : decide ((j : Int) < ((ws.length : Nat) : Int)) = true := by simp; omega
      obtain ⟨_, h0 | ⟨ba, oa, rfl, hbn, _, _, _⟩⟩ := id hrw
      · omega
      obtain ⟨q0, q1, q2, q3⟩ := hrw.cells4 j hlt
      have hfind := hG.find j hlt
      have hpos := hG.pos _ (List.getElem_mem hlt)
      have hmay := (mayK_iff _).2 (hG.may _ (List.getElem_mem hlt))
      have hwf := (show ∀ x ∈ ws, (Lit.int .i64 x.pid).wf = true from HPW) _ (List.getElem_mem hlt)
      have hmet := (show MetInv ws j D from hI) j hlt (Nat.le_refl _)
      have htw := hG.twice j hlt k
      have hst := fun d => MetInv.step hG (show MetInv ws j D from hI) hlt d
      obtain ⟨X, hX⟩ : ∃ X, X = ws[j] := ⟨_, rfl⟩
      rw [← hX] at q0 q1 q2 q3 hfind hpos hmay hwf hmet htw
      simp only [← hX] at hst
      have HST := Lib.hid hst
      have HTW := Lib.hid htw
      have HMT := Lib.hid hmet
      have t4 : decide (X.pid < 1) = false := decide_eq_false (by omega)
      have kn : ∀ w, (binOp .neq 33 (.agg #[.int .i64 X.k.p, .int .i64 X.k.f, .int .i64 X.k.o]) (.agg #[.int .i64 X.k.p, .int .i64 X.k.f, .int .i64 X.k.o])).run Try.prog w = .ok (.bool false) w := fun w => by
        rw [key_neq, decide_eq_true rfl]; rfl
      have nX : ¬ SFut q v wr_0.heap.size := fun hs => by have := hf.fut.lt _ hs; omega
      clear hX hst htw hmet hI hrw
      go_wp2_with (go_at_call 17; refine held ?_)
      unfold Held
      obtain ⟨V1, hV1⟩ : ∃ V1, V1 = wr_0.alloc (.cells #[.int .i64 X.pid, .int .i64 X.k.p, .int .i64 X.k.f, .int .i64 X.k.o] 35) := ⟨_, rfl⟩
      have c1 : Below wr_0.heap.size wr_0 V1 := by rw [hV1]; exact (Below.refl _ _).alloc (Nat.le_refl _) _
      have zX1 : V1.heap[wr_0.heap.size]? = some (.cells #[.int .i64 X.pid, .int .i64 X.k.p, .int .i64 X.k.f, .int .i64 X.k.o] 35) := by rw [hV1]; exact World.alloc_heap_new _ _
      have lX1 : wr_0.heap.size < V1.heap.size := by rw [hV1]; simp
      rw [← hV1]
      have f1 := hf.below c1
      have o1 := row_below ho c1
      have m1 := ownsMap_same hm (c1.block _ hm.lt)
      have b1 := hb.trans (c1.mono hb.size)
      clear hV1 q0 q1 q2 q3 c1
      refine (key_any q v ws X.pid V1 f1.fut (by omega)).mono ?_
      rintro e w2 ⟨rfl, c2⟩
      rw [hfind]
      simp only [Option.elim, Option.isSome]
      rw [show aggK X.k = .agg #[.int .i64 X.k.p, .int .i64 X.k.f, .int .i64 X.k.o] from rfl]
      have f2 := f1.below c2
      have o2 := row_below o1 c2
      have m2 := ownsMap_same m1 (c2.block _ m1.lt)
      have zX2 := (c2.block _ lX1).trans zX1
      have lX2 := Nat.lt_of_lt_of_le lX1 c2.size
      have b2 := b1.trans (c2.mono b1.size)
      clear f1 o1 m1 zX1 lX1 b1 c2 hf ho hfind
      obtain ⟨V3, hV3⟩ : ∃ V3, V3 = w2.alloc (.cells #[.int .i64 X.k.p, .int .i64 X.k.f, .int .i64 X.k.o] 33) := ⟨_, rfl⟩
      have c3 : Below w2.heap.size w2 V3 := by rw [hV3]; exact (Below.refl _ _).alloc (Nat.le_refl _) _
      have zK3 : V3.heap[w2.heap.size]? = some (.cells #[.int .i64 X.k.p, .int .i64 X.k.f, .int .i64 X.k.o] 33) := by rw [hV3]; exact World.alloc_heap_new _ _
      have f3 := f2.below c3
      have o3 := row_below o2 c3
      have m3 := ownsMap_same m2 (c3.block _ m2.lt)
      have zX3 := (c3.block _ lX2).trans zX2
      have lX3 := Nat.lt_of_lt_of_le lX2 c3.size
      have b3 := b2.trans (c3.mono b2.size)
      have x0 : V3.cell? ⟨wr_0.heap.size, 0, none⟩ = some (.int .i64 X.pid) := by rw [cell_of_row _ _ 0 _ _ _ zX3]; rfl
      have x1 : V3.cell? ⟨wr_0.heap.size, 1, none⟩ = some (.int .i64 X.k.p) := by rw [cell_of_row _ _ 1 _ _ _ zX3]; rfl
      have x2 : V3.cell? ⟨wr_0.heap.size, 2, none⟩ = some (.int .i64 X.k.f) := by rw [cell_of_row _ _ 2 _ _ _ zX3]; rfl
      have x3 : V3.cell? ⟨wr_0.heap.size, 3, none⟩ = some (.int .i64 X.k.o) := by rw [cell_of_row _ _ 3 _ _ _ zX3]; rfl
      have y0 : V3.cell? ⟨w2.heap.size, 0, none⟩ = some (.int .i64 X.k.p) := by rw [cell_of_row _ _ 0 _ _ _ zK3]; rfl
      have y1 : V3.cell? ⟨w2.heap.size, 1, none⟩ = some (.int .i64 X.k.f) := by rw [cell_of_row _ _ 1 _ _ _ zK3]; rfl
      have y2 : V3.cell? ⟨w2.heap.size, 2, none⟩ = some (.int .i64 X.k.o) := by rw [cell_of_row _ _ 2 _ _ _ zK3]; rfl
      have xx0 : (w2.alloc (.cells #[.int .i64 X.k.p, .int .i64 X.k.f, .int .i64 X.k.o] 33)).cell? ⟨wr_0.heap.size, 0, none⟩ = some (.int .i64 X.pid) := by rw [← hV3]; exact x0
      clear f2 o2 m2 zX2 b2 c3 zK3
      go_wp2_with (at_lookup; refine held ?_)
      unfold Held
      rw [← hV3]
      clear hV3 xx0 lX2
      refine wpList_lookup_own_int _ rfl _ _ 44 rfl 3 3 .i64 int_law Try.underlying44 Try.underlying3 (zeroE _) w5.heap.size j _ rfl m3 _ _ rfl (keyOf_int_mk Try.underlying3 hwf) ?_
      intro c hat hwc
      obtain rfl : c = 0 := by
        rw [show D.atKey (.int .i64 X.pid) (.lit (.int .i64 0)) = .lit (.int .i64 0) from HMT] at hat
        injection hat with hat
        injection hat with _ hat
        exact hat.symm
      clear hat hwc
      go_wp2_with (go_at_call 18; refine held ?_)
      unfold Held
      refine (check_any X.k V3).mono ?_
      rintro e w4 ⟨rfl, c4⟩
      rw [hmay]
      have f4 := f3.below c4
      have o4 := row_below o3 c4
      have m4 := ownsMap_same m3 (c4.block _ m3.lt)
      have zX4 := (c4.block _ lX3).trans zX3
      have lX4 := Nat.lt_of_lt_of_le lX3 c4.size
      have b4 := b3.trans (c4.mono b3.size)
      have p0 : w4.cell? ⟨wr_0.heap.size, 0, none⟩ = some (.int .i64 X.pid) := by rw [cell_of_row _ _ 0 _ _ _ zX4]; rfl
      clear f3 o3 m3 zX3 lX3 b3 c4 x0 x1 x2 x3 y0 y1 y2
      go_wp2_with (at_mapUpdate; refine held ?_)
      unfold Held
      have hw1 : (Lit.int .i64 1).wf = true := by decide
      refine wpList_mapUpdate_own _ rfl _ _ _ 44 rfl 3 3 int_law Try.underlying44 _ w5.heap.size j _ rfl m4 (by unfold maxLen; omega) _ _ _ rfl rfl (keyOf_int_mk Try.underlying3 hwf) _ [] (plainElem_int Try.underlying3 hw1) ?_
      intro w6 m6 g6
      have hHI : Hid (MetInv ws (j + 1) (D.put (.int .i64 X.pid) (.lit (.int .i64 1)))) := (show ∀ d, MetInv ws (j + 1) (D.put (.int .i64 X.pid) d) from HST) _
      have f6 : FutAt w6 q v ws := f4.fut.grown g6 (fun b hb hs => by injection hb with hb; subst hb; exact nB hs)
      have F6 : Fresh W1.heap.size w6 q v ws := ⟨f6, f4.lo⟩
      have o6 := row_grown o4 g6 (fun b hb he => by injection hb with hb; have := l5 b he; omega)
      have zX6 := (g6.block wr_0.heap.size lX4 (fun e => by injection e with e; have := hb.size; have := hm.lt; omega)).trans zX4
      have lX6 := Nat.lt_of_lt_of_le lX4 g6.size
      have b6 : Below W1.heap.size W1 w6 := b4.grown g6 b4.size (fun b hb => by injection hb with hb; omega)
      obtain ⟨D6, hD6⟩ : ∃ D6, D6 = D.put (.int .i64 X.pid) (.lit (.int .i64 1)) := ⟨_, rfl⟩
      rw [← hD6] at hHI m6
      obtain ⟨k0, k1, k2⟩ := (show ∀ V, Below W1.heap.size W1 V → _ from HZB) w6 b6
      clear hD6 f4 o4 m4 zX4 lX4 b4 p0 g6 f6 HST HMT hw1 hm hb
      go_wp2_with (go_at_call 18; refine held ?_)
      unfold Held
      refine (check_any k w6).mono ?_
      rintro e w7 ⟨rfl, c7⟩
      have f7 := F6.below c7
      have o7 := row_below o6 c7
      have m7 := ownsMap_same m6 (c7.block _ m6.lt)
      have zX7 := (c7.block _ lX6).trans zX6
      have lX7 := Nat.lt_of_lt_of_le lX6 c7.size
      have b7 := b6.trans (c7.mono b6.size)
      have p0 : w7.cell? ⟨wr_0.heap.size, 0, none⟩ = some (.int .i64 X.pid) := by rw [cell_of_row _ _ 0 _ _ _ zX7]; rfl
      obtain ⟨k0, k1, k2⟩ := (show ∀ V, Below W1.heap.size W1 V → _ from HZB) w7 b7
      clear F6 o6 m6 zX6 lX6 b6 c7
      rcases (by cases mayK k <;> simp : mayK k = true ∨ mayK k = false) with hmk | hmk
      case' inr =>
        rw [hmk]
        obtain ⟨w8, rfl⟩ : ∃ x, x = w7 := ⟨_, rfl⟩
        obtain ⟨v8, rfl⟩ : ∃ x, x = v := ⟨_, rfl⟩
        have f8 := f7
        have o8 := o7
        have k8 := hk
        have nB8 := nB
        have m8 := m7
        have zX8 := zX7
        have lX8 := lX7
        have b8 := b7
        clear f7 o7 m7 zX7 lX7 b7 p0 k0 k1 k2 HTW hmk nB hk nX
        go_wp2
      case' inl =>
        rw [hmk]
        go_wp2_with (go_at_call 12; refine held ?_)
        unfold Held
        refine (wait_any q v ws X.pid k w7 f7.fut (by omega)).mono ?_
        rintro e w8 ⟨v8, rfl, h8, hw8⟩
        rw [(show mayK k = true → waitL ws X.pid k = (110, ws) from HTW) hmk] at h8 ⊢
        have f8 := f7.step b7.size h8 hw8
        have c8 : Below W1.heap.size w7 w8 := f7.wr b7.size hw8
        have b8 := b7.trans c8
        obtain ⟨o8, k8⟩ := row_step o7 hk hw8
        have nB8 : ¬ SFut q v8 w5.heap.size := fun hs => (hw8.new _ hs).elim nB (fun h => by have := m7.lt; omega)
        have m8 := ownsMap_same m7 (hw8.block _ m7.lt nB)
        have zX8 := (hw8.block _ lX7 nX).trans zX7
        have lX8 := Nat.lt_of_lt_of_le lX7 hw8.size
        clear f7 o7 m7 zX7 lX7 b7 p0 k0 k1 k2 h8 hw8 c8 HTW hmk nB hk nX
        go_wp2
      all_goals
        have bB8 := b8.size
        have lf8 := f8.fut.lt
        have lm8 := m8.lt
        go_loopw [13, 87] (fun u i wq => ∃ m : Nat, i = .int .i64 (m : Int) ∧ m ≤ ws.length ∧ wq.ownsRow w8.heap.size 3 1 u (atL (ws.take m) X.k).length ((atL (ws.take m) X.k).map (Value.int .i64)) ∧ Below w8.heap.size w8 wq) (fun _ i _ => ws.length - (intOf i).toNat)
        case atStart => exact ⟨0, rfl, Nat.zero_le _, World.ownsRow_nil _ _ _ _, Below.refl _ _⟩
        case round =>
          obtain ⟨m, rfl, hm, hor, hbr⟩ := hrel
          have oj := row_below o8 hbr
          obtain ⟨_, hrw, _⟩ := own_cells4 oj
          have zXw := (hbr.block _ lX8).trans zX8
          have p0 : wr.cell? ⟨wr_0.heap.size, 0, none⟩ = some (.int .i64 X.pid) := by rw [cell_of_row _ _ 0 _ _ _ zXw]; rfl
          have p1 : wr.cell? ⟨wr_0.heap.size, 1, none⟩ = some (.int .i64 X.k.p) := by rw [cell_of_row _ _ 1 _ _ _ zXw]; rfl
          have p2 : wr.cell? ⟨wr_0.heap.size, 2, none⟩ = some (.int .i64 X.k.f) := by rw [cell_of_row _ _ 2 _ _ _ zXw]; rfl
          have p3 : wr.cell? ⟨wr_0.heap.size, 3, none⟩ = some (.int .i64 X.k.o) := by rw [cell_of_row _ _ 3 _ _ _ zXw]; rfl
          have bw := b8.trans (hbr.mono bB8)
          by_cases hlm : m < ws.length
          · have t5 : decide ((m : Int) < ((ws.length : Nat) : Int)) = true := by simp; omega
            have hat := atL_take ws X.k m hlm
            obtain ⟨q0, q1, q2, q3⟩ := hrw.cells4 m hlm
            obtain ⟨Y, hY⟩ : ∃ Y, Y = ws[m] := ⟨_, rfl⟩
            rw [← hY] at hat q0 q1 q2 q3
            clear hY hrw oj zXw
            obtain ⟨hl, hhl⟩ : ∃ hl, hl = atL (ws.take m) X.k := ⟨_, rfl⟩
            rw [← hhl] at hor hat
            have hll : hl.length ≤ ws.length := by rw [hhl]; exact Nat.le_trans (atL_len _ _) (by rw [List.length_take]; omega)
            by_cases hx : Y.k = X.k
            · have t6 : ∀ w, (binOp .eql 33 (.agg #[.int .i64 Y.k.p, .int .i64 Y.k.f, .int .i64 Y.k.o]) (.agg #[.int .i64 X.k.p, .int .i64 X.k.f, .int .i64 X.k.o])).run Try.prog w = .ok (.bool true) w := fun w => by
                rw [key_eql, show decide ((⟨Y.k.p, Y.k.f, Y.k.o⟩ : Ky) = ⟨X.k.p, X.k.f, X.k.o⟩) = true from decide_eq_true hx]
              rw [if_pos hx] at hat
              have HF := Lib.hid hat
              have hle : ∀ b, u13.ownBlock = some b → w8.heap.size ≤ b := fun b hb => (hor.lt b hb).1
              clear hx hat hhl f8 o8 k8 m8 zX8
              go_wp2_with fail
              go_region
              have q0 : wr.drew.cell? ⟨ba, oa + m * 4, none⟩ = some (.int .i64 Y.pid) := q0
              go_wp2_with (at_builtin; refine held ?_)
              unfold Held
              obtain ⟨W2, hW2⟩ : ∃ W2, W2 = (wr.alloc (.cells #[.int .i64 Y.pid] 3)).drew := ⟨_, rfl⟩
              have bb : Below wr.heap.size wr W2 := by rw [hW2]; exact ((Below.refl _ _).alloc (Nat.le_refl _) _).drew
              have rr : RowI .i64 (wr.heap.size + 1) W2 (.slice (some ⟨wr.heap.size, 0, none⟩) 1 1) [Y.pid] := by rw [hW2]; exact RowI.lit1 wr Y.pid
              have ho2 := row_below hor bb
              have bb2 := hbr.trans (bb.mono hbr.size)
              rw [← hW2]
              refine wpList_append_int rfl _ _ 39 rfl w8.heap.size 3 i1 Try.underlying39 hi1 hz10 hz11 hz12 u13 hl.length hl rfl ho2 (some ⟨wr.heap.size, 0, none⟩) 1 1 _ [Y.pid] rfl rr (by omega) bb2.size ?_
              intro v9 w9 o9 g9 hv9
              have b9 : Below w8.heap.size w8 w9 := bb2.grown g9 bb2.size hle
              have O9 := Lib.hid o9
              clear o9 g9 hv9 hor ho2 hle bb rr hW2 bb2 q0 q1 q2 q3 p0 p1 p2 p3
              go_wp2
              go_roundw
              case rel => exact ⟨m + 1, by go_num, by omega, by rw [show atL (ws.take (m + 1)) X.k = hl ++ [Y.pid] from HF, List.length_append]; exact O9, b9⟩
              case measure => simp [intOf]; omega
            · have t6 : ∀ w, (binOp .eql 33 (.agg #[.int .i64 Y.k.p, .int .i64 Y.k.f, .int .i64 Y.k.o]) (.agg #[.int .i64 X.k.p, .int .i64 X.k.f, .int .i64 X.k.o])).run Try.prog w = .ok (.bool false) w := fun w => by
                rw [key_eql, show decide ((⟨Y.k.p, Y.k.f, Y.k.o⟩ : Ky) = ⟨X.k.p, X.k.f, X.k.o⟩) = false from decide_eq_false hx]
              rw [if_neg hx, List.append_nil] at hat
              have HF := Lib.hid hat
              have HO := Lib.hid hor
              clear hx hat hhl hor f8 o8 k8 m8 zX8
              go_wp2_with fail
              go_region
              go_wp2
              go_roundw
              case rel => exact ⟨m + 1, by go_num, by omega, by rw [show atL (ws.take (m + 1)) X.k = hl from HF]; exact HO, ⟨hbr.os, hbr.tape, hbr.output, hbr.size, hbr.block⟩⟩
              case measure => simp [intOf]; omega
          · have t5 : decide ((m : Int) < ((ws.length : Nat) : Int)) = false := by simp; omega
            obtain rfl : m = ws.length := by omega
            rw [List.take_length] at hor
            have f9 := f8.below hbr
            have m9 := ownsMap_same m8 (hbr.block _ lm8)
            obtain ⟨a13, d13, rfl⟩ := sl_own hor
            have r13 := (RowI.of_own hor).2
            clear f8 o8 m8 zX8 zXw hrw hor hbr
            go_wp2_with (go_at_call 14; refine held ?_)
            unfold Held
            refine (At_any q v8 ws X.k wr f9.fut (by omega)).mono ?_
            rintro e w10 ⟨u10, rfl, o10, c10⟩
            have f10 := f9.below c10
            have oj10 := row_below oj c10
            have m10 := ownsMap_same m9 (c10.block _ m9.lt)
            have b10 := bw.trans (c10.mono bw.size)
            have r10 := (r13.below c10).mono c10.size
            obtain ⟨a10, d10, rfl⟩ := sl_own o10
            have ra10 := (RowI.of_own o10).2
            have hAl := atL_len ws X.k
            clear f9 oj m9 bw c10 r13 o10 p0 p1 p2 p3
            go_wp2_with (go_at_call 16; refine held ?_)
            unfold Held
            refine (same04_any a10 _ d10 (atL ws X.k) a13 _ d13 (atL ws X.k) w10.heap.size w10 (Nat.le_refl _) ra10 r10 (by omega)).mono ?_
            rintro e w11 ⟨rfl, c11⟩
            simp only [decide_true]
            have f11 := f10.below c11
            have o11 := row_below oj10 c11
            have m11 := ownsMap_same m10 (c11.block _ m10.lt)
            have b11 := b10.trans (c11.mono b10.size)
            clear f10 oj10 m10 b10 c11 ra10 r10
            go_wp2
            go_roundw
            case rel => exact ⟨j + 1, v8, D6, by go_num, by omega, f11, nB8, o11, k8, m11, hHI, b11⟩
            case measure => simp [intOf]; omega
    · have t3 : decide ((j : Int) < ((ws.length : Nat) : Int)) = false := by simp; omega
      obtain rfl : j = ws.length := by omega
      go_wp2_with (go_at_call 19; refine held ?_)
      unfold Held
      refine (len_any q v ws wr_0 hf.fut (by omega)).mono ?_
      rintro e w7 ⟨rfl, b7⟩
      have f7 := hf.below b7
      have b7' := hb.trans (b7.mono hb.size)
      have r7 := (hrw.below b7).mono b7.size
      clear hf b7 hrw ho hm hb
      go_wp2_with (go_at_call 11; refine held ?_)
      unfold Held
      refine (all_any q v ws w7 f7.fut (by omega)).mono ?_
      rintro e w8 ⟨u8, rfl, o8, b8⟩
      have b8' := b7'.trans (b8.mono b7'.size)
      have r8 := (r7.below b8).mono b8.size
      obtain ⟨a8, d8, rfl⟩ := sl_own o8
      have rn8 := (own_cells4 o8).2.1
      clear f7 b8 r7 o8 b7'
      go_wp2_with (go_at_call 13; refine held ?_)
      unfold Held
      refine (same11_any a8 _ d8 ws a5 _ d5 ws w8.heap.size w8 (Nat.le_refl _) rn8 r8 (by omega)).mono ?_
      rintro e w9 ⟨rfl, b9⟩
      simp only [decide_true]
      have b9' := b8'.trans (b9.mono b8'.size)
      go_wp2
      go_ret
      exact ⟨rfl, (show ∀ V, Below W1.heap.size W1 V → Below W.heap.size W V from HFIN) _ b9'⟩
end Go.Proofs.Ytdnhaappglbooaa
