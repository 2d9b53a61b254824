/- The walk of the law FutexOrder. -/
import Derived.Test.YtdnhaappglbooaaFutexGoneW
import Derived.Test.YtdnhaappglbooaaFutOrderM
import Derived.Test.YtdnhaappglbooaaAppendInt
namespace Go.Proofs.Ytdnhaappglbooaa
open Go Go.RowKit
attribute [local go_sem] upV_value upV_skip upV_enter
set_option linter.unusedVariables false
set_option linter.unnecessarySimpa false
set_option linter.unusedSimpArgs false
theorem FutAt.grown {A B : World} {p : Nat} {v : Value} {ws : List Wt} {row : Option Nat} (h : FutAt A p v ws) (hg : A.grownBy B row) (hr : ∀ b, row = some b → ¬ SFut p v b) : FutAt B p v ws :=
  h.same fun b hb => hg.block b (h.lt b hb) (fun e => hr b e.symm hb)
theorem row_grown {A B : World} {base : Nat} {e : TypeId} {sz : Nat} {u : Value} {n : Nat} {xs : List Value} {row : Option Nat} (h : A.ownsRow base e sz u n xs) (hg : A.grownBy B row) (hr : ∀ b, row = some b → u.ownBlock ≠ some b) : B.ownsRow base e sz u n xs :=
  ownsRow_same h fun b hb => hg.block b (h.lt b hb).2 (fun e => hr b e.symm hb)
set_option maxRecDepth 100000 in
set_option maxHeartbeats 16000000 in
theorem futexOrder_any (W : World) (a : Option Addr) (len cap : Nat) (os : List OpF) (k : Ky) (a2 : Option Addr) (len2 cap2 : Nat) (zs : List Int) (h : IsOps W.heap.size W a len cap os) (hz : Row8 W.heap.size W (.slice a2 len2 cap2) zs) :
    Calls Try.prog 4 #[.slice a len cap, .agg #[.int .i64 k.p, .int .i64 k.f, .int .i64 k.o], .slice a2 len2 cap2] W fun e W' => e = .returned (.bool true) ∧ Below W.heap.size W W' := by
  have hsm := h.small
  have hol := h.1
  have hzl := hz.1.open.1
  have hsm2 : len2 ≤ 9223372036854775807 := by
    rcases hz.1 with ⟨_, _, he, _⟩ | ⟨_, _, _, he, _, h5, h6, _⟩
    · injection he with e1 e2 e3; omega
    · injection he with e1 e2 e3; simp only [maxLen] at h6; omega
  obtain ⟨i0, hi, hz0, hz1, hz2⟩ := info_parts info_w
  obtain ⟨i1, hi1, hz10, hz11, hz12⟩ := info_parts info_i64
  obtain ⟨W1, hW1⟩ : ∃ W1, W1 = W.alloc (.cells #[.int .i64 k.p, .int .i64 k.f, .int .i64 k.o] 33) := ⟨_, rfl⟩
  have bW1 : Below W.heap.size W W1 := by rw [hW1]; exact (Below.refl _ W).alloc (Nat.le_refl _) _
  have zW1 : W1.heap[W.heap.size]? = some (.cells #[.int .i64 k.p, .int .i64 k.f, .int .i64 k.o] 33) := by rw [hW1]; exact World.alloc_heap_new _ _
  have sW1 : W.heap.size < W1.heap.size := by rw [hW1]; simp
  have hfin : ∀ V, Below W1.heap.size W1 V → Below W.heap.size W V := fun V hb => bW1.trans (hb.mono (by omega))
  have hzb : ∀ V, Below W1.heap.size W1 V → V.cell? ⟨W.heap.size, 0, none⟩ = some (.int .i64 k.p) ∧ V.cell? ⟨W.heap.size, 1, none⟩ = some (.int .i64 k.f) ∧ V.cell? ⟨W.heap.size, 2, none⟩ = some (.int .i64 k.o) := fun V hb => by
    have z := (hb.block W.heap.size sW1).trans zW1
    exact ⟨by rw [cell_of_row _ _ 0 _ _ _ z]; rfl, by rw [cell_of_row _ _ 1 _ _ _ z]; rfl, by rw [cell_of_row _ _ 2 _ _ _ z]; rfl⟩
  have HZB := Lib.hid hzb
  have HFIN := Lib.hid hfin
  clear hzb hfin
  go_enter Try.func4, Try.ntmps4
  go_wp2_with (go_at_call 9; refine held ?_)
  unfold Held
  rw [← hW1]
  clear hW1
  refine (alive_any W1).mono ?_
  rintro e w2 ⟨rfl, b2⟩
  by_cases hlen : (len : Int) > 200
  · have t1 : decide ((len : Int) > 200) = true := decide_eq_true hlen
    go_wp2
    go_ret
    exact ⟨rfl, (show ∀ V, Below W1.heap.size W1 V → Below W.heap.size W V from HFIN) _ b2⟩
  have t1 : decide ((len : Int) > 200) = false := decide_eq_false hlen
  by_cases hlen2 : (len2 : Int) > 20
  · have t2 : decide ((len2 : Int) > 20) = true := decide_eq_true hlen2
    go_wp2
    go_ret
    exact ⟨rfl, (show ∀ V, Below W1.heap.size W1 V → Below W.heap.size W V from HFIN) _ b2⟩
  have t2 : decide ((len2 : Int) > 20) = false := decide_eq_false hlen2
  have h2 := ((h.below bW1).mono (Nat.le_of_lt sW1)).below b2
  have hzW := (hz.below bW1).mono (Nat.le_of_lt sW1)
  have kg := grown_any w2 a len cap os (h2.mono b2.size) (by omega)
  go_wp2_with (go_at_call 10; refine held ?_)
  unfold Held
  refine kg.mono ?_
  rintro e w3 ⟨q, v3, rfl, f3, b3⟩
  have b3' := b2.trans (b3.mono b2.size)
  have hG := good_grow os
  have hL := growL_len os
  obtain ⟨ws, hws⟩ : ∃ ws, ws = growL os := ⟨_, rfl⟩
  rw [← hws] at f3 hG hL
  replace f3 : Fresh W1.heap.size w3 q v3 ws := ⟨f3.fut, fun b hb => Nat.le_trans b2.size (f3.lo b hb)⟩
  clear hws kg h h2 b2 b3 bW1
  obtain ⟨y0, y1, y2⟩ := (show ∀ V, Below W1.heap.size W1 V → _ from HZB) w3 b3'
  go_wp2_with (go_at_call 14; refine held ?_)
  unfold Held
  refine (At_any q v3 ws k w3 f3.fut (by omega)).mono ?_
  rintro e w4 ⟨u4, rfl, o4, b4⟩
  have b4' := b3'.trans (b4.mono b3'.size)
  have f4 := f3.below b4
  obtain ⟨a4, d4, rfl⟩ := sl_own o4
  have n4 := f4.fut.apart o4 (by decide) (by decide)
  clear f3 b3' b4 y0 y1 y2
  go_wp2_with (go_at_call 11; refine held ?_)
  unfold Held
  refine (all_any q v3 ws w4 f4.fut (by omega)).mono ?_
  rintro e w5 ⟨u5, rfl, o5, b5⟩
  have b5' := b4'.trans (b5.mono b4'.size)
  have f5 := f4.below b5
  have n5 : Kept (SFut q v3) u5 := fun b hb hs => by have := (o5.lt b hb).1; have := f4.fut.lt b hs; omega
  have p4 := row_below o4 b5
  obtain ⟨a5, d5, rfl⟩ := sl_own o5
  clear f4 b4' b5 o4
  have hA := atL_len ws k
  obtain ⟨A, hAe⟩ : ∃ A, A = atL ws k := ⟨_, rfl⟩
  rw [← hAe] at p4 n4 hA
  rw [← hAe]
  have HA := Lib.hid hAe
  clear hAe
  have o5' := ownsRow_mono o5 (Nat.zero_le _)
  have p4' := ownsRow_mono p4 (Nat.zero_le _)
  have l5 : ∀ b, (Value.slice a5 ws.length d5).ownBlock = some b → b < w5.heap.size := fun b hb => (o5.lt b hb).2
  have l4 : ∀ b, (Value.slice a4 A.length d4).ownBlock = some b → b < w5.heap.size := fun b hb => (p4.lt b hb).2
  have hs5 := b5'.size
  clear o5 p4
  go_wp2
  go_loopw [11, 12, 13, 39] (fun u _ _ i wr => ∃ (j : Nat) (v : Value) (wj : List Int) (sj : List Wt), i = .int .i64 (j : Int) ∧ j ≤ len2 ∧ Fresh W1.heap.size wr q v sj ∧ Good sj ∧ Hid (wj ++ atL sj k = A ∧ sj.filter (notK k) = ws.filter (notK k) ∧ sj.length ≤ ws.length) ∧ wr.ownsRow w5.heap.size 3 1 u wj.length (wj.map (Value.int .i64)) ∧ Kept (SFut q v) u ∧ wr.ownsRow 0 3 1 (.slice a4 A.length d4) A.length (A.map (Value.int .i64)) ∧ Kept (SFut q v) (.slice a4 A.length d4) ∧ wr.ownsRow 0 35 4 (.slice a5 ws.length d5) ws.length (flatW ws) ∧ Kept (SFut q v) (.slice a5 ws.length d5) ∧ w5.heap.size ≤ wr.heap.size ∧ Below W1.heap.size W1 wr) (fun _ _ _ i _ => len2 - (intOf i).toNat)
  case atStart => exact ⟨0, v3, [], ws, rfl, Nat.zero_le _, f5, hG, ⟨by rw [show A = atL ws k from HA]; rfl, rfl, Nat.le_refl _⟩, World.ownsRow_nil _ _ _ _, fun b hb => by simp [Value.ownBlock] at hb, p4', n4, o5', n5, Nat.le_refl _, b5'⟩
  case round =>
    obtain ⟨j, v, wj, sj, rfl, hj, hf, hg, hH, ho, hk, p4, n4, o5, n5, hsz, hb⟩ := hrel
    by_cases hlt : j < len2
    · have t3 : decide ((j : Int) < (len2 : Int)) = true := by simp; omega
      obtain ⟨_, bz, oz, hop, hcz⟩ := hzW.1.open
      obtain ⟨rfl, hbz, hlz, hmz⟩ := hop (by omega)
      obtain ⟨x, hx0, hx1⟩ : ∃ x : Nat, zs[j]'(by omega) = (x : Int) ∧ x ≤ 255 := by
        have h := hzW.2 _ (List.getElem_mem (by omega : j < zs.length))
        exact ⟨(zs[j]'(by omega)).toNat, by omega, by omega⟩
      have hwx : IntKind.i64.wrap (x : Int) = (x : Int) := by rw [IntKind.wrap_i64]; omega
      have hczj := hcz j hlt
      rw [getD_at _ _ (by omega), hx0] at hczj
      have cv : ∀ W', Below W1.heap.size wr W' → W'.cell? ⟨bz, oz + j, none⟩ = some (.int .u8 (x : Int)) ∧ W'.cell? ⟨W.heap.size, 0, none⟩ = some (.int .i64 k.p) ∧ W'.cell? ⟨W.heap.size, 1, none⟩ = some (.int .i64 k.f) ∧ W'.cell? ⟨W.heap.size, 2, none⟩ = some (.int .i64 k.o) := fun W' hW =>
        ⟨((hb.trans hW).cell (p := ⟨bz, oz + j, none⟩) hbz).trans hczj, (show ∀ V, Below W1.heap.size W1 V → _ from HZB) W' (hb.trans hW)⟩
      have hsj : sj.length ≤ 500000 := by have := hH.2.2; omega
      have HZ := Lib.hid hcz
      have HCV := Lib.hid cv
      clear hcz hop hczj hx0 cv
      simp only [maxLen] at hmz
      go_wp2_with fail
      refine wp_region_anyV (Below W1.heap.size) (by kernel_rfl) 9 rfl ?_
      first
        | (refine anyV_val 0 (belowPre _) rfl (by kernel_rfl) (by kernel_rfl) (by kernel_rfl) (by rfl) (v := ?av1) (fun W hW => ?ay1) (fun K hK => ?ar1); case ay1 => (obtain ⟨q0, q1, q2, q3⟩ := (show ∀ W', Below W1.heap.size wr W' → _ from HCV) W (below_undrew hW); go_simp; first | done | rfl))
        | refine anyV_skip 0 (belowPre _) rfl (by kernel_rfl) (by kernel_rfl) (by kernel_rfl) (by rfl) (fun K hK => ?_)
      go_simp
      refine hK _ ?_
      clear hK K
      first
        | (refine anyV_val 1 (belowPre _) rfl (by kernel_rfl) (by kernel_rfl) (by kernel_rfl) (by rfl) (v := ?av2) (fun W hW => ?ay2) (fun K hK => ?ar2); case ay2 => (obtain ⟨q0, q1, q2, q3⟩ := (show ∀ W', Below W1.heap.size wr W' → _ from HCV) W (below_undrew hW); go_simp; first | done | rfl))
        | refine anyV_skip 1 (belowPre _) rfl (by kernel_rfl) (by kernel_rfl) (by kernel_rfl) (by rfl) (fun K hK => ?_)
      go_simp
      refine hK _ ?_
      clear hK K
      first
        | (refine anyV_val 2 (belowPre _) rfl (by kernel_rfl) (by kernel_rfl) (by kernel_rfl) (by rfl) (v := ?av3) (fun W hW => ?ay3) (fun K hK => ?ar3); case ay3 => (obtain ⟨q0, q1, q2, q3⟩ := (show ∀ W', Below W1.heap.size wr W' → _ from HCV) W (below_undrew hW); go_simp; first | done | rfl))
        | refine anyV_skip 2 (belowPre _) rfl (by kernel_rfl) (by kernel_rfl) (by kernel_rfl) (by rfl) (fun K hK => ?_)
      go_simp
      refine hK _ ?_
      clear hK K
      first
        | (refine anyV_val 3 (belowPre _) rfl (by kernel_rfl) (by kernel_rfl) (by kernel_rfl) (by rfl) (v := ?av4) (fun W hW => ?ay4) (fun K hK => ?ar4); case ay4 => (obtain ⟨q0, q1, q2, q3⟩ := (show ∀ W', Below W1.heap.size wr W' → _ from HCV) W (below_undrew hW); go_simp; first | done | rfl))
        | refine anyV_skip 3 (belowPre _) rfl (by kernel_rfl) (by kernel_rfl) (by kernel_rfl) (by rfl) (fun K hK => ?_)
      go_simp
      refine hK _ ?_
      clear hK K
      first
        | (refine anyV_val 4 (belowPre _) rfl (by kernel_rfl) (by kernel_rfl) (by kernel_rfl) (by rfl) (v := ?av5) (fun W hW => ?ay5) (fun K hK => ?ar5); case ay5 => (obtain ⟨q0, q1, q2, q3⟩ := (show ∀ W', Below W1.heap.size wr W' → _ from HCV) W (below_undrew hW); go_simp; first | done | rfl))
        | refine anyV_skip 4 (belowPre _) rfl (by kernel_rfl) (by kernel_rfl) (by kernel_rfl) (by rfl) (fun K hK => ?_)
      go_simp
      refine hK _ ?_
      clear hK K
      first
        | (refine anyV_val 5 (belowPre _) rfl (by kernel_rfl) (by kernel_rfl) (by kernel_rfl) (by rfl) (v := ?av6) (fun W hW => ?ay6) (fun K hK => ?ar6); case ay6 => (obtain ⟨q0, q1, q2, q3⟩ := (show ∀ W', Below W1.heap.size wr W' → _ from HCV) W (below_undrew hW); go_simp; first | done | rfl))
        | refine anyV_skip 5 (belowPre _) rfl (by kernel_rfl) (by kernel_rfl) (by kernel_rfl) (by rfl) (fun K hK => ?_)
      go_simp
      refine hK _ ?_
      clear hK K
      first
        | (refine anyV_val 6 (belowPre _) rfl (by kernel_rfl) (by kernel_rfl) (by kernel_rfl) (by rfl) (v := ?av7) (fun W hW => ?ay7) (fun K hK => ?ar7); case ay7 => (obtain ⟨q0, q1, q2, q3⟩ := (show ∀ W', Below W1.heap.size wr W' → _ from HCV) W (below_undrew hW); go_simp; first | done | rfl))
        | refine anyV_skip 6 (belowPre _) rfl (by kernel_rfl) (by kernel_rfl) (by kernel_rfl) (by rfl) (fun K hK => ?_)
      go_simp
      refine hK _ ?_
      clear hK K
      refine anyV_only 7 rfl (by kernel_rfl) (by rfl) (fun K hK => ?_)
      go_simp
      try rw [hwx]
      refine (wake_any q v sj k (x : Int) wr.drew hf.fut.drew hsj).mono ?_
      rintro e w6 ⟨u6, v6, rfl, o6, h6, hw6⟩
      have f6 := hf.step hb.size h6 (Wr.undrew hw6)
      have b6 : Below W1.heap.size wr w6 := hf.wr hb.size (Wr.undrew hw6)
      obtain ⟨ho6, hk6⟩ := row_step ho hk (Wr.undrew hw6)
      obtain ⟨p46, n46⟩ := row_step p4 n4 (Wr.undrew hw6)
      obtain ⟨o56, n56⟩ := row_step o5 n5 (Wr.undrew hw6)
      have sz6 : wr.heap.size ≤ w6.heap.size := b6.size
      have m6 := f6.fut.apart o6 (by decide) (by decide)
      have l6 : ∀ b, u6.ownBlock = some b → wr.heap.size ≤ b := fun b hb => (o6.lt b hb).1
      have lu6 : ∀ b, u11.ownBlock = some b → b < wr.heap.size := fun b hb => (ho.lt b hb).2
      refine ⟨_, rfl, hK _ _ (show Below W1.heap.size wr.drew w6 from ⟨b6.os, b6.tape, b6.output, b6.size, b6.block⟩) ?_⟩
      clear hK K
      refine anyV_frame (fun K hK => ?_)
      go_simp
      refine hK _ ?_
      clear hK K
      first
        | (refine anyV_val 8 (belowPre _) rfl (by kernel_rfl) (by kernel_rfl) (by kernel_rfl) (by rfl) (v := ?av8) (fun W hW => ?ay8) (fun K hK => ?ar8); case ay8 => (go_simp; first | done | rfl))
        | refine anyV_skip 8 (belowPre _) rfl (by kernel_rfl) (by kernel_rfl) (by kernel_rfl) (by rfl) (fun K hK => ?_)
      go_simp
      refine hK _ ?_
      clear hK K
      refine anyV_done (by kernel_rfl) ?_
      have b6' := hb.trans b6
      obtain ⟨q0, q1, q2, q3⟩ := (show ∀ W', Below W1.heap.size wr W' → _ from HCV) w6 b6
      clear h6 hw6 hf ho hk p4 n4 o5 n5 hb b6 q1 q2 q3
      have hgs := hg.gone (wakeO sj k (x : Int))
      have hat := hg.wake_at k (x : Int)
      have hot := hg.wake_others k (x : Int)
      have hgl := goneAll_len sj (wakeO sj k (x : Int))
      have hOl : (wakeO sj k (x : Int)).length ≤ x := by unfold wakeO; rw [List.length_take]; omega
      have hOs : (wakeO sj k (x : Int)).length ≤ sj.length := by unfold wakeO; rw [List.length_take]; have := atL_len sj k; omega
      have hOe : wakeO sj k (x : Int) = (atL sj k).take x := by unfold wakeO; rw [Int.toNat_natCast]
      obtain ⟨O, hO⟩ : ∃ O, O = wakeO sj k (x : Int) := ⟨_, rfl⟩
      rw [← hO] at o6 f6 hgs hat hot hgl hOl hOs hOe
      obtain ⟨s2, hs2⟩ : ∃ s2, s2 = goneAll sj O := ⟨_, rfl⟩
      rw [← hs2] at f6 hgs hat hot hgl
      rw [Int.toNat_natCast] at hat
      have hH2 : Hid ((wj ++ O) ++ atL s2 k = A ∧ s2.filter (notK k) = ws.filter (notK k) ∧ s2.length ≤ ws.length) := by
        obtain ⟨e1, e2, e3⟩ := hH
        refine ⟨?_, hot.trans e2, by omega⟩
        rw [hat, hOe, List.append_assoc, List.take_append_drop]
        exact e1
      have hwl : (wj ++ O).length ≤ A.length := by rw [← hH2.1]; simp only [List.length_append]; omega
      rw [List.length_append] at hwl
      obtain ⟨a6, d6, rfl⟩ := sl_own o6
      have r6 := (RowI.of_own o6).2
      have t4 : decide ((O.length : Int) > (x : Int)) = false := decide_eq_false (by omega)
      have t5 : decide ((x : Int) < (O.length : Int)) = false := decide_eq_false (by omega)
      have t6 : decide (x < O.length) = false := decide_eq_false (by omega)
      clear hO hs2 hat hot hOe o6 hH
      go_wp2_with (at_builtin; refine held ?_)
      unfold Held
      refine wpList_append_int rfl _ _ 39 rfl w5.heap.size 3 i1 Try.underlying39 hi1 hz10 hz11 hz12 u11 wj.length wj rfl ho6 a6 O.length d6 _ O rfl r6 (by omega) (by omega) ?_
      intro u9 w9 o9 g9 hv9
      have lo11 : ∀ b, u11.ownBlock = some b → w5.heap.size ≤ b := fun b hb => (ho6.lt b hb).1
      have f9 : FutAt w9 q v6 s2 := f6.fut.grown g9 hk6
      have p49 := row_grown p46 g9 (fun b hb he => by have := lo11 b hb; have := l4 b he; omega)
      have o59 := row_grown o56 g9 (fun b hb he => by have := lo11 b hb; have := l5 b he; omega)
      have k9 : Kept (SFut q v6) u9 := fun b hb hs => by
        rcases hv9 with h9 | h9
        · rw [h9] at hb; exact hk6 b hb hs
        · rw [h9] at hb
          injection hb with hb
          have := f6.fut.lt b hs
          omega
      have b9 : Below W1.heap.size W1 w9 := b6'.grown g9 b6'.size (fun b hb => by have := lo11 b hb; omega)
      have sz9 := g9.size
      rw [← List.length_append] at o9
      have O9 := Lib.hid o9
      have f9' : Fresh W1.heap.size w9 q v6 s2 := ⟨f9, f6.lo⟩
      clear o9 g9 hv9 ho6 hk6 p46 o56 m6 l6 lu6 lo11 f9 f6 r6 b6' q0
      go_wp2
      go_roundw
      case rel => exact ⟨j + 1, v6, wj ++ O, s2, by go_num, by omega, f9', hgs, hH2, O9, k9, p49, n46, o59, n56, by omega, b9⟩
      case measure => simp [intOf]; omega
    · have t3 : decide ((j : Int) < (len2 : Int)) = false := by simp; omega
      obtain rfl : j = len2 := by omega
      have hsj : sj.length ≤ 500000 := by have := hH.2.2; omega
      obtain ⟨y0, y1, y2⟩ := (show ∀ V, Below W1.heap.size W1 V → _ from HZB) wr hb
      go_wp2_with (go_at_call 15; refine held ?_)
      unfold Held
      obtain ⟨N, hN⟩ : ∃ N : Nat, N = ws.length + 1 := ⟨_, rfl⟩
      have hNw3 : (ws.length : Int) + 1 = (N : Int) := by omega
      have hNl : ws.length < N := by omega
      rw [hNw3]
      clear hNw3 hN
      refine (wake_any q v sj k (N : Int) wr hf.fut hsj).mono ?_
      rintro e w6 ⟨u6, v6, rfl, o6, h6, hw6⟩
      have f6 := hf.step hb.size h6 hw6
      have b6 : Below W1.heap.size wr w6 := hf.wr hb.size hw6
      obtain ⟨ho6, hk6⟩ := row_step ho hk hw6
      obtain ⟨p46, n46⟩ := row_step p4 n4 hw6
      obtain ⟨o56, n56⟩ := row_step o5 n5 hw6
      have sz6 : wr.heap.size ≤ w6.heap.size := b6.size
      have b6' := hb.trans b6
      clear h6 hw6 hf ho hk p4 n4 o5 n5 hb b6 y0 y1 y2
      have hat := hg.wake_at k (N : Int)
      have hot := hg.wake_others k (N : Int)
      have hgl := goneAll_len sj (wakeO sj k (N : Int))
      have hls := atL_len sj k
      have hOe : wakeO sj k (N : Int) = atL sj k := by unfold wakeO; rw [Int.toNat_natCast]; exact List.take_of_length_le (by have := hH.2.2; omega)
      rw [Int.toNat_natCast, List.drop_eq_nil_of_le (by have := hH.2.2; omega)] at hat
      obtain ⟨O, hO⟩ : ∃ O, O = wakeO sj k (N : Int) := ⟨_, rfl⟩
      rw [← hO] at o6 f6 hat hot hgl hOe
      obtain ⟨s2, hs2⟩ : ∃ s2, s2 = goneAll sj O := ⟨_, rfl⟩
      rw [← hs2] at f6 hat hot hgl
      have hs2f : s2 = ws.filter (notK k) := by rw [← atL_nil_filter s2 k hat, hot]; exact hH.2.1
      have hwA : wj ++ O = A := by rw [hOe]; exact hH.1
      have hwl : wj.length + O.length ≤ 100000 := by rw [← List.length_append, hwA]; omega
      obtain ⟨a6, d6, rfl⟩ := sl_own o6
      have r6 := (RowI.of_own o6).2
      have HAT := Lib.hid hat
      have HSF := Lib.hid hs2f
      have HWA := Lib.hid hwA
      have hs2l : s2.length ≤ 500000 := by omega
      clear hO hs2 hat hot hOe o6 hH hs2f hwA hg hgl hls
      go_wp2_with (at_builtin; refine held ?_)
      unfold Held
      refine wpList_append_int rfl _ _ 39 rfl w5.heap.size 3 i1 Try.underlying39 hi1 hz10 hz11 hz12 u11 wj.length wj rfl ho6 a6 O.length d6 _ O rfl r6 (by omega) (by omega) ?_
      intro u9 w9 o9 g9 hv9
      have lo11 : ∀ b, u11.ownBlock = some b → w5.heap.size ≤ b := fun b hb => (ho6.lt b hb).1
      have f9 : FutAt w9 q v6 s2 := f6.fut.grown g9 hk6
      have p49 := row_grown p46 g9 (fun b hb he => by have := lo11 b hb; have := l4 b he; omega)
      have o59 := row_grown o56 g9 (fun b hb he => by have := lo11 b hb; have := l5 b he; omega)
      have b9 : Below W1.heap.size W1 w9 := b6'.grown g9 b6'.size (fun b hb => by have := lo11 b hb; omega)
      rw [← List.length_append, show wj ++ O = A from HWA] at o9
      obtain ⟨a9, d9, rfl⟩ := sl_own o9
      have r9 := (RowI.of_own o9).2
      have rp9 := (RowI.of_own p49).2
      have f9' : Fresh W1.heap.size w9 q v6 s2 := ⟨f9, f6.lo⟩
      clear o9 g9 hv9 ho6 hk6 p46 o56 lo11 f9 f6 r6 b6' n46 n56 HWA p49
      have hsb9 := b9.size
      have l6 : ∀ b, SFut q v6 b → b < w9.heap.size := f9'.fut.lt
      go_wp2
      go_loopw [14, 15, 72] (fun u _ i wr => ∃ (j : Nat), i = .int .i64 (j : Int) ∧ j ≤ ws.length ∧ wr.ownsRow w9.heap.size 35 4 u ((ws.take j).filter (notK k)).length (flatW ((ws.take j).filter (notK k))) ∧ Below w9.heap.size w9 wr) (fun _ _ i _ => ws.length - (intOf i).toNat)
      case atStart => exact ⟨0, rfl, Nat.zero_le _, World.ownsRow_nil _ _ _ _, Below.refl _ _⟩
      case round =>
        obtain ⟨j, rfl, hj, ho, hb⟩ := hrel
        have oj := row_below o59 hb
        obtain ⟨_, hrw, hlc⟩ := own_cells4 oj
        have hbW := b9.trans (hb.mono hsb9)
        obtain ⟨y0, y1, y2⟩ := (show ∀ V, Below W1.heap.size W1 V → _ from HZB) wr hbW
        by_cases hlt : j < ws.length
        · have t3 : decide ((j : Int) < ((ws.length : Nat) : Int)) = true := by simp; omega
          have hfl := filterK_take ws k j hlt
          obtain ⟨_, h0 | ⟨b, off, rfl, hbn, _, _, _⟩⟩ := id hrw
          · omega
          obtain ⟨q0, q1, q2, q3⟩ := hrw.cells4 j hlt
          obtain ⟨X, hX⟩ : ∃ X, X = ws[j] := ⟨_, rfl⟩
          rw [← hX] at hfl q0 q1 q2 q3
          clear hX hrw oj
          obtain ⟨vl, hvl'⟩ : ∃ vl, vl = (ws.take j).filter (notK k) := ⟨_, rfl⟩
          rw [← hvl'] at ho hfl
          have hvll : vl.length ≤ ws.length := by rw [hvl']; exact Nat.le_trans (List.length_filter_le _ _) (by rw [List.length_take]; omega)
          by_cases hx : X.k = k
          · have t4 : ∀ w, (binOp .neq 33 (.agg #[.int .i64 X.k.p, .int .i64 X.k.f, .int .i64 X.k.o]) (.agg #[.int .i64 k.p, .int .i64 k.f, .int .i64 k.o])).run Try.prog w = .ok (.bool false) w := fun w => by
              rw [key_neq, show decide ((⟨X.k.p, X.k.f, X.k.o⟩ : Ky) = ⟨k.p, k.f, k.o⟩) = true from decide_eq_true hx]; rfl
            rw [if_pos hx, List.append_nil] at hfl
            have HF := Lib.hid hfl
            have HO := Lib.hid ho
            clear hx hfl ho hvl' o59
            go_wp2_with fail
            go_region
            go_wp2
            go_roundw
            case rel => exact ⟨j + 1, by go_num, by omega, by rw [show (ws.take (j + 1)).filter (notK k) = vl from HF]; exact HO, ⟨hb.os, hb.tape, hb.output, hb.size, hb.block⟩⟩
            case measure => simp [intOf]; omega
          · have t4 : ∀ w, (binOp .neq 33 (.agg #[.int .i64 X.k.p, .int .i64 X.k.f, .int .i64 X.k.o]) (.agg #[.int .i64 k.p, .int .i64 k.f, .int .i64 k.o])).run Try.prog w = .ok (.bool true) w := fun w => by
              rw [key_neq, show decide ((⟨X.k.p, X.k.f, X.k.o⟩ : Ky) = ⟨k.p, k.f, k.o⟩) = false from decide_eq_false hx]; rfl
            rw [if_neg hx] at hfl
            have HF := Lib.hid hfl
            have hle : ∀ b, u14.ownBlock = some b → w9.heap.size ≤ b := fun b hb => (ho.lt b hb).1
            clear hx hfl hvl' o59
            go_wp2_with fail
            go_region
            have q0 : wr.drew.cell? ⟨b, off + j * 4, none⟩ = some (.int .i64 X.pid) := q0
            have q1 : wr.drew.cell? ⟨b, off + j * 4 + 1, none⟩ = some (.int .i64 X.k.p) := q1
            have q2 : wr.drew.cell? ⟨b, off + j * 4 + 2, none⟩ = some (.int .i64 X.k.f) := q2
            have q3 : wr.drew.cell? ⟨b, off + j * 4 + 3, none⟩ = some (.int .i64 X.k.o) := q3
            go_wp2_with (at_builtin; refine held ?_)
            unfold Held
            obtain ⟨W2, hW2⟩ : ∃ W2, W2 = (wr.alloc (.cells #[.int .i64 X.pid, .int .i64 X.k.p, .int .i64 X.k.f, .int .i64 X.k.o] 35)).drew := ⟨_, rfl⟩
            have bb : Below wr.heap.size wr W2 := by rw [hW2]; exact ((Below.refl _ _).alloc (Nat.le_refl _) _).drew
            have zz : W2.heap[wr.heap.size]? = some (.cells #[.int .i64 X.pid, .int .i64 X.k.p, .int .i64 X.k.f, .int .i64 X.k.o] 35) := by rw [hW2]; exact World.alloc_heap_new _ _
            have ho2 := row_below ho bb
            have bb2 := hb.trans (bb.mono hb.size)
            rw [← hW2]
            refine wpList_append_vals rfl _ _ 26 rfl w9.heap.size 35 i0 _ 4 32 Try.underlying26 hi hz0 hz1 hz2 rfl (by decide) u14 vl.length (flatW vl) rfl ho2 (some ⟨wr.heap.size, 0, none⟩) 1 1 (flatW [X]) rfl rfl (flatW_one _) (.inr ⟨_, _, rfl, cells_row4 zz⟩) (by omega) (by simp only [maxLen]; omega) bb2.size ?_
            intro v10 w10 o10 g10 hv10
            have b10 : Below w9.heap.size w9 w10 := bb2.grown g10 bb2.size hle
            rw [← flatW_append] at o10
            have O10 := Lib.hid o10
            clear o10 g10 hv10 ho ho2 hle bb zz hW2 bb2 q0 q1 q2 q3
            go_wp2
            go_roundw
            case rel => exact ⟨j + 1, by go_num, by omega, by rw [show (ws.take (j + 1)).filter (notK k) = vl ++ [X] from HF, List.length_append]; exact O10, b10⟩
            case measure => simp [intOf]; omega
        · have t3 : decide ((j : Int) < ((ws.length : Nat) : Int)) = false := by simp; omega
          obtain rfl : j = ws.length := by omega
          rw [List.take_length] at ho
          have f10 := f9'.below hb
          have ra := rp9.below hb
          have rb := r9.below hb
          have hAe : s2 = ws.filter (notK k) := HSF
          rw [← hAe] at ho
          obtain ⟨a14, d14, rfl⟩ := sl_own ho
          have r14 := (own_cells4 ho).2.1
          clear ho oj hrw y0 y1 y2 hAe o59 HSF
          go_wp2_with (go_at_call 16; refine held ?_)
          unfold Held
          refine (same04_any a9 _ d9 A a4 _ d4 A w9.heap.size wr hb.size rb ra (by omega)).mono ?_
          rintro e w11 ⟨rfl, b11⟩
          simp only [decide_true]
          have f11 := f10.below b11
          have b11' := hbW.trans (b11.mono hbW.size)
          have r11 := (r14.below b11).mono b11.size
          clear f10 b11 r14 ra rb hbW
          go_wp2_with (go_at_call 11; refine held ?_)
          unfold Held
          refine (all_any q v6 s2 w11 f11.fut (by omega)).mono ?_
          rintro e w12 ⟨u12, rfl, o12, b12⟩
          have f12 := f11.below b12
          have b12' := b11'.trans (b12.mono b11'.size)
          have r12 := (r11.below b12).mono b12.size
          obtain ⟨a12, d12, rfl⟩ := sl_own o12
          have rn12 := (own_cells4 o12).2.1
          clear f11 b12 r11 o12 b11'
          go_wp2_with (go_at_call 13; refine held ?_)
          unfold Held
          refine (same11_any a12 _ d12 s2 a14 _ d14 s2 w12.heap.size w12 (Nat.le_refl _) rn12 r12 (by omega)).mono ?_
          rintro e w13 ⟨rfl, b13⟩
          simp only [decide_true]
          have f13 := f12.below b13
          have b13' := b12'.trans (b13.mono b12'.size)
          obtain ⟨y0, y1, y2⟩ := (show ∀ V, Below W1.heap.size W1 V → _ from HZB) w13 b13'
          clear f12 b13 r12 rn12 b12'
          go_wp2_with (go_at_call 14; refine held ?_)
          unfold Held
          refine (At_any q v6 s2 k w13 f13.fut (by omega)).mono ?_
          rintro e w14 ⟨u14, rfl, o14, b14⟩
          rw [show atL s2 k = [] from HAT] at o14
          obtain ⟨a15, d15, rfl⟩ := sl_own o14
          have b14' := b13'.trans (b14.mono b13'.size)
          clear f13 b14 o14 y0 y1 y2 b13'
          go_wp2
          go_ret
          exact ⟨rfl, (show ∀ V, Below W1.heap.size W1 V → Below W.heap.size W V from HFIN) _ b14'⟩
end Go.Proofs.Ytdnhaappglbooaa
