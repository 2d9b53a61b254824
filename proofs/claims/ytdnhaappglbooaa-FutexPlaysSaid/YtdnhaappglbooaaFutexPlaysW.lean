/- The walk of the law FutexPlays. -/
import Derived.Test.YtdnhaappglbooaaFutPl
import Derived.Deep.Cut
import Derived.Deep.CutRange
import Derived.Deep.CutBlock
namespace Go.Proofs.Ytdnhaappglbooaa
open Go Go.RowKit
attribute [local go_sem] upV_value upV_skip upV_enter
set_option linter.unusedVariables false
set_option linter.unnecessarySimpa false
set_option linter.unusedSimpArgs false
set_option maxRecDepth 100000 in
set_option maxHeartbeats 16000000 in
theorem futexPlays_any (W : World) (a : Option Addr) (len cap : Nat) (os : List OpF) (h : IsOps W.heap.size W a len cap os) :
    Calls Try.prog 6 #[.slice a len cap] W fun e W' => e = .returned (.bool true) ∧ Below W.heap.size W W' := by
  have hsm := h.small
  have hol := h.1
  by_cases hlen : (len : Int) > 200
  · have t1 : decide ((len : Int) > 200) = true := decide_eq_true hlen
    go_enter Try.func6, Try.ntmps6
    go_wp2
    go_ret
    exact ⟨rfl, Below.refl _ _⟩
  have t1 : decide ((len : Int) > 200) = false := decide_eq_false hlen
  obtain ⟨W1, hW1⟩ : ∃ W1, W1 = (W.alloc (.cells #[.slice none 0 0] 28)).alloc (.cells #[.slice none 0 0] 52) := ⟨_, rfl⟩
  obtain ⟨d, hd⟩ : ∃ d, d = W.heap.size + 1 := ⟨_, rfl⟩
  have sW1 : W1.heap.size = d + 1 := by rw [hW1, hd]; simp
  have b1 : Below W.heap.size W W1 := by rw [hW1]; exact ((Below.refl _ W).alloc (Nat.le_refl _) _).alloc (by simp) _
  have f1 : St W.heap.size W1 W.heap.size d (.slice none 0 0) (.slice none 0 0) [] [] := by
    have g0 := Fresh.new W.heap.size W (Nat.le_refl _)
    have z1 : ∀ b, (Value.slice none 0 0).ownBlock = some b → False := fun b hb => by simp [Value.ownBlock] at hb
    refine ⟨?_, ⟨?_, World.ownsRow_nil _ _ _ _, fun b hb => (z1 b hb).elim⟩, g0.lo, ?_, ?_⟩
    · rw [hW1]; exact g0.fut.below ((Below.refl _ _).alloc (Nat.le_refl _) _)
    · rw [hW1, hd, show W.heap.size + 1 = (W.alloc (.cells #[.slice none 0 0] 28)).heap.size from (World.size_alloc ..).symm]; exact World.alloc_heap_new _ _
    · rintro b (rfl | hb)
      · omega
      · exact (z1 b hb).elim
    · rintro b (rfl | hb) (h2 | h2)
      · omega
      · exact z1 _ h2
      · exact z1 _ hb
      · exact z1 _ h2
  go_enter Try.func6, Try.ntmps6
  go_wp2_with fail
  try rw [← hW1]
  try rw [← hd]
  clear hW1
  go_loopw [3, 29] (fun r i wr => ∃ (j q : Nat) (v u : Value) (ws : List Wt), i = .int .i64 (j : Int) ∧ j ≤ len ∧ r = .pointer (some ⟨q, 0, none⟩) ∧ St W.heap.size wr q d v u ws ws ∧ Good ws ∧ ws.length ≤ j ∧ Below W.heap.size W wr) (fun _ i _ => len - (intOf i).toNat)
  case atStart => exact ⟨0, _, _, _, [], rfl, Nat.zero_le _, rfl, f1, Good.nil, Nat.le_refl _, b1⟩
  case round =>
    clear f1 b1 sW1 hd
    obtain ⟨j, q, v, u, ws, rfl, hj, rfl, hs, hG, hL, hb⟩ := hrel
    by_cases hlt : j < len
    rotate_left
    · have t3 : decide ((j : Int) < (len : Int)) = false := by simp; omega
      go_wp2_with fail
      go_ret
      exact ⟨rfl, hb⟩
    have t3 : decide ((j : Int) < (len : Int)) = true := by simp; omega
    obtain ⟨_, h0 | ⟨ob, off, rfl, hbn, hlc, hcm, hc⟩⟩ := h
    · omega
    have hcj := (hc j (by omega)).below hb hbn
    simp only [maxLen] at hcm
    obtain ⟨o, ho⟩ : ∃ o, o = os[j]'(by omega) := ⟨_, rfl⟩
    rw [← ho] at hcj
    clear hc ho
    obtain ⟨c0, c1, c2, c3, c4, c5⟩ := hcj
    go_upto_block 2 with fail
    obtain ⟨V, hV⟩ : ∃ V, V = wr.alloc (.cells #[.int .i64 o.kind, .int .i64 o.pid, .int .i64 o.k.p, .int .i64 o.k.f, .int .i64 o.k.o, .int .i64 o.n] 54) := ⟨_, rfl⟩
    have bV : Below wr.heap.size wr V := by rw [hV]; exact (Below.refl _ wr).alloc (Nat.le_refl _) _
    obtain ⟨x, hx⟩ : ∃ x, x = wr.heap.size := ⟨_, rfl⟩
    have hBx : BoxO V x o := by rw [hV, hx]; exact World.alloc_heap_new wr _
    have hxq : ¬ SFut q v x := fun hx' => by have := hs.fut.lt x hx'; omega
    have hxd : ¬ SFut d u x := fun hx' => by have := hs.doc.lt x hx'; omega
    have hsV := hs.below bV
    have hbV := hb.trans (bV.mono hb.size)
    have hLs := stepL_len ws o
    have hGs := hG.step o
    rw [← hV]
    try rw [← hx]
    clear hV hx hs bV hb c0 c1 c2 c3 c4 c5
    obtain ⟨e0, e1, e2, e3, e4, e5⟩ := hBx.cells
    go_cut [3, 7, 8, 9, 10, 11] from 32 to 175 (fun r fine _ _ _ _ wx => ∃ (q : Nat) (v u : Value) (vs : List Wt), r = .pointer (some ⟨q, 0, none⟩) ∧ fine = .bool true ∧ St W.heap.size wx q d v u vs vs ∧ Good vs ∧ vs.length ≤ j + 1 ∧ BoxO wx x o ∧ Below W.heap.size W wx)
    case first =>
      have hb0 := hbV.size
      have hlV := hsV.fut.lt
      have hlD := hsV.doc.lt
      by_cases d0 : o.kind = 0
      · have t4 : (o.kind == 0) = true := by simpa using d0
        rw [show stepL ws o = (waitL ws o.pid o.k).2 from if_pos d0] at hLs hGs
        clear d0
        as_aux_lemma =>
          obtain ⟨R, hR⟩ : ∃ R, R = waitL ws o.pid o.k := ⟨_, rfl⟩
          have k1 := wait_any q v ws o.pid o.k V hsV.fut (by omega)
          have k2 := fun w h => dwait_any d u ws o.pid o.k w h (by omega)
          rw [← hR] at k1 k2 hLs hGs
          have K1 := Lib.hid k1
          have K2 := Lib.hid k2
          clear hR k1 k2
          go_wp2_with (go_at_call 12; refine held ?_)
          unfold Held
          refine Calls.mono K1 ?_
          rintro e w2 ⟨v2, rfl, h2, hw2⟩
          obtain ⟨s2, bb2⟩ := hsV.futStep hb0 h2 hw2
          obtain ⟨bx2, _⟩ := hBx.step hxq hw2
          have b2 := hbV.trans bb2
          clear K1 h2 hw2 hsV hBx hbV e0 e1 e2 e3 e4 e5
          obtain ⟨e0, e1, e2, e3, e4, e5⟩ := bx2.cells
          go_wp2_with (go_at_call 20; refine held ?_)
          unfold Held
          refine Calls.mono ((show ∀ w h, _ from K2) w2 s2.doc) ?_
          rintro e w3 ⟨u3, rfl, h3, hw3⟩
          obtain ⟨s3, bb3⟩ := s2.docStep b2.size h3 hw3
          obtain ⟨bx3, _⟩ := bx2.step hxd hw3
          have b3 := b2.trans bb3
          clear K2 h3 hw3 s2 bx2 b2 e0 e1 e2 e3 e4 e5
          go_wp2_with fail
          go_meet
          exact ⟨q, v2, u3, R.2, rfl, rfl, s3, hGs, by omega, bx3, b3⟩
      have t4 : (o.kind == 0) = false := by simpa using d0
      by_cases d1 : o.kind = 1
      · have t5 : (o.kind == 1) = true := by simpa using d1
        rw [show stepL ws o = goneAll ws (wakeO ws o.k o.n) from by unfold stepL; rw [if_neg d0, if_pos d1]] at hLs hGs
        clear d0 d1
        as_aux_lemma =>
          have hOl : (wakeO ws o.k o.n).length ≤ ws.length := Nat.le_trans (List.length_take_le' _ _) (atL_len ws o.k)
          have k1 := wake_any q v ws o.k o.n V hsV.fut (by omega)
          have k2 := fun w h => dwake_any d u ws o.k o.n w h hG (by omega)
          obtain ⟨O, hO⟩ : ∃ O, O = wakeO ws o.k o.n := ⟨_, rfl⟩
          rw [← hO] at k1 k2 hLs hGs hOl
          clear hO
          obtain ⟨R, hR⟩ : ∃ R, R = goneAll ws O := ⟨_, rfl⟩
          rw [← hR] at k1 k2 hLs hGs
          have K1 := Lib.hid k1
          have K2 := Lib.hid k2
          clear hR k1 k2
          go_wp2_with (go_at_call 15; refine held ?_)
          unfold Held
          refine Calls.mono K1 ?_
          rintro e w2 ⟨y2, v2, rfl, o2, h2, hw2⟩
          obtain ⟨s2, bb2⟩ := hsV.futStep hb0 h2 hw2
          obtain ⟨bx2, _⟩ := hBx.step hxq hw2
          have b2 := hbV.trans bb2
          have n2 : Kept (SFut d u) y2 := fun b hb hs' => by have := (o2.lt b hb).1; have := hlD b hs'; omega
          clear K1 h2 hw2 hsV hBx hbV e0 e1 e2 e3 e4 e5
          obtain ⟨a2, c2, rfl⟩ := sl_own o2
          obtain ⟨e0, e1, e2, e3, e4, e5⟩ := bx2.cells
          go_wp2_with (go_at_call 21; refine held ?_)
          unfold Held
          refine Calls.mono ((show ∀ w h, _ from K2) w2 s2.doc) ?_
          rintro e w3 ⟨y3, u3, rfl, o3, h3, hw3⟩
          obtain ⟨s3, bb3⟩ := s2.docStep b2.size h3 hw3
          obtain ⟨bx3, _⟩ := bx2.step hxd hw3
          have b3 := b2.trans bb3
          obtain ⟨o2', _⟩ := row_step o2 n2 hw3
          clear K2 h3 hw3 s2 bx2 b2 e0 e1 e2 e3 e4 e5 o2 n2
          obtain ⟨a3, c3, rfl⟩ := sl_own o3
          have r2 := (RowI.of_own o2').2
          have r3 := (RowI.of_own o3).2
          clear o2' o3
          go_wp2_with (go_at_call 16; refine held ?_)
          unfold Held
          refine (same04_any a2 _ c2 O a3 _ c3 O w3.heap.size w3 (Nat.le_refl _) r2 r3 (by omega)).mono ?_
          rintro e w4 ⟨rfl, bb4⟩
          simp only [decide_true]
          have s4 := s3.below bb4
          have bx4 := bx3.below bb4
          have b4 := b3.trans (bb4.mono b3.size)
          clear r2 r3 s3 bx3 b3 bb4
          go_wp2_with fail
          go_meet
          exact ⟨q, v2, u3, R, rfl, rfl, s4, hGs, by omega, bx4, b4⟩
      have t5 : (o.kind == 1) = false := by simpa using d1
      by_cases d2 : o.kind = 2
      · have t6 : (o.kind == 2) = true := by simpa using d2
        rw [show stepL ws o = ws.eraseP (isP o.pid) from by unfold stepL; rw [if_neg d0, if_neg d1, if_pos d2]] at hLs hGs
        clear d0 d1 d2
        as_aux_lemma =>
          have k1 := gone_any q v ws o.pid V hsV.fut (by omega)
          have k2 := fun w h => dgone_any d u ws o.pid w h (by omega)
          rw [← hG.erase_filter o.pid] at k2
          obtain ⟨R, hR⟩ : ∃ R, R = ws.eraseP (isP o.pid) := ⟨_, rfl⟩
          obtain ⟨F, hF⟩ : ∃ F, F = (ws.find? (isP o.pid)).isSome := ⟨_, rfl⟩
          rw [← hR] at k1 k2 hLs hGs
          rw [← hF] at k1 k2
          have K1 := Lib.hid k1
          have K2 := Lib.hid k2
          clear hR hF k1 k2
          go_wp2_with (go_at_call 22; refine held ?_)
          unfold Held
          refine Calls.mono K1 ?_
          rintro e w2 ⟨v2, rfl, h2, hw2⟩
          obtain ⟨s2, bb2⟩ := hsV.futStep hb0 h2 hw2
          obtain ⟨bx2, _⟩ := hBx.step hxq hw2
          have b2 := hbV.trans bb2
          clear K1 h2 hw2 hsV hBx hbV e0 e1 e2 e3 e4 e5
          obtain ⟨e0, e1, e2, e3, e4, e5⟩ := bx2.cells
          go_wp2_with (go_at_call 23; refine held ?_)
          unfold Held
          refine Calls.mono ((show ∀ w h, _ from K2) w2 s2.doc) ?_
          rintro e w3 ⟨u3, rfl, h3, hw3⟩
          obtain ⟨s3, bb3⟩ := s2.docStep b2.size h3 hw3
          obtain ⟨bx3, _⟩ := bx2.step hxd hw3
          have b3 := b2.trans bb3
          clear K2 h3 hw3 s2 bx2 b2 e0 e1 e2 e3 e4 e5
          go_wp2_with fail
          go_meet
          exact ⟨q, v2, u3, R, rfl, rfl, s3, hGs, by omega, bx3, b3⟩
      have t6 : (o.kind == 2) = false := by simpa using d2
      rw [show stepL ws o = ws from by unfold stepL; rw [if_neg d0, if_neg d1, if_neg d2]] at hLs hGs
      clear d0 d1 d2
      by_cases d3 : o.kind = 3
      · have t7 : (o.kind == 3) = true := by simpa using d3
        clear d3
        as_aux_lemma =>
          go_wp2_with (go_at_call 24; refine held ?_)
          unfold Held
          refine (copy_any q v ws V hsV.fut (by omega)).mono ?_
          rintro e w2 ⟨q2, v2, rfl, hq2, hl2, h2, bb2⟩
          have f2 := hsV.fut.below bb2
          have lo2 := hsV.lo
          have s2 : St W.heap.size w2 q2 d v2 u ws ws := ⟨h2, hsV.doc.below bb2, fun b hb => Nat.le_trans hb0 (hl2 b hb), hsV.dlo, fun b hb hs' => by have := hl2 b hb; have := hlD b hs'; omega⟩
          have ap2 : ∀ b, SFut q2 v2 b ∨ SFut d u b → ¬ SFut q v b := fun b hb hs' => by
            rcases hb with hb | hb
            · have := hl2 b hb; have := hlV b hs'; omega
            · exact hsV.ap b hs' hb
          have bx2 := hBx.below bb2
          have b2 := hbV.trans (bb2.mono hb0)
          clear hsV hBx hbV hl2 hlV hlD h2 hq2 e0 e1 e2 e3 e4 e5
          obtain ⟨e0, e1, e2, e3, e4, e5⟩ := bx2.cells
          go_wp2_with (go_at_call 15; refine held ?_)
          unfold Held
          refine (wake_any q v ws o.k 3 w2 f2 (by omega)).mono ?_
          rintro e w3 ⟨y3, v3, rfl, _, f3, hw3⟩
          obtain ⟨s3, ap3⟩ := s2.other ap2 hw3
          obtain ⟨bx3, hxq3⟩ := bx2.step hxq hw3
          obtain ⟨bb3, lo3⟩ := below_wr b2.size lo2 hw3
          have b3 := b2.trans bb3
          have hgl := goneAll_len ws (wakeO ws o.k 3)
          obtain ⟨R, hR⟩ : ∃ R, R = goneAll ws (wakeO ws o.k 3) := ⟨_, rfl⟩
          rw [← hR] at f3 hgl
          clear hR s2 ap2 bx2 b2 bb2 f2 lo2 hw3 bb3 e0 e1 e2 e3 e4 e5
          go_wp2_with (go_at_call 12; refine held ?_)
          unfold Held
          refine (wait_any q v3 R 77 ⟨0, 0, 0⟩ w3 f3 (by omega)).mono ?_
          rintro e w4 ⟨v4, rfl, f4, hw4⟩
          obtain ⟨s4, _⟩ := s3.other ap3 hw4
          obtain ⟨bx4, _⟩ := bx3.step hxq3 hw4
          obtain ⟨bb4, _⟩ := below_wr b3.size lo3 hw4
          have b4 := b3.trans bb4
          clear s3 ap3 bx3 b3 f3 lo3 hw4 bb4 f4
          go_wp2_with fail
          go_meet
          exact ⟨q2, v2, u, ws, rfl, rfl, s4, hG, by omega, bx4, b4⟩
      have t7 : (o.kind == 3) = false := by simpa using d3
      clear d3
      as_aux_lemma =>
        go_wp2_with fail
        go_meet
        exact ⟨q, v, u, ws, rfl, rfl, hsV, hG, by omega, hBx, hbV⟩
    case rest =>
      clear hsV hBx hxq hxd hbV hLs hGs hG hL e0 e1 e2 e3 e4 e5
      obtain ⟨q, v, u, ws, rfl, rfl, hs, hG, hL, hBx, hb⟩ := hcut
      as_aux_lemma =>
        have hb0 := hb.size
        obtain ⟨ua, uc, rfl, hru, _⟩ := hs.doc.sl
        obtain ⟨F, hF⟩ : ∃ F, F = (ws.find? (isP o.pid)).isSome := ⟨_, rfl⟩
        obtain ⟨K, hK⟩ : ∃ K : Ky, K = (ws.find? (isP o.pid)).elim ⟨0, 0, 0⟩ (·.k) := ⟨_, rfl⟩
        have K1 := key_any q v ws o.pid wc hs.fut (by omega)
        have K2 := fun w h => dkey_any d (.slice ua ws.length uc) ws o.pid w h (by omega)
        rw [← hF, ← hK, show aggK K = .agg #[.int .i64 K.p, .int .i64 K.f, .int .i64 K.o] from rfl] at K1 K2
        replace K1 := Lib.hid K1
        replace K2 := Lib.hid K2
        clear hF hK
        obtain ⟨e0, e1, e2, e3, e4, e5⟩ := hBx.cells
        go_wp2_with (go_at_call 17; refine held ?_)
        unfold Held
        refine Calls.mono K1 ?_
        rintro e w2 ⟨rfl, bb2⟩
        obtain ⟨V2, hV2⟩ : ∃ V2, V2 = w2.alloc (.cells #[.int .i64 K.p, .int .i64 K.f, .int .i64 K.o] 33) := ⟨_, rfl⟩
        obtain ⟨x2, hx2⟩ : ∃ x2, x2 = w2.heap.size := ⟨_, rfl⟩
        have bx2 : BoxK V2 x2 K := by rw [hV2, hx2]; exact BoxK.new _ _
        have cc2 : Below wc.heap.size wc V2 := by rw [hV2]; exact bb2.alloc bb2.size _
        have s2 := hs.below cc2
        have bo2 := hBx.below cc2
        have b2 := hb.trans (cc2.mono hb0)
        have ru2 := (hru.below cc2).mono cc2.size
        clear K1 hs hBx hb cc2 bb2 e0 e1 e2 e3 e4 e5 hru
        obtain ⟨e0, e1, e2, e3, e4, e5⟩ := bo2.cells
        rw [hV2] at e0 e1 e2 e3 e4 e5
        go_wp2_with (go_at_call 25; refine held ?_)
        unfold Held
        try rw [← hV2]
        try rw [← hx2]
        clear hV2 hx2
        refine Calls.mono ((show ∀ w h, _ from K2) V2 s2.doc) ?_
        rintro e w3 ⟨rfl, bb3⟩
        obtain ⟨V3, hV3⟩ : ∃ V3, V3 = w3.alloc (.cells #[.int .i64 K.p, .int .i64 K.f, .int .i64 K.o] 33) := ⟨_, rfl⟩
        obtain ⟨x3, hx3⟩ : ∃ x3, x3 = w3.heap.size := ⟨_, rfl⟩
        have by3 : BoxK V3 x3 K := by rw [hV3, hx3]; exact BoxK.new _ _
        have cc3 : Below V2.heap.size V2 V3 := by rw [hV3]; exact bb3.alloc bb3.size _
        have s3 := s2.below cc3
        have bx3 := bx2.below cc3
        have bo3 := bo2.below cc3
        have b3 := b2.trans (cc3.mono b2.size)
        have ru3 := (ru2.below cc3).mono cc3.size
        clear K2 s2 bo2 bx2 b2 cc3 bb3 e0 e1 e2 e3 e4 e5 ru2
        obtain ⟨e0, e1, e2, e3, e4, e5⟩ := bo3.cells
        rw [hV3] at e0 e1 e2 e3 e4 e5
        go_wp2_with (go_at_call 14; refine held ?_)
        unfold Held
        try rw [← hV3]
        try rw [← hx3]
        clear hV3 hx3
        obtain ⟨A, hA⟩ : ∃ A, A = atL ws o.k := ⟨_, rfl⟩
        have hAl := atL_len ws o.k
        have K4 := At_any q v ws o.k V3 s3.fut (by omega)
        have K5 := fun w h => dat_any d (.slice ua ws.length uc) ws o.k w h (by omega)
        rw [← hA] at K4 K5 hAl
        replace K5 := Lib.hid K5
        clear hA
        refine Calls.mono K4 ?_
        rintro e w4 ⟨y4, rfl, o4, bb4⟩
        have s4 := s3.below bb4
        have bx4 := bx3.below bb4
        have by4 := by3.below bb4
        have bo4 := bo3.below bb4
        have b4 := b3.trans (bb4.mono b3.size)
        have ru4 := (ru3.below bb4).mono bb4.size
        clear K4 s3 bx3 by3 bo3 b3 ru3 bb4 e0 e1 e2 e3 e4 e5
        obtain ⟨a4, c4, rfl⟩ := sl_own o4
        go_wp2_with (go_at_call 11; refine held ?_)
        unfold Held
        refine (all_any q v ws w4 s4.fut (by omega)).mono ?_
        rintro e w5 ⟨y5, rfl, o5, bb5⟩
        have l4 : ∀ b, SFut q v b ∨ SFut d (.slice ua ws.length uc) b → b < w4.heap.size := fun b hb => hb.elim (s4.fut.lt b) (s4.doc.lt b)
        have s5 := s4.below bb5
        have bx5 := bx4.below bb5
        have by5 := by4.below bb5
        have bo5 := bo4.below bb5
        have b5 := b4.trans (bb5.mono b4.size)
        have ru5 := (ru4.below bb5).mono bb5.size
        have r5 := (RowI.of_own (row_below o4 bb5)).2
        have h54 := bb5.size
        clear s4 bx4 by4 bo4 ru4 bb5 o4
        obtain ⟨a5, c5, rfl⟩ := sl_own o5
        obtain ⟨e0, e1, e2, e3, e4, e5⟩ := bo5.cells
        go_wp2_with (go_at_call 18; refine held ?_)
        unfold Held
        obtain ⟨M, hM⟩ : ∃ M, M = mayK o.k := ⟨_, rfl⟩
        obtain ⟨E, hE⟩ : ∃ E : Int, E = if mayK o.k then 0 else 2 := ⟨_, rfl⟩
        have tE : (E == 0) = M := by rw [hE, hM]; cases mayK o.k <;> rfl
        have K6 := check_any o.k w5
        have K7 := may_any o.k
        rw [← hE] at K6
        rw [← hM] at K7
        replace K7 := Lib.hid K7
        clear hE hM
        refine Calls.mono K6 ?_
        rintro e w6 ⟨rfl, bb6⟩
        have s6 := s5.below bb6
        have bx6 := bx5.below bb6
        have by6 := by5.below bb6
        have bo6 := bo5.below bb6
        have b6 := b5.trans (bb6.mono b5.size)
        have ru6 := (ru5.below bb6).mono bb6.size
        have r6 := (r5.below bb6).mono bb6.size
        have o6 := row_below o5 bb6
        have h64 := bb6.size
        clear K6 s5 bx5 by5 bo5 b5 ru5 bb6 r5 o5 e0 e1 e2 e3 e4 e5
        go_upto_region 30 with fail
        have HX : Hid (∀ W, Grows w6.drew W → (W.cell? ⟨x, 2, none⟩ = some (.int .i64 o.k.p) ∧ W.cell? ⟨x, 3, none⟩ = some (.int .i64 o.k.f) ∧ W.cell? ⟨x, 4, none⟩ = some (.int .i64 o.k.o)) ∧ (W.cell? ⟨x2, 0, none⟩ = some (.int .i64 K.p) ∧ W.cell? ⟨x2, 1, none⟩ = some (.int .i64 K.f) ∧ W.cell? ⟨x2, 2, none⟩ = some (.int .i64 K.o)) ∧ (W.cell? ⟨x3, 0, none⟩ = some (.int .i64 K.p) ∧ W.cell? ⟨x3, 1, none⟩ = some (.int .i64 K.f) ∧ W.cell? ⟨x3, 2, none⟩ = some (.int .i64 K.o)) ∧ W.cell? ⟨d, 0, none⟩ = some (.slice ua ws.length uc)) := fun W hW => by
          have hW' : Below w6.heap.size w6 W := below_undrew hW
          have z := (bo6.below hW').cells
          exact ⟨⟨z.2.2.1, z.2.2.2.1, z.2.2.2.2.1⟩, (bx6.below hW').cells, (by6.below hW').cells, (s6.doc.below hW').c0⟩
        have tK : ∀ w, (binOp .neq 33 (.agg #[.int .i64 K.p, .int .i64 K.f, .int .i64 K.o]) (.agg #[.int .i64 K.p, .int .i64 K.f, .int .i64 K.o])).run Try.prog w = .ok (.bool false) w := fun w => by
          rw [key_neq, show decide ((⟨K.p, K.f, K.o⟩ : Ky) = ⟨K.p, K.f, K.o⟩) = true from decide_eq_true rfl]; rfl
        have rw6 := (own_cells4 o6).2.1
        refine wp_region_anyV Grows (by kernel_rfl) 48 rfl ?_
        first
          | (refine anyV_val 0 (Grows.pre) rfl (by kernel_rfl) (by kernel_rfl) (by kernel_rfl) (by rfl) (v := ?av1) (fun W hW => ?ay1) (fun K hK => ?ar1); case ay1 => (obtain ⟨⟨p0, p1, p2⟩, ⟨q0, q1, q2⟩, ⟨z0, z1, z2⟩, y0⟩ := HX W hW; go_simp; first | done | rfl))
          | refine anyV_skip 0 (Grows.pre) rfl (by kernel_rfl) (by kernel_rfl) (by kernel_rfl) (by rfl) (fun K hK => ?_)
        go_simp
        refine hK _ ?_
        clear hK K
        first
          | (refine anyV_val 1 (Grows.pre) rfl (by kernel_rfl) (by kernel_rfl) (by kernel_rfl) (by rfl) (v := ?av2) (fun W hW => ?ay2) (fun K hK => ?ar2); case ay2 => (obtain ⟨⟨p0, p1, p2⟩, ⟨q0, q1, q2⟩, ⟨z0, z1, z2⟩, y0⟩ := HX W hW; go_simp; first | done | rfl))
          | refine anyV_skip 1 (Grows.pre) rfl (by kernel_rfl) (by kernel_rfl) (by kernel_rfl) (by rfl) (fun K hK => ?_)
        go_simp
        refine hK _ ?_
        clear hK K
        first
          | (refine anyV_val 2 (Grows.pre) rfl (by kernel_rfl) (by kernel_rfl) (by kernel_rfl) (by rfl) (v := ?av3) (fun W hW => ?ay3) (fun K hK => ?ar3); case ay3 => (obtain ⟨⟨p0, p1, p2⟩, ⟨q0, q1, q2⟩, ⟨z0, z1, z2⟩, y0⟩ := HX W hW; go_simp; first | done | rfl))
          | refine anyV_skip 2 (Grows.pre) rfl (by kernel_rfl) (by kernel_rfl) (by kernel_rfl) (by rfl) (fun K hK => ?_)
        go_simp
        refine hK _ ?_
        clear hK K
        first
          | (refine anyV_val 3 (Grows.pre) rfl (by kernel_rfl) (by kernel_rfl) (by kernel_rfl) (by rfl) (v := ?av4) (fun W hW => ?ay4) (fun K hK => ?ar4); case ay4 => (obtain ⟨⟨p0, p1, p2⟩, ⟨q0, q1, q2⟩, ⟨z0, z1, z2⟩, y0⟩ := HX W hW; go_simp; first | done | rfl))
          | refine anyV_skip 3 (Grows.pre) rfl (by kernel_rfl) (by kernel_rfl) (by kernel_rfl) (by rfl) (fun K hK => ?_)
        go_simp
        refine hK _ ?_
        clear hK K
        first
          | (refine anyV_val 4 (Grows.pre) rfl (by kernel_rfl) (by kernel_rfl) (by kernel_rfl) (by rfl) (v := ?av5) (fun W hW => ?ay5) (fun K hK => ?ar5); case ay5 => (obtain ⟨⟨p0, p1, p2⟩, ⟨q0, q1, q2⟩, ⟨z0, z1, z2⟩, y0⟩ := HX W hW; go_simp; first | done | rfl))
          | refine anyV_skip 4 (Grows.pre) rfl (by kernel_rfl) (by kernel_rfl) (by kernel_rfl) (by rfl) (fun K hK => ?_)
        go_simp
        refine hK _ ?_
        clear hK K
        first
          | (refine anyV_val 5 (Grows.pre) rfl (by kernel_rfl) (by kernel_rfl) (by kernel_rfl) (by rfl) (v := ?av6) (fun W hW => ?ay6) (fun K hK => ?ar6); case ay6 => (obtain ⟨⟨p0, p1, p2⟩, ⟨q0, q1, q2⟩, ⟨z0, z1, z2⟩, y0⟩ := HX W hW; go_simp; first | done | rfl))
          | refine anyV_skip 5 (Grows.pre) rfl (by kernel_rfl) (by kernel_rfl) (by kernel_rfl) (by rfl) (fun K hK => ?_)
        go_simp
        refine hK _ ?_
        clear hK K
        first
          | (refine anyV_val 6 (Grows.pre) rfl (by kernel_rfl) (by kernel_rfl) (by kernel_rfl) (by rfl) (v := ?av7) (fun W hW => ?ay7) (fun K hK => ?ar7); case ay7 => (obtain ⟨⟨p0, p1, p2⟩, ⟨q0, q1, q2⟩, ⟨z0, z1, z2⟩, y0⟩ := HX W hW; go_simp; first | done | rfl))
          | refine anyV_skip 6 (Grows.pre) rfl (by kernel_rfl) (by kernel_rfl) (by kernel_rfl) (by rfl) (fun K hK => ?_)
        go_simp
        refine hK _ ?_
        clear hK K
        first
          | (refine anyV_val 7 (Grows.pre) rfl (by kernel_rfl) (by kernel_rfl) (by kernel_rfl) (by rfl) (v := ?av8) (fun W hW => ?ay8) (fun K hK => ?ar8); case ay8 => (obtain ⟨⟨p0, p1, p2⟩, ⟨q0, q1, q2⟩, ⟨z0, z1, z2⟩, y0⟩ := HX W hW; go_simp; first | done | rfl))
          | refine anyV_skip 7 (Grows.pre) rfl (by kernel_rfl) (by kernel_rfl) (by kernel_rfl) (by rfl) (fun K hK => ?_)
        go_simp
        refine hK _ ?_
        clear hK K
        first
          | (refine anyV_val 8 (Grows.pre) rfl (by kernel_rfl) (by kernel_rfl) (by kernel_rfl) (by rfl) (v := ?av9) (fun W hW => ?ay9) (fun K hK => ?ar9); case ay9 => (obtain ⟨⟨p0, p1, p2⟩, ⟨q0, q1, q2⟩, ⟨z0, z1, z2⟩, y0⟩ := HX W hW; go_simp; first | done | rfl))
          | refine anyV_skip 8 (Grows.pre) rfl (by kernel_rfl) (by kernel_rfl) (by kernel_rfl) (by rfl) (fun K hK => ?_)
        go_simp
        refine hK _ ?_
        clear hK K
        first
          | (refine anyV_val 9 (Grows.pre) rfl (by kernel_rfl) (by kernel_rfl) (by kernel_rfl) (by rfl) (v := ?av10) (fun W hW => ?ay10) (fun K hK => ?ar10); case ay10 => (obtain ⟨⟨p0, p1, p2⟩, ⟨q0, q1, q2⟩, ⟨z0, z1, z2⟩, y0⟩ := HX W hW; go_simp; first | done | rfl))
          | refine anyV_skip 9 (Grows.pre) rfl (by kernel_rfl) (by kernel_rfl) (by kernel_rfl) (by rfl) (fun K hK => ?_)
        go_simp
        refine hK _ ?_
        clear hK K
        first
          | (refine anyV_val 10 (Grows.pre) rfl (by kernel_rfl) (by kernel_rfl) (by kernel_rfl) (by rfl) (v := ?av11) (fun W hW => ?ay11) (fun K hK => ?ar11); case ay11 => (obtain ⟨⟨p0, p1, p2⟩, ⟨q0, q1, q2⟩, ⟨z0, z1, z2⟩, y0⟩ := HX W hW; go_simp; first | done | rfl))
          | refine anyV_skip 10 (Grows.pre) rfl (by kernel_rfl) (by kernel_rfl) (by kernel_rfl) (by rfl) (fun K hK => ?_)
        go_simp
        refine hK _ ?_
        clear hK K
        first
          | (refine anyV_val 11 (Grows.pre) rfl (by kernel_rfl) (by kernel_rfl) (by kernel_rfl) (by rfl) (v := ?av12) (fun W hW => ?ay12) (fun K hK => ?ar12); case ay12 => (obtain ⟨⟨p0, p1, p2⟩, ⟨q0, q1, q2⟩, ⟨z0, z1, z2⟩, y0⟩ := HX W hW; go_simp; first | done | rfl))
          | refine anyV_skip 11 (Grows.pre) rfl (by kernel_rfl) (by kernel_rfl) (by kernel_rfl) (by rfl) (fun K hK => ?_)
        go_simp
        refine hK _ ?_
        clear hK K
        first
          | (refine anyV_val 12 (Grows.pre) rfl (by kernel_rfl) (by kernel_rfl) (by kernel_rfl) (by rfl) (v := ?av13) (fun W hW => ?ay13) (fun K hK => ?ar13); case ay13 => (obtain ⟨⟨p0, p1, p2⟩, ⟨q0, q1, q2⟩, ⟨z0, z1, z2⟩, y0⟩ := HX W hW; go_simp; first | done | rfl))
          | refine anyV_skip 12 (Grows.pre) rfl (by kernel_rfl) (by kernel_rfl) (by kernel_rfl) (by rfl) (fun K hK => ?_)
        go_simp
        refine hK _ ?_
        clear hK K
        first
          | (refine anyV_val 13 (Grows.pre) rfl (by kernel_rfl) (by kernel_rfl) (by kernel_rfl) (by rfl) (v := ?av14) (fun W hW => ?ay14) (fun K hK => ?ar14); case ay14 => (obtain ⟨⟨p0, p1, p2⟩, ⟨q0, q1, q2⟩, ⟨z0, z1, z2⟩, y0⟩ := HX W hW; go_simp; first | done | rfl))
          | refine anyV_skip 13 (Grows.pre) rfl (by kernel_rfl) (by kernel_rfl) (by kernel_rfl) (by rfl) (fun K hK => ?_)
        go_simp
        refine hK _ ?_
        clear hK K
        first
          | (refine anyV_val 14 (Grows.pre) rfl (by kernel_rfl) (by kernel_rfl) (by kernel_rfl) (by rfl) (v := ?av15) (fun W hW => ?ay15) (fun K hK => ?ar15); case ay15 => (obtain ⟨⟨p0, p1, p2⟩, ⟨q0, q1, q2⟩, ⟨z0, z1, z2⟩, y0⟩ := HX W hW; go_simp; first | done | rfl))
          | refine anyV_skip 14 (Grows.pre) rfl (by kernel_rfl) (by kernel_rfl) (by kernel_rfl) (by rfl) (fun K hK => ?_)
        go_simp
        refine hK _ ?_
        clear hK K
        first
          | (refine anyV_val 15 (Grows.pre) rfl (by kernel_rfl) (by kernel_rfl) (by kernel_rfl) (by rfl) (v := ?av16) (fun W hW => ?ay16) (fun K hK => ?ar16); case ay16 => (obtain ⟨⟨p0, p1, p2⟩, ⟨q0, q1, q2⟩, ⟨z0, z1, z2⟩, y0⟩ := HX W hW; go_simp; first | done | rfl))
          | refine anyV_skip 15 (Grows.pre) rfl (by kernel_rfl) (by kernel_rfl) (by kernel_rfl) (by rfl) (fun K hK => ?_)
        go_simp
        refine hK _ ?_
        clear hK K
        first
          | (refine anyV_val 16 (Grows.pre) rfl (by kernel_rfl) (by kernel_rfl) (by kernel_rfl) (by rfl) (v := ?av17) (fun W hW => ?ay17) (fun K hK => ?ar17); case ay17 => (obtain ⟨⟨p0, p1, p2⟩, ⟨q0, q1, q2⟩, ⟨z0, z1, z2⟩, y0⟩ := HX W hW; go_simp; first | done | rfl))
          | refine anyV_skip 16 (Grows.pre) rfl (by kernel_rfl) (by kernel_rfl) (by kernel_rfl) (by rfl) (fun K hK => ?_)
        go_simp
        refine hK _ ?_
        clear hK K
        refine anyV_only 17 rfl (by kernel_rfl) (by rfl) (fun K hK => ?_)
        go_simp
        refine Calls.mono ((show ∀ w h, _ from K5) w6.drew s6.drew.doc) ?_
        rintro e w7 ⟨y7, rfl, o7, bb7⟩
        have s7 := s6.drew.below bb7
        obtain ⟨a7, c7, rfl⟩ := sl_own o7
        have r7 := (RowI.of_own o7).2
        have r67 := ((show RowI .i64 w6.drew.heap.size w6.drew (.slice a4 A.length c4) A from r6).below bb7).mono bb7.size
        refine ⟨_, rfl, hK _ _ bb7 ?_⟩
        clear hK K
        refine anyV_frame (fun K hK => ?_)
        go_simp
        refine hK _ ?_
        clear hK K
        refine anyV_only 18 rfl (by kernel_rfl) (by rfl) (fun K hK => ?_)
        go_simp
        refine (same04_any a4 _ c4 A a7 _ c7 A w7.heap.size w7 (Nat.le_refl _) r67 r7 (by omega)).mono ?_
        rintro e w8 ⟨rfl, bb8⟩
        have bb8' := Grows.pre.trans bb7 bb8
        have s8 := s7.below bb8
        have ro8 := ((show RowW w6.drew.heap.size w6.drew a5 ws.length c5 ws from rw6).below bb8').mono bb8'.size
        have ru8 := ((show RowW w6.drew.heap.size w6.drew ua ws.length uc ws from ru6).below bb8').mono bb8'.size
        refine ⟨_, rfl, hK _ _ bb8 ?_⟩
        clear hK K
        refine anyV_frame (fun K hK => ?_)
        go_simp
        refine hK _ ?_
        clear hK K
        first
          | (refine anyV_val 19 (Grows.pre) rfl (by kernel_rfl) (by kernel_rfl) (by kernel_rfl) (by rfl) (v := ?av18) (fun W hW => ?ay18) (fun K hK => ?ar18); case ay18 => (obtain ⟨⟨p0, p1, p2⟩, ⟨q0, q1, q2⟩, ⟨z0, z1, z2⟩, y0⟩ := HX W (Grows.pre.trans bb8' hW); go_simp; first | done | rfl))
          | refine anyV_skip 19 (Grows.pre) rfl (by kernel_rfl) (by kernel_rfl) (by kernel_rfl) (by rfl) (fun K hK => ?_)
        go_simp
        refine hK _ ?_
        clear hK K
        first
          | (refine anyV_val 20 (Grows.pre) rfl (by kernel_rfl) (by kernel_rfl) (by kernel_rfl) (by rfl) (v := ?av19) (fun W hW => ?ay19) (fun K hK => ?ar19); case ay19 => (obtain ⟨⟨p0, p1, p2⟩, ⟨q0, q1, q2⟩, ⟨z0, z1, z2⟩, y0⟩ := HX W (Grows.pre.trans bb8' hW); go_simp; first | done | rfl))
          | refine anyV_skip 20 (Grows.pre) rfl (by kernel_rfl) (by kernel_rfl) (by kernel_rfl) (by rfl) (fun K hK => ?_)
        go_simp
        refine hK _ ?_
        clear hK K
        first
          | (refine anyV_val 21 (Grows.pre) rfl (by kernel_rfl) (by kernel_rfl) (by kernel_rfl) (by rfl) (v := ?av20) (fun W hW => ?ay20) (fun K hK => ?ar20); case ay20 => (obtain ⟨⟨p0, p1, p2⟩, ⟨q0, q1, q2⟩, ⟨z0, z1, z2⟩, y0⟩ := HX W (Grows.pre.trans bb8' hW); go_simp; first | done | rfl))
          | refine anyV_skip 21 (Grows.pre) rfl (by kernel_rfl) (by kernel_rfl) (by kernel_rfl) (by rfl) (fun K hK => ?_)
        go_simp
        refine hK _ ?_
        clear hK K
        first
          | (refine anyV_val 22 (Grows.pre) rfl (by kernel_rfl) (by kernel_rfl) (by kernel_rfl) (by rfl) (v := ?av21) (fun W hW => ?ay21) (fun K hK => ?ar21); case ay21 => (obtain ⟨⟨p0, p1, p2⟩, ⟨q0, q1, q2⟩, ⟨z0, z1, z2⟩, y0⟩ := HX W (Grows.pre.trans bb8' hW); go_simp; first | done | rfl))
          | refine anyV_skip 22 (Grows.pre) rfl (by kernel_rfl) (by kernel_rfl) (by kernel_rfl) (by rfl) (fun K hK => ?_)
        go_simp
        refine hK _ ?_
        clear hK K
        first
          | (refine anyV_val 23 (Grows.pre) rfl (by kernel_rfl) (by kernel_rfl) (by kernel_rfl) (by rfl) (v := ?av22) (fun W hW => ?ay22) (fun K hK => ?ar22); case ay22 => (obtain ⟨⟨p0, p1, p2⟩, ⟨q0, q1, q2⟩, ⟨z0, z1, z2⟩, y0⟩ := HX W (Grows.pre.trans bb8' hW); go_simp; first | done | rfl))
          | refine anyV_skip 23 (Grows.pre) rfl (by kernel_rfl) (by kernel_rfl) (by kernel_rfl) (by rfl) (fun K hK => ?_)
        go_simp
        refine hK _ ?_
        clear hK K
        first
          | (refine anyV_val 24 (Grows.pre) rfl (by kernel_rfl) (by kernel_rfl) (by kernel_rfl) (by rfl) (v := ?av23) (fun W hW => ?ay23) (fun K hK => ?ar23); case ay23 => (obtain ⟨⟨p0, p1, p2⟩, ⟨q0, q1, q2⟩, ⟨z0, z1, z2⟩, y0⟩ := HX W (Grows.pre.trans bb8' hW); go_simp; first | done | rfl))
          | refine anyV_skip 24 (Grows.pre) rfl (by kernel_rfl) (by kernel_rfl) (by kernel_rfl) (by rfl) (fun K hK => ?_)
        go_simp
        refine hK _ ?_
        clear hK K
        first
          | (refine anyV_val 25 (Grows.pre) rfl (by kernel_rfl) (by kernel_rfl) (by kernel_rfl) (by rfl) (v := ?av24) (fun W hW => ?ay24) (fun K hK => ?ar24); case ay24 => (obtain ⟨⟨p0, p1, p2⟩, ⟨q0, q1, q2⟩, ⟨z0, z1, z2⟩, y0⟩ := HX W (Grows.pre.trans bb8' hW); go_simp; first | done | rfl))
          | refine anyV_skip 25 (Grows.pre) rfl (by kernel_rfl) (by kernel_rfl) (by kernel_rfl) (by rfl) (fun K hK => ?_)
        go_simp
        refine hK _ ?_
        clear hK K
        first
          | (refine anyV_val 26 (Grows.pre) rfl (by kernel_rfl) (by kernel_rfl) (by kernel_rfl) (by rfl) (v := ?av25) (fun W hW => ?ay25) (fun K hK => ?ar25); case ay25 => (obtain ⟨⟨p0, p1, p2⟩, ⟨q0, q1, q2⟩, ⟨z0, z1, z2⟩, y0⟩ := HX W (Grows.pre.trans bb8' hW); go_simp; first | done | rfl))
          | refine anyV_skip 26 (Grows.pre) rfl (by kernel_rfl) (by kernel_rfl) (by kernel_rfl) (by rfl) (fun K hK => ?_)
        go_simp
        refine hK _ ?_
        clear hK K
        refine anyV_only 27 rfl (by kernel_rfl) (by rfl) (fun K hK => ?_)
        go_simp
        refine (same11_any a5 _ c5 ws ua _ uc ws w8.heap.size w8 (Nat.le_refl _) ro8 ru8 (by omega)).mono ?_
        rintro e w9 ⟨rfl, bb9⟩
        have bb9' := Grows.pre.trans bb8' bb9
        have s9 := s8.below bb9
        refine ⟨_, rfl, hK _ _ bb9 ?_⟩
        clear hK K
        refine anyV_frame (fun K hK => ?_)
        go_simp
        refine hK _ ?_
        clear hK K
        first
          | (refine anyV_val 28 (Grows.pre) rfl (by kernel_rfl) (by kernel_rfl) (by kernel_rfl) (by rfl) (v := ?av26) (fun W hW => ?ay26) (fun K hK => ?ar26); case ay26 => (obtain ⟨⟨p0, p1, p2⟩, ⟨q0, q1, q2⟩, ⟨z0, z1, z2⟩, y0⟩ := HX W (Grows.pre.trans bb9' hW); go_simp; first | done | rfl))
          | refine anyV_skip 28 (Grows.pre) rfl (by kernel_rfl) (by kernel_rfl) (by kernel_rfl) (by rfl) (fun K hK => ?_)
        go_simp
        refine hK _ ?_
        clear hK K
        first
          | (refine anyV_val 29 (Grows.pre) rfl (by kernel_rfl) (by kernel_rfl) (by kernel_rfl) (by rfl) (v := ?av27) (fun W hW => ?ay27) (fun K hK => ?ar27); case ay27 => (obtain ⟨⟨p0, p1, p2⟩, ⟨q0, q1, q2⟩, ⟨z0, z1, z2⟩, y0⟩ := HX W (Grows.pre.trans bb9' hW); go_simp; first | done | rfl))
          | refine anyV_skip 29 (Grows.pre) rfl (by kernel_rfl) (by kernel_rfl) (by kernel_rfl) (by rfl) (fun K hK => ?_)
        go_simp
        refine hK _ ?_
        clear hK K
        first
          | (refine anyV_val 30 (Grows.pre) rfl (by kernel_rfl) (by kernel_rfl) (by kernel_rfl) (by rfl) (v := ?av28) (fun W hW => ?ay28) (fun K hK => ?ar28); case ay28 => (obtain ⟨⟨p0, p1, p2⟩, ⟨q0, q1, q2⟩, ⟨z0, z1, z2⟩, y0⟩ := HX W (Grows.pre.trans bb9' hW); go_simp; first | done | rfl))
          | refine anyV_skip 30 (Grows.pre) rfl (by kernel_rfl) (by kernel_rfl) (by kernel_rfl) (by rfl) (fun K hK => ?_)
        go_simp
        refine hK _ ?_
        clear hK K
        first
          | (refine anyV_val 31 (Grows.pre) rfl (by kernel_rfl) (by kernel_rfl) (by kernel_rfl) (by rfl) (v := ?av29) (fun W hW => ?ay29) (fun K hK => ?ar29); case ay29 => (obtain ⟨⟨p0, p1, p2⟩, ⟨q0, q1, q2⟩, ⟨z0, z1, z2⟩, y0⟩ := HX W (Grows.pre.trans bb9' hW); go_simp; first | done | rfl))
          | refine anyV_skip 31 (Grows.pre) rfl (by kernel_rfl) (by kernel_rfl) (by kernel_rfl) (by rfl) (fun K hK => ?_)
        go_simp
        refine hK _ ?_
        clear hK K
        first
          | (refine anyV_val 33 (Grows.pre) rfl (by kernel_rfl) (by kernel_rfl) (by kernel_rfl) (by rfl) (v := ?av30) (fun W hW => ?ay30) (fun K hK => ?ar30); case ay30 => (obtain ⟨⟨p0, p1, p2⟩, ⟨q0, q1, q2⟩, ⟨z0, z1, z2⟩, y0⟩ := HX W (Grows.pre.trans bb9' hW); go_simp; first | done | rfl))
          | refine anyV_skip 33 (Grows.pre) rfl (by kernel_rfl) (by kernel_rfl) (by kernel_rfl) (by rfl) (fun K hK => ?_)
        go_simp
        refine hK _ ?_
        clear hK K
        first
          | (refine anyV_val 34 (Grows.pre) rfl (by kernel_rfl) (by kernel_rfl) (by kernel_rfl) (by rfl) (v := ?av31) (fun W hW => ?ay31) (fun K hK => ?ar31); case ay31 => (obtain ⟨⟨p0, p1, p2⟩, ⟨q0, q1, q2⟩, ⟨z0, z1, z2⟩, y0⟩ := HX W (Grows.pre.trans bb9' hW); go_simp; first | done | rfl))
          | refine anyV_skip 34 (Grows.pre) rfl (by kernel_rfl) (by kernel_rfl) (by kernel_rfl) (by rfl) (fun K hK => ?_)
        go_simp
        refine hK _ ?_
        clear hK K
        first
          | (refine anyV_val 35 (Grows.pre) rfl (by kernel_rfl) (by kernel_rfl) (by kernel_rfl) (by rfl) (v := ?av32) (fun W hW => ?ay32) (fun K hK => ?ar32); case ay32 => (obtain ⟨⟨p0, p1, p2⟩, ⟨q0, q1, q2⟩, ⟨z0, z1, z2⟩, y0⟩ := HX W (Grows.pre.trans bb9' hW); go_simp; first | done | rfl))
          | refine anyV_skip 35 (Grows.pre) rfl (by kernel_rfl) (by kernel_rfl) (by kernel_rfl) (by rfl) (fun K hK => ?_)
        go_simp
        refine hK _ ?_
        clear hK K
        first
          | (refine anyV_val 36 (Grows.pre) rfl (by kernel_rfl) (by kernel_rfl) (by kernel_rfl) (by rfl) (v := ?av33) (fun W hW => ?ay33) (fun K hK => ?ar33); case ay33 => (obtain ⟨⟨p0, p1, p2⟩, ⟨q0, q1, q2⟩, ⟨z0, z1, z2⟩, y0⟩ := HX W (Grows.pre.trans bb9' hW); go_simp; first | done | rfl))
          | refine anyV_skip 36 (Grows.pre) rfl (by kernel_rfl) (by kernel_rfl) (by kernel_rfl) (by rfl) (fun K hK => ?_)
        go_simp
        refine hK _ ?_
        clear hK K
        first
          | (refine anyV_val 37 (Grows.pre) rfl (by kernel_rfl) (by kernel_rfl) (by kernel_rfl) (by rfl) (v := ?av34) (fun W hW => ?ay34) (fun K hK => ?ar34); case ay34 => (obtain ⟨⟨p0, p1, p2⟩, ⟨q0, q1, q2⟩, ⟨z0, z1, z2⟩, y0⟩ := HX W (Grows.pre.trans bb9' hW); go_simp; first | done | rfl))
          | refine anyV_skip 37 (Grows.pre) rfl (by kernel_rfl) (by kernel_rfl) (by kernel_rfl) (by rfl) (fun K hK => ?_)
        go_simp
        refine hK _ ?_
        clear hK K
        refine anyV_only 32 rfl (by kernel_rfl) (by rfl) (fun K hK => ?_)
        go_simp
        refine (len_any q v ws w9 s9.fut (by omega)).mono ?_
        rintro e w10 ⟨rfl, bb10⟩
        have bb10' := Grows.pre.trans bb9' bb10
        have s10 := s9.below bb10
        refine ⟨_, rfl, hK _ _ bb10 ?_⟩
        clear hK K
        refine anyV_frame (fun K hK => ?_)
        go_simp
        refine hK _ ?_
        clear hK K
        first
          | (refine anyV_val 38 (Grows.pre) rfl (by kernel_rfl) (by kernel_rfl) (by kernel_rfl) (by rfl) (v := ?av35) (fun W hW => ?ay35) (fun K hK => ?ar35); case ay35 => (obtain ⟨⟨p0, p1, p2⟩, ⟨q0, q1, q2⟩, ⟨z0, z1, z2⟩, y0⟩ := HX W (Grows.pre.trans bb10' hW); go_simp; first | done | rfl))
          | refine anyV_skip 38 (Grows.pre) rfl (by kernel_rfl) (by kernel_rfl) (by kernel_rfl) (by rfl) (fun K hK => ?_)
        go_simp
        refine hK _ ?_
        clear hK K
        first
          | (refine anyV_val 39 (Grows.pre) rfl (by kernel_rfl) (by kernel_rfl) (by kernel_rfl) (by rfl) (v := ?av36) (fun W hW => ?ay36) (fun K hK => ?ar36); case ay36 => (obtain ⟨⟨p0, p1, p2⟩, ⟨q0, q1, q2⟩, ⟨z0, z1, z2⟩, y0⟩ := HX W (Grows.pre.trans bb10' hW); go_simp; first | done | rfl))
          | refine anyV_skip 39 (Grows.pre) rfl (by kernel_rfl) (by kernel_rfl) (by kernel_rfl) (by rfl) (fun K hK => ?_)
        go_simp
        refine hK _ ?_
        clear hK K
        first
          | (refine anyV_val 40 (Grows.pre) rfl (by kernel_rfl) (by kernel_rfl) (by kernel_rfl) (by rfl) (v := ?av37) (fun W hW => ?ay37) (fun K hK => ?ar37); case ay37 => (obtain ⟨⟨p0, p1, p2⟩, ⟨q0, q1, q2⟩, ⟨z0, z1, z2⟩, y0⟩ := HX W (Grows.pre.trans bb10' hW); go_simp; first | done | rfl))
          | refine anyV_skip 40 (Grows.pre) rfl (by kernel_rfl) (by kernel_rfl) (by kernel_rfl) (by rfl) (fun K hK => ?_)
        go_simp
        refine hK _ ?_
        clear hK K
        first
          | (refine anyV_val 41 (Grows.pre) rfl (by kernel_rfl) (by kernel_rfl) (by kernel_rfl) (by rfl) (v := ?av38) (fun W hW => ?ay38) (fun K hK => ?ar38); case ay38 => (obtain ⟨⟨p0, p1, p2⟩, ⟨q0, q1, q2⟩, ⟨z0, z1, z2⟩, y0⟩ := HX W (Grows.pre.trans bb10' hW); go_simp; first | done | rfl))
          | refine anyV_skip 41 (Grows.pre) rfl (by kernel_rfl) (by kernel_rfl) (by kernel_rfl) (by rfl) (fun K hK => ?_)
        go_simp
        refine hK _ ?_
        clear hK K
        first
          | (refine anyV_val 42 (Grows.pre) rfl (by kernel_rfl) (by kernel_rfl) (by kernel_rfl) (by rfl) (v := ?av39) (fun W hW => ?ay39) (fun K hK => ?ar39); case ay39 => (obtain ⟨⟨p0, p1, p2⟩, ⟨q0, q1, q2⟩, ⟨z0, z1, z2⟩, y0⟩ := HX W (Grows.pre.trans bb10' hW); go_simp; first | done | rfl))
          | refine anyV_skip 42 (Grows.pre) rfl (by kernel_rfl) (by kernel_rfl) (by kernel_rfl) (by rfl) (fun K hK => ?_)
        go_simp
        refine hK _ ?_
        clear hK K
        first
          | (refine anyV_val 43 (Grows.pre) rfl (by kernel_rfl) (by kernel_rfl) (by kernel_rfl) (by rfl) (v := ?av40) (fun W hW => ?ay40) (fun K hK => ?ar40); case ay40 => (obtain ⟨⟨p0, p1, p2⟩, ⟨q0, q1, q2⟩, ⟨z0, z1, z2⟩, y0⟩ := HX W (Grows.pre.trans bb10' hW); go_simp; first | done | rfl))
          | refine anyV_skip 43 (Grows.pre) rfl (by kernel_rfl) (by kernel_rfl) (by kernel_rfl) (by rfl) (fun K hK => ?_)
        go_simp
        refine hK _ ?_
        clear hK K
        first
          | (refine anyV_val 44 (Grows.pre) rfl (by kernel_rfl) (by kernel_rfl) (by kernel_rfl) (by rfl) (v := ?av41) (fun W hW => ?ay41) (fun K hK => ?ar41); case ay41 => (obtain ⟨⟨p0, p1, p2⟩, ⟨q0, q1, q2⟩, ⟨z0, z1, z2⟩, y0⟩ := HX W (Grows.pre.trans bb10' hW); go_simp; first | done | rfl))
          | refine anyV_skip 44 (Grows.pre) rfl (by kernel_rfl) (by kernel_rfl) (by kernel_rfl) (by rfl) (fun K hK => ?_)
        go_simp
        refine hK _ ?_
        clear hK K
        refine anyV_only 45 rfl (by kernel_rfl) (by rfl) (fun K hK => ?_)
        go_simp
        refine Calls.mono ((show ∀ w, _ from K7) w10) ?_
        rintro e w11 ⟨rfl, bb11⟩
        have bb11' := Grows.pre.trans bb10' bb11
        have s11 := s10.below bb11
        refine ⟨_, rfl, hK _ _ bb11 ?_⟩
        clear hK K
        refine anyV_frame (fun K hK => ?_)
        go_simp
        refine hK _ ?_
        clear hK K
        first
          | (refine anyV_val 46 (Grows.pre) rfl (by kernel_rfl) (by kernel_rfl) (by kernel_rfl) (by rfl) (v := ?av42) (fun W hW => ?ay42) (fun K hK => ?ar42); case ay42 => (go_simp; first | done | rfl))
          | refine anyV_skip 46 (Grows.pre) rfl (by kernel_rfl) (by kernel_rfl) (by kernel_rfl) (by rfl) (fun K hK => ?_)
        go_simp
        refine hK _ ?_
        clear hK K
        first
          | (refine anyV_val 47 (Grows.pre) rfl (by kernel_rfl) (by kernel_rfl) (by kernel_rfl) (by rfl) (v := ?av43) (fun W hW => ?ay43) (fun K hK => ?ar43); case ay43 => (go_simp; first | done | rfl))
          | refine anyV_skip 47 (Grows.pre) rfl (by kernel_rfl) (by kernel_rfl) (by kernel_rfl) (by rfl) (fun K hK => ?_)
        go_simp
        refine hK _ ?_
        clear hK K
        refine anyV_done (by kernel_rfl) ?_
        have g11 : Below w6.heap.size w6 w11 := below_undrew bb11'
        have b11 := b6.trans (g11.mono b6.size)
        have o11 := row_below o6 g11
        have h11 := g11.size
        clear bb7 bb8 bb9 bb10 bb11 bb8' bb9' bb10' bb11' s6 s7 s8 s9 s10 r67 r7 o7 ro8 ru8 rw6 o6 r6 ru6 g11 b6 HX K5 K7 tK tE bx6 by6 bo6
        have hw11 : w4.heap.size ≤ w11.heap.size := by omega
        obtain ⟨_, hr11, hc11⟩ := own_cells4 o11
        have lo11 : ∀ b, (Value.slice a5 ws.length c5).ownBlock = some b → w4.heap.size ≤ b := fun b hb => (o11.lt b hb).1
        have HP : Hid (∀ b off, a5 = some ⟨b, off, none⟩ → ∀ m, m < ws.length → ∃ v', w11.cell? ⟨b, off + m * 4, none⟩ = some v' ∧ w11.frozen? ⟨b, off + m * 4, none⟩ = false) := fun b off he m hm => by
          subst he
          refine ⟨_, (hr11.cells4 m hm).1, ?_⟩
          rcases o11.2 with ⟨h1, _⟩ | ⟨g, cp, cur, h1, _, h3, _⟩
          · injection h1 with h1; cases h1
          · injection h1 with h1; injection h1 with h1; injection h1 with h1 h2 _
            subst h1 h2
            simp only [World.frozen?, h3]
            simp
        clear o11 h11 h54 h64 hb0
        go_wp2_with fail
        go_loopw [167] (fun i wr => ∃ m : Nat, i = .int .i64 (m : Int) ∧ m ≤ ws.length ∧ Below w4.heap.size w11 wr ∧ Hid (∀ b off, a5 = some ⟨b, off, none⟩ → ∀ m, m < ws.length → ∃ v', wr.cell? ⟨b, off + m * 4, none⟩ = some v' ∧ wr.frozen? ⟨b, off + m * 4, none⟩ = false)) (fun i _ => ws.length - (intOf i).toNat)
        case atStart => exact ⟨0, rfl, Nat.zero_le _, Below.refl _ _, HP⟩
        case round =>
          clear HP
          obtain ⟨m, rfl, hm, hbm, HP⟩ := hrel
          by_cases hlm : m < ws.length
          · have t8 : decide ((m : Int) < ((ws.length : Nat) : Int)) = true := by simp; omega
            obtain ⟨_, h0 | ⟨b5, of5, rfl, hbn5, hlc5, hcm5, _⟩⟩ := id hr11
            · omega
            simp only [maxLen] at hcm5
            obtain ⟨zv, hz, hfz⟩ := (show ∀ b off, some (Addr.mk b5 of5 none) = some ⟨b, off, none⟩ → ∀ m, m < ws.length → ∃ v', wr.cell? ⟨b, off + m * 4, none⟩ = some v' ∧ wr.frozen? ⟨b, off + m * 4, none⟩ = false from HP) b5 of5 rfl m hlm
            have hlo5 := lo11 b5 rfl
            clear hr11 lo11 s11 b11
            go_wp2_with fail
            go_roundw
            case rel => exact ⟨m + 1, by go_num, by omega, hbm.setCell hlo5 _, fun b off he m' hm' => by
              obtain ⟨z', hz', hf'⟩ := (show ∀ b off, some (Addr.mk b5 of5 none) = some ⟨b, off, none⟩ → ∀ m, m < ws.length → ∃ v', wr.cell? ⟨b, off + m * 4, none⟩ = some v' ∧ wr.frozen? ⟨b, off + m * 4, none⟩ = false from HP) b off he m' hm'
              obtain ⟨z2, hz2⟩ := cell?_setCell_some (p := ⟨b5, of5 + m * 4, none⟩) (x := .int .i64 0) hz'
              exact ⟨z2, hz2, (World.frozen?_setCell _ _ _ _).trans hf'⟩⟩
            case measure => simp [intOf]; omega
          · have t8 : decide ((m : Int) < ((ws.length : Nat) : Int)) = false := by simp; omega
            have sF := s11.same (W' := wr) fun b hb => hbm.block b (l4 b hb)
            have bF := b11.trans (hbm.mono (by have := b4.size; omega))
            clear s11 b11 hr11 lo11 HP hbm
            go_wp2_with fail
            go_roundw
            case rel => exact ⟨j + 1, q, v, _, ws, by go_num, by omega, rfl, sF, hG, hL, bF⟩
            case measure => simp [intOf]; omega
end Go.Proofs.Ytdnhaappglbooaa
