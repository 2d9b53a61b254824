/- The walk of the law PipePlays. -/
import Derived.Test.YtcmcilfopkhipaaPipeOps
import Derived.Test.YtcmcilfopkhipaaDocPipe
import Derived.Deep.Cut
import Derived.Deep.CutRange
import Derived.Deep.CutBlock
namespace Go.Proofs.Ytcmcilfopkhipaa
open Go Go.RowKit
attribute [local go_sem] upV_value upV_skip upV_enter
set_option linter.unusedVariables false
set_option linter.unnecessarySimpa false
section
variable {W : World} {xb : Nat} {o : OpV}
theorem XAt.k0 (h : XAt W xb o) : W.cell? ⟨xb, 0, none⟩ = some (.int .i64 o.k) := by rw [cell_of_row W xb 0 _ _ _ h]; rfl
theorem XAt.k1 (h : XAt W xb o) : W.cell? ⟨xb, 1, none⟩ = some (.slice o.a o.len o.cap) := by rw [cell_of_row W xb 1 _ _ _ h]; rfl
end
theorem IsDP.ringTo {W B : World} {n₀ P d m g m' : Nat} {bs bs' : List Int} {rd ws : Nat} (h : IsDP W n₀ P d m bs rd ws) (hI : IsRing W g m' bs') (hw : Wr (· = g) (· = g) W B) (h1 : g ≠ P) (h2 : g ≠ d) : IsDP B n₀ P d m bs rd ws := by
  obtain ⟨f, first, hR, _⟩ := hI
  exact h.wrTo hw fun b hb => by subst hb; exact ⟨h1, h2, _, _, _, hR, by decide⟩
theorem IsDP.pipeTo {W B : World} {n₀ P d m p g : Nat} {bs : List Int} {rd ws a b : Nat} (h : IsDP W n₀ P d m bs rd ws) (hI : PipeAt W p g a b) (hw : Wr (· = p) (· = p) W B) (h1 : p ≠ P) (h2 : p ≠ d) : IsDP B n₀ P d m bs rd ws :=
  h.wrTo hw fun b hb => by subst hb; exact ⟨h1, h2, _, _, _, hI, by decide⟩
set_option maxRecDepth 100000 in
set_option maxHeartbeats 8000000 in
theorem pipePlays_any (w : World) (st : StV) (a1 : Option Addr) (l1 c1 : Nat) (o1 : List OpV) (hst : IsSt w.heap.size w st) (h1 : IsOps w.heap.size w a1 l1 c1 o1) :
    Calls Try.prog 7 #[.agg #[.int .i64 st.c, .slice st.a st.len st.cap, .int .i64 st.rd, .int .i64 st.wr], .slice a1 l1 c1] w fun e w' => e = .returned (.bool true) ∧ Below w.heap.size w w' := by
  have s1 := h1.small
  obtain ⟨W0, hW0⟩ : ∃ W0, W0 = w.alloc (.cells #[.int .i64 st.c, .slice st.a st.len st.cap, .int .i64 st.rd, .int .i64 st.wr] 36) := ⟨_, rfl⟩
  have hX0 : StAt W0 w.heap.size st := by rw [hW0]; exact World.alloc_heap_new w _
  have b0 : Below w.heap.size w W0 := by rw [hW0]; exact (Below.refl _ w).alloc (Nat.le_refl _) _
  have hxl : st.cap ≤ 9223372036854775807 ∧ st.len ≤ st.cap ∨ st.len = 0 := by
    rcases hst.row.1 with ⟨_, _, h, _⟩ | ⟨_, _, _, h, _, h5, h6, _⟩
    · injection h with e1 e2 e3; exact .inr e2
    · injection h with e1 e2 e3; simp only [maxLen] at h6; left; omega
  go_enter Try.func7, Try.ntmps7
  go_wp2_with (go_at_call 14; refine held ?_)
  unfold Held
  rw [← hW0]
  obtain ⟨sb, hsb⟩ : ∃ sb, sb = w.heap.size := ⟨_, rfl⟩
  rw [← hsb] at hX0 ⊢
  have hsl := hX0.lt
  have hsbw : w.heap.size ≤ sb := by omega
  clear hW0 hsb
  refine (great_any _ W0 a1 l1 c1 o1 (h1.below b0)).mono ?_
  rintro e w2 ⟨rfl, ⟨rfl, hl1, hk1⟩ | rfl⟩
  rotate_left
  · go_wp2
    go_ret
    exact ⟨rfl, b0⟩
  have y0 := hX0.c0
  have y1 := hX0.c1
  have y2 := hX0.c2
  have y3 := hX0.c3
  have hsr := (hst.row.below b0).mono b0.size
  obtain ⟨sc, sa, slen, scap, sxs, srd, swr⟩ := st
  simp only at y0 y1 y2 y3 hxl hsr
  by_cases hl : slen ≤ 200
  rotate_left
  · have t1 : decide ((200 : Int) < (slen : Int)) = true := by simp; omega
    go_wp2
    go_ret
    exact ⟨rfl, b0⟩
  have t1 : decide ((200 : Int) < (slen : Int)) = false := by simp; omega
  go_wp2_with (go_at_call 15; refine held ?_)
  unfold Held
  refine (pof_any sc sa slen scap sxs srd swr W0 hsr (by omega)).mono ?_
  rintro e w2 ⟨hbo, hcase⟩
  have hX2 : StAt w2 sb _ := hX0.same (hbo.block _ hsl)
  have b2 := b0.trans (hbo.mono b0.size)
  have z0 := hX2.c0
  have z1 := hX2.c1
  have z2 := hX2.c2
  have z3 := hX2.c3
  simp only at z0 z1 z2 z3
  have hsr2 := (hsr.below hbo).mono hbo.size
  have kdoc := dpOf_any sc sa slen scap sxs srd swr w2 hsr2 (by omega)
  clear y0 y1 y2 y3 hX0 hsr hsr2 hst hsl
  rcases hcase with ⟨g1, g2, g3, g4, g5, g6, g7, g8, p, g, rfl, hP, hpw, hgw⟩ | ⟨hno, rfl⟩ | ⟨hok, hno, rfl⟩
  rotate_left
  · go_wp2_with (go_at_call 25; refine held ?_)
    unfold Held
    refine kdoc.mono ?_
    rintro e w4 ⟨b4, ⟨g1, g2, g3, _⟩ | ⟨_, rfl⟩ | ⟨⟨g1, g2, g3⟩, _⟩⟩
    · exact absurd ⟨g1, g2, g3⟩ hno
    · go_wp2
      go_ret
      exact ⟨rfl, b2.trans (b4.mono b2.size)⟩
    · exact absurd ⟨g1, g2, g3⟩ hno
  · go_wp2_with (go_at_call 25; refine held ?_)
    unfold Held
    refine kdoc.mono ?_
    rintro e w4 ⟨b4, ⟨g1, g2, g3, g4, g5, g6, g7, g8, _⟩ | ⟨hno2, _⟩ | ⟨_, _, rfl⟩⟩
    · exact absurd ⟨g4, g5, g6, g7, g8⟩ hno
    · exact absurd hok hno2
    · go_wp2
      go_ret
      exact ⟨rfl, b2.trans (b4.mono b2.size)⟩
  go_wp2_with (go_at_call 25; refine held ?_)
  unfold Held
  refine kdoc.mono ?_
  rintro e w4 ⟨b4, ⟨_, _, _, _, _, _, _, _, P, d, rfl, hD⟩ | ⟨hno2, _⟩ | ⟨_, hno2, _⟩⟩
  rotate_left
  · exact absurd ⟨g1, g2, g3⟩ hno2
  · exact absurd ⟨g4, g5, g6, g7, g8⟩ hno2
  have hP4 := hP.below b4
  have b5 := b2.trans (b4.mono b2.size)
  have hpP : p ≠ P := by have := hD.low; have := hP.lt.1; omega
  have hpd : p ≠ d := by have := hD.ring.1; have := hP.lt.1; omega
  have hgP : g ≠ P := by have := hD.low; have := hP.lt.2; omega
  have hgd : g ≠ d := by have := hD.ring.1; have := hP.lt.2; omega
  have hpw : w.heap.size ≤ p := Nat.le_trans b0.size hpw
  have hgw : w.heap.size ≤ g := Nat.le_trans b0.size hgw
  have hD4 : IsDP w4 w.heap.size P d sc.toNat sxs srd.toNat swr.toNat := ⟨hD.at_, ⟨Nat.le_trans b2.size hD.ring.1, (hD.ring.mono b2.size).2⟩, hD.ne, Nat.le_trans b2.size hD.low, hD.rd64, hD.wr64⟩
  have hS4 : w4.cell? ⟨sb, 0, none⟩ = some (.int .i64 sc) := (hX2.same (b4.block _ hX2.lt) : StAt w4 sb _).c0
  obtain ⟨m, hm⟩ : ∃ m : Nat, sc = (m : Int) := ⟨sc.toNat, by omega⟩
  subst hm
  rw [Int.toNat_natCast] at hP4 hD4
  obtain ⟨rd, hrd⟩ : ∃ rd, rd = srd.toNat := ⟨_, rfl⟩
  obtain ⟨ws, hwr⟩ : ∃ ws, ws = swr.toNat := ⟨_, rfl⟩
  rw [← hrd, ← hwr] at hP4 hD4
  have hsP : sb ≠ P ∧ sb ≠ d ∧ sb ≠ p ∧ sb ≠ g := by
    have h5 := hD4.at_
    have h6 : w4.heap[sb]? = _ := (hX2.same (b4.block _ hX2.lt) : StAt w4 sb _)
    have h7 := hP4.at_
    obtain ⟨_, _, _, _, v, h8, _⟩ := hD4.ring
    obtain ⟨f, first, h9, _⟩ := hP4.ring
    refine ⟨fun e => ?_, fun e => ?_, fun e => ?_, fun e => ?_⟩
    · subst e; rw [show w4.heap[sb]? = _ from h5] at h6; injection h6 with h6; injection h6 with _ h6; exact absurd h6 (by decide)
    · subst e; rw [show w4.heap[sb]? = _ from h8] at h6; injection h6 with h6; injection h6 with _ h6; exact absurd h6 (by decide)
    · subst e; rw [show w4.heap[sb]? = _ from h7] at h6; injection h6 with h6; injection h6 with _ h6; exact absurd h6 (by decide)
    · subst e; rw [show w4.heap[sb]? = _ from h9] at h6; injection h6 with h6; injection h6 with _ h6; exact absurd h6 (by decide)
  obtain ⟨hsP, hsd, hsp, hsg⟩ := hsP
  clear hrd hwr hX2 hbo b4 hP hD kdoc z0 z1 z2 z3 b0 b2
  go_wp2_with fail
  go_loopw [5, 76] (fun r i wr => ∃ (k p g : Nat) (bs : List Int) (rd ws : Nat), i = .int .i64 (k : Int) ∧ k ≤ l1 ∧ r = .pointer (some ⟨p, 0, none⟩) ∧ w.heap.size ≤ p ∧ w.heap.size ≤ g ∧ p ≠ P ∧ p ≠ d ∧ g ≠ P ∧ g ≠ d ∧ sb ≠ p ∧ sb ≠ g ∧ IsPipe wr p g m bs rd ws ∧ IsDP wr w.heap.size P d m bs rd ws ∧ wr.cell? ⟨sb, 0, none⟩ = some (.int .i64 (m : Int)) ∧ Below w.heap.size w wr) (fun _ i _ => l1 - (intOf i).toNat)
  case atStart => exact ⟨0, p, g, sxs, rd, ws, rfl, Nat.zero_le _, rfl, hpw, hgw, hpP, hpd, hgP, hgd, hsp, hsg, hP4, hD4, hS4, b5⟩
  case round =>
    clear hP4 hD4 hS4 b5 hgw hpw hpP hpd hgP hgd hsp hsg
    obtain ⟨k, p, g, bs, rd, ws, rfl, hk, rfl, hpw, hgw, hpP, hpd, hgP, hgd, hsp, hsg, hPr, hDr, hSr, hbr⟩ := hrel
    by_cases hlt : k < l1
    rotate_left
    · have t3 : decide ((k : Int) < (l1 : Int)) = false := by simp; omega
      go_wp2_with fail
      go_ret
      exact ⟨rfl, hbr⟩
    have t3 : decide ((k : Int) < (l1 : Int)) = true := by simp; omega
    obtain ⟨hol, h0 | ⟨b, off, rfl, hbl, h3, h4, hc⟩⟩ := h1.below hbr
    · omega
    obtain ⟨x1, x2, x3, x4, ho⟩ := hc k (by omega)
    have hol3 := hk1 _ (List.getElem_mem (by omega : k < o1.length))
    obtain ⟨o, he⟩ : ∃ o, o = o1[k] := ⟨_, rfl⟩
    rw [← he] at x1 x2 x3 x4 ho hol3
    have hyl : o.cap ≤ 9223372036854775807 ∧ o.len ≤ o.cap ∨ o.len = 0 := by
      rcases ho.row.1 with ⟨_, _, h, _⟩ | ⟨_, _, _, h, _, h5, h6, _⟩
      · injection h with e1 e2 e3; exact .inr e2
      · injection h with e1 e2 e3; simp only [maxLen] at h6; left; omega
    clear hc he
    go_upto_block 2 with fail
    obtain ⟨W1, hW1⟩ : ∃ W1, W1 = wr.alloc (.cells #[.int .i64 o.k, .slice o.a o.len o.cap, .int .i64 o.n, .bool o.w] 39) := ⟨_, rfl⟩
    have hX : XAt W1 wr.heap.size o := by rw [hW1]; exact World.alloc_heap_new wr _
    have bW : Below wr.heap.size wr W1 := by rw [hW1]; exact (Below.refl _ wr).alloc (Nat.le_refl _) _
    have hP1 := hPr.below bW
    have hD1 := hDr.below bW
    have hb1 := hbr.trans (bW.mono hbr.size)
    have hsl := World.block_lt_of_cell? wr _ hSr
    have hS1 : W1.cell? ⟨sb, 0, none⟩ = some (.int .i64 (m : Int)) := cell_same (p := ⟨sb, 0, none⟩) (bW.block sb hsl) hSr
    have hlp := hPr.lt.1
    have hlg := hPr.lt.2
    have hlP := hDr.lt.1
    have hld := hDr.lt.2
    have hxw := hbr.size
    have hro := ho.row.below (bW.mono hxw)
    rw [← hW1]
    obtain ⟨xb, hxb⟩ : ∃ xb, xb = wr.heap.size := ⟨_, rfl⟩
    rw [← hxb] at hX hlp hlg hlP hld hxw hsl ⊢
    simp only at hsl
    obtain ⟨ok, oa, olen, ocap, obs, on, ow⟩ := o
    simp only at hyl hol3 hro
    clear hW1 hxb hPr hDr hSr hbr bW ho x1 x2 x3 x4
    have hXl := hX.lt
    have e0 := hX.k0
    have e1 := hX.k1
    have e2 := hX.c2
    have e3 := hX.c3
    have hgo : ¬ blockOf (.slice oa olen ocap) g := fun h => by have := hro.lt g h; omega
    have hro1 := hro.mono hb1.size
    go_cut [5, 11, 12, 13, 14, 15, 16, 17, 18, 19, 20, 21, 22, 23, 24, 25, 26, 27, 28, 29] from 85 to 270 (fun r fine _ _ _ _ _ _ _ _ _ _ _ _ _ _ _ _ _ _ wx => ∃ (p g : Nat) (bs : List Int) (rd ws : Nat), r = .pointer (some ⟨p, 0, none⟩) ∧ fine = .bool true ∧ w.heap.size ≤ p ∧ w.heap.size ≤ g ∧ p ≠ P ∧ p ≠ d ∧ g ≠ P ∧ g ≠ d ∧ sb ≠ p ∧ sb ≠ g ∧ IsPipe wx p g m bs rd ws ∧ IsDP wx w.heap.size P d m bs rd ws ∧ wx.cell? ⟨sb, 0, none⟩ = some (.int .i64 (m : Int)) ∧ Below w.heap.size w wx)
    case first =>
      by_cases d0 : ok = 0
      · subst d0
        as_aux_lemma =>
          obtain ⟨A, hA⟩ : ∃ A, A = (writeR m bs rd ws olen).1 := ⟨_, rfl⟩
          obtain ⟨B, hB⟩ : ∃ B, B = (writeR m bs rd ws olen).2.1 := ⟨_, rfl⟩
          obtain ⟨C, hC⟩ : ∃ C, C = (writeR m bs rd ws olen).2.2 := ⟨_, rfl⟩
          have kw := pwrite_any W1 p g m bs rd ws hP1 oa olen ocap obs hro1 hgo (by omega)
          have kd : ∀ V, IsDP V w.heap.size P d m bs rd ws → Below w.heap.size W1 V → Calls Try.prog 26 #[.pointer (some ⟨P, 0, none⟩), .slice oa olen ocap] V fun e W' => e = .returned (.tuple #[.int .i64 A, .int .i64 B, .int .i64 C]) ∧ IsDP W' w.heap.size P d m (writeBs m bs rd ws obs) rd ws ∧ Wr (· = d) (· = d) V W' := fun V hV hB2 => by
            rw [hA, hB, hC]
            exact dpWrite_any V w.heap.size P d m bs rd ws hV oa olen ocap obs ((hro.below hB2).mono (Nat.le_trans hb1.size hB2.size)) (by omega)
          rw [← hA, ← hB, ← hC] at kw
          clear hA hB hC
          try dsimp only
          go_wp2_with (go_at_call 11; refine held ?_)
          unfold Held
          refine kw.mono ?_
          rintro e w2 ⟨rfl, hP2, hw2⟩
          have hb2 := below_of_wr hw2 hgw hb1.size
          have hD2 := hD1.ringTo hP1.ring hw2 hgP hgd
          have f1 := (hX.same (hw2.block xb hX.lt (by omega)) : XAt w2 xb _).k1
          have hS2 := cell_same (p := ⟨sb, 0, none⟩) (hw2.block sb (by omega) (by omega)) hS1
          have hs2 := hw2.size
          clear e0 e1 e2 e3 hX kw
          try dsimp only
          go_wp2_with (go_at_call 26; refine held ?_)
          unfold Held
          refine (kd w2 hD2 hb2).mono ?_
          rintro e w3 ⟨rfl, hD3, hw3⟩
          have hP3 := hP2.same (hw3.block p hP2.lt.1 (by omega)) (hw3.block g hP2.lt.2 (by omega))
          have hS3 := cell_same (p := ⟨sb, 0, none⟩) (hw3.block sb (by omega) (by omega)) hS2
          have hb3 := (hb1.trans hb2).trans (below_of_wr hw3 hD2.ring.1 (hb1.trans hb2).size)
          clear kd hP2 hD2 f1
          try dsimp only
          go_wp2_with fail
          go_meet
          exact ⟨p, g, _, rd, ws, rfl, rfl, hpw, hgw, hpP, hpd, hgP, hgd, hsp, hsg, hP3, hD3, hS3, hb3⟩
      have u0 : (ok == 0) = false := by simpa using d0
      by_cases d1 : ok = 1
      · subst d1
        as_aux_lemma =>
          obtain ⟨B, hB⟩ : ∃ B, B = (readR bs rd ws on).2.1 := ⟨_, rfl⟩
          obtain ⟨C, hC⟩ : ∃ C, C = (readR bs rd ws on).2.2 := ⟨_, rfl⟩
          obtain ⟨ts, hts⟩ : ∃ ts, ts = (readR bs rd ws on).1 := ⟨_, rfl⟩
          have kr := pread_any W1 p g m bs rd ws hP1 on
          have kd : ∀ V, IsDP V w.heap.size P d m bs rd ws → Calls Try.prog 27 #[.pointer (some ⟨P, 0, none⟩), .int .i64 on] V fun e W' => ∃ v, e = .returned (.tuple #[v, .int .i64 B, .int .i64 C]) ∧ W'.ownsRow V.heap.size 5 1 v ts.length (ts.map (Value.int .u8)) ∧ IsDP W' w.heap.size P d m (readBs bs rd on) rd ws ∧ Wr (· = d) (· = d) V W' := fun V hV => by
            rw [hB, hC, hts]
            exact dpRead_any V w.heap.size P d m bs rd ws hV on
          rw [← hB, ← hC, ← hts] at kr
          clear hB hC hts
          try dsimp only
          go_wp2_with (go_at_call 12; refine held ?_)
          unfold Held
          refine kr.mono ?_
          rintro e w2 ⟨v2, rfl, hv2, hP2, hw2⟩
          have hb2 := below_of_wr hw2 hgw hb1.size
          have hD2 := hD1.ringTo hP1.ring hw2 hgP hgd
          have f1 := (hX.same (hw2.block xb hX.lt (by omega)) : XAt w2 xb _).c2
          have hS2 := cell_same (p := ⟨sb, 0, none⟩) (hw2.block sb (by omega) (by omega)) hS1
          have hs2 := hw2.size
          clear e0 e1 e2 e3 hX kr
          try dsimp only
          go_wp2_with (go_at_call 27; refine held ?_)
          unfold Held
          refine (kd w2 hD2).mono ?_
          rintro e w3 ⟨v3, rfl, hv3, hD3, hw3⟩
          have hP3 := hP2.same (hw3.block p hP2.lt.1 (by omega)) (hw3.block g hP2.lt.2 (by omega))
          have hS3 := cell_same (p := ⟨sb, 0, none⟩) (hw3.block sb (by omega) (by omega)) hS2
          have hb3 := (hb1.trans hb2).trans (below_of_wr hw3 hD2.ring.1 (hb1.trans hb2).size)
          have cv2 := OwnBytes.conv (ownsRow_same hv2 fun b hb => hw3.block b (hv2.lt b hb).2 (show ¬ b = d by have := (hv2.lt b hb).1; omega))
          have cv3 := OwnBytes.conv hv3
          clear kd hP2 hD2 f1 hv2 hv3
          try dsimp only
          go_wp2_with fail
          go_meet
          exact ⟨p, g, _, rd, ws, rfl, rfl, hpw, hgw, hpP, hpd, hgP, hgd, hsp, hsg, hP3, hD3, hS3, hb3⟩
      have u1 : (ok == 1) = false := by simpa using d1
      by_cases d2 : ok = 2
      · subst d2
        as_aux_lemma =>
          try dsimp only
          go_wp2_with (go_at_call 20; refine held ?_)
          unfold Held
          refine (open_pipe_any W1 p g m bs rd ws hP1 ow).mono ?_
          rintro e w2 (⟨hq, rfl, rfl⟩ | ⟨hq1, hq2, rfl, hP2, hw2⟩)
          · try dsimp only
            go_wp2_with (go_at_call 28; refine held ?_)
            unfold Held
            refine (dpOpen_any _ w.heap.size P d m bs rd ws hD1 ow).mono ?_
            rintro e w3 (⟨_, rfl, rfl⟩ | ⟨hq1, hq2, _⟩)
            rotate_left
            · omega
            try dsimp only
            go_wp2_with fail
            go_meet
            exact ⟨p, g, bs, rd, ws, rfl, rfl, hpw, hgw, hpP, hpd, hgP, hgd, hsp, hsg, hP1, hD1, hS1, hb1⟩
          · have hb2 := below_of_wr hw2 hpw hb1.size
            have hD2 := hD1.pipeTo hP1.at_ hw2 hpP hpd
            have f1 := (hX.same (hw2.block xb hX.lt (by omega)) : XAt w2 xb _).c3
            have hS2 := cell_same (p := ⟨sb, 0, none⟩) (hw2.block sb (by omega) (by omega)) hS1
            have hs2 := hw2.size
            clear e0 e1 e2 e3 hX
            try dsimp only
            go_wp2_with (go_at_call 28; refine held ?_)
            unfold Held
            refine (dpOpen_any w2 w.heap.size P d m bs rd ws hD2 ow).mono ?_
            rintro e w3 (⟨hq, _⟩ | ⟨_, _, rfl, hD3, hw3⟩)
            · omega
            have hP3 := hP2.same (hw3.block p hP2.lt.1 (by omega)) (hw3.block g hP2.lt.2 (by omega))
            have hS3 := cell_same (p := ⟨sb, 0, none⟩) (hw3.block sb (by omega) (by omega)) hS2
            have hb3 := (hb1.trans hb2).trans (below_of_wr hw3 hD2.low (hb1.trans hb2).size)
            clear hP2 hD2 f1
            try dsimp only
            go_wp2_with fail
            go_meet
            exact ⟨p, g, bs, _, _, rfl, rfl, hpw, hgw, hpP, hpd, hgP, hgd, hsp, hsg, hP3, hD3, hS3, hb3⟩
      have u2 : (ok == 2) = false := by simpa using d2
      by_cases d3 : ok = 3
      · subst d3
        as_aux_lemma =>
          obtain ⟨G, hG⟩ : ∃ G, G = decide (cnt rd ws ow = 1) := ⟨_, rfl⟩
          have kc := close_pipe_any W1 p g m bs rd ws hP1 ow
          have kd : ∀ V, IsDP V w.heap.size P d m bs rd ws → Calls Try.prog 29 #[.pointer (some ⟨P, 0, none⟩), .bool ow] V (fun e W' => ((cnt rd ws ow = 0 ∧ e = .returned (.tuple #[.bool false, .int .i64 90]) ∧ V = W') ∨
       (0 < cnt rd ws ow ∧ e = .returned (.tuple #[.bool G, .int .i64 0]) ∧ IsDP W' w.heap.size P d m bs (if ow then rd else rd - 1) (if ow then ws - 1 else ws) ∧ Wr (· = P) (· = P) V W'))) := fun V hV => by
            rw [hG]
            exact dpClose_any V w.heap.size P d m bs rd ws hV ow
          rw [← hG] at kc
          clear hG
          try dsimp only
          go_wp2_with (go_at_call 13; refine held ?_)
          unfold Held
          refine kc.mono ?_
          rintro e w2 (⟨hq, rfl, rfl⟩ | ⟨hq1, rfl, hP2, hw2⟩)
          · try dsimp only
            go_wp2_with (go_at_call 29; refine held ?_)
            unfold Held
            refine (kd _ hD1).mono ?_
            rintro e w3 (⟨_, rfl, rfl⟩ | ⟨hq1, _⟩)
            rotate_left
            · omega
            clear kc kd
            try dsimp only
            go_wp2_with fail
            go_meet
            exact ⟨p, g, bs, rd, ws, rfl, rfl, hpw, hgw, hpP, hpd, hgP, hgd, hsp, hsg, hP1, hD1, hS1, hb1⟩
          · have hb2 := below_of_wr hw2 hpw hb1.size
            have hD2 := hD1.pipeTo hP1.at_ hw2 hpP hpd
            have f1 := (hX.same (hw2.block xb hX.lt (by omega)) : XAt w2 xb _).c3
            have hS2 := cell_same (p := ⟨sb, 0, none⟩) (hw2.block sb (by omega) (by omega)) hS1
            have hs2 := hw2.size
            clear e0 e1 e2 e3 hX kc
            try dsimp only
            go_wp2_with (go_at_call 29; refine held ?_)
            unfold Held
            refine (kd w2 hD2).mono ?_
            rintro e w3 (⟨hq, _⟩ | ⟨_, rfl, hD3, hw3⟩)
            · omega
            have hP3 := hP2.same (hw3.block p hP2.lt.1 (by omega)) (hw3.block g hP2.lt.2 (by omega))
            have hS3 := cell_same (p := ⟨sb, 0, none⟩) (hw3.block sb (by omega) (by omega)) hS2
            have hb3 := (hb1.trans hb2).trans (below_of_wr hw3 hD2.low (hb1.trans hb2).size)
            clear hP2 hD2 f1 kd
            try dsimp only
            go_wp2_with fail
            go_meet
            exact ⟨p, g, bs, _, _, rfl, rfl, hpw, hgw, hpP, hpd, hgP, hgd, hsp, hsg, hP3, hD3, hS3, hb3⟩
      have u3 : (ok == 3) = false := by simpa using d3
      by_cases d4 : ok = 4
      · subst d4
        as_aux_lemma =>
          have kc := fun (w : World) (C : Array Value) (n c : Nat) => Lib.run_convert_bytes_const (P := Try.prog) w 22 5 C n c Try.underlying22 Try.underlying5
          try dsimp only
          go_wp2_with (go_at_call 22; refine held ?_)
          unfold Held
          refine (pcopy_any W1 p g m bs rd ws hP1).mono ?_
          rintro e w2 ⟨p', g', rfl, hQ2, hp', hg', hb2⟩
          have hP2 := hP1.below hb2
          have hD2 := hD1.below hb2
          have hS2 := cell_same (p := ⟨sb, 0, none⟩) (hb2.block sb (by omega)) hS1
          have hb2' := hb1.trans (hb2.mono hb1.size)
          have hw1 := hb1.size
          clear e0 e1 e2 e3 hX hro hro1 hgo hP1 hD1 hS1
          have hr5 := Row8.built w2 5 (1, 2) [120] (by decide) (by decide) #[.int .u8 120] rfl 1 rfl
          obtain ⟨w5, hw5⟩ : ∃ w5, w5 = w2.alloc (.cells #[.int .u8 120] 5 (1, 2)) := ⟨_, rfl⟩
          have b5 : Below w2.heap.size w2 w5 := by rw [hw5]; exact (Below.refl _ w2).alloc (Nat.le_refl _) _
          have hP5 := hP2.below b5
          have hQ5 := hQ2.below b5
          have hD5 := hD2.below b5
          have hs25 := b5.size
          have hs12 := hb2.size
          have hS5 := cell_same (p := ⟨sb, 0, none⟩) (b5.block sb (by omega)) hS2
          have hb5 := hb2'.trans (b5.mono hb2'.size)
          have hlp2 := hP2.lt
          rw [← hw5] at hr5
          have kw := pwrite_any w5 p g m bs rd ws hP5 _ _ _ _ hr5 (by rintro ⟨_, h⟩; simp at h; omega) (by decide)
          clear hP2 hQ2 hD2 hS2
          try dsimp only
          go_wp2_with (go_at_call 11; refine held ?_)
          unfold Held
          rw [← hw5]
          refine kw.mono ?_
          rintro e w6 ⟨rfl, hP6, hw6⟩
          have hQ6 := hQ5.same (hw6.block p' hQ5.lt.1 (by omega)) (hw6.block g' hQ5.lt.2 (by omega))
          have hD6 := hD5.ringTo hP5.ring hw6 hgP hgd
          have hS6 := cell_same (p := ⟨sb, 0, none⟩) (hw6.block sb (by omega) (by omega)) hS5
          have hb6 := hb5.trans (below_of_wr hw6 hgw hb5.size)
          have hs6 := hw6.size
          clear hP5 hQ5 hD5 hS5 kw hr5 hw5 kc
          try dsimp only
          go_wp2_with (go_at_call 12; refine held ?_)
          unfold Held
          refine (pread_any w6 p g m _ rd ws hP6 2).mono ?_
          rintro e w7 ⟨v7, rfl, hv7, hP7, hw7⟩
          have hQ7 := hQ6.same (hw7.block p' hQ6.lt.1 (by omega)) (hw7.block g' hQ6.lt.2 (by omega))
          have hD7 := hD6.ringTo hP6.ring hw7 hgP hgd
          have hS7 := cell_same (p := ⟨sb, 0, none⟩) (hw7.block sb (by omega) (by omega)) hS6
          have hb7 := hb6.trans (below_of_wr hw7 hgw hb6.size)
          have hs7 := hw7.size
          clear hP6 hQ6 hD6 hS6 hv7
          try dsimp only
          go_wp2_with (go_at_call 13; refine held ?_)
          unfold Held
          have kcl : Calls Try.prog 13 #[.pointer (some ⟨p, 0, none⟩), .bool true] w7 fun e W' => ∃ v, e = .returned v ∧ Wr (· = p) (· = p) w7 W' := (close_pipe_any w7 p g m _ rd ws hP7 true).mono fun e W' h => by
            rcases h with ⟨_, rfl, rfl⟩ | ⟨_, rfl, _, hw⟩
            · exact ⟨_, rfl, Wr.refl _ _⟩
            · exact ⟨_, rfl, hw⟩
          refine kcl.mono ?_
          rintro e w8 ⟨v8, rfl, hw8⟩
          have hQ8 := hQ7.same (hw8.block p' hQ7.lt.1 (by omega)) (hw8.block g' hQ7.lt.2 (by omega))
          have hD8 := hD7.pipeTo hP7.at_ hw8 hpP hpd
          have hS8 := cell_same (p := ⟨sb, 0, none⟩) (hw8.block sb (by omega) (by omega)) hS7
          have hb8 := hb7.trans (below_of_wr hw8 hpw hb7.size)
          clear kcl hP7 hQ7 hD7 hS7
          try dsimp only
          go_wp2_with fail
          go_meet
          exact ⟨p', g', bs, rd, ws, rfl, rfl, by omega, by omega, by omega, by omega, by omega, by omega, by omega, by omega, hQ8, hD8, hS8, hb8⟩
      have u4 : (ok == 4) = false := by simpa using d4
      as_aux_lemma =>
        try dsimp only
        go_wp2_with fail
        go_meet
        exact ⟨p, g, bs, rd, ws, rfl, rfl, hpw, hgw, hpP, hpd, hgP, hgd, hsp, hsg, hP1, hD1, hS1, hb1⟩
    case rest =>
      clear hP1 hD1 hb1 hX hro hro1 hgo e0 e1 e2 e3 hS1
      clear hpw hgw hpP hpd hgP hgd hsp hsg
      obtain ⟨p, g, bs, rd, ws, rfl, rfl, hpw, hgw, hpP, hpd, hgP, hgd, hsp, hsg, hP, hD, hS, hb⟩ := hcut
      go_upto_region 36 with fail
      have hbw := hb.size
      have hDD := hD.ring
      obtain ⟨_, _, _, _, v, hDA, hown⟩ := hDD
      have cvd : ∀ W, Grows wc.drew W → (convert 22 9 v).run Try.prog W = .ok (.string (strOfNums bs)) W := fun W hW => OwnBytes.conv (ownsRow_same hown fun b hb => hW.block b (hown.lt b hb).2)
      obtain ⟨va, vc, rfl, _⟩ := ownsRow_slice hown
      have hSl := World.block_lt_of_cell? wc _ hS
      have HX : Hid (∀ W, Grows wc.drew W → W.cell? ⟨P, 0, none⟩ = some (.pointer (some ⟨d, 0, none⟩)) ∧ W.cell? ⟨P, 1, none⟩ = some (.int .i64 rd) ∧ W.cell? ⟨P, 2, none⟩ = some (.int .i64 ws) ∧ W.cell? ⟨d, 1, none⟩ = some (.slice va bs.length vc) ∧ W.cell? ⟨sb, 0, none⟩ = some (.int .i64 (m : Int))) := fun W hW => by
        have h5 : DPAt W P d rd ws := hD.at_.same (hW.block P hD.at_.lt)
        have h6 : DocAt W d m (.slice va bs.length vc) := hDA.same (hW.block d hDA.lt)
        exact ⟨h5.cell 0 _ rfl, h5.cell 1 _ rfl, h5.cell 2 _ rfl, h6.cell 1 _ rfl, cell_same (p := ⟨sb, 0, none⟩) (hW.block sb hSl) hS⟩
      have hPd : IsPipe wc.drew p g m bs rd ws := hP.same rfl rfl
      obtain ⟨R1, hR1⟩ : ∃ R, R = (decide (0 < cnt rd ws true) && !waitsB m bs rd ws true) := ⟨_, rfl⟩
      obtain ⟨R2, hR2⟩ : ∃ R, R = (decide (0 < cnt rd ws false) && !waitsB m bs rd ws false) := ⟨_, rfl⟩
      have k1 := fun W (h : IsPipe W p g m bs rd ws) => ready_any W p g m bs rd ws h true
      have k2 := fun W (h : IsPipe W p g m bs rd ws) => ready_any W p g m bs rd ws h false
      have k3 := fun W (h : IsDP W w.heap.size P d m bs rd ws) => dpReady_any W w.heap.size P d m bs rd ws h true
      have k4 := fun W (h : IsDP W w.heap.size P d m bs rd ws) => dpReady_any W w.heap.size P d m bs rd ws h false
      rw [← hR1] at k1 k3
      rw [← hR2] at k2 k4
      clear hR1 hR2
      obtain ⟨Gn, hGn⟩ : ∃ G, G = decide (rd = 0 ∧ ws = 0) := ⟨_, rfl⟩
      have k5 := fun W (h : IsPipe W p g m bs rd ws) => gone_any W p g m bs rd ws h
      rw [← hGn] at k5
      by_cases hz : rd = 0
      · subst hz
        have hG0 : ((ws : Int) == 0) = Gn := by rw [hGn]; by_cases e : ws = 0 <;> simp [e]
        clear hGn
        as_aux_lemma =>
          refine wp_region_anyV Grows (by kernel_rfl) 72 rfl ?_
          first
            | (refine anyV_val 0 (Grows.pre) rfl (by kernel_rfl) (by kernel_rfl) (by kernel_rfl) (by rfl) (v := ?av1) (fun W hW => ?ay1) (fun K hK => ?ar1); case ay1 => (obtain ⟨z0, z1, z2, z3, z4⟩ := HX W hW; go_simp; first | done | rfl))
            | refine anyV_skip 0 (Grows.pre) rfl (by kernel_rfl) (by kernel_rfl) (by kernel_rfl) (by rfl) (fun K hK => ?_)
          go_simp
          refine hK _ ?_
          clear hK K
          first
            | (refine anyV_val 1 (Grows.pre) rfl (by kernel_rfl) (by kernel_rfl) (by kernel_rfl) (by rfl) (v := ?av2) (fun W hW => ?ay2) (fun K hK => ?ar2); case ay2 => (obtain ⟨z0, z1, z2, z3, z4⟩ := HX W hW; go_simp; first | done | rfl))
            | refine anyV_skip 1 (Grows.pre) rfl (by kernel_rfl) (by kernel_rfl) (by kernel_rfl) (by rfl) (fun K hK => ?_)
          go_simp
          refine hK _ ?_
          clear hK K
          first
            | (refine anyV_val 2 (Grows.pre) rfl (by kernel_rfl) (by kernel_rfl) (by kernel_rfl) (by rfl) (v := ?av3) (fun W hW => ?ay3) (fun K hK => ?ar3); case ay3 => (obtain ⟨z0, z1, z2, z3, z4⟩ := HX W hW; go_simp; first | done | rfl))
            | refine anyV_skip 2 (Grows.pre) rfl (by kernel_rfl) (by kernel_rfl) (by kernel_rfl) (by rfl) (fun K hK => ?_)
          go_simp
          refine hK _ ?_
          clear hK K
          first
            | (refine anyV_val 3 (Grows.pre) rfl (by kernel_rfl) (by kernel_rfl) (by kernel_rfl) (by rfl) (v := ?av4) (fun W hW => ?ay4) (fun K hK => ?ar4); case ay4 => (obtain ⟨z0, z1, z2, z3, z4⟩ := HX W hW; go_simp; first | done | rfl))
            | refine anyV_skip 3 (Grows.pre) rfl (by kernel_rfl) (by kernel_rfl) (by kernel_rfl) (by rfl) (fun K hK => ?_)
          go_simp
          refine hK _ ?_
          clear hK K
          first
            | (refine anyV_val 6 (Grows.pre) rfl (by kernel_rfl) (by kernel_rfl) (by kernel_rfl) (by rfl) (v := ?av5) (fun W hW => ?ay5) (fun K hK => ?ar5); case ay5 => (obtain ⟨z0, z1, z2, z3, z4⟩ := HX W hW; go_simp; first | done | rfl))
            | refine anyV_skip 6 (Grows.pre) rfl (by kernel_rfl) (by kernel_rfl) (by kernel_rfl) (by rfl) (fun K hK => ?_)
          go_simp
          refine hK _ ?_
          clear hK K
          first
            | (refine anyV_val 7 (Grows.pre) rfl (by kernel_rfl) (by kernel_rfl) (by kernel_rfl) (by rfl) (v := ?av6) (fun W hW => ?ay6) (fun K hK => ?ar6); case ay6 => (obtain ⟨z0, z1, z2, z3, z4⟩ := HX W hW; go_simp; first | done | rfl))
            | refine anyV_skip 7 (Grows.pre) rfl (by kernel_rfl) (by kernel_rfl) (by kernel_rfl) (by rfl) (fun K hK => ?_)
          go_simp
          refine hK _ ?_
          clear hK K
          first
            | (refine anyV_val 8 (Grows.pre) rfl (by kernel_rfl) (by kernel_rfl) (by kernel_rfl) (by rfl) (v := ?av7) (fun W hW => ?ay7) (fun K hK => ?ar7); case ay7 => (obtain ⟨z0, z1, z2, z3, z4⟩ := HX W hW; go_simp; first | done | rfl))
            | refine anyV_skip 8 (Grows.pre) rfl (by kernel_rfl) (by kernel_rfl) (by kernel_rfl) (by rfl) (fun K hK => ?_)
          go_simp
          refine hK _ ?_
          clear hK K
          first
            | (refine anyV_val 9 (Grows.pre) rfl (by kernel_rfl) (by kernel_rfl) (by kernel_rfl) (by rfl) (v := ?av8) (fun W hW => ?ay8) (fun K hK => ?ar8); case ay8 => (obtain ⟨z0, z1, z2, z3, z4⟩ := HX W hW; go_simp; first | done | rfl))
            | refine anyV_skip 9 (Grows.pre) rfl (by kernel_rfl) (by kernel_rfl) (by kernel_rfl) (by rfl) (fun K hK => ?_)
          go_simp
          refine hK _ ?_
          clear hK K
          first
            | (refine anyV_val 10 (Grows.pre) rfl (by kernel_rfl) (by kernel_rfl) (by kernel_rfl) (by rfl) (v := ?av9) (fun W hW => ?ay9) (fun K hK => ?ar9); case ay9 => (obtain ⟨z0, z1, z2, z3, z4⟩ := HX W hW; go_simp; first | done | rfl))
            | refine anyV_skip 10 (Grows.pre) rfl (by kernel_rfl) (by kernel_rfl) (by kernel_rfl) (by rfl) (fun K hK => ?_)
          go_simp
          refine hK _ ?_
          clear hK K
          first
            | (refine anyV_val 11 (Grows.pre) rfl (by kernel_rfl) (by kernel_rfl) (by kernel_rfl) (by rfl) (v := ?av10) (fun W hW => ?ay10) (fun K hK => ?ar10); case ay10 => (obtain ⟨z0, z1, z2, z3, z4⟩ := HX W hW; go_simp; first | done | rfl))
            | refine anyV_skip 11 (Grows.pre) rfl (by kernel_rfl) (by kernel_rfl) (by kernel_rfl) (by rfl) (fun K hK => ?_)
          go_simp
          refine hK _ ?_
          clear hK K
          first
            | (refine anyV_val 12 (Grows.pre) rfl (by kernel_rfl) (by kernel_rfl) (by kernel_rfl) (by rfl) (v := ?av11) (fun W hW => ?ay11) (fun K hK => ?ar11); case ay11 => (obtain ⟨z0, z1, z2, z3, z4⟩ := HX W hW; go_simp; first | done | rfl))
            | refine anyV_skip 12 (Grows.pre) rfl (by kernel_rfl) (by kernel_rfl) (by kernel_rfl) (by rfl) (fun K hK => ?_)
          go_simp
          refine hK _ ?_
          clear hK K
          first
            | (refine anyV_val 13 (Grows.pre) rfl (by kernel_rfl) (by kernel_rfl) (by kernel_rfl) (by rfl) (v := ?av12) (fun W hW => ?ay12) (fun K hK => ?ar12); case ay12 => (obtain ⟨z0, z1, z2, z3, z4⟩ := HX W hW; go_simp; first | done | rfl))
            | refine anyV_skip 13 (Grows.pre) rfl (by kernel_rfl) (by kernel_rfl) (by kernel_rfl) (by rfl) (fun K hK => ?_)
          go_simp
          refine hK _ ?_
          clear hK K
          refine anyV_only 4 rfl (by kernel_rfl) (by rfl) (fun K hK => ?_)
          go_simp
          refine (pall_any wc.drew p g m bs _ ws hPd).mono ?_
          rintro e w3 ⟨⟨v3, rfl, hv, _⟩, hb3⟩
          have cv : ∀ W, Grows w3 W → (convert 22 9 v3).run Try.prog W = .ok (.string (strOfNums bs)) W := fun W hW => OwnBytes.conv (ownsRow_same hv fun b hb => hW.block b (hv.lt b hb).2)
          have hP3 := hPd.below hb3
          refine ⟨_, rfl, hK _ _ hb3 ?_⟩
          clear hK K
          refine anyV_frame (fun K hK => ?_)
          go_simp
          refine hK _ ?_
          clear hK K
          first
            | (refine anyV_val 5 (Grows.pre) rfl (by kernel_rfl) (by kernel_rfl) (by kernel_rfl) (by rfl) (v := ?av13) (fun W hW => ?ay13) (fun K hK => ?ar13); case ay13 => (obtain ⟨z0, z1, z2, z3, z4⟩ := HX W (Grows.pre.trans hb3 hW); go_simp; first | done | rfl))
            | refine anyV_skip 5 (Grows.pre) rfl (by kernel_rfl) (by kernel_rfl) (by kernel_rfl) (by rfl) (fun K hK => ?_)
          go_simp
          refine hK _ ?_
          clear hK K
          first
            | (refine anyV_val 14 (Grows.pre) rfl (by kernel_rfl) (by kernel_rfl) (by kernel_rfl) (by rfl) (v := ?av14) (fun W hW => ?ay14) (fun K hK => ?ar14); case ay14 => (obtain ⟨z0, z1, z2, z3, z4⟩ := HX W (Grows.pre.trans hb3 hW); go_simp; first | done | rfl))
            | refine anyV_skip 14 (Grows.pre) rfl (by kernel_rfl) (by kernel_rfl) (by kernel_rfl) (by rfl) (fun K hK => ?_)
          go_simp
          refine hK _ ?_
          clear hK K
          first
            | (refine anyV_val 15 (Grows.pre) rfl (by kernel_rfl) (by kernel_rfl) (by kernel_rfl) (by rfl) (v := ?av15) (fun W hW => ?ay15) (fun K hK => ?ar15); case ay15 => (obtain ⟨z0, z1, z2, z3, z4⟩ := HX W (Grows.pre.trans hb3 hW); go_simp; first | done | rfl))
            | refine anyV_skip 15 (Grows.pre) rfl (by kernel_rfl) (by kernel_rfl) (by kernel_rfl) (by rfl) (fun K hK => ?_)
          go_simp
          refine hK _ ?_
          clear hK K
          first
            | (refine anyV_val 16 (Grows.pre) rfl (by kernel_rfl) (by kernel_rfl) (by kernel_rfl) (by rfl) (v := ?av16) (fun W hW => ?ay16) (fun K hK => ?ar16); case ay16 => (obtain ⟨z0, z1, z2, z3, z4⟩ := HX W (Grows.pre.trans hb3 hW); go_simp; first | done | rfl))
            | refine anyV_skip 16 (Grows.pre) rfl (by kernel_rfl) (by kernel_rfl) (by kernel_rfl) (by rfl) (fun K hK => ?_)
          go_simp
          refine hK _ ?_
          clear hK K
          first
            | (refine anyV_val 17 (Grows.pre) rfl (by kernel_rfl) (by kernel_rfl) (by kernel_rfl) (by rfl) (v := ?av17) (fun W hW => ?ay17) (fun K hK => ?ar17); case ay17 => (obtain ⟨z0, z1, z2, z3, z4⟩ := HX W (Grows.pre.trans hb3 hW); go_simp; first | done | rfl))
            | refine anyV_skip 17 (Grows.pre) rfl (by kernel_rfl) (by kernel_rfl) (by kernel_rfl) (by rfl) (fun K hK => ?_)
          go_simp
          refine hK _ ?_
          clear hK K
          first
            | (refine anyV_val 19 (Grows.pre) rfl (by kernel_rfl) (by kernel_rfl) (by kernel_rfl) (by rfl) (v := ?av18) (fun W hW => ?ay18) (fun K hK => ?ar18); case ay18 => (obtain ⟨z0, z1, z2, z3, z4⟩ := HX W (Grows.pre.trans hb3 hW); go_simp; first | done | rfl))
            | refine anyV_skip 19 (Grows.pre) rfl (by kernel_rfl) (by kernel_rfl) (by kernel_rfl) (by rfl) (fun K hK => ?_)
          go_simp
          refine hK _ ?_
          clear hK K
          first
            | (refine anyV_val 20 (Grows.pre) rfl (by kernel_rfl) (by kernel_rfl) (by kernel_rfl) (by rfl) (v := ?av19) (fun W hW => ?ay19) (fun K hK => ?ar19); case ay19 => (obtain ⟨z0, z1, z2, z3, z4⟩ := HX W (Grows.pre.trans hb3 hW); go_simp; first | done | rfl))
            | refine anyV_skip 20 (Grows.pre) rfl (by kernel_rfl) (by kernel_rfl) (by kernel_rfl) (by rfl) (fun K hK => ?_)
          go_simp
          refine hK _ ?_
          clear hK K
          first
            | (refine anyV_val 21 (Grows.pre) rfl (by kernel_rfl) (by kernel_rfl) (by kernel_rfl) (by rfl) (v := ?av20) (fun W hW => ?ay20) (fun K hK => ?ar20); case ay20 => (obtain ⟨z0, z1, z2, z3, z4⟩ := HX W (Grows.pre.trans hb3 hW); go_simp; first | done | rfl))
            | refine anyV_skip 21 (Grows.pre) rfl (by kernel_rfl) (by kernel_rfl) (by kernel_rfl) (by rfl) (fun K hK => ?_)
          go_simp
          refine hK _ ?_
          clear hK K
          first
            | (refine anyV_val 22 (Grows.pre) rfl (by kernel_rfl) (by kernel_rfl) (by kernel_rfl) (by rfl) (v := ?av21) (fun W hW => ?ay21) (fun K hK => ?ar21); case ay21 => (obtain ⟨z0, z1, z2, z3, z4⟩ := HX W (Grows.pre.trans hb3 hW); go_simp; first | done | rfl))
            | refine anyV_skip 22 (Grows.pre) rfl (by kernel_rfl) (by kernel_rfl) (by kernel_rfl) (by rfl) (fun K hK => ?_)
          go_simp
          refine hK _ ?_
          clear hK K
          refine anyV_only 18 rfl (by kernel_rfl) (by rfl) (fun K hK => ?_)
          go_simp
          refine (readers_any w3 p g m bs _ ws hP3).mono ?_
          rintro e w4 ⟨rfl, rfl⟩
          refine ⟨_, rfl, hK _ _ (Grows.pre.refl _) ?_⟩
          clear hK K
          refine anyV_frame (fun K hK => ?_)
          go_simp
          refine hK _ ?_
          clear hK K
          first
            | (refine anyV_val 23 (Grows.pre) rfl (by kernel_rfl) (by kernel_rfl) (by kernel_rfl) (by rfl) (v := ?av22) (fun W hW => ?ay22) (fun K hK => ?ar22); case ay22 => (obtain ⟨z0, z1, z2, z3, z4⟩ := HX W (Grows.pre.trans hb3 hW); go_simp; first | done | rfl))
            | refine anyV_skip 23 (Grows.pre) rfl (by kernel_rfl) (by kernel_rfl) (by kernel_rfl) (by rfl) (fun K hK => ?_)
          go_simp
          refine hK _ ?_
          clear hK K
          first
            | (refine anyV_val 24 (Grows.pre) rfl (by kernel_rfl) (by kernel_rfl) (by kernel_rfl) (by rfl) (v := ?av23) (fun W hW => ?ay23) (fun K hK => ?ar23); case ay23 => (obtain ⟨z0, z1, z2, z3, z4⟩ := HX W (Grows.pre.trans hb3 hW); go_simp; first | done | rfl))
            | refine anyV_skip 24 (Grows.pre) rfl (by kernel_rfl) (by kernel_rfl) (by kernel_rfl) (by rfl) (fun K hK => ?_)
          go_simp
          refine hK _ ?_
          clear hK K
          first
            | (refine anyV_val 25 (Grows.pre) rfl (by kernel_rfl) (by kernel_rfl) (by kernel_rfl) (by rfl) (v := ?av24) (fun W hW => ?ay24) (fun K hK => ?ar24); case ay24 => (obtain ⟨z0, z1, z2, z3, z4⟩ := HX W (Grows.pre.trans hb3 hW); go_simp; first | done | rfl))
            | refine anyV_skip 25 (Grows.pre) rfl (by kernel_rfl) (by kernel_rfl) (by kernel_rfl) (by rfl) (fun K hK => ?_)
          go_simp
          refine hK _ ?_
          clear hK K
          first
            | (refine anyV_val 26 (Grows.pre) rfl (by kernel_rfl) (by kernel_rfl) (by kernel_rfl) (by rfl) (v := ?av25) (fun W hW => ?ay25) (fun K hK => ?ar25); case ay25 => (obtain ⟨z0, z1, z2, z3, z4⟩ := HX W (Grows.pre.trans hb3 hW); go_simp; first | done | rfl))
            | refine anyV_skip 26 (Grows.pre) rfl (by kernel_rfl) (by kernel_rfl) (by kernel_rfl) (by rfl) (fun K hK => ?_)
          go_simp
          refine hK _ ?_
          clear hK K
          first
            | (refine anyV_val 28 (Grows.pre) rfl (by kernel_rfl) (by kernel_rfl) (by kernel_rfl) (by rfl) (v := ?av26) (fun W hW => ?ay26) (fun K hK => ?ar26); case ay26 => (obtain ⟨z0, z1, z2, z3, z4⟩ := HX W (Grows.pre.trans hb3 hW); go_simp; first | done | rfl))
            | refine anyV_skip 28 (Grows.pre) rfl (by kernel_rfl) (by kernel_rfl) (by kernel_rfl) (by rfl) (fun K hK => ?_)
          go_simp
          refine hK _ ?_
          clear hK K
          first
            | (refine anyV_val 29 (Grows.pre) rfl (by kernel_rfl) (by kernel_rfl) (by kernel_rfl) (by rfl) (v := ?av27) (fun W hW => ?ay27) (fun K hK => ?ar27); case ay27 => (obtain ⟨z0, z1, z2, z3, z4⟩ := HX W (Grows.pre.trans hb3 hW); go_simp; first | done | rfl))
            | refine anyV_skip 29 (Grows.pre) rfl (by kernel_rfl) (by kernel_rfl) (by kernel_rfl) (by rfl) (fun K hK => ?_)
          go_simp
          refine hK _ ?_
          clear hK K
          first
            | (refine anyV_val 30 (Grows.pre) rfl (by kernel_rfl) (by kernel_rfl) (by kernel_rfl) (by rfl) (v := ?av28) (fun W hW => ?ay28) (fun K hK => ?ar28); case ay28 => (obtain ⟨z0, z1, z2, z3, z4⟩ := HX W (Grows.pre.trans hb3 hW); go_simp; first | done | rfl))
            | refine anyV_skip 30 (Grows.pre) rfl (by kernel_rfl) (by kernel_rfl) (by kernel_rfl) (by rfl) (fun K hK => ?_)
          go_simp
          refine hK _ ?_
          clear hK K
          first
            | (refine anyV_val 31 (Grows.pre) rfl (by kernel_rfl) (by kernel_rfl) (by kernel_rfl) (by rfl) (v := ?av29) (fun W hW => ?ay29) (fun K hK => ?ar29); case ay29 => (obtain ⟨z0, z1, z2, z3, z4⟩ := HX W (Grows.pre.trans hb3 hW); go_simp; first | done | rfl))
            | refine anyV_skip 31 (Grows.pre) rfl (by kernel_rfl) (by kernel_rfl) (by kernel_rfl) (by rfl) (fun K hK => ?_)
          go_simp
          refine hK _ ?_
          clear hK K
          refine anyV_only 27 rfl (by kernel_rfl) (by rfl) (fun K hK => ?_)
          go_simp
          refine (writers_any w3 p g m bs _ ws hP3).mono ?_
          rintro e w4 ⟨rfl, rfl⟩
          refine ⟨_, rfl, hK _ _ (Grows.pre.refl _) ?_⟩
          clear hK K
          refine anyV_frame (fun K hK => ?_)
          go_simp
          refine hK _ ?_
          clear hK K
          first
            | (refine anyV_val 32 (Grows.pre) rfl (by kernel_rfl) (by kernel_rfl) (by kernel_rfl) (by rfl) (v := ?av30) (fun W hW => ?ay30) (fun K hK => ?ar30); case ay30 => (obtain ⟨z0, z1, z2, z3, z4⟩ := HX W (Grows.pre.trans hb3 hW); go_simp; first | done | rfl))
            | refine anyV_skip 32 (Grows.pre) rfl (by kernel_rfl) (by kernel_rfl) (by kernel_rfl) (by rfl) (fun K hK => ?_)
          go_simp
          refine hK _ ?_
          clear hK K
          first
            | (refine anyV_val 33 (Grows.pre) rfl (by kernel_rfl) (by kernel_rfl) (by kernel_rfl) (by rfl) (v := ?av31) (fun W hW => ?ay31) (fun K hK => ?ar31); case ay31 => (obtain ⟨z0, z1, z2, z3, z4⟩ := HX W (Grows.pre.trans hb3 hW); go_simp; first | done | rfl))
            | refine anyV_skip 33 (Grows.pre) rfl (by kernel_rfl) (by kernel_rfl) (by kernel_rfl) (by rfl) (fun K hK => ?_)
          go_simp
          refine hK _ ?_
          clear hK K
          first
            | (refine anyV_val 34 (Grows.pre) rfl (by kernel_rfl) (by kernel_rfl) (by kernel_rfl) (by rfl) (v := ?av32) (fun W hW => ?ay32) (fun K hK => ?ar32); case ay32 => (obtain ⟨z0, z1, z2, z3, z4⟩ := HX W (Grows.pre.trans hb3 hW); go_simp; first | done | rfl))
            | refine anyV_skip 34 (Grows.pre) rfl (by kernel_rfl) (by kernel_rfl) (by kernel_rfl) (by rfl) (fun K hK => ?_)
          go_simp
          refine hK _ ?_
          clear hK K
          first
            | (refine anyV_val 35 (Grows.pre) rfl (by kernel_rfl) (by kernel_rfl) (by kernel_rfl) (by rfl) (v := ?av33) (fun W hW => ?ay33) (fun K hK => ?ar33); case ay33 => (obtain ⟨z0, z1, z2, z3, z4⟩ := HX W (Grows.pre.trans hb3 hW); go_simp; first | done | rfl))
            | refine anyV_skip 35 (Grows.pre) rfl (by kernel_rfl) (by kernel_rfl) (by kernel_rfl) (by rfl) (fun K hK => ?_)
          go_simp
          refine hK _ ?_
          clear hK K
          first
            | (refine anyV_val 37 (Grows.pre) rfl (by kernel_rfl) (by kernel_rfl) (by kernel_rfl) (by rfl) (v := ?av34) (fun W hW => ?ay34) (fun K hK => ?ar34); case ay34 => (obtain ⟨z0, z1, z2, z3, z4⟩ := HX W (Grows.pre.trans hb3 hW); go_simp; first | done | rfl))
            | refine anyV_skip 37 (Grows.pre) rfl (by kernel_rfl) (by kernel_rfl) (by kernel_rfl) (by rfl) (fun K hK => ?_)
          go_simp
          refine hK _ ?_
          clear hK K
          first
            | (refine anyV_val 38 (Grows.pre) rfl (by kernel_rfl) (by kernel_rfl) (by kernel_rfl) (by rfl) (v := ?av35) (fun W hW => ?ay35) (fun K hK => ?ar35); case ay35 => (obtain ⟨z0, z1, z2, z3, z4⟩ := HX W (Grows.pre.trans hb3 hW); go_simp; first | done | rfl))
            | refine anyV_skip 38 (Grows.pre) rfl (by kernel_rfl) (by kernel_rfl) (by kernel_rfl) (by rfl) (fun K hK => ?_)
          go_simp
          refine hK _ ?_
          clear hK K
          refine anyV_only 36 rfl (by kernel_rfl) (by rfl) (fun K hK => ?_)
          go_simp
          refine (pcap_any w3 p g m bs _ ws hP3).mono ?_
          rintro e w4 ⟨rfl, rfl⟩
          refine ⟨_, rfl, hK _ _ (Grows.pre.refl _) ?_⟩
          clear hK K
          refine anyV_frame (fun K hK => ?_)
          go_simp
          refine hK _ ?_
          clear hK K
          first
            | (refine anyV_val 39 (Grows.pre) rfl (by kernel_rfl) (by kernel_rfl) (by kernel_rfl) (by rfl) (v := ?av36) (fun W hW => ?ay36) (fun K hK => ?ar36); case ay36 => (obtain ⟨z0, z1, z2, z3, z4⟩ := HX W (Grows.pre.trans hb3 hW); go_simp; first | done | rfl))
            | refine anyV_skip 39 (Grows.pre) rfl (by kernel_rfl) (by kernel_rfl) (by kernel_rfl) (by rfl) (fun K hK => ?_)
          go_simp
          refine hK _ ?_
          clear hK K
          first
            | (refine anyV_val 40 (Grows.pre) rfl (by kernel_rfl) (by kernel_rfl) (by kernel_rfl) (by rfl) (v := ?av37) (fun W hW => ?ay37) (fun K hK => ?ar37); case ay37 => (obtain ⟨z0, z1, z2, z3, z4⟩ := HX W (Grows.pre.trans hb3 hW); go_simp; first | done | rfl))
            | refine anyV_skip 40 (Grows.pre) rfl (by kernel_rfl) (by kernel_rfl) (by kernel_rfl) (by rfl) (fun K hK => ?_)
          go_simp
          refine hK _ ?_
          clear hK K
          first
            | (refine anyV_val 41 (Grows.pre) rfl (by kernel_rfl) (by kernel_rfl) (by kernel_rfl) (by rfl) (v := ?av38) (fun W hW => ?ay38) (fun K hK => ?ar38); case ay38 => (obtain ⟨z0, z1, z2, z3, z4⟩ := HX W (Grows.pre.trans hb3 hW); go_simp; first | done | rfl))
            | refine anyV_skip 41 (Grows.pre) rfl (by kernel_rfl) (by kernel_rfl) (by kernel_rfl) (by rfl) (fun K hK => ?_)
          go_simp
          refine hK _ ?_
          clear hK K
          first
            | (refine anyV_val 42 (Grows.pre) rfl (by kernel_rfl) (by kernel_rfl) (by kernel_rfl) (by rfl) (v := ?av39) (fun W hW => ?ay39) (fun K hK => ?ar39); case ay39 => (obtain ⟨z0, z1, z2, z3, z4⟩ := HX W (Grows.pre.trans hb3 hW); go_simp; first | done | rfl))
            | refine anyV_skip 42 (Grows.pre) rfl (by kernel_rfl) (by kernel_rfl) (by kernel_rfl) (by rfl) (fun K hK => ?_)
          go_simp
          refine hK _ ?_
          clear hK K
          first
            | (refine anyV_val 44 (Grows.pre) rfl (by kernel_rfl) (by kernel_rfl) (by kernel_rfl) (by rfl) (v := ?av40) (fun W hW => ?ay40) (fun K hK => ?ar40); case ay40 => (obtain ⟨z0, z1, z2, z3, z4⟩ := HX W (Grows.pre.trans hb3 hW); go_simp; first | done | rfl))
            | refine anyV_skip 44 (Grows.pre) rfl (by kernel_rfl) (by kernel_rfl) (by kernel_rfl) (by rfl) (fun K hK => ?_)
          go_simp
          refine hK _ ?_
          clear hK K
          first
            | (refine anyV_val 45 (Grows.pre) rfl (by kernel_rfl) (by kernel_rfl) (by kernel_rfl) (by rfl) (v := ?av41) (fun W hW => ?ay41) (fun K hK => ?ar41); case ay41 => (obtain ⟨z0, z1, z2, z3, z4⟩ := HX W (Grows.pre.trans hb3 hW); go_simp; first | done | rfl))
            | refine anyV_skip 45 (Grows.pre) rfl (by kernel_rfl) (by kernel_rfl) (by kernel_rfl) (by rfl) (fun K hK => ?_)
          go_simp
          refine hK _ ?_
          clear hK K
          first
            | (refine anyV_val 46 (Grows.pre) rfl (by kernel_rfl) (by kernel_rfl) (by kernel_rfl) (by rfl) (v := ?av42) (fun W hW => ?ay42) (fun K hK => ?ar42); case ay42 => (obtain ⟨z0, z1, z2, z3, z4⟩ := HX W (Grows.pre.trans hb3 hW); go_simp; first | done | rfl))
            | refine anyV_skip 46 (Grows.pre) rfl (by kernel_rfl) (by kernel_rfl) (by kernel_rfl) (by rfl) (fun K hK => ?_)
          go_simp
          refine hK _ ?_
          clear hK K
          first
            | (refine anyV_val 47 (Grows.pre) rfl (by kernel_rfl) (by kernel_rfl) (by kernel_rfl) (by rfl) (v := ?av43) (fun W hW => ?ay43) (fun K hK => ?ar43); case ay43 => (obtain ⟨z0, z1, z2, z3, z4⟩ := HX W (Grows.pre.trans hb3 hW); go_simp; first | done | rfl))
            | refine anyV_skip 47 (Grows.pre) rfl (by kernel_rfl) (by kernel_rfl) (by kernel_rfl) (by rfl) (fun K hK => ?_)
          go_simp
          refine hK _ ?_
          clear hK K
          first
            | (refine anyV_val 48 (Grows.pre) rfl (by kernel_rfl) (by kernel_rfl) (by kernel_rfl) (by rfl) (v := ?av44) (fun W hW => ?ay44) (fun K hK => ?ar44); case ay44 => (obtain ⟨z0, z1, z2, z3, z4⟩ := HX W (Grows.pre.trans hb3 hW); go_simp; first | done | rfl))
            | refine anyV_skip 48 (Grows.pre) rfl (by kernel_rfl) (by kernel_rfl) (by kernel_rfl) (by rfl) (fun K hK => ?_)
          go_simp
          refine hK _ ?_
          clear hK K
          refine anyV_only 43 rfl (by kernel_rfl) (by rfl) (fun K hK => ?_)
          go_simp
          refine (k5 w3 hP3).mono ?_
          rintro e w4 ⟨rfl, rfl⟩
          refine ⟨_, rfl, hK _ _ (Grows.pre.refl _) ?_⟩
          clear hK K
          refine anyV_frame (fun K hK => ?_)
          go_simp
          refine hK _ ?_
          clear hK K
          first
            | (refine anyV_val 49 (Grows.pre) rfl (by kernel_rfl) (by kernel_rfl) (by kernel_rfl) (by rfl) (v := ?av45) (fun W hW => ?ay45) (fun K hK => ?ar45); case ay45 => (obtain ⟨z0, z1, z2, z3, z4⟩ := HX W (Grows.pre.trans hb3 hW); go_simp; first | done | rfl))
            | refine anyV_skip 49 (Grows.pre) rfl (by kernel_rfl) (by kernel_rfl) (by kernel_rfl) (by rfl) (fun K hK => ?_)
          go_simp
          refine hK _ ?_
          clear hK K
          first
            | (refine anyV_val 50 (Grows.pre) rfl (by kernel_rfl) (by kernel_rfl) (by kernel_rfl) (by rfl) (v := ?av46) (fun W hW => ?ay46) (fun K hK => ?ar46); case ay46 => (obtain ⟨z0, z1, z2, z3, z4⟩ := HX W (Grows.pre.trans hb3 hW); go_simp; first | done | rfl))
            | refine anyV_skip 50 (Grows.pre) rfl (by kernel_rfl) (by kernel_rfl) (by kernel_rfl) (by rfl) (fun K hK => ?_)
          go_simp
          refine hK _ ?_
          clear hK K
          first
            | (refine anyV_val 51 (Grows.pre) rfl (by kernel_rfl) (by kernel_rfl) (by kernel_rfl) (by rfl) (v := ?av47) (fun W hW => ?ay47) (fun K hK => ?ar47); case ay47 => (obtain ⟨z0, z1, z2, z3, z4⟩ := HX W (Grows.pre.trans hb3 hW); go_simp; first | done | rfl))
            | refine anyV_skip 51 (Grows.pre) rfl (by kernel_rfl) (by kernel_rfl) (by kernel_rfl) (by rfl) (fun K hK => ?_)
          go_simp
          refine hK _ ?_
          clear hK K
          first
            | (refine anyV_val 52 (Grows.pre) rfl (by kernel_rfl) (by kernel_rfl) (by kernel_rfl) (by rfl) (v := ?av48) (fun W hW => ?ay48) (fun K hK => ?ar48); case ay48 => (obtain ⟨z0, z1, z2, z3, z4⟩ := HX W (Grows.pre.trans hb3 hW); go_simp; first | done | rfl))
            | refine anyV_skip 52 (Grows.pre) rfl (by kernel_rfl) (by kernel_rfl) (by kernel_rfl) (by rfl) (fun K hK => ?_)
          go_simp
          refine hK _ ?_
          clear hK K
          first
            | (refine anyV_val 53 (Grows.pre) rfl (by kernel_rfl) (by kernel_rfl) (by kernel_rfl) (by rfl) (v := ?av49) (fun W hW => ?ay49) (fun K hK => ?ar49); case ay49 => (obtain ⟨z0, z1, z2, z3, z4⟩ := HX W (Grows.pre.trans hb3 hW); go_simp; first | done | rfl))
            | refine anyV_skip 53 (Grows.pre) rfl (by kernel_rfl) (by kernel_rfl) (by kernel_rfl) (by rfl) (fun K hK => ?_)
          go_simp
          refine hK _ ?_
          clear hK K
          first
            | (refine anyV_val 54 (Grows.pre) rfl (by kernel_rfl) (by kernel_rfl) (by kernel_rfl) (by rfl) (v := ?av50) (fun W hW => ?ay50) (fun K hK => ?ar50); case ay50 => (obtain ⟨z0, z1, z2, z3, z4⟩ := HX W (Grows.pre.trans hb3 hW); go_simp; first | done | rfl))
            | refine anyV_skip 54 (Grows.pre) rfl (by kernel_rfl) (by kernel_rfl) (by kernel_rfl) (by rfl) (fun K hK => ?_)
          go_simp
          refine hK _ ?_
          clear hK K
          first
            | (refine anyV_val 55 (Grows.pre) rfl (by kernel_rfl) (by kernel_rfl) (by kernel_rfl) (by rfl) (v := ?av51) (fun W hW => ?ay51) (fun K hK => ?ar51); case ay51 => (obtain ⟨z0, z1, z2, z3, z4⟩ := HX W (Grows.pre.trans hb3 hW); go_simp; first | done | rfl))
            | refine anyV_skip 55 (Grows.pre) rfl (by kernel_rfl) (by kernel_rfl) (by kernel_rfl) (by rfl) (fun K hK => ?_)
          go_simp
          refine hK _ ?_
          clear hK K
          first
            | (refine anyV_val 56 (Grows.pre) rfl (by kernel_rfl) (by kernel_rfl) (by kernel_rfl) (by rfl) (v := ?av52) (fun W hW => ?ay52) (fun K hK => ?ar52); case ay52 => (obtain ⟨z0, z1, z2, z3, z4⟩ := HX W (Grows.pre.trans hb3 hW); go_simp; first | done | rfl))
            | refine anyV_skip 56 (Grows.pre) rfl (by kernel_rfl) (by kernel_rfl) (by kernel_rfl) (by rfl) (fun K hK => ?_)
          go_simp
          refine hK _ ?_
          clear hK K
          first
            | (refine anyV_val 57 (Grows.pre) rfl (by kernel_rfl) (by kernel_rfl) (by kernel_rfl) (by rfl) (v := ?av53) (fun W hW => ?ay53) (fun K hK => ?ar53); case ay53 => (obtain ⟨z0, z1, z2, z3, z4⟩ := HX W (Grows.pre.trans hb3 hW); go_simp; first | done | rfl))
            | refine anyV_skip 57 (Grows.pre) rfl (by kernel_rfl) (by kernel_rfl) (by kernel_rfl) (by rfl) (fun K hK => ?_)
          go_simp
          refine hK _ ?_
          clear hK K
          first
            | (refine anyV_val 58 (Grows.pre) rfl (by kernel_rfl) (by kernel_rfl) (by kernel_rfl) (by rfl) (v := ?av54) (fun W hW => ?ay54) (fun K hK => ?ar54); case ay54 => (obtain ⟨z0, z1, z2, z3, z4⟩ := HX W (Grows.pre.trans hb3 hW); go_simp; first | done | rfl))
            | refine anyV_skip 58 (Grows.pre) rfl (by kernel_rfl) (by kernel_rfl) (by kernel_rfl) (by rfl) (fun K hK => ?_)
          go_simp
          refine hK _ ?_
          clear hK K
          first
            | (refine anyV_val 59 (Grows.pre) rfl (by kernel_rfl) (by kernel_rfl) (by kernel_rfl) (by rfl) (v := ?av55) (fun W hW => ?ay55) (fun K hK => ?ar55); case ay55 => (obtain ⟨z0, z1, z2, z3, z4⟩ := HX W (Grows.pre.trans hb3 hW); go_simp; first | done | rfl))
            | refine anyV_skip 59 (Grows.pre) rfl (by kernel_rfl) (by kernel_rfl) (by kernel_rfl) (by rfl) (fun K hK => ?_)
          go_simp
          refine hK _ ?_
          clear hK K
          first
            | (refine anyV_val 61 (Grows.pre) rfl (by kernel_rfl) (by kernel_rfl) (by kernel_rfl) (by rfl) (v := ?av56) (fun W hW => ?ay56) (fun K hK => ?ar56); case ay56 => (obtain ⟨z0, z1, z2, z3, z4⟩ := HX W (Grows.pre.trans hb3 hW); go_simp; first | done | rfl))
            | refine anyV_skip 61 (Grows.pre) rfl (by kernel_rfl) (by kernel_rfl) (by kernel_rfl) (by rfl) (fun K hK => ?_)
          go_simp
          refine hK _ ?_
          clear hK K
          refine anyV_only 60 rfl (by kernel_rfl) (by rfl) (fun K hK => ?_)
          go_simp
          refine (k1 w3 hP3).mono ?_
          rintro e w4 ⟨rfl, hb4⟩
          have hD4 := (hD.below (below_undrew hb3)).below hb4
          have hP4 := hP3.below hb4
          refine ⟨_, rfl, hK _ _ hb4 ?_⟩
          clear hK K
          refine anyV_frame (fun K hK => ?_)
          go_simp
          refine hK _ ?_
          clear hK K
          refine anyV_only 62 rfl (by kernel_rfl) (by rfl) (fun K hK => ?_)
          go_simp
          refine (k3 w4 hD4).mono ?_
          rintro e w5 ⟨rfl, hb5⟩
          have hP5 := hP4.below hb5
          have hD5 := hD4.below hb5
          refine ⟨_, rfl, hK _ _ hb5 ?_⟩
          clear hK K
          refine anyV_frame (fun K hK => ?_)
          go_simp
          refine hK _ ?_
          clear hK K
          first
            | (refine anyV_val 63 (Grows.pre) rfl (by kernel_rfl) (by kernel_rfl) (by kernel_rfl) (by rfl) (v := ?av57) (fun W hW => ?ay57) (fun K hK => ?ar57); case ay57 => (go_simp; first | done | rfl))
            | refine anyV_skip 63 (Grows.pre) rfl (by kernel_rfl) (by kernel_rfl) (by kernel_rfl) (by rfl) (fun K hK => ?_)
          go_simp
          refine hK _ ?_
          clear hK K
          first
            | (refine anyV_val 64 (Grows.pre) rfl (by kernel_rfl) (by kernel_rfl) (by kernel_rfl) (by rfl) (v := ?av58) (fun W hW => ?ay58) (fun K hK => ?ar58); case ay58 => (go_simp; first | done | rfl))
            | refine anyV_skip 64 (Grows.pre) rfl (by kernel_rfl) (by kernel_rfl) (by kernel_rfl) (by rfl) (fun K hK => ?_)
          go_simp
          refine hK _ ?_
          clear hK K
          first
            | (refine anyV_val 65 (Grows.pre) rfl (by kernel_rfl) (by kernel_rfl) (by kernel_rfl) (by rfl) (v := ?av59) (fun W hW => ?ay59) (fun K hK => ?ar59); case ay59 => (go_simp; first | done | rfl))
            | refine anyV_skip 65 (Grows.pre) rfl (by kernel_rfl) (by kernel_rfl) (by kernel_rfl) (by rfl) (fun K hK => ?_)
          go_simp
          refine hK _ ?_
          clear hK K
          first
            | (refine anyV_val 66 (Grows.pre) rfl (by kernel_rfl) (by kernel_rfl) (by kernel_rfl) (by rfl) (v := ?av60) (fun W hW => ?ay60) (fun K hK => ?ar60); case ay60 => (go_simp; first | done | rfl))
            | refine anyV_skip 66 (Grows.pre) rfl (by kernel_rfl) (by kernel_rfl) (by kernel_rfl) (by rfl) (fun K hK => ?_)
          go_simp
          refine hK _ ?_
          clear hK K
          first
            | (refine anyV_val 68 (Grows.pre) rfl (by kernel_rfl) (by kernel_rfl) (by kernel_rfl) (by rfl) (v := ?av61) (fun W hW => ?ay61) (fun K hK => ?ar61); case ay61 => (go_simp; first | done | rfl))
            | refine anyV_skip 68 (Grows.pre) rfl (by kernel_rfl) (by kernel_rfl) (by kernel_rfl) (by rfl) (fun K hK => ?_)
          go_simp
          refine hK _ ?_
          clear hK K
          refine anyV_only 67 rfl (by kernel_rfl) (by rfl) (fun K hK => ?_)
          go_simp
          refine (k2 w5 hP5).mono ?_
          rintro e w6 ⟨rfl, hb6⟩
          have hP6 := hP5.below hb6
          have hD6 := hD5.below hb6
          refine ⟨_, rfl, hK _ _ hb6 ?_⟩
          clear hK K
          refine anyV_frame (fun K hK => ?_)
          go_simp
          refine hK _ ?_
          clear hK K
          refine anyV_only 69 rfl (by kernel_rfl) (by rfl) (fun K hK => ?_)
          go_simp
          refine (k4 w6 hD6).mono ?_
          rintro e w7 ⟨rfl, hb7⟩
          have hP7 := hP6.below hb7
          have hD7 := hD6.below hb7
          refine ⟨_, rfl, hK _ _ hb7 ?_⟩
          clear hK K
          refine anyV_frame (fun K hK => ?_)
          go_simp
          refine hK _ ?_
          clear hK K
          first
            | (refine anyV_val 70 (Grows.pre) rfl (by kernel_rfl) (by kernel_rfl) (by kernel_rfl) (by rfl) (v := ?av62) (fun W hW => ?ay62) (fun K hK => ?ar62); case ay62 => (go_simp; first | done | rfl))
            | refine anyV_skip 70 (Grows.pre) rfl (by kernel_rfl) (by kernel_rfl) (by kernel_rfl) (by rfl) (fun K hK => ?_)
          go_simp
          refine hK _ ?_
          clear hK K
          first
            | (refine anyV_val 71 (Grows.pre) rfl (by kernel_rfl) (by kernel_rfl) (by kernel_rfl) (by rfl) (v := ?av63) (fun W hW => ?ay63) (fun K hK => ?ar63); case ay63 => (go_simp; first | done | rfl))
            | refine anyV_skip 71 (Grows.pre) rfl (by kernel_rfl) (by kernel_rfl) (by kernel_rfl) (by rfl) (fun K hK => ?_)
          go_simp
          refine hK _ ?_
          clear hK K
          refine anyV_done (by kernel_rfl) ?_
          have hg7 : Below wc.heap.size wc w7 := below_undrew ((((hb3.trans (hb4.mono hb3.size)).trans (hb5.mono (Nat.le_trans hb3.size hb4.size))).trans (hb6.mono (Nat.le_trans (Nat.le_trans hb3.size hb4.size) hb5.size))).trans (hb7.mono (Nat.le_trans (Nat.le_trans (Nat.le_trans hb3.size hb4.size) hb5.size) hb6.size)))
          have hS7 := cell_same (p := ⟨sb, 0, none⟩) (hg7.block sb hSl) hS
          have hb8 := hb.trans (hg7.mono hbw)
          clear cv cvd HX k1 k2 k3 k4 k5
          go_wp2_with fail
          go_roundw
          case rel => exact ⟨k + 1, p, g, bs, _, ws, by go_num, by omega, rfl, hpw, hgw, hpP, hpd, hgP, hgd, hsp, hsg, hP7, hD7, hS7, hb8⟩
          case measure => simp [intOf]; omega
      · have hz0 : ((rd : Int) == 0) = false := by simpa using hz
        obtain rfl : Gn = false := by rw [hGn]; simp [hz]
        clear hGn hz
        as_aux_lemma =>
          refine wp_region_anyV Grows (by kernel_rfl) 72 rfl ?_
          first
            | (refine anyV_val 0 (Grows.pre) rfl (by kernel_rfl) (by kernel_rfl) (by kernel_rfl) (by rfl) (v := ?av64) (fun W hW => ?ay64) (fun K hK => ?ar64); case ay64 => (obtain ⟨z0, z1, z2, z3, z4⟩ := HX W hW; go_simp; first | done | rfl))
            | refine anyV_skip 0 (Grows.pre) rfl (by kernel_rfl) (by kernel_rfl) (by kernel_rfl) (by rfl) (fun K hK => ?_)
          go_simp
          refine hK _ ?_
          clear hK K
          first
            | (refine anyV_val 1 (Grows.pre) rfl (by kernel_rfl) (by kernel_rfl) (by kernel_rfl) (by rfl) (v := ?av65) (fun W hW => ?ay65) (fun K hK => ?ar65); case ay65 => (obtain ⟨z0, z1, z2, z3, z4⟩ := HX W hW; go_simp; first | done | rfl))
            | refine anyV_skip 1 (Grows.pre) rfl (by kernel_rfl) (by kernel_rfl) (by kernel_rfl) (by rfl) (fun K hK => ?_)
          go_simp
          refine hK _ ?_
          clear hK K
          first
            | (refine anyV_val 2 (Grows.pre) rfl (by kernel_rfl) (by kernel_rfl) (by kernel_rfl) (by rfl) (v := ?av66) (fun W hW => ?ay66) (fun K hK => ?ar66); case ay66 => (obtain ⟨z0, z1, z2, z3, z4⟩ := HX W hW; go_simp; first | done | rfl))
            | refine anyV_skip 2 (Grows.pre) rfl (by kernel_rfl) (by kernel_rfl) (by kernel_rfl) (by rfl) (fun K hK => ?_)
          go_simp
          refine hK _ ?_
          clear hK K
          first
            | (refine anyV_val 3 (Grows.pre) rfl (by kernel_rfl) (by kernel_rfl) (by kernel_rfl) (by rfl) (v := ?av67) (fun W hW => ?ay67) (fun K hK => ?ar67); case ay67 => (obtain ⟨z0, z1, z2, z3, z4⟩ := HX W hW; go_simp; first | done | rfl))
            | refine anyV_skip 3 (Grows.pre) rfl (by kernel_rfl) (by kernel_rfl) (by kernel_rfl) (by rfl) (fun K hK => ?_)
          go_simp
          refine hK _ ?_
          clear hK K
          first
            | (refine anyV_val 6 (Grows.pre) rfl (by kernel_rfl) (by kernel_rfl) (by kernel_rfl) (by rfl) (v := ?av68) (fun W hW => ?ay68) (fun K hK => ?ar68); case ay68 => (obtain ⟨z0, z1, z2, z3, z4⟩ := HX W hW; go_simp; first | done | rfl))
            | refine anyV_skip 6 (Grows.pre) rfl (by kernel_rfl) (by kernel_rfl) (by kernel_rfl) (by rfl) (fun K hK => ?_)
          go_simp
          refine hK _ ?_
          clear hK K
          first
            | (refine anyV_val 7 (Grows.pre) rfl (by kernel_rfl) (by kernel_rfl) (by kernel_rfl) (by rfl) (v := ?av69) (fun W hW => ?ay69) (fun K hK => ?ar69); case ay69 => (obtain ⟨z0, z1, z2, z3, z4⟩ := HX W hW; go_simp; first | done | rfl))
            | refine anyV_skip 7 (Grows.pre) rfl (by kernel_rfl) (by kernel_rfl) (by kernel_rfl) (by rfl) (fun K hK => ?_)
          go_simp
          refine hK _ ?_
          clear hK K
          first
            | (refine anyV_val 8 (Grows.pre) rfl (by kernel_rfl) (by kernel_rfl) (by kernel_rfl) (by rfl) (v := ?av70) (fun W hW => ?ay70) (fun K hK => ?ar70); case ay70 => (obtain ⟨z0, z1, z2, z3, z4⟩ := HX W hW; go_simp; first | done | rfl))
            | refine anyV_skip 8 (Grows.pre) rfl (by kernel_rfl) (by kernel_rfl) (by kernel_rfl) (by rfl) (fun K hK => ?_)
          go_simp
          refine hK _ ?_
          clear hK K
          first
            | (refine anyV_val 9 (Grows.pre) rfl (by kernel_rfl) (by kernel_rfl) (by kernel_rfl) (by rfl) (v := ?av71) (fun W hW => ?ay71) (fun K hK => ?ar71); case ay71 => (obtain ⟨z0, z1, z2, z3, z4⟩ := HX W hW; go_simp; first | done | rfl))
            | refine anyV_skip 9 (Grows.pre) rfl (by kernel_rfl) (by kernel_rfl) (by kernel_rfl) (by rfl) (fun K hK => ?_)
          go_simp
          refine hK _ ?_
          clear hK K
          first
            | (refine anyV_val 10 (Grows.pre) rfl (by kernel_rfl) (by kernel_rfl) (by kernel_rfl) (by rfl) (v := ?av72) (fun W hW => ?ay72) (fun K hK => ?ar72); case ay72 => (obtain ⟨z0, z1, z2, z3, z4⟩ := HX W hW; go_simp; first | done | rfl))
            | refine anyV_skip 10 (Grows.pre) rfl (by kernel_rfl) (by kernel_rfl) (by kernel_rfl) (by rfl) (fun K hK => ?_)
          go_simp
          refine hK _ ?_
          clear hK K
          first
            | (refine anyV_val 11 (Grows.pre) rfl (by kernel_rfl) (by kernel_rfl) (by kernel_rfl) (by rfl) (v := ?av73) (fun W hW => ?ay73) (fun K hK => ?ar73); case ay73 => (obtain ⟨z0, z1, z2, z3, z4⟩ := HX W hW; go_simp; first | done | rfl))
            | refine anyV_skip 11 (Grows.pre) rfl (by kernel_rfl) (by kernel_rfl) (by kernel_rfl) (by rfl) (fun K hK => ?_)
          go_simp
          refine hK _ ?_
          clear hK K
          first
            | (refine anyV_val 12 (Grows.pre) rfl (by kernel_rfl) (by kernel_rfl) (by kernel_rfl) (by rfl) (v := ?av74) (fun W hW => ?ay74) (fun K hK => ?ar74); case ay74 => (obtain ⟨z0, z1, z2, z3, z4⟩ := HX W hW; go_simp; first | done | rfl))
            | refine anyV_skip 12 (Grows.pre) rfl (by kernel_rfl) (by kernel_rfl) (by kernel_rfl) (by rfl) (fun K hK => ?_)
          go_simp
          refine hK _ ?_
          clear hK K
          first
            | (refine anyV_val 13 (Grows.pre) rfl (by kernel_rfl) (by kernel_rfl) (by kernel_rfl) (by rfl) (v := ?av75) (fun W hW => ?ay75) (fun K hK => ?ar75); case ay75 => (obtain ⟨z0, z1, z2, z3, z4⟩ := HX W hW; go_simp; first | done | rfl))
            | refine anyV_skip 13 (Grows.pre) rfl (by kernel_rfl) (by kernel_rfl) (by kernel_rfl) (by rfl) (fun K hK => ?_)
          go_simp
          refine hK _ ?_
          clear hK K
          refine anyV_only 4 rfl (by kernel_rfl) (by rfl) (fun K hK => ?_)
          go_simp
          refine (pall_any wc.drew p g m bs _ ws hPd).mono ?_
          rintro e w3 ⟨⟨v3, rfl, hv, _⟩, hb3⟩
          have cv : ∀ W, Grows w3 W → (convert 22 9 v3).run Try.prog W = .ok (.string (strOfNums bs)) W := fun W hW => OwnBytes.conv (ownsRow_same hv fun b hb => hW.block b (hv.lt b hb).2)
          have hP3 := hPd.below hb3
          refine ⟨_, rfl, hK _ _ hb3 ?_⟩
          clear hK K
          refine anyV_frame (fun K hK => ?_)
          go_simp
          refine hK _ ?_
          clear hK K
          first
            | (refine anyV_val 5 (Grows.pre) rfl (by kernel_rfl) (by kernel_rfl) (by kernel_rfl) (by rfl) (v := ?av76) (fun W hW => ?ay76) (fun K hK => ?ar76); case ay76 => (obtain ⟨z0, z1, z2, z3, z4⟩ := HX W (Grows.pre.trans hb3 hW); go_simp; first | done | rfl))
            | refine anyV_skip 5 (Grows.pre) rfl (by kernel_rfl) (by kernel_rfl) (by kernel_rfl) (by rfl) (fun K hK => ?_)
          go_simp
          refine hK _ ?_
          clear hK K
          first
            | (refine anyV_val 14 (Grows.pre) rfl (by kernel_rfl) (by kernel_rfl) (by kernel_rfl) (by rfl) (v := ?av77) (fun W hW => ?ay77) (fun K hK => ?ar77); case ay77 => (obtain ⟨z0, z1, z2, z3, z4⟩ := HX W (Grows.pre.trans hb3 hW); go_simp; first | done | rfl))
            | refine anyV_skip 14 (Grows.pre) rfl (by kernel_rfl) (by kernel_rfl) (by kernel_rfl) (by rfl) (fun K hK => ?_)
          go_simp
          refine hK _ ?_
          clear hK K
          first
            | (refine anyV_val 15 (Grows.pre) rfl (by kernel_rfl) (by kernel_rfl) (by kernel_rfl) (by rfl) (v := ?av78) (fun W hW => ?ay78) (fun K hK => ?ar78); case ay78 => (obtain ⟨z0, z1, z2, z3, z4⟩ := HX W (Grows.pre.trans hb3 hW); go_simp; first | done | rfl))
            | refine anyV_skip 15 (Grows.pre) rfl (by kernel_rfl) (by kernel_rfl) (by kernel_rfl) (by rfl) (fun K hK => ?_)
          go_simp
          refine hK _ ?_
          clear hK K
          first
            | (refine anyV_val 16 (Grows.pre) rfl (by kernel_rfl) (by kernel_rfl) (by kernel_rfl) (by rfl) (v := ?av79) (fun W hW => ?ay79) (fun K hK => ?ar79); case ay79 => (obtain ⟨z0, z1, z2, z3, z4⟩ := HX W (Grows.pre.trans hb3 hW); go_simp; first | done | rfl))
            | refine anyV_skip 16 (Grows.pre) rfl (by kernel_rfl) (by kernel_rfl) (by kernel_rfl) (by rfl) (fun K hK => ?_)
          go_simp
          refine hK _ ?_
          clear hK K
          first
            | (refine anyV_val 17 (Grows.pre) rfl (by kernel_rfl) (by kernel_rfl) (by kernel_rfl) (by rfl) (v := ?av80) (fun W hW => ?ay80) (fun K hK => ?ar80); case ay80 => (obtain ⟨z0, z1, z2, z3, z4⟩ := HX W (Grows.pre.trans hb3 hW); go_simp; first | done | rfl))
            | refine anyV_skip 17 (Grows.pre) rfl (by kernel_rfl) (by kernel_rfl) (by kernel_rfl) (by rfl) (fun K hK => ?_)
          go_simp
          refine hK _ ?_
          clear hK K
          first
            | (refine anyV_val 19 (Grows.pre) rfl (by kernel_rfl) (by kernel_rfl) (by kernel_rfl) (by rfl) (v := ?av81) (fun W hW => ?ay81) (fun K hK => ?ar81); case ay81 => (obtain ⟨z0, z1, z2, z3, z4⟩ := HX W (Grows.pre.trans hb3 hW); go_simp; first | done | rfl))
            | refine anyV_skip 19 (Grows.pre) rfl (by kernel_rfl) (by kernel_rfl) (by kernel_rfl) (by rfl) (fun K hK => ?_)
          go_simp
          refine hK _ ?_
          clear hK K
          first
            | (refine anyV_val 20 (Grows.pre) rfl (by kernel_rfl) (by kernel_rfl) (by kernel_rfl) (by rfl) (v := ?av82) (fun W hW => ?ay82) (fun K hK => ?ar82); case ay82 => (obtain ⟨z0, z1, z2, z3, z4⟩ := HX W (Grows.pre.trans hb3 hW); go_simp; first | done | rfl))
            | refine anyV_skip 20 (Grows.pre) rfl (by kernel_rfl) (by kernel_rfl) (by kernel_rfl) (by rfl) (fun K hK => ?_)
          go_simp
          refine hK _ ?_
          clear hK K
          first
            | (refine anyV_val 21 (Grows.pre) rfl (by kernel_rfl) (by kernel_rfl) (by kernel_rfl) (by rfl) (v := ?av83) (fun W hW => ?ay83) (fun K hK => ?ar83); case ay83 => (obtain ⟨z0, z1, z2, z3, z4⟩ := HX W (Grows.pre.trans hb3 hW); go_simp; first | done | rfl))
            | refine anyV_skip 21 (Grows.pre) rfl (by kernel_rfl) (by kernel_rfl) (by kernel_rfl) (by rfl) (fun K hK => ?_)
          go_simp
          refine hK _ ?_
          clear hK K
          first
            | (refine anyV_val 22 (Grows.pre) rfl (by kernel_rfl) (by kernel_rfl) (by kernel_rfl) (by rfl) (v := ?av84) (fun W hW => ?ay84) (fun K hK => ?ar84); case ay84 => (obtain ⟨z0, z1, z2, z3, z4⟩ := HX W (Grows.pre.trans hb3 hW); go_simp; first | done | rfl))
            | refine anyV_skip 22 (Grows.pre) rfl (by kernel_rfl) (by kernel_rfl) (by kernel_rfl) (by rfl) (fun K hK => ?_)
          go_simp
          refine hK _ ?_
          clear hK K
          refine anyV_only 18 rfl (by kernel_rfl) (by rfl) (fun K hK => ?_)
          go_simp
          refine (readers_any w3 p g m bs _ ws hP3).mono ?_
          rintro e w4 ⟨rfl, rfl⟩
          refine ⟨_, rfl, hK _ _ (Grows.pre.refl _) ?_⟩
          clear hK K
          refine anyV_frame (fun K hK => ?_)
          go_simp
          refine hK _ ?_
          clear hK K
          first
            | (refine anyV_val 23 (Grows.pre) rfl (by kernel_rfl) (by kernel_rfl) (by kernel_rfl) (by rfl) (v := ?av85) (fun W hW => ?ay85) (fun K hK => ?ar85); case ay85 => (obtain ⟨z0, z1, z2, z3, z4⟩ := HX W (Grows.pre.trans hb3 hW); go_simp; first | done | rfl))
            | refine anyV_skip 23 (Grows.pre) rfl (by kernel_rfl) (by kernel_rfl) (by kernel_rfl) (by rfl) (fun K hK => ?_)
          go_simp
          refine hK _ ?_
          clear hK K
          first
            | (refine anyV_val 24 (Grows.pre) rfl (by kernel_rfl) (by kernel_rfl) (by kernel_rfl) (by rfl) (v := ?av86) (fun W hW => ?ay86) (fun K hK => ?ar86); case ay86 => (obtain ⟨z0, z1, z2, z3, z4⟩ := HX W (Grows.pre.trans hb3 hW); go_simp; first | done | rfl))
            | refine anyV_skip 24 (Grows.pre) rfl (by kernel_rfl) (by kernel_rfl) (by kernel_rfl) (by rfl) (fun K hK => ?_)
          go_simp
          refine hK _ ?_
          clear hK K
          first
            | (refine anyV_val 25 (Grows.pre) rfl (by kernel_rfl) (by kernel_rfl) (by kernel_rfl) (by rfl) (v := ?av87) (fun W hW => ?ay87) (fun K hK => ?ar87); case ay87 => (obtain ⟨z0, z1, z2, z3, z4⟩ := HX W (Grows.pre.trans hb3 hW); go_simp; first | done | rfl))
            | refine anyV_skip 25 (Grows.pre) rfl (by kernel_rfl) (by kernel_rfl) (by kernel_rfl) (by rfl) (fun K hK => ?_)
          go_simp
          refine hK _ ?_
          clear hK K
          first
            | (refine anyV_val 26 (Grows.pre) rfl (by kernel_rfl) (by kernel_rfl) (by kernel_rfl) (by rfl) (v := ?av88) (fun W hW => ?ay88) (fun K hK => ?ar88); case ay88 => (obtain ⟨z0, z1, z2, z3, z4⟩ := HX W (Grows.pre.trans hb3 hW); go_simp; first | done | rfl))
            | refine anyV_skip 26 (Grows.pre) rfl (by kernel_rfl) (by kernel_rfl) (by kernel_rfl) (by rfl) (fun K hK => ?_)
          go_simp
          refine hK _ ?_
          clear hK K
          first
            | (refine anyV_val 28 (Grows.pre) rfl (by kernel_rfl) (by kernel_rfl) (by kernel_rfl) (by rfl) (v := ?av89) (fun W hW => ?ay89) (fun K hK => ?ar89); case ay89 => (obtain ⟨z0, z1, z2, z3, z4⟩ := HX W (Grows.pre.trans hb3 hW); go_simp; first | done | rfl))
            | refine anyV_skip 28 (Grows.pre) rfl (by kernel_rfl) (by kernel_rfl) (by kernel_rfl) (by rfl) (fun K hK => ?_)
          go_simp
          refine hK _ ?_
          clear hK K
          first
            | (refine anyV_val 29 (Grows.pre) rfl (by kernel_rfl) (by kernel_rfl) (by kernel_rfl) (by rfl) (v := ?av90) (fun W hW => ?ay90) (fun K hK => ?ar90); case ay90 => (obtain ⟨z0, z1, z2, z3, z4⟩ := HX W (Grows.pre.trans hb3 hW); go_simp; first | done | rfl))
            | refine anyV_skip 29 (Grows.pre) rfl (by kernel_rfl) (by kernel_rfl) (by kernel_rfl) (by rfl) (fun K hK => ?_)
          go_simp
          refine hK _ ?_
          clear hK K
          first
            | (refine anyV_val 30 (Grows.pre) rfl (by kernel_rfl) (by kernel_rfl) (by kernel_rfl) (by rfl) (v := ?av91) (fun W hW => ?ay91) (fun K hK => ?ar91); case ay91 => (obtain ⟨z0, z1, z2, z3, z4⟩ := HX W (Grows.pre.trans hb3 hW); go_simp; first | done | rfl))
            | refine anyV_skip 30 (Grows.pre) rfl (by kernel_rfl) (by kernel_rfl) (by kernel_rfl) (by rfl) (fun K hK => ?_)
          go_simp
          refine hK _ ?_
          clear hK K
          first
            | (refine anyV_val 31 (Grows.pre) rfl (by kernel_rfl) (by kernel_rfl) (by kernel_rfl) (by rfl) (v := ?av92) (fun W hW => ?ay92) (fun K hK => ?ar92); case ay92 => (obtain ⟨z0, z1, z2, z3, z4⟩ := HX W (Grows.pre.trans hb3 hW); go_simp; first | done | rfl))
            | refine anyV_skip 31 (Grows.pre) rfl (by kernel_rfl) (by kernel_rfl) (by kernel_rfl) (by rfl) (fun K hK => ?_)
          go_simp
          refine hK _ ?_
          clear hK K
          refine anyV_only 27 rfl (by kernel_rfl) (by rfl) (fun K hK => ?_)
          go_simp
          refine (writers_any w3 p g m bs _ ws hP3).mono ?_
          rintro e w4 ⟨rfl, rfl⟩
          refine ⟨_, rfl, hK _ _ (Grows.pre.refl _) ?_⟩
          clear hK K
          refine anyV_frame (fun K hK => ?_)
          go_simp
          refine hK _ ?_
          clear hK K
          first
            | (refine anyV_val 32 (Grows.pre) rfl (by kernel_rfl) (by kernel_rfl) (by kernel_rfl) (by rfl) (v := ?av93) (fun W hW => ?ay93) (fun K hK => ?ar93); case ay93 => (obtain ⟨z0, z1, z2, z3, z4⟩ := HX W (Grows.pre.trans hb3 hW); go_simp; first | done | rfl))
            | refine anyV_skip 32 (Grows.pre) rfl (by kernel_rfl) (by kernel_rfl) (by kernel_rfl) (by rfl) (fun K hK => ?_)
          go_simp
          refine hK _ ?_
          clear hK K
          first
            | (refine anyV_val 33 (Grows.pre) rfl (by kernel_rfl) (by kernel_rfl) (by kernel_rfl) (by rfl) (v := ?av94) (fun W hW => ?ay94) (fun K hK => ?ar94); case ay94 => (obtain ⟨z0, z1, z2, z3, z4⟩ := HX W (Grows.pre.trans hb3 hW); go_simp; first | done | rfl))
            | refine anyV_skip 33 (Grows.pre) rfl (by kernel_rfl) (by kernel_rfl) (by kernel_rfl) (by rfl) (fun K hK => ?_)
          go_simp
          refine hK _ ?_
          clear hK K
          first
            | (refine anyV_val 34 (Grows.pre) rfl (by kernel_rfl) (by kernel_rfl) (by kernel_rfl) (by rfl) (v := ?av95) (fun W hW => ?ay95) (fun K hK => ?ar95); case ay95 => (obtain ⟨z0, z1, z2, z3, z4⟩ := HX W (Grows.pre.trans hb3 hW); go_simp; first | done | rfl))
            | refine anyV_skip 34 (Grows.pre) rfl (by kernel_rfl) (by kernel_rfl) (by kernel_rfl) (by rfl) (fun K hK => ?_)
          go_simp
          refine hK _ ?_
          clear hK K
          first
            | (refine anyV_val 35 (Grows.pre) rfl (by kernel_rfl) (by kernel_rfl) (by kernel_rfl) (by rfl) (v := ?av96) (fun W hW => ?ay96) (fun K hK => ?ar96); case ay96 => (obtain ⟨z0, z1, z2, z3, z4⟩ := HX W (Grows.pre.trans hb3 hW); go_simp; first | done | rfl))
            | refine anyV_skip 35 (Grows.pre) rfl (by kernel_rfl) (by kernel_rfl) (by kernel_rfl) (by rfl) (fun K hK => ?_)
          go_simp
          refine hK _ ?_
          clear hK K
          first
            | (refine anyV_val 37 (Grows.pre) rfl (by kernel_rfl) (by kernel_rfl) (by kernel_rfl) (by rfl) (v := ?av97) (fun W hW => ?ay97) (fun K hK => ?ar97); case ay97 => (obtain ⟨z0, z1, z2, z3, z4⟩ := HX W (Grows.pre.trans hb3 hW); go_simp; first | done | rfl))
            | refine anyV_skip 37 (Grows.pre) rfl (by kernel_rfl) (by kernel_rfl) (by kernel_rfl) (by rfl) (fun K hK => ?_)
          go_simp
          refine hK _ ?_
          clear hK K
          first
            | (refine anyV_val 38 (Grows.pre) rfl (by kernel_rfl) (by kernel_rfl) (by kernel_rfl) (by rfl) (v := ?av98) (fun W hW => ?ay98) (fun K hK => ?ar98); case ay98 => (obtain ⟨z0, z1, z2, z3, z4⟩ := HX W (Grows.pre.trans hb3 hW); go_simp; first | done | rfl))
            | refine anyV_skip 38 (Grows.pre) rfl (by kernel_rfl) (by kernel_rfl) (by kernel_rfl) (by rfl) (fun K hK => ?_)
          go_simp
          refine hK _ ?_
          clear hK K
          refine anyV_only 36 rfl (by kernel_rfl) (by rfl) (fun K hK => ?_)
          go_simp
          refine (pcap_any w3 p g m bs _ ws hP3).mono ?_
          rintro e w4 ⟨rfl, rfl⟩
          refine ⟨_, rfl, hK _ _ (Grows.pre.refl _) ?_⟩
          clear hK K
          refine anyV_frame (fun K hK => ?_)
          go_simp
          refine hK _ ?_
          clear hK K
          first
            | (refine anyV_val 39 (Grows.pre) rfl (by kernel_rfl) (by kernel_rfl) (by kernel_rfl) (by rfl) (v := ?av99) (fun W hW => ?ay99) (fun K hK => ?ar99); case ay99 => (obtain ⟨z0, z1, z2, z3, z4⟩ := HX W (Grows.pre.trans hb3 hW); go_simp; first | done | rfl))
            | refine anyV_skip 39 (Grows.pre) rfl (by kernel_rfl) (by kernel_rfl) (by kernel_rfl) (by rfl) (fun K hK => ?_)
          go_simp
          refine hK _ ?_
          clear hK K
          first
            | (refine anyV_val 40 (Grows.pre) rfl (by kernel_rfl) (by kernel_rfl) (by kernel_rfl) (by rfl) (v := ?av100) (fun W hW => ?ay100) (fun K hK => ?ar100); case ay100 => (obtain ⟨z0, z1, z2, z3, z4⟩ := HX W (Grows.pre.trans hb3 hW); go_simp; first | done | rfl))
            | refine anyV_skip 40 (Grows.pre) rfl (by kernel_rfl) (by kernel_rfl) (by kernel_rfl) (by rfl) (fun K hK => ?_)
          go_simp
          refine hK _ ?_
          clear hK K
          first
            | (refine anyV_val 41 (Grows.pre) rfl (by kernel_rfl) (by kernel_rfl) (by kernel_rfl) (by rfl) (v := ?av101) (fun W hW => ?ay101) (fun K hK => ?ar101); case ay101 => (obtain ⟨z0, z1, z2, z3, z4⟩ := HX W (Grows.pre.trans hb3 hW); go_simp; first | done | rfl))
            | refine anyV_skip 41 (Grows.pre) rfl (by kernel_rfl) (by kernel_rfl) (by kernel_rfl) (by rfl) (fun K hK => ?_)
          go_simp
          refine hK _ ?_
          clear hK K
          first
            | (refine anyV_val 42 (Grows.pre) rfl (by kernel_rfl) (by kernel_rfl) (by kernel_rfl) (by rfl) (v := ?av102) (fun W hW => ?ay102) (fun K hK => ?ar102); case ay102 => (obtain ⟨z0, z1, z2, z3, z4⟩ := HX W (Grows.pre.trans hb3 hW); go_simp; first | done | rfl))
            | refine anyV_skip 42 (Grows.pre) rfl (by kernel_rfl) (by kernel_rfl) (by kernel_rfl) (by rfl) (fun K hK => ?_)
          go_simp
          refine hK _ ?_
          clear hK K
          first
            | (refine anyV_val 44 (Grows.pre) rfl (by kernel_rfl) (by kernel_rfl) (by kernel_rfl) (by rfl) (v := ?av103) (fun W hW => ?ay103) (fun K hK => ?ar103); case ay103 => (obtain ⟨z0, z1, z2, z3, z4⟩ := HX W (Grows.pre.trans hb3 hW); go_simp; first | done | rfl))
            | refine anyV_skip 44 (Grows.pre) rfl (by kernel_rfl) (by kernel_rfl) (by kernel_rfl) (by rfl) (fun K hK => ?_)
          go_simp
          refine hK _ ?_
          clear hK K
          first
            | (refine anyV_val 45 (Grows.pre) rfl (by kernel_rfl) (by kernel_rfl) (by kernel_rfl) (by rfl) (v := ?av104) (fun W hW => ?ay104) (fun K hK => ?ar104); case ay104 => (obtain ⟨z0, z1, z2, z3, z4⟩ := HX W (Grows.pre.trans hb3 hW); go_simp; first | done | rfl))
            | refine anyV_skip 45 (Grows.pre) rfl (by kernel_rfl) (by kernel_rfl) (by kernel_rfl) (by rfl) (fun K hK => ?_)
          go_simp
          refine hK _ ?_
          clear hK K
          first
            | (refine anyV_val 46 (Grows.pre) rfl (by kernel_rfl) (by kernel_rfl) (by kernel_rfl) (by rfl) (v := ?av105) (fun W hW => ?ay105) (fun K hK => ?ar105); case ay105 => (obtain ⟨z0, z1, z2, z3, z4⟩ := HX W (Grows.pre.trans hb3 hW); go_simp; first | done | rfl))
            | refine anyV_skip 46 (Grows.pre) rfl (by kernel_rfl) (by kernel_rfl) (by kernel_rfl) (by rfl) (fun K hK => ?_)
          go_simp
          refine hK _ ?_
          clear hK K
          first
            | (refine anyV_val 47 (Grows.pre) rfl (by kernel_rfl) (by kernel_rfl) (by kernel_rfl) (by rfl) (v := ?av106) (fun W hW => ?ay106) (fun K hK => ?ar106); case ay106 => (obtain ⟨z0, z1, z2, z3, z4⟩ := HX W (Grows.pre.trans hb3 hW); go_simp; first | done | rfl))
            | refine anyV_skip 47 (Grows.pre) rfl (by kernel_rfl) (by kernel_rfl) (by kernel_rfl) (by rfl) (fun K hK => ?_)
          go_simp
          refine hK _ ?_
          clear hK K
          first
            | (refine anyV_val 48 (Grows.pre) rfl (by kernel_rfl) (by kernel_rfl) (by kernel_rfl) (by rfl) (v := ?av107) (fun W hW => ?ay107) (fun K hK => ?ar107); case ay107 => (obtain ⟨z0, z1, z2, z3, z4⟩ := HX W (Grows.pre.trans hb3 hW); go_simp; first | done | rfl))
            | refine anyV_skip 48 (Grows.pre) rfl (by kernel_rfl) (by kernel_rfl) (by kernel_rfl) (by rfl) (fun K hK => ?_)
          go_simp
          refine hK _ ?_
          clear hK K
          refine anyV_only 43 rfl (by kernel_rfl) (by rfl) (fun K hK => ?_)
          go_simp
          refine (k5 w3 hP3).mono ?_
          rintro e w4 ⟨rfl, rfl⟩
          refine ⟨_, rfl, hK _ _ (Grows.pre.refl _) ?_⟩
          clear hK K
          refine anyV_frame (fun K hK => ?_)
          go_simp
          refine hK _ ?_
          clear hK K
          first
            | (refine anyV_val 49 (Grows.pre) rfl (by kernel_rfl) (by kernel_rfl) (by kernel_rfl) (by rfl) (v := ?av108) (fun W hW => ?ay108) (fun K hK => ?ar108); case ay108 => (obtain ⟨z0, z1, z2, z3, z4⟩ := HX W (Grows.pre.trans hb3 hW); go_simp; first | done | rfl))
            | refine anyV_skip 49 (Grows.pre) rfl (by kernel_rfl) (by kernel_rfl) (by kernel_rfl) (by rfl) (fun K hK => ?_)
          go_simp
          refine hK _ ?_
          clear hK K
          first
            | (refine anyV_val 50 (Grows.pre) rfl (by kernel_rfl) (by kernel_rfl) (by kernel_rfl) (by rfl) (v := ?av109) (fun W hW => ?ay109) (fun K hK => ?ar109); case ay109 => (obtain ⟨z0, z1, z2, z3, z4⟩ := HX W (Grows.pre.trans hb3 hW); go_simp; first | done | rfl))
            | refine anyV_skip 50 (Grows.pre) rfl (by kernel_rfl) (by kernel_rfl) (by kernel_rfl) (by rfl) (fun K hK => ?_)
          go_simp
          refine hK _ ?_
          clear hK K
          first
            | (refine anyV_val 51 (Grows.pre) rfl (by kernel_rfl) (by kernel_rfl) (by kernel_rfl) (by rfl) (v := ?av110) (fun W hW => ?ay110) (fun K hK => ?ar110); case ay110 => (obtain ⟨z0, z1, z2, z3, z4⟩ := HX W (Grows.pre.trans hb3 hW); go_simp; first | done | rfl))
            | refine anyV_skip 51 (Grows.pre) rfl (by kernel_rfl) (by kernel_rfl) (by kernel_rfl) (by rfl) (fun K hK => ?_)
          go_simp
          refine hK _ ?_
          clear hK K
          first
            | (refine anyV_val 52 (Grows.pre) rfl (by kernel_rfl) (by kernel_rfl) (by kernel_rfl) (by rfl) (v := ?av111) (fun W hW => ?ay111) (fun K hK => ?ar111); case ay111 => (obtain ⟨z0, z1, z2, z3, z4⟩ := HX W (Grows.pre.trans hb3 hW); go_simp; first | done | rfl))
            | refine anyV_skip 52 (Grows.pre) rfl (by kernel_rfl) (by kernel_rfl) (by kernel_rfl) (by rfl) (fun K hK => ?_)
          go_simp
          refine hK _ ?_
          clear hK K
          first
            | (refine anyV_val 53 (Grows.pre) rfl (by kernel_rfl) (by kernel_rfl) (by kernel_rfl) (by rfl) (v := ?av112) (fun W hW => ?ay112) (fun K hK => ?ar112); case ay112 => (obtain ⟨z0, z1, z2, z3, z4⟩ := HX W (Grows.pre.trans hb3 hW); go_simp; first | done | rfl))
            | refine anyV_skip 53 (Grows.pre) rfl (by kernel_rfl) (by kernel_rfl) (by kernel_rfl) (by rfl) (fun K hK => ?_)
          go_simp
          refine hK _ ?_
          clear hK K
          first
            | (refine anyV_val 54 (Grows.pre) rfl (by kernel_rfl) (by kernel_rfl) (by kernel_rfl) (by rfl) (v := ?av113) (fun W hW => ?ay113) (fun K hK => ?ar113); case ay113 => (obtain ⟨z0, z1, z2, z3, z4⟩ := HX W (Grows.pre.trans hb3 hW); go_simp; first | done | rfl))
            | refine anyV_skip 54 (Grows.pre) rfl (by kernel_rfl) (by kernel_rfl) (by kernel_rfl) (by rfl) (fun K hK => ?_)
          go_simp
          refine hK _ ?_
          clear hK K
          first
            | (refine anyV_val 55 (Grows.pre) rfl (by kernel_rfl) (by kernel_rfl) (by kernel_rfl) (by rfl) (v := ?av114) (fun W hW => ?ay114) (fun K hK => ?ar114); case ay114 => (obtain ⟨z0, z1, z2, z3, z4⟩ := HX W (Grows.pre.trans hb3 hW); go_simp; first | done | rfl))
            | refine anyV_skip 55 (Grows.pre) rfl (by kernel_rfl) (by kernel_rfl) (by kernel_rfl) (by rfl) (fun K hK => ?_)
          go_simp
          refine hK _ ?_
          clear hK K
          first
            | (refine anyV_val 56 (Grows.pre) rfl (by kernel_rfl) (by kernel_rfl) (by kernel_rfl) (by rfl) (v := ?av115) (fun W hW => ?ay115) (fun K hK => ?ar115); case ay115 => (obtain ⟨z0, z1, z2, z3, z4⟩ := HX W (Grows.pre.trans hb3 hW); go_simp; first | done | rfl))
            | refine anyV_skip 56 (Grows.pre) rfl (by kernel_rfl) (by kernel_rfl) (by kernel_rfl) (by rfl) (fun K hK => ?_)
          go_simp
          refine hK _ ?_
          clear hK K
          first
            | (refine anyV_val 57 (Grows.pre) rfl (by kernel_rfl) (by kernel_rfl) (by kernel_rfl) (by rfl) (v := ?av116) (fun W hW => ?ay116) (fun K hK => ?ar116); case ay116 => (obtain ⟨z0, z1, z2, z3, z4⟩ := HX W (Grows.pre.trans hb3 hW); go_simp; first | done | rfl))
            | refine anyV_skip 57 (Grows.pre) rfl (by kernel_rfl) (by kernel_rfl) (by kernel_rfl) (by rfl) (fun K hK => ?_)
          go_simp
          refine hK _ ?_
          clear hK K
          first
            | (refine anyV_val 58 (Grows.pre) rfl (by kernel_rfl) (by kernel_rfl) (by kernel_rfl) (by rfl) (v := ?av117) (fun W hW => ?ay117) (fun K hK => ?ar117); case ay117 => (obtain ⟨z0, z1, z2, z3, z4⟩ := HX W (Grows.pre.trans hb3 hW); go_simp; first | done | rfl))
            | refine anyV_skip 58 (Grows.pre) rfl (by kernel_rfl) (by kernel_rfl) (by kernel_rfl) (by rfl) (fun K hK => ?_)
          go_simp
          refine hK _ ?_
          clear hK K
          first
            | (refine anyV_val 59 (Grows.pre) rfl (by kernel_rfl) (by kernel_rfl) (by kernel_rfl) (by rfl) (v := ?av118) (fun W hW => ?ay118) (fun K hK => ?ar118); case ay118 => (obtain ⟨z0, z1, z2, z3, z4⟩ := HX W (Grows.pre.trans hb3 hW); go_simp; first | done | rfl))
            | refine anyV_skip 59 (Grows.pre) rfl (by kernel_rfl) (by kernel_rfl) (by kernel_rfl) (by rfl) (fun K hK => ?_)
          go_simp
          refine hK _ ?_
          clear hK K
          first
            | (refine anyV_val 61 (Grows.pre) rfl (by kernel_rfl) (by kernel_rfl) (by kernel_rfl) (by rfl) (v := ?av119) (fun W hW => ?ay119) (fun K hK => ?ar119); case ay119 => (obtain ⟨z0, z1, z2, z3, z4⟩ := HX W (Grows.pre.trans hb3 hW); go_simp; first | done | rfl))
            | refine anyV_skip 61 (Grows.pre) rfl (by kernel_rfl) (by kernel_rfl) (by kernel_rfl) (by rfl) (fun K hK => ?_)
          go_simp
          refine hK _ ?_
          clear hK K
          refine anyV_only 60 rfl (by kernel_rfl) (by rfl) (fun K hK => ?_)
          go_simp
          refine (k1 w3 hP3).mono ?_
          rintro e w4 ⟨rfl, hb4⟩
          have hD4 := (hD.below (below_undrew hb3)).below hb4
          have hP4 := hP3.below hb4
          refine ⟨_, rfl, hK _ _ hb4 ?_⟩
          clear hK K
          refine anyV_frame (fun K hK => ?_)
          go_simp
          refine hK _ ?_
          clear hK K
          refine anyV_only 62 rfl (by kernel_rfl) (by rfl) (fun K hK => ?_)
          go_simp
          refine (k3 w4 hD4).mono ?_
          rintro e w5 ⟨rfl, hb5⟩
          have hP5 := hP4.below hb5
          have hD5 := hD4.below hb5
          refine ⟨_, rfl, hK _ _ hb5 ?_⟩
          clear hK K
          refine anyV_frame (fun K hK => ?_)
          go_simp
          refine hK _ ?_
          clear hK K
          first
            | (refine anyV_val 63 (Grows.pre) rfl (by kernel_rfl) (by kernel_rfl) (by kernel_rfl) (by rfl) (v := ?av120) (fun W hW => ?ay120) (fun K hK => ?ar120); case ay120 => (go_simp; first | done | rfl))
            | refine anyV_skip 63 (Grows.pre) rfl (by kernel_rfl) (by kernel_rfl) (by kernel_rfl) (by rfl) (fun K hK => ?_)
          go_simp
          refine hK _ ?_
          clear hK K
          first
            | (refine anyV_val 64 (Grows.pre) rfl (by kernel_rfl) (by kernel_rfl) (by kernel_rfl) (by rfl) (v := ?av121) (fun W hW => ?ay121) (fun K hK => ?ar121); case ay121 => (go_simp; first | done | rfl))
            | refine anyV_skip 64 (Grows.pre) rfl (by kernel_rfl) (by kernel_rfl) (by kernel_rfl) (by rfl) (fun K hK => ?_)
          go_simp
          refine hK _ ?_
          clear hK K
          first
            | (refine anyV_val 65 (Grows.pre) rfl (by kernel_rfl) (by kernel_rfl) (by kernel_rfl) (by rfl) (v := ?av122) (fun W hW => ?ay122) (fun K hK => ?ar122); case ay122 => (go_simp; first | done | rfl))
            | refine anyV_skip 65 (Grows.pre) rfl (by kernel_rfl) (by kernel_rfl) (by kernel_rfl) (by rfl) (fun K hK => ?_)
          go_simp
          refine hK _ ?_
          clear hK K
          first
            | (refine anyV_val 66 (Grows.pre) rfl (by kernel_rfl) (by kernel_rfl) (by kernel_rfl) (by rfl) (v := ?av123) (fun W hW => ?ay123) (fun K hK => ?ar123); case ay123 => (go_simp; first | done | rfl))
            | refine anyV_skip 66 (Grows.pre) rfl (by kernel_rfl) (by kernel_rfl) (by kernel_rfl) (by rfl) (fun K hK => ?_)
          go_simp
          refine hK _ ?_
          clear hK K
          first
            | (refine anyV_val 68 (Grows.pre) rfl (by kernel_rfl) (by kernel_rfl) (by kernel_rfl) (by rfl) (v := ?av124) (fun W hW => ?ay124) (fun K hK => ?ar124); case ay124 => (go_simp; first | done | rfl))
            | refine anyV_skip 68 (Grows.pre) rfl (by kernel_rfl) (by kernel_rfl) (by kernel_rfl) (by rfl) (fun K hK => ?_)
          go_simp
          refine hK _ ?_
          clear hK K
          refine anyV_only 67 rfl (by kernel_rfl) (by rfl) (fun K hK => ?_)
          go_simp
          refine (k2 w5 hP5).mono ?_
          rintro e w6 ⟨rfl, hb6⟩
          have hP6 := hP5.below hb6
          have hD6 := hD5.below hb6
          refine ⟨_, rfl, hK _ _ hb6 ?_⟩
          clear hK K
          refine anyV_frame (fun K hK => ?_)
          go_simp
          refine hK _ ?_
          clear hK K
          refine anyV_only 69 rfl (by kernel_rfl) (by rfl) (fun K hK => ?_)
          go_simp
          refine (k4 w6 hD6).mono ?_
          rintro e w7 ⟨rfl, hb7⟩
          have hP7 := hP6.below hb7
          have hD7 := hD6.below hb7
          refine ⟨_, rfl, hK _ _ hb7 ?_⟩
          clear hK K
          refine anyV_frame (fun K hK => ?_)
          go_simp
          refine hK _ ?_
          clear hK K
          first
            | (refine anyV_val 70 (Grows.pre) rfl (by kernel_rfl) (by kernel_rfl) (by kernel_rfl) (by rfl) (v := ?av125) (fun W hW => ?ay125) (fun K hK => ?ar125); case ay125 => (go_simp; first | done | rfl))
            | refine anyV_skip 70 (Grows.pre) rfl (by kernel_rfl) (by kernel_rfl) (by kernel_rfl) (by rfl) (fun K hK => ?_)
          go_simp
          refine hK _ ?_
          clear hK K
          first
            | (refine anyV_val 71 (Grows.pre) rfl (by kernel_rfl) (by kernel_rfl) (by kernel_rfl) (by rfl) (v := ?av126) (fun W hW => ?ay126) (fun K hK => ?ar126); case ay126 => (go_simp; first | done | rfl))
            | refine anyV_skip 71 (Grows.pre) rfl (by kernel_rfl) (by kernel_rfl) (by kernel_rfl) (by rfl) (fun K hK => ?_)
          go_simp
          refine hK _ ?_
          clear hK K
          refine anyV_done (by kernel_rfl) ?_
          have hg7 : Below wc.heap.size wc w7 := below_undrew ((((hb3.trans (hb4.mono hb3.size)).trans (hb5.mono (Nat.le_trans hb3.size hb4.size))).trans (hb6.mono (Nat.le_trans (Nat.le_trans hb3.size hb4.size) hb5.size))).trans (hb7.mono (Nat.le_trans (Nat.le_trans (Nat.le_trans hb3.size hb4.size) hb5.size) hb6.size)))
          have hS7 := cell_same (p := ⟨sb, 0, none⟩) (hg7.block sb hSl) hS
          have hb8 := hb.trans (hg7.mono hbw)
          clear cv cvd HX k1 k2 k3 k4 k5
          go_wp2_with fail
          go_roundw
          case rel => exact ⟨k + 1, p, g, bs, _, ws, by go_num, by omega, rfl, hpw, hgw, hpP, hpd, hgP, hgd, hsp, hsg, hP7, hD7, hS7, hb8⟩
          case measure => simp [intOf]; omega
end Go.Proofs.Ytcmcilfopkhipaa
