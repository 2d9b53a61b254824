/- The walk of the law FramesDouble. -/
import Derived.Test.YtdacdfnfbknndaaFramesPartsW
namespace Go.Proofs.Ytdacdfnfbknndaa
open Go Go.RowKit
attribute [local go_sem] upV_value upV_skip upV_enter
set_option linter.unusedVariables false
set_option linter.unnecessarySimpa false
set_option linter.unusedSimpArgs false
theorem okF_set {fs : List Fr} {i : Nat} (hi : i < fs.length) (x : Fr) (hx : x.n ≠ 0) : okF (fs.set i x) i = true := by
  rw [okF_at (by rw [List.length_set]; exact hi), List.getElem_set_self]
  exact decide_eq_true hx
theorem readL_all {fs : List Fr} (h : Len64 fs) {i : Nat} (hi : i < fs.length) (hn : fs[i].n ≠ 0) : readL fs i 0 64 = fs[i].b := by
  have h64 := h.at hi
  have := readL_of hi hn (show 0 + 64 ≤ 64 by omega)
  rw [List.drop_zero, List.take_of_length_le (by omega)] at this
  exact this
theorem writeF_of {fs : List Fr} {i : Nat} (hi : i < fs.length) (hn : fs[i].n ≠ 0) (o : Nat) (bs : List Int) (hb : o + bs.length ≤ 64) : writeF fs i o bs = fs.set i ⟨putB fs[i].b o bs, fs[i].n⟩ := by
  unfold writeF
  rw [if_pos (readE_of hi hn hb), frAt_at hi]
  simp
theorem double_law {fs : List Fr} (h : Len64 fs) {i t : Nat} (hi : i < fs.length) (hn : fs[i].n ≠ 0) (ht : takeF fs = some t) (bs : List Int) (hb : bs.length ≤ 64) :
    readE (writeF (dblL fs i) i 0 bs) t 0 64 = 0 ∧ readL (writeF (dblL fs i) i 0 bs) t 0 64 = fs[i].b ∧ okF (writeF (dblL fs i) i 0 bs) t = true ∧ (frAt (writeF (dblL fs i) i 0 bs) t).n = 1 ∧ t ≠ i := by
  obtain ⟨htl, ht0, _⟩ := takeF_some ht
  have hti : t ≠ i := fun e => by subst e; exact hn ht0
  have hk : okF fs i = true := by rw [okF_at hi]; exact decide_eq_true hn
  have e1 : dblL fs i = fs.set t ⟨fs[i].b, 1⟩ := by unfold dblL; rw [if_pos hk, ht]; simp only; rw [frAt_at hi]
  have hi2 : i < (fs.set t (⟨fs[i].b, 1⟩ : Fr)).length := by rw [List.length_set]; exact hi
  have g1 : (fs.set t (⟨fs[i].b, 1⟩ : Fr))[i] = fs[i] := List.getElem_set_ne hti hi2
  have e2 : writeF (dblL fs i) i 0 bs = (fs.set t ⟨fs[i].b, 1⟩).set i ⟨putB fs[i].b 0 bs, fs[i].n⟩ := by
    rw [e1]
    have := writeF_of hi2 (by rw [g1]; exact hn) 0 bs (by omega)
    rw [g1] at this
    exact this
  rw [e2]
  have ht3 : t < ((fs.set t (⟨fs[i].b, 1⟩ : Fr)).set i ⟨putB fs[i].b 0 bs, fs[i].n⟩).length := by rw [List.length_set, List.length_set]; exact htl
  have g2 : ((fs.set t (⟨fs[i].b, 1⟩ : Fr)).set i ⟨putB fs[i].b 0 bs, fs[i].n⟩)[t] = ⟨fs[i].b, 1⟩ := by
    rw [List.getElem_set_ne (fun e => hti e.symm) ht3, List.getElem_set_self]
  have hn3 : ((fs.set t (⟨fs[i].b, 1⟩ : Fr)).set i ⟨putB fs[i].b 0 bs, fs[i].n⟩)[t].n ≠ 0 := by rw [g2]; simp
  have h64 : Len64 ((fs.set t (⟨fs[i].b, 1⟩ : Fr)).set i ⟨putB fs[i].b 0 bs, fs[i].n⟩) := Len64.set (Len64.set h t (x := ⟨fs[i].b, 1⟩) (h.at hi)) i (x := ⟨putB fs[i].b 0 bs, fs[i].n⟩) (putB_len (h.at hi) 0 bs (by omega))
  refine ⟨readE_of ht3 hn3 (show 0 + 64 ≤ 64 by omega), ?_, ?_, ?_, hti⟩
  · rw [readL_all h64 ht3 hn3, g2]
  · rw [okF_at ht3]; exact decide_eq_true hn3
  · rw [frAt_at ht3, g2]
set_option maxRecDepth 100000 in
set_option maxHeartbeats 8000000 in
theorem framesDouble_any (W : World) (a : Option Addr) (len cap : Nat) (os : List OpM) (h : IsOps W.heap.size W a len cap os) (k : Int) (hk1 : 0 ≤ k) (hk2 : k ≤ 255) (ba : Option Addr) (bl bc : Nat) (bs : List Int) (hbs : Row8 W.heap.size W (.slice ba bl bc) bs) :
    Calls Try.prog 4 #[.slice a len cap, .int .u8 k, .slice ba bl bc] W fun e W' => e = .returned (.bool true) ∧ Below W.heap.size W W' := by
  go_enter Try.func4, Try.ntmps4
  go_wp2_with (go_at_call 10; refine held ?_)
  unfold Held
  refine (alive_any W).mono ?_
  rintro e w2 ⟨rfl, bW2⟩
  have h2 := (h.below bW2).mono bW2.size
  go_wp2_with (go_at_call 11; refine held ?_)
  unfold Held
  refine (great_any _ w2 a len cap os h2).mono ?_
  rintro e w3 ⟨rfl, ⟨rfl, hl1, hl2⟩ | rfl⟩
  rotate_left
  · go_wp2
    go_ret
    exact ⟨rfl, bW2⟩
  by_cases hb64 : (bl : Int) > 64
  · have t1 : decide ((bl : Int) > 64) = true := decide_eq_true hb64
    go_wp2
    go_ret
    exact ⟨rfl, bW2⟩
  have t1 : decide ((bl : Int) > 64) = false := decide_eq_false hb64
  have hbl : bs.length = bl := hbs.1.open.1
  have hol := h.1
  go_wp2_with (go_at_call 14; refine held ?_)
  unfold Held
  refine (new_any 12 w2 (by decide) (by decide)).mono ?_
  rintro e w3 ⟨p, g, rfl, h1, hp, hg, b1⟩
  go_wp2_with (go_at_call 15; refine held ?_)
  unfold Held
  refine (dnew_any 12 w3 (by decide) (by decide)).mono ?_
  rintro e w4 ⟨d, gr, cr, gb, cb, rfl, h3, hd, hgr, hgb, b2⟩
  have hs1 := b1.size
  have S2 : Sd w2.heap.size w4 p g 12 d gr cr gb cb (growF 12 (os.take 0)) (growF 12 (os.take 0)) := ⟨h1.below b2, h3, hg, by omega, by omega, Nat.le_trans hs1 b2.size⟩
  have b2' := b1.trans (b2.mono hs1)
  clear h1 h3 b1 b2
  go_wp2
  go_loopw [12, 44] (fun _ x wr => ∃ (j : Nat), x = .int .i64 (j : Int) ∧ j ≤ len ∧ Sd w2.heap.size wr p g 12 d gr cr gb cb (growF 12 (os.take j)) (growF 12 (os.take j)) ∧ Below w2.heap.size w2 wr) (fun _ x _ => len - (intOf x).toNat)
  case atStart => exact ⟨0, rfl, Nat.zero_le _, S2, b2'⟩
  case round =>
    clear S2 b2'
    obtain ⟨j, rfl, hj, hS, hb⟩ := hrel
    by_cases hlt : j < len
    · have t1 : decide ((j : Int) < (len : Int)) = true := by simp; omega
      obtain ⟨b, off, rfl, hlc, hcm, hj', c0, c1, c2, c3, c4, ho⟩ := h2.at hb j hlt
      simp only [maxLen] at hcm
      have hT := growF_take 12 os j hj'
      have hM := growF_mem 12 (os.take j)
      rw [List.length_take] at hM
      have hol' := hl2 _ (List.getElem_mem hj')
      obtain ⟨o, ho'⟩ : ∃ o, o = os[j] := ⟨_, rfl⟩
      rw [← ho'] at hT c0 c1 c2 c3 c4 ho hol'
      obtain ⟨fs, hfs⟩ : ∃ fs, fs = growF 12 (os.take j) := ⟨_, rfl⟩
      rw [← hfs] at hS hT hM
      have K := Lib.hid (do_any w2.heap.size wr p g 12 d gr cr gb cb fs o hS _ hM (by omega) ho hol')
      have HT := Lib.hid hT
      clear hT hM hfs ho' ho hS hl2 h h2 hbs
      go_wp2_with (go_at_call 16; refine held ?_)
      unfold Held
      refine Calls.mono K ?_
      rintro e w5 ⟨rfl, s3, b3⟩
      have b3' := hb.trans b3
      clear K b3 hb c0 c1 c2 c3 c4
      go_wp2_with fail
      go_roundw
      case rel => exact ⟨j + 1, by go_num, by omega, by rw [show growF 12 (os.take (j + 1)) = stepF fs o from HT]; exact s3, b3'⟩
      case measure => simp [intOf]; omega
    · have t1 : decide ((j : Int) < (len : Int)) = false := by simp; omega
      obtain rfl : j = len := by omega
      rw [← hol, List.take_length] at hS
      have hGl := growF_len 12 os
      obtain ⟨fs, hfs⟩ : ∃ fs, fs = growF 12 os := ⟨_, rfl⟩
      rw [← hfs] at hS hGl
      have hF := hS.fr
      have bW := bW2.trans (hb.mono bW2.size)
      have HBS := Lib.hid hbs
      obtain ⟨q, hq⟩ : ∃ q : Nat, q = k.toNat % 12 := ⟨_, rfl⟩
      have hqm : q < 12 := by rw [hq]; exact Nat.mod_lt _ (by omega)
      obtain ⟨ct, rfl⟩ : ∃ ct : Nat, k = ct := ⟨k.toNat, by omega⟩
      rw [Int.toNat_natCast] at hq
      have hqi : ((ct : Int)).tmod 12 = (q : Int) := by rw [hq]; rfl
      have h64 := hF.len
      have K1 := Lib.hid (read_any p g 12 fs q 0 64 wr hF)
      have K2 := Lib.hid (fun (W' : World) (hf : FrAt W' p g 12 fs) => double_any p g 12 fs q W' hf)
      have HF := Lib.hid hF
      have HB := Lib.hid bW
      have hqf : q < fs.length := by omega
      have hgw : W.heap.size ≤ g := Nat.le_trans bW2.size hg
      clear hS hfs h h2 hl2 hb hq hF bW hbs bW2
      go_wp2_with (go_at_call 13; refine held ?_)
      unfold Held
      refine Calls.mono K1 ?_
      rintro e w5 ⟨v5, rfl, o5, b5⟩
      have F5 := FrAt.below HF b5
      have B5 := Below.trans HB (b5.mono (Below.size HB))
      clear K1 HF HB b5
      obtain ⟨a5, k5, rfl, hop5⟩ := own_open o5
      go_wp2_with (go_at_call 17; refine held ?_)
      unfold Held
      refine Calls.mono ((show ∀ W' (hf : FrAt W' p g 12 fs), _ from K2) w5 F5) ?_
      rintro e w6 ⟨rfl, F6, hw6⟩
      have o6 := row_fr o5 F5 hw6 (by decide)
      have B6 := B5.trans (below_of_wr hw6 hgw B5.size)
      clear K2 hw6 o5 B5
      by_cases hok : okF fs q = true
      rotate_left
      · have e1 : readE fs q 0 64 = 41 := by unfold readE; rw [if_neg hok]
        rw [e1]
        clear o6 F6 F5 hop5 hok HBS
        go_wp2_with fail
        go_ret
        exact ⟨rfl, B6⟩
      have hn : fs[q].n ≠ 0 := by rw [okF_at hqf] at hok; simpa using hok
      have e1 : readE fs q 0 64 = 0 := readE_of hqf hn (show 0 + 64 ≤ 64 by omega)
      rw [e1]
      cases ht : takeF fs with
      | none =>
        have e2 : dblE fs q = 40 := by unfold dblE takeE; rw [if_pos hok, ht]
        rw [e2]
        clear o6 F6 F5 hop5 hok HBS hn ht
        go_wp2_with fail
        go_ret
        exact ⟨rfl, B6⟩
      | some t =>
        have e2 : dblE fs q = 0 ∧ dblV fs q = t := by unfold dblE dblV takeE takeV; rw [if_pos hok, if_pos hok, ht]; exact ⟨rfl, rfl⟩
        rw [e2.1, e2.2]
        obtain ⟨l1, l2, l3, l4, l5⟩ := double_law h64 hqf hn ht bs (by omega)
        rw [readL_all h64 hqf hn] at o6 hop5 ⊢
        rw [h64.at hqf] at o6 hop5 ⊢
        have hf64 := h64.at hqf
        obtain ⟨B, hB⟩ : ∃ B, B = fs[q].b := ⟨_, rfl⟩
        rw [← hB] at o6 l2 hf64
        have u1 : ((t : Int) != (q : Int)) = true := by simp; omega
        obtain ⟨fs2, hfs2⟩ : ∃ fs2, fs2 = dblL fs q := ⟨_, rfl⟩
        rw [← hfs2] at F6 l1 l2 l3 l4
        have K3 := Lib.hid (write_any p g 12 fs2 q 0 ba bl bc bs w6.heap.size w6 F6 ((Row8.below HBS B6).mono B6.size) (by omega))
        have L1 := Lib.hid l1
        have L2 := Lib.hid l2
        have L3 := Lib.hid l3
        have L4 := Lib.hid l4
        have L5 := Lib.hid hf64
        have HF6 := Lib.hid F6
        clear e1 e2 hok hn ht l1 l2 l3 l4 l5 hB hfs2 F5 hop5 F6 HBS hf64
        go_wp2_with (go_at_call 18; refine held ?_)
        unfold Held
        refine Calls.mono K3 ?_
        rintro e w7 ⟨rfl, F7, hw7⟩
        have o7 := row_fr o6 HF6 hw7 (by decide)
        have B7 := B6.trans (below_of_wr hw7 hgw B6.size)
        obtain ⟨fs3, hfs3⟩ : ∃ fs3, fs3 = writeF fs2 q 0 bs := ⟨_, rfl⟩
        rw [← hfs3] at F7
        have k4 := read_any p g 12 fs3 t 0 64 w7 F7
        have k5 := fun (W' : World) (hf : FrAt W' p g 12 fs3) => refs_any p g 12 fs3 t W' hf
        rw [show readE fs3 t 0 64 = 0 by rw [hfs3]; exact L1, show readL fs3 t 0 64 = B by rw [hfs3]; exact L2] at k4
        simp only [show okF fs3 t = true by rw [hfs3]; exact L3, if_true, show (frAt fs3 t).n = 1 by rw [hfs3]; exact L4] at k5
        have K4 := Lib.hid k4
        have K5 := Lib.hid k5
        have HF7 := Lib.hid F7
        clear k4 k5 F7 hw7 hfs3 L1 L2 L3 L4 K3 o6 B6 HF6
        go_wp2_with (go_at_call 13; refine held ?_)
        unfold Held
        refine Calls.mono K4 ?_
        rintro e w8 ⟨v8, rfl, o8, b8⟩
        have o9 := row_below o7 b8
        have F8 := FrAt.below HF7 b8
        have B8 := B7.trans (b8.mono B7.size)
        obtain ⟨a8, k8, rfl, hop8⟩ := own_open o8
        have cv8 := OwnBytes.conv o8
        have cv9 := OwnBytes.conv (show w8.ownsRow _ _ _ _ B.length _ by rw [show B.length = 64 from L5]; exact o9)
        rw [show B.length = 64 from L5] at cv8 ⊢
        clear K4 o7 o8 o9 b8 B7 HF7 hop8
        go_wp2_with (go_at_call 19; refine held ?_)
        unfold Held
        refine Calls.mono ((show ∀ W' (hf : FrAt W' p g 12 fs3), _ from K5) w8 F8) ?_
        rintro e w9 ⟨rfl, rfl⟩
        clear K5 F8 cv8 cv9
        go_wp2
        go_ret
        exact ⟨rfl, B8⟩
end Go.Proofs.Ytdacdfnfbknndaa
