/- The walk of tlv.size, Check and Bytes, of up to 2,000,000 fields and bytes (that may not be). -/
import Derived.Test.YtdlhnipkhlihjaaTlvD
import Derived.Lib.Hide
import Derived.BigQuiet
import Derived.Deep.QuietTactic
namespace Go.Proofs.Ytdlhnipkhlihjaa
open Go Go.RowKit
set_option linter.unusedVariables false
set_option linter.unnecessarySimpa false
/-- what size answers -/
def SizeOKB (f : Forest) : Prop := ∀ (W : World) (a : Option Addr) (len cap deep : Nat), SlF W.heap.size W a len cap f → deep ≤ 8 → f.cnt ≤ 2000000 →
  Calls Try.prog 38 #[.slice a len cap, .int .i64 deep] W fun e W' => e = .returned (.int .i64 (f.sizeL deep 0)) ∧ Below W.heap.size W W'
set_option maxRecDepth 100000 in
set_option maxHeartbeats 4000000 in
theorem sizeB_step (f : Forest) (hk : f.AllKids SizeOKB) : SizeOKB f := by
  intro W a len cap deep h hd hcnt
  have hs := h.small
  obtain ⟨hl, hc⟩ := h
  go_enter Try.func38, Try.ntmps38
  go_wp2
  go_loopw [5, 7, 8, 9, 12] (fun n _ _ _ i wr => ∃ (N : Int) (i' : Nat) (G : Forest), n = .int .i64 N ∧ i = .int .i64 (i' : Int) ∧ i' + G.length = len ∧ 0 ≤ N ∧ N ≤ 1048576 ∧ G.cnt ≤ 2000000 ∧ Hid (G.sizeL deep N = f.sizeL deep 0) ∧ G.AllKids SizeOKB ∧ (∀ b off, a = some ⟨b, off, none⟩ → 0 < len → b < W.heap.size ∧ RowF W.heap.size W G b (off + i' * 3)) ∧ Below W.heap.size W wr) (fun _ _ _ _ i _ => len - (intOf i).toNat)
  case atStart =>
    refine ⟨0, 0, f, rfl, rfl, by omega, by omega, by omega, hcnt, rfl, hk, fun b off ha hlen => ?_, Below.refl _ _⟩
    rcases hc with h0 | ⟨b', off', ha', hb', _, _, hrow⟩
    · omega
    · rw [ha] at ha'; injection ha' with ha'; injection ha' with e1 e2
      subst e1 e2
      exact ⟨hb', by simpa using hrow⟩
  case round =>
    obtain ⟨N, i, G, rfl, rfl, hiG, hN0, hN1, hcG, hV, hkG, hrow, hb0⟩ := hrel
    by_cases hlt : i < len
    rotate_left
    · have t1 : decide ((i : Int) < (len : Int)) = false := by simp; omega
      have hG : G.sizeL deep N = N := by
        cases G with
        | nil => rfl
        | cons t bs k r => simp [Forest.length] at hiG; omega
      have hV2 : N = f.sizeL deep 0 := by rw [← hG]; exact hV
      have HV := Lib.hid hV2
      clear hV2 hV hG hrow
      go_wp2
      go_ret
      exact ⟨by rw [show N = f.sizeL deep 0 from HV]; rfl, hb0⟩
    have t1 : decide ((i : Int) < (len : Int)) = true := by simp; omega
    obtain h0 | ⟨b, off, rfl, hbn, hlc, hcm, _⟩ := hc
    · omega
    obtain ⟨_, hrow2⟩ := hrow b off rfl (by omega)
    obtain ⟨t, bs, k, r, ba, blen, bcap, ka, kl, kc, rfl, c0, c1, c2, ht1, ht2, ⟨hb, hbl⟩, hkids, hr⟩ := (RowF.below hb0 G b _ hbn hrow2).open (by omega)
    have hr' : RowF W.heap.size W r b (off + i * 3 + 3) := by
      obtain ⟨_, _, _, _, _, _, _, _, _, _, _, _, _, _, h⟩ := hrow2
      exact h
    have hbe := hb.1.open.1
    obtain ⟨hkG1, hkG2⟩ := hkG
    have hlw := hb0.size
    have hL : (Forest.cons t bs k r).length = r.length + 1 := rfl
    have hC : (Forest.cons t bs k r).cnt = 1 + bs.length + k.cnt + r.cnt := rfl
    have hkl := hkids.1
    have HR := Lib.hid hr'
    have b1 := fun o => hb0.alloc hlw o
    clear hr hr' hrow hrow2
    by_cases hn : 128 ≤ t
    · have t2 : decide ((128 : Int) ≤ t) = true := by simpa using hn
      have t3 : decide (t < 1) = false := by simp; omega
      by_cases hd8 : deep < 8
      · have t4 : decide ((deep : Int) < 8) = true := by simp; omega
        have kk := hkG1 (wr.alloc (.cells #[.int .i64 t, .slice ba blen bcap, .slice ka kl kc] 30)) ka kl kc (deep + 1) ((hkids.below ((Below.refl _ wr).alloc hlw _)).mono (by simp; omega)) (by omega) (by omega)
        rw [Int.natCast_add] at kk
        have hks1 := Forest.sizeL_ge k (deep + 1) 0 (Int.le_refl _)
        have hks2 := Forest.sizeL_le k (deep + 1) 0 (Int.le_refl _)
        obtain ⟨KS, hKS⟩ : ∃ KS, KS = k.sizeL (deep + 1) 0 := ⟨_, rfl⟩
        rw [← hKS] at kk hks1 hks2
        have bx := b1 (.cells #[.int .i64 t, .slice ba blen bcap, .slice ka kl kc] 30)
        have x0 : (wr.alloc (.cells #[.int .i64 t, .slice ba blen bcap, .slice ka kl kc] 30)).cell? ⟨wr.heap.size, 0, none⟩ = some (.int .i64 t) := by rw [World.cell?_alloc_mark]; rfl
        have x1 : (wr.alloc (.cells #[.int .i64 t, .slice ba blen bcap, .slice ka kl kc] 30)).cell? ⟨wr.heap.size, 1, none⟩ = some (.slice ba blen bcap) := by rw [World.cell?_alloc_mark]; rfl
        have x2 : (wr.alloc (.cells #[.int .i64 t, .slice ba blen bcap, .slice ka kl kc] 30)).cell? ⟨wr.heap.size, 2, none⟩ = some (.slice ka kl kc) := by rw [World.cell?_alloc_mark]; rfl
        have HKS := Lib.hid hKS
        clear hKS
        go_wp2_with (go_at_call 38; refine held ?_)
        unfold Held
        refine kk.mono ?_
        rintro e W2 ⟨rfl, b2⟩
        have y0 := cell_same (p := ⟨wr.heap.size, 0, none⟩) (b2.block wr.heap.size (by simp)) x0
        have y1 := cell_same (p := ⟨wr.heap.size, 1, none⟩) (b2.block wr.heap.size (by simp)) x1
        have y2 := cell_same (p := ⟨wr.heap.size, 2, none⟩) (b2.block wr.heap.size (by simp)) x2
        have b3 : Below W.heap.size W W2 := bx.trans (b2.mono (by simp; omega))
        clear x0 x1 x2 b2 bx kk
        have hKS : KS = k.sizeL (deep + 1) 0 := HKS
        by_cases h255 : 255 < t
        · have t5 : decide ((255 : Int) < t) = true := by simpa using h255
          have hbad : Forest.bad t bs k.length deep (k.sizeL (deep + 1) 0) := .inr (.inr (.inl h255))
          clear hKS
          have HM := Lib.hid (Forest.sizeL_bad (r := r) (n := N) hbad)
          clear hbad
          go_wp2
          go_ret
          exact ⟨by rw [← (show (Forest.cons t bs k r).sizeL deep N = f.sizeL deep 0 from hV), show (Forest.cons t bs k r).sizeL deep N = -1 from HM]; rfl, b3⟩
        have t5 : decide ((255 : Int) < t) = false := by simp; omega
        by_cases hbl0 : 0 < blen
        · have t6 : decide (0 < blen) = true := by simpa using hbl0
          have hbad : Forest.bad t bs k.length deep (k.sizeL (deep + 1) 0) := .inr (.inr (.inr (.inl ⟨hn, by omega⟩)))
          clear hKS
          have HM := Lib.hid (Forest.sizeL_bad (r := r) (n := N) hbad)
          clear hbad
          go_wp2
          go_ret
          exact ⟨by rw [← (show (Forest.cons t bs k r).sizeL deep N = f.sizeL deep 0 from hV), show (Forest.cons t bs k r).sizeL deep N = -1 from HM]; rfl, b3⟩
        have t6 : decide (0 < blen) = false := by simp; omega
        by_cases hks : KS < 0
        · have t7 : decide (KS < 0) = true := by simpa using hks
          have hbad : Forest.bad t bs k.length deep (k.sizeL (deep + 1) 0) := .inr (.inr (.inr (.inr (.inr (by unfold Forest.innerOf; rw [if_pos hn, if_pos hd8, ← hKS]; exact hks)))))
          clear hKS
          have HM := Lib.hid (Forest.sizeL_bad (r := r) (n := N) hbad)
          clear hbad
          go_wp2
          go_ret
          exact ⟨by rw [← (show (Forest.cons t bs k r).sizeL deep N = f.sizeL deep 0 from hV), show (Forest.cons t bs k r).sizeL deep N = -1 from HM]; rfl, b3⟩
        have t7 : decide (KS < 0) = false := by simp; omega
        have hnb : ¬ Forest.bad t bs k.length deep (k.sizeL (deep + 1) 0) := by unfold Forest.bad Forest.innerOf; rw [if_pos hn, if_pos hd8, ← hKS]; omega
        have hI : Forest.innerOf t bs k.length deep (k.sizeL (deep + 1) 0) = KS := by unfold Forest.innerOf; rw [if_pos hn, if_pos hd8, ← hKS]
        by_cases hbig : 1048576 < N + (5 + KS)
        · have t9 : decide ((1048576 : Int) < N + (5 + KS)) = true := by simp; omega
          have HM := Lib.hid (Forest.sizeL_big (r := r) hnb hI hbig)
          clear hnb hI hbig hKS
          go_wp2
          go_ret
          exact ⟨by rw [← (show (Forest.cons t bs k r).sizeL deep N = f.sizeL deep 0 from hV), show (Forest.cons t bs k r).sizeL deep N = -1 from HM]; rfl, b3⟩
        · have t9 : decide ((1048576 : Int) < N + (5 + KS)) = false := by simp; omega
          have hnx := Forest.sizeL_next (r := r) hnb hI hbig
          have hV2 : r.sizeL deep (N + (5 + KS)) = f.sizeL deep 0 := by rw [← hnx]; exact hV
          have HV2 := Lib.hid hV2
          have hI0 : 0 ≤ KS := by omega
          have hbg : N + (5 + KS) ≤ 1048576 := by omega
          clear hnb hI hbig hnx hV2 hKS
          go_wp2
          go_roundw
          case rel =>
            refine ⟨N + (5 + KS), i + 1, r, val_eq (by omega), by go_num, by omega, by omega, hbg, by omega, HV2, hkG2, fun b' off' ha hlen => ?_, b3⟩
            injection ha with ha; injection ha with q1 q2; subst q1 q2
            refine ⟨hbn, ?_⟩
            rw [show off + (i + 1) * 3 = off + i * 3 + 3 by omega]; exact HR
          case measure => simp [intOf]; omega
      · have t4 : decide ((deep : Int) < 8) = false := by simp; omega
        have bx := b1 (.cells #[.int .i64 t, .slice ba blen bcap, .slice ka kl kc] 30)
        by_cases hk0 : 0 < kl
        · have t8 : decide (0 < kl) = true := by simpa using hk0
          have hbad : Forest.bad t bs k.length deep (k.sizeL (deep + 1) 0) := .inl ⟨hn, hd8, by omega⟩
          have HM := Lib.hid (Forest.sizeL_bad (r := r) (n := N) hbad)
          clear hbad
          go_wp2
          go_ret
          exact ⟨by rw [← (show (Forest.cons t bs k r).sizeL deep N = f.sizeL deep 0 from hV), show (Forest.cons t bs k r).sizeL deep N = -1 from HM]; rfl, bx⟩
        have t8 : decide (0 < kl) = false := by simp; omega
        by_cases h255 : 255 < t
        · have t5 : decide ((255 : Int) < t) = true := by simpa using h255
          have hbad : Forest.bad t bs k.length deep (k.sizeL (deep + 1) 0) := .inr (.inr (.inl h255))
          have HM := Lib.hid (Forest.sizeL_bad (r := r) (n := N) hbad)
          clear hbad
          go_wp2
          go_ret
          exact ⟨by rw [← (show (Forest.cons t bs k r).sizeL deep N = f.sizeL deep 0 from hV), show (Forest.cons t bs k r).sizeL deep N = -1 from HM]; rfl, bx⟩
        have t5 : decide ((255 : Int) < t) = false := by simp; omega
        by_cases hbl0 : 0 < blen
        · have t6 : decide (0 < blen) = true := by simpa using hbl0
          have hbad : Forest.bad t bs k.length deep (k.sizeL (deep + 1) 0) := .inr (.inr (.inr (.inl ⟨hn, by omega⟩)))
          have HM := Lib.hid (Forest.sizeL_bad (r := r) (n := N) hbad)
          clear hbad
          go_wp2
          go_ret
          exact ⟨by rw [← (show (Forest.cons t bs k r).sizeL deep N = f.sizeL deep 0 from hV), show (Forest.cons t bs k r).sizeL deep N = -1 from HM]; rfl, bx⟩
        have t6 : decide (0 < blen) = false := by simp; omega
        have hnb : ¬ Forest.bad t bs k.length deep (k.sizeL (deep + 1) 0) := by unfold Forest.bad Forest.innerOf; rw [if_pos hn, if_neg hd8]; omega
        have hI : Forest.innerOf t bs k.length deep (k.sizeL (deep + 1) 0) = 0 := by unfold Forest.innerOf; rw [if_pos hn, if_neg hd8]
        by_cases hbig : 1048576 < N + (5 + 0)
        · have t9 : decide ((1048576 : Int) < N + 5) = true := by simp; omega
          have HM := Lib.hid (Forest.sizeL_big (r := r) hnb hI hbig)
          clear hnb hI hbig
          go_wp2
          go_ret
          exact ⟨by rw [← (show (Forest.cons t bs k r).sizeL deep N = f.sizeL deep 0 from hV), show (Forest.cons t bs k r).sizeL deep N = -1 from HM]; rfl, bx⟩
        · have t9 : decide ((1048576 : Int) < N + 5) = false := by simp; omega
          have hnx := Forest.sizeL_next (r := r) hnb hI hbig
          have hV2 : r.sizeL deep (N + (5 + 0)) = f.sizeL deep 0 := by rw [← hnx]; exact hV
          have HV2 := Lib.hid hV2
          have hI0 : 0 ≤ 0 := by omega
          have hbg : N + (5 + 0) ≤ 1048576 := by omega
          clear hnb hI hbig hnx hV2
          go_wp2
          go_roundw
          case rel =>
            refine ⟨N + (5 + 0), i + 1, r, val_eq (by omega), by go_num, by omega, by omega, hbg, by omega, HV2, hkG2, fun b' off' ha hlen => ?_, bx⟩
            injection ha with ha; injection ha with q1 q2; subst q1 q2
            refine ⟨hbn, ?_⟩
            rw [show off + (i + 1) * 3 = off + i * 3 + 3 by omega]; exact HR
          case measure => simp [intOf]; omega
    · have t2 : decide ((128 : Int) ≤ t) = false := by simp; omega
      have bx := b1 (.cells #[.int .i64 t, .slice ba blen bcap, .slice ka kl kc] 30)
      by_cases h1 : t < 1
      · have t3 : decide (t < 1) = true := by simpa using h1
        have hbad : Forest.bad t bs k.length deep (k.sizeL (deep + 1) 0) := .inr (.inl h1)
        have HM := Lib.hid (Forest.sizeL_bad (r := r) (n := N) hbad)
        clear hbad
        go_wp2
        go_ret
        exact ⟨by rw [← (show (Forest.cons t bs k r).sizeL deep N = f.sizeL deep 0 from hV), show (Forest.cons t bs k r).sizeL deep N = -1 from HM]; rfl, bx⟩
      have t3 : decide (t < 1) = false := by simp; omega
      have t5 : decide ((255 : Int) < t) = false := by simp; omega
      by_cases hk0 : 0 < kl
      · have t8 : decide (0 < kl) = true := by simpa using hk0
        have hbad : Forest.bad t bs k.length deep (k.sizeL (deep + 1) 0) := .inr (.inr (.inr (.inr (.inl ⟨hn, by omega⟩))))
        have HM := Lib.hid (Forest.sizeL_bad (r := r) (n := N) hbad)
        clear hbad
        go_wp2
        go_ret
        exact ⟨by rw [← (show (Forest.cons t bs k r).sizeL deep N = f.sizeL deep 0 from hV), show (Forest.cons t bs k r).sizeL deep N = -1 from HM]; rfl, bx⟩
      have t8 : decide (0 < kl) = false := by simp; omega
      have hnb : ¬ Forest.bad t bs k.length deep (k.sizeL (deep + 1) 0) := by unfold Forest.bad Forest.innerOf; rw [if_neg hn]; omega
      have hI : Forest.innerOf t bs k.length deep (k.sizeL (deep + 1) 0) = (blen : Int) := by unfold Forest.innerOf; rw [if_neg hn, hbe]
      by_cases hbig : 1048576 < N + (5 + (blen : Int))
      · have t9 : decide ((1048576 : Int) < N + (5 + (blen : Int))) = true := by simp; omega
        have HM := Lib.hid (Forest.sizeL_big (r := r) hnb hI hbig)
        clear hnb hI hbig
        go_wp2
        go_ret
        exact ⟨by rw [← (show (Forest.cons t bs k r).sizeL deep N = f.sizeL deep 0 from hV), show (Forest.cons t bs k r).sizeL deep N = -1 from HM]; rfl, bx⟩
      · have t9 : decide ((1048576 : Int) < N + (5 + (blen : Int))) = false := by simp; omega
        have hnx := Forest.sizeL_next (r := r) hnb hI hbig
        have hV2 : r.sizeL deep (N + (5 + (blen : Int))) = f.sizeL deep 0 := by rw [← hnx]; exact hV
        have HV2 := Lib.hid hV2
        have hI0 : 0 ≤ (blen : Int) := by omega
        have hbg : N + (5 + (blen : Int)) ≤ 1048576 := by omega
        clear hnb hI hbig hnx hV2
        go_wp2
        go_roundw
        case rel =>
          refine ⟨N + (5 + (blen : Int)), i + 1, r, val_eq (by omega), by go_num, by omega, by omega, hbg, by omega, HV2, hkG2, fun b' off' ha hlen => ?_, bx⟩
          injection ha with ha; injection ha with q1 q2; subst q1 q2
          refine ⟨hbn, ?_⟩
          rw [show off + (i + 1) * 3 = off + i * 3 + 3 by omega]; exact HR
        case measure => simp [intOf]; omega
theorem sizeB_any (f : Forest) : SizeOKB f := Forest.all SizeOKB sizeB_step f
set_option maxHeartbeats 1000000 in
theorem checkB_any (f : Forest) (W : World) (a : Option Addr) (len cap : Nat) (h : SlF W.heap.size W a len cap f) (hc : f.cnt ≤ 2000000) (hE : f.sizeL 1 0 < 0) :
    Calls Try.prog 24 #[.slice a len cap] W fun e W' => e = .returned (.int .i64 220) ∧ Below W.heap.size W W' := by
  have ks := sizeB_any f W a len cap 1 h (by decide) hc
  obtain ⟨S, hS⟩ : ∃ S, S = f.sizeL 1 0 := ⟨_, rfl⟩
  rw [← hS] at ks hE
  clear hS
  go_enter Try.func24, Try.ntmps24
  go_wp2_with (go_at_call 38; refine held ?_)
  unfold Held
  refine ks.mono ?_
  rintro e w1 ⟨rfl, b1⟩
  have t1 : decide (S < 0) = true := by simpa using hE
  go_wp2
  go_ret
  exact ⟨rfl, b1⟩
set_option maxHeartbeats 1000000 in
theorem tbytesB_any (f : Forest) (W : World) (a : Option Addr) (len cap : Nat) (h : SlF W.heap.size W a len cap f) (hc : f.cnt ≤ 2000000) (hE : f.sizeL 1 0 < 0) :
    Calls Try.prog 12 #[.slice a len cap] W fun e W' => e = .returned (.tuple #[.slice none 0 0, .int .i64 220]) ∧ Below W.heap.size W W' := by
  have kc := checkB_any f W a len cap h hc hE
  clear hE
  go_enter Try.func12, Try.ntmps12
  go_wp2_with (go_at_call 24; refine held ?_)
  unfold Held
  refine kc.mono ?_
  rintro e w1 ⟨rfl, b1⟩
  go_wp2
  go_ret2
  exact ⟨rfl, b1⟩
end Go.Proofs.Ytdlhnipkhlihjaa
