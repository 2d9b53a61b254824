/- The walk of the document's May. -/
import Derived.Test.YtdlhnipkhlihjaaTlvB
namespace Go.Proofs.Ytdlhnipkhlihjaa
open Go Go.RowKit
set_option linter.unusedVariables false
set_option linter.unnecessarySimpa false
theorem may_kids {t : Int} {bs : List Int} {k : Forest} {deep kl : Nat} {M : Int} (hd : deep ≤ 8) (hkl : k.length = kl) (h1 : 128 ≤ t) (h2 : ¬ 255 < t) (hb : ¬ 0 < bs.length) (hM : M = if 8 < deep + 1 ∧ 0 < kl then -1 else k.sizeL (deep + 1) 0) :
    (M < 0 → Forest.bad t bs k.length deep (k.sizeL (deep + 1) 0)) ∧ (¬ M < 0 → ¬ Forest.bad t bs k.length deep (k.sizeL (deep + 1) 0) ∧ Forest.innerOf t bs k.length deep (k.sizeL (deep + 1) 0) = M) := by
  subst hkl
  by_cases h8 : deep < 8
  · rw [if_neg (by omega)] at hM
    unfold Forest.bad Forest.innerOf
    rw [if_pos h1, if_pos h8]
    omega
  · by_cases hk : 0 < k.length
    · rw [if_pos (by omega)] at hM
      unfold Forest.bad Forest.innerOf
      rw [if_pos h1, if_neg h8]
      omega
    · rw [if_neg (by omega)] at hM
      have hn : k.sizeL (deep + 1) 0 = 0 := by
        cases k with
        | nil => rfl
        | cons _ _ _ _ => simp [Forest.length] at hk
      unfold Forest.bad Forest.innerOf
      rw [if_pos h1, if_neg h8]
      omega
theorem may_leaf {t : Int} {bs : List Int} {k : Forest} {deep : Nat} (h1 : ¬ 128 ≤ t) (h2 : ¬ t < 1) (hb : ¬ 0 < k.length) :
    ¬ Forest.bad t bs k.length deep (k.sizeL (deep + 1) 0) ∧ Forest.innerOf t bs k.length deep (k.sizeL (deep + 1) 0) = (bs.length : Int) := by
  unfold Forest.bad Forest.innerOf
  rw [if_neg h1]
  omega
/-- what May answers -/
def MayOK (f : Forest) : Prop := ∀ (W : World) (a : Option Addr) (len cap deep : Nat), SlF W.heap.size W a len cap f → deep ≤ 9 → f.cnt ≤ 20000 →
  Calls Try.prog 35 #[.slice a len cap, .int .i64 deep] W fun e W' => e = .returned (.int .i64 (if 8 < deep ∧ 0 < len then -1 else f.sizeL deep 0)) ∧ Below W.heap.size W W'
set_option maxRecDepth 100000 in
set_option maxHeartbeats 8000000 in
theorem may_step (f : Forest) (hk : f.AllKids MayOK) : MayOK f := by
  intro W a len cap deep h hd hcnt
  have hs := h.small
  obtain ⟨hl, hc⟩ := h
  go_enter Try.func35, Try.ntmps35
  by_cases h8 : 8 < deep
  · have t1 : decide ((8 : Int) < (deep : Int)) = true := by simp; omega
    by_cases h0 : 0 < len
    · have t2 : decide ((0 : Int) < (len : Int)) = true := by simp; omega
      rw [if_pos ⟨h8, h0⟩]
      go_wp2
      go_ret
      exact ⟨rfl, Below.refl _ _⟩
    · obtain rfl : len = 0 := by omega
      have hf : f.sizeL deep 0 = 0 := by
        cases f with
        | nil => rfl
        | cons _ _ _ _ => simp [Forest.length] at hl
      rw [if_neg (by omega), hf]
      clear hf hc hk
      go_wp2
      go_loopw [5, 6, 7, 8] (fun n i _ _ wr => n = .int .i64 0 ∧ i = .int .i64 0 ∧ W = wr) (fun _ _ _ _ _ => 0)
      case atStart => exact ⟨rfl, rfl, rfl⟩
      case round =>
        obtain ⟨rfl, rfl, rfl⟩ := hrel
        go_wp2
        go_ret
        exact ⟨rfl, Below.refl _ _⟩
  have t0 : decide ((8 : Int) < (deep : Int)) = false := by simp; omega
  rw [if_neg (fun h => h8 h.1)]
  have hd8 : deep ≤ 8 := by omega
  clear hd h8
  go_wp2
  clear t0
  go_loopw [5, 6, 7, 8] (fun n i _ _ wr => ∃ (N : Int) (i' : Nat) (G : Forest), n = .int .i64 N ∧ i = .int .i64 (i' : Int) ∧ i' + G.length = len ∧ 0 ≤ N ∧ N ≤ 1048576 ∧ G.cnt ≤ 20000 ∧ Hid (G.sizeL deep N = f.sizeL deep 0) ∧ G.AllKids MayOK ∧ (∀ b off, a = some ⟨b, off, none⟩ → 0 < len → b < W.heap.size ∧ RowF W.heap.size W G b (off + i' * 3)) ∧ Below W.heap.size W wr) (fun _ i _ _ _ => len - (intOf i).toNat)
  case atStart =>
    refine ⟨0, 0, f, rfl, rfl, by omega, by omega, by omega, hcnt, rfl, hk, fun b off ha hlen => ?_, Below.refl _ _⟩
    rcases hc with h0 | ⟨b', off', ha', hb', _, _, hrow⟩
    · omega
    · rw [ha] at ha'; injection ha' with ha'; injection ha' with e1 e2
      subst e1 e2
      exact ⟨hb', by simpa using hrow⟩
  case round =>
    obtain ⟨N, i, G, rfl, rfl, hiG, hN0, hN1, hcG, hV, hkG, hrow, hb0⟩ := hrel
    by_cases hlt : i < len
    rotate_left
    · have t1 : decide ((i : Int) < (len : Int)) = false := by simp; omega
      have hG : G.sizeL deep N = N := by
        cases G with
        | nil => rfl
        | cons t bs k r => simp [Forest.length] at hiG; omega
      have hV2 : N = f.sizeL deep 0 := by rw [← hG]; exact hV
      have HV := Lib.hid hV2
      clear hV2 hV hG hrow
      go_wp2
      go_ret
      exact ⟨by rw [show N = f.sizeL deep 0 from HV]; rfl, hb0⟩
    have t1 : decide ((i : Int) < (len : Int)) = true := by simp; omega
    obtain h0 | ⟨b, off, rfl, hbn, hlc, hcm, _⟩ := hc
    · omega
    obtain ⟨_, hrow2⟩ := hrow b off rfl (by omega)
    obtain ⟨t, bs, k, r, ba, blen, bcap, ka, kl, kc, rfl, c0, c1, c2, ht1, ht2, ⟨hb, hbl⟩, hkids, hr⟩ := (RowF.below hb0 G b _ hbn hrow2).open (by omega)
    have hr' : RowF W.heap.size W r b (off + i * 3 + 3) := by
      obtain ⟨_, _, _, _, _, _, _, _, _, _, _, _, _, _, h⟩ := hrow2
      exact h
    have hbe := hb.1.open.1
    obtain ⟨hkG1, hkG2⟩ := hkG
    have hlw := hb0.size
    have hL : (Forest.cons t bs k r).length = r.length + 1 := rfl
    have hC : (Forest.cons t bs k r).cnt = 1 + bs.length + k.cnt + r.cnt := rfl
    have hkl := hkids.1
    have HR := Lib.hid hr'
    have b1 := fun o => hb0.alloc hlw o
    have bx := b1 (.cells #[.int .i64 t, .slice ba blen bcap, .slice ka kl kc] 30)
    clear hr hr' hrow hrow2
    by_cases h1 : t < 1
    · have t3 : decide (t < 1) = true := by simpa using h1
      have HM := Lib.hid (Forest.sizeL_bad (r := r) (n := N) (show Forest.bad t bs k.length deep (k.sizeL (deep + 1) 0) from .inr (.inl h1)))
      go_wp2
      go_ret
      exact ⟨by rw [← (show (Forest.cons t bs k r).sizeL deep N = f.sizeL deep 0 from hV), show (Forest.cons t bs k r).sizeL deep N = -1 from HM]; rfl, bx⟩
    have t3 : decide (t < 1) = false := by simpa using h1
    by_cases h255 : 255 < t
    · have t5 : decide ((255 : Int) < t) = true := by simpa using h255
      have HM := Lib.hid (Forest.sizeL_bad (r := r) (n := N) (show Forest.bad t bs k.length deep (k.sizeL (deep + 1) 0) from .inr (.inr (.inl h255))))
      go_wp2
      go_ret
      exact ⟨by rw [← (show (Forest.cons t bs k r).sizeL deep N = f.sizeL deep 0 from hV), show (Forest.cons t bs k r).sizeL deep N = -1 from HM]; rfl, bx⟩
    have t5 : decide ((255 : Int) < t) = false := by simpa using h255
    by_cases hn : 128 ≤ t
    · have t2 : decide ((127 : Int) < t) = true := by simp; omega
      have t4 : decide (t < 128) = false := by simp; omega
      by_cases hbl0 : 0 < blen
      · have t6 : decide (0 < blen) = true := by simpa using hbl0
        have HM := Lib.hid (Forest.sizeL_bad (r := r) (n := N) (show Forest.bad t bs k.length deep (k.sizeL (deep + 1) 0) from .inr (.inr (.inr (.inl ⟨hn, by omega⟩)))))
        go_wp2
        go_ret
        exact ⟨by rw [← (show (Forest.cons t bs k r).sizeL deep N = f.sizeL deep 0 from hV), show (Forest.cons t bs k r).sizeL deep N = -1 from HM]; rfl, bx⟩
      have t6 : decide (0 < blen) = false := by simpa using hbl0
      have kk := hkG1 (wr.alloc (.cells #[.int .i64 t, .slice ba blen bcap, .slice ka kl kc] 30)) ka kl kc (deep + 1) ((hkids.below ((Below.refl _ wr).alloc hlw _)).mono (by simp; omega)) (by omega) (by omega)
      rw [Int.natCast_add] at kk
      have hks2 := Forest.sizeL_le k (deep + 1) 0 (Int.le_refl _)
      have hks1 := Forest.sizeL_ge k (deep + 1) 0 (Int.le_refl _)
      obtain ⟨M, hM⟩ : ∃ M : Int, M = if 8 < deep + 1 ∧ 0 < kl then -1 else k.sizeL (deep + 1) 0 := ⟨_, rfl⟩
      rw [← hM] at kk
      obtain ⟨k1, k2⟩ := may_kids (bs := bs) hd8 hkl hn h255 (by omega) hM
      have hM1 : -1 ≤ M := by rw [hM]; split <;> omega
      have hM2 : M ≤ 100000 := by rw [hM]; split <;> omega
      have x0 : (wr.alloc (.cells #[.int .i64 t, .slice ba blen bcap, .slice ka kl kc] 30)).cell? ⟨wr.heap.size, 0, none⟩ = some (.int .i64 t) := by rw [World.cell?_alloc_mark]; rfl
      have x1 : (wr.alloc (.cells #[.int .i64 t, .slice ba blen bcap, .slice ka kl kc] 30)).cell? ⟨wr.heap.size, 1, none⟩ = some (.slice ba blen bcap) := by rw [World.cell?_alloc_mark]; rfl
      have x2 : (wr.alloc (.cells #[.int .i64 t, .slice ba blen bcap, .slice ka kl kc] 30)).cell? ⟨wr.heap.size, 2, none⟩ = some (.slice ka kl kc) := by rw [World.cell?_alloc_mark]; rfl
      have K1 := Lib.hid k1
      have K2 := Lib.hid k2
      clear hM k1 k2 hks1 hks2
      go_wp2_with (go_at_call 35; refine held ?_)
      unfold Held
      refine kk.mono ?_
      rintro e W2 ⟨rfl, b2⟩
      have b3 : Below W.heap.size W W2 := bx.trans (b2.mono (by simp; omega))
      clear x0 x1 x2 b2 bx kk b1
      by_cases hks : M < 0
      · have t7 : decide (M < 0) = true := by simpa using hks
        have HM := Lib.hid (Forest.sizeL_bad (r := r) (n := N) ((show M < 0 → _ from K1) hks))
        go_wp2
        go_ret
        exact ⟨by rw [← (show (Forest.cons t bs k r).sizeL deep N = f.sizeL deep 0 from hV), show (Forest.cons t bs k r).sizeL deep N = -1 from HM]; rfl, b3⟩
      have t7 : decide (M < 0) = false := by simpa using hks
      obtain ⟨hnb, hI⟩ := (show 0 ≤ M → _ from K2) (by omega)
      by_cases hbig : 1048576 < N + (5 + M)
      · have t9 : decide ((1048576 : Int) < N + 5 + M) = true := by simp; omega
        have HM := Lib.hid (Forest.sizeL_big (r := r) hnb hI hbig)
        clear hnb hI hbig
        go_wp2
        go_ret
        exact ⟨by rw [← (show (Forest.cons t bs k r).sizeL deep N = f.sizeL deep 0 from hV), show (Forest.cons t bs k r).sizeL deep N = -1 from HM]; rfl, b3⟩
      · have t9 : decide ((1048576 : Int) < N + 5 + M) = false := by simp; omega
        have HV2 := Lib.hid (show r.sizeL deep (N + (5 + M)) = f.sizeL deep 0 by rw [← Forest.sizeL_next (r := r) hnb hI hbig]; exact hV)
        have hbg : N + (5 + M) ≤ 1048576 := by omega
        clear hnb hI hbig
        go_wp2
        go_roundw
        case rel =>
          refine ⟨N + (5 + M), i + 1, r, val_eq (by omega), by go_num, by omega, by omega, hbg, by omega, HV2, hkG2, fun b' off' ha hlen => ?_, b3⟩
          injection ha with ha; injection ha with q1 q2; subst q1 q2
          refine ⟨hbn, ?_⟩
          rw [show off + (i + 1) * 3 = off + i * 3 + 3 by omega]; exact HR
        case measure => simp [intOf]; omega
    · have t2 : decide ((127 : Int) < t) = false := by simp; omega
      have t4 : decide (t < 128) = true := by simp; omega
      by_cases hk0 : 0 < kl
      · have t8 : decide (0 < kl) = true := by simpa using hk0
        have HM := Lib.hid (Forest.sizeL_bad (r := r) (n := N) (show Forest.bad t bs k.length deep (k.sizeL (deep + 1) 0) from .inr (.inr (.inr (.inr (.inl ⟨hn, by omega⟩))))))
        go_wp2
        go_ret
        exact ⟨by rw [← (show (Forest.cons t bs k r).sizeL deep N = f.sizeL deep 0 from hV), show (Forest.cons t bs k r).sizeL deep N = -1 from HM]; rfl, bx⟩
      have t8 : decide (0 < kl) = false := by simpa using hk0
      have t7 : decide ((blen : Int) < 0) = false := by simp
      obtain ⟨hnb, hI⟩ := may_leaf (bs := bs) (deep := deep) hn h1 (show ¬ 0 < k.length by omega)
      rw [hbe] at hI
      by_cases hbig : 1048576 < N + (5 + (blen : Int))
      · have t9 : decide ((1048576 : Int) < N + 5 + (blen : Int)) = true := by simp; omega
        have HM := Lib.hid (Forest.sizeL_big (r := r) hnb hI hbig)
        clear hnb hI hbig
        go_wp2
        go_ret
        exact ⟨by rw [← (show (Forest.cons t bs k r).sizeL deep N = f.sizeL deep 0 from hV), show (Forest.cons t bs k r).sizeL deep N = -1 from HM]; rfl, bx⟩
      · have t9 : decide ((1048576 : Int) < N + 5 + (blen : Int)) = false := by simp; omega
        have HV2 := Lib.hid (show r.sizeL deep (N + (5 + (blen : Int))) = f.sizeL deep 0 by rw [← Forest.sizeL_next (r := r) hnb hI hbig]; exact hV)
        have hbg : N + (5 + (blen : Int)) ≤ 1048576 := by omega
        clear hnb hI hbig
        go_wp2
        go_roundw
        case rel =>
          refine ⟨N + (5 + (blen : Int)), i + 1, r, val_eq (by omega), by go_num, by omega, by omega, hbg, by omega, HV2, hkG2, fun b' off' ha hlen => ?_, bx⟩
          injection ha with ha; injection ha with q1 q2; subst q1 q2
          refine ⟨hbn, ?_⟩
          rw [show off + (i + 1) * 3 = off + i * 3 + 3 by omega]; exact HR
        case measure => simp [intOf]; omega
theorem may_any (f : Forest) : MayOK f := Forest.all MayOK may_step f
end Go.Proofs.Ytdlhnipkhlihjaa
