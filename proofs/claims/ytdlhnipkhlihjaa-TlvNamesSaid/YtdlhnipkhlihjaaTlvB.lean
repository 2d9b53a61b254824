/- The walk of the document's Great, of tlv.size and tlv.Check. -/
import Derived.Test.YtdlhnipkhlihjaaTlvA
import Derived.Test.YtdlhnipkhlihjaaIter
import Derived.WalkKit
import Derived.ProofKit
import Derived.Lib.Hide
import Derived.BigQuiet
import Derived.Deep.QuietTactic
namespace Go.Proofs.Ytdlhnipkhlihjaa
open Go Go.RowKit
set_option linter.unusedVariables false
set_option linter.unnecessarySimpa false
theorem val_eq {k : IntKind} {a b : Int} (h : a = b) : Value.int k a = .int k b := by rw [h]
/-- what Great answers -/
def GreatOK (f : Forest) : Prop := ∀ (W : World) (n₀ : Nat) (a : Option Addr) (len cap deep : Nat), SlF n₀ W a len cap f → (deep ≤ 13 ∨ len = 0 ∧ deep ≤ 14) →
  Calls Try.prog 11 #[.slice a len cap, .int .i64 deep] W fun e W' => (∃ g : Nat, e = .returned (.int .i64 g) ∧ g ≤ 10001 ∧ (g ≤ 10000 → f.cnt = g)) ∧ W = W'
set_option maxRecDepth 100000 in
set_option maxHeartbeats 4000000 in
theorem great_step (f : Forest) (hk : f.AllKids GreatOK) : GreatOK f := by
  intro W n₀ a len cap deep h hd
  have hs := h.small
  obtain ⟨hl, hc⟩ := h
  go_enter Try.func11, Try.ntmps11
  go_wp2
  go_loopw [5, 6, 7] (fun n i k wr => ∃ (N i' : Nat) (G : Forest), n = .int .i64 (N : Int) ∧ i = .int .i64 (i' : Int) ∧ i' + G.length = len ∧ N ≤ 200000000000000 ∧ (N ≤ 10000 → N + G.cnt = f.cnt) ∧ G.AllKids GreatOK ∧ (∀ b off, a = some ⟨b, off, none⟩ → 0 < len → RowF n₀ W G b (off + i' * 3)) ∧ W = wr) (fun _ i _ _ => len - (intOf i).toNat)
  case atStart =>
    refine ⟨0, 0, f, rfl, rfl, by omega, by omega, fun _ => by omega, hk, fun b off ha hlen => ?_, rfl⟩
    rcases hc with h0 | ⟨b', off', ha', _, _, _, hrow⟩
    · omega
    · rw [ha] at ha'; injection ha' with ha'; injection ha' with e1 e2
      subst e1 e2
      simpa using hrow
  case round =>
    obtain ⟨N, i, G, rfl, rfl, hiG, hN, hcnt, hkG, hrow, rfl⟩ := hrel
    by_cases hlt : i < len
    rotate_left
    · have t1 : decide ((i : Int) < (len : Int)) = false := by simp; omega
      have hG : G.cnt = 0 := by
        cases G with
        | nil => rfl
        | cons t bs k r => simp [Forest.length] at hiG; omega
      by_cases h10 : N ≤ 10000
      · have t2 : decide ((10000 : Int) < (N : Int)) = false := by simp; omega
        go_wp2
        go_ret
        exact ⟨⟨N, rfl, by omega, fun _ => by have := hcnt h10; omega⟩, rfl⟩
      · have t2 : decide ((10000 : Int) < (N : Int)) = true := by simp; omega
        go_wp2
        go_ret
        exact ⟨⟨10001, rfl, by omega, fun h => by omega⟩, rfl⟩
    have t1 : decide ((i : Int) < (len : Int)) = true := by simp; omega
    by_cases h10 : N ≤ 10000
    rotate_left
    · have t2 : decide ((N : Int) ≤ 10000) = false := by simp; omega
      have t3 : decide ((10000 : Int) < (N : Int)) = true := by simp; omega
      go_wp2
      go_ret
      exact ⟨⟨10001, rfl, by omega, fun h => by omega⟩, rfl⟩
    have t2 : decide ((N : Int) ≤ 10000) = true := by simp; omega
    obtain h0 | ⟨b, off, rfl, hbn, hlc, hcm, _⟩ := hc
    · omega
    obtain ⟨t, bs, k, r, ba, blen, bcap, ka, kl, kc, rfl, c0, c1, c2, ht1, ht2, ⟨hb, hbl⟩, hkids, hr⟩ := (hrow b off rfl (by omega)).open (by omega)
    have hbe := hb.1.open.1
    obtain ⟨hkG1, hkG2⟩ := hkG
    by_cases hdk : 12 < deep ∧ 0 < kl
    · have t4 : decide ((12 : Int) < (deep : Int)) = true := by simp; omega
      have t5 : decide ((0 : Int) < (kl : Int)) = true := by simp; omega
      clear hrow hr
      go_wp2
      go_ret
      exact ⟨⟨10001, rfl, by omega, fun h => by omega⟩, rfl⟩
    have kg := hkG1 W n₀ ka kl kc (deep + 1) hkids (by omega)
    rw [Int.natCast_add] at kg
    have hL : (Forest.cons t bs k r).length = r.length + 1 := rfl
    have hC : (Forest.cons t bs k r).cnt = 1 + bs.length + k.cnt + r.cnt := rfl
    have HR := Lib.hid hr
    have HRow := Lib.hid hrow
    by_cases hd12 : 12 < deep
    · have t4 : decide ((12 : Int) < (deep : Int)) = true := by simp; omega
      have t5 : decide ((0 : Int) < (kl : Int)) = false := by simp; omega
      clear hr hrow
      go_wp2_with (go_at_call 11; refine held ?_)
      unfold Held
      refine kg.mono ?_
      rintro e W' ⟨⟨g, rfl, hg1, hg2⟩, rfl⟩
      clear kg
      go_wp2_with fail
      go_roundw
      case rel =>
        refine ⟨N + 1 + blen + g, i + 1, r, by go_num, by go_num, by omega, by omega, fun h => ?_, hkG2, fun b' off' ha hlen => ?_, trivial⟩
        · have h2 := hcnt h10
          have h3 := hg2 (by omega)
          omega
        · injection ha with ha; injection ha with q1 q2; subst q1 q2
          rw [show off + (i + 1) * 3 = off + i * 3 + 3 by omega]; exact HR
      case measure => simp [intOf]; omega
    · have t4 : decide ((12 : Int) < (deep : Int)) = false := by simp; omega
      clear hr hrow
      go_wp2_with (go_at_call 11; refine held ?_)
      unfold Held
      refine kg.mono ?_
      rintro e W' ⟨⟨g, rfl, hg1, hg2⟩, rfl⟩
      clear kg
      go_wp2_with fail
      go_roundw
      case rel =>
        refine ⟨N + 1 + blen + g, i + 1, r, by go_num, by go_num, by omega, by omega, fun h => ?_, hkG2, fun b' off' ha hlen => ?_, trivial⟩
        · have h2 := hcnt h10
          have h3 := hg2 (by omega)
          omega
        · injection ha with ha; injection ha with q1 q2; subst q1 q2
          rw [show off + (i + 1) * 3 = off + i * 3 + 3 by omega]; exact HR
      case measure => simp [intOf]; omega
theorem great_any (f : Forest) : GreatOK f := Forest.all GreatOK great_step f
/-- what size answers -/
def SizeOK (f : Forest) : Prop := ∀ (W : World) (a : Option Addr) (len cap deep : Nat), SlF W.heap.size W a len cap f → deep ≤ 8 → f.cnt ≤ 20000 →
  Calls Try.prog 38 #[.slice a len cap, .int .i64 deep] W fun e W' => e = .returned (.int .i64 (f.sizeL deep 0)) ∧ Below W.heap.size W W'
set_option maxRecDepth 100000 in
set_option maxHeartbeats 4000000 in
theorem size_step (f : Forest) (hk : f.AllKids SizeOK) : SizeOK f := by
  intro W a len cap deep h hd hcnt
  have hs := h.small
  obtain ⟨hl, hc⟩ := h
  go_enter Try.func38, Try.ntmps38
  go_wp2
  go_loopw [5, 7, 8, 9, 12] (fun n _ _ _ i wr => ∃ (N : Int) (i' : Nat) (G : Forest), n = .int .i64 N ∧ i = .int .i64 (i' : Int) ∧ i' + G.length = len ∧ 0 ≤ N ∧ N ≤ 1048576 ∧ G.cnt ≤ 20000 ∧ Hid (G.sizeL deep N = f.sizeL deep 0) ∧ G.AllKids SizeOK ∧ (∀ b off, a = some ⟨b, off, none⟩ → 0 < len → b < W.heap.size ∧ RowF W.heap.size W G b (off + i' * 3)) ∧ Below W.heap.size W wr) (fun _ _ _ _ i _ => len - (intOf i).toNat)
  case atStart =>
    refine ⟨0, 0, f, rfl, rfl, by omega, by omega, by omega, hcnt, rfl, hk, fun b off ha hlen => ?_, Below.refl _ _⟩
    rcases hc with h0 | ⟨b', off', ha', hb', _, _, hrow⟩
    · omega
    · rw [ha] at ha'; injection ha' with ha'; injection ha' with e1 e2
      subst e1 e2
      exact ⟨hb', by simpa using hrow⟩
  case round =>
    obtain ⟨N, i, G, rfl, rfl, hiG, hN0, hN1, hcG, hV, hkG, hrow, hb0⟩ := hrel
    by_cases hlt : i < len
    rotate_left
    · have t1 : decide ((i : Int) < (len : Int)) = false := by simp; omega
      have hG : G.sizeL deep N = N := by
        cases G with
        | nil => rfl
        | cons t bs k r => simp [Forest.length] at hiG; omega
      have hV2 : N = f.sizeL deep 0 := by rw [← hG]; exact hV
      have HV := Lib.hid hV2
      clear hV2 hV hG hrow
      go_wp2
      go_ret
      exact ⟨by rw [show N = f.sizeL deep 0 from HV]; rfl, hb0⟩
    have t1 : decide ((i : Int) < (len : Int)) = true := by simp; omega
    obtain h0 | ⟨b, off, rfl, hbn, hlc, hcm, _⟩ := hc
    · omega
    obtain ⟨_, hrow2⟩ := hrow b off rfl (by omega)
    obtain ⟨t, bs, k, r, ba, blen, bcap, ka, kl, kc, rfl, c0, c1, c2, ht1, ht2, ⟨hb, hbl⟩, hkids, hr⟩ := (RowF.below hb0 G b _ hbn hrow2).open (by omega)
    have hr' : RowF W.heap.size W r b (off + i * 3 + 3) := by
      obtain ⟨_, _, _, _, _, _, _, _, _, _, _, _, _, _, h⟩ := hrow2
      exact h
    have hbe := hb.1.open.1
    obtain ⟨hkG1, hkG2⟩ := hkG
    have hlw := hb0.size
    have hL : (Forest.cons t bs k r).length = r.length + 1 := rfl
    have hC : (Forest.cons t bs k r).cnt = 1 + bs.length + k.cnt + r.cnt := rfl
    have hkl := hkids.1
    have HR := Lib.hid hr'
    have b1 := fun o => hb0.alloc hlw o
    clear hr hr' hrow hrow2
    by_cases hn : 128 ≤ t
    · have t2 : decide ((128 : Int) ≤ t) = true := by simpa using hn
      have t3 : decide (t < 1) = false := by simp; omega
      by_cases hd8 : deep < 8
      · have t4 : decide ((deep : Int) < 8) = true := by simp; omega
        have kk := hkG1 (wr.alloc (.cells #[.int .i64 t, .slice ba blen bcap, .slice ka kl kc] 30)) ka kl kc (deep + 1) ((hkids.below ((Below.refl _ wr).alloc hlw _)).mono (by simp; omega)) (by omega) (by omega)
        rw [Int.natCast_add] at kk
        have hks1 := Forest.sizeL_ge k (deep + 1) 0 (Int.le_refl _)
        have hks2 := Forest.sizeL_le k (deep + 1) 0 (Int.le_refl _)
        obtain ⟨KS, hKS⟩ : ∃ KS, KS = k.sizeL (deep + 1) 0 := ⟨_, rfl⟩
        rw [← hKS] at kk hks1 hks2
        have bx := b1 (.cells #[.int .i64 t, .slice ba blen bcap, .slice ka kl kc] 30)
        have x0 : (wr.alloc (.cells #[.int .i64 t, .slice ba blen bcap, .slice ka kl kc] 30)).cell? ⟨wr.heap.size, 0, none⟩ = some (.int .i64 t) := by rw [World.cell?_alloc_mark]; rfl
        have x1 : (wr.alloc (.cells #[.int .i64 t, .slice ba blen bcap, .slice ka kl kc] 30)).cell? ⟨wr.heap.size, 1, none⟩ = some (.slice ba blen bcap) := by rw [World.cell?_alloc_mark]; rfl
        have x2 : (wr.alloc (.cells #[.int .i64 t, .slice ba blen bcap, .slice ka kl kc] 30)).cell? ⟨wr.heap.size, 2, none⟩ = some (.slice ka kl kc) := by rw [World.cell?_alloc_mark]; rfl
        have HKS := Lib.hid hKS
        clear hKS
        go_wp2_with (go_at_call 38; refine held ?_)
        unfold Held
        refine kk.mono ?_
        rintro e W2 ⟨rfl, b2⟩
        have y0 := cell_same (p := ⟨wr.heap.size, 0, none⟩) (b2.block wr.heap.size (by simp)) x0
        have y1 := cell_same (p := ⟨wr.heap.size, 1, none⟩) (b2.block wr.heap.size (by simp)) x1
        have y2 := cell_same (p := ⟨wr.heap.size, 2, none⟩) (b2.block wr.heap.size (by simp)) x2
        have b3 : Below W.heap.size W W2 := bx.trans (b2.mono (by simp; omega))
        clear x0 x1 x2 b2 bx kk
        have hKS : KS = k.sizeL (deep + 1) 0 := HKS
        by_cases h255 : 255 < t
        · have t5 : decide ((255 : Int) < t) = true := by simpa using h255
          have hbad : Forest.bad t bs k.length deep (k.sizeL (deep + 1) 0) := .inr (.inr (.inl h255))
          clear hKS
          have HM := Lib.hid (Forest.sizeL_bad (r := r) (n := N) hbad)
          clear hbad
          go_wp2
          go_ret
          exact ⟨by rw [← (show (Forest.cons t bs k r).sizeL deep N = f.sizeL deep 0 from hV), show (Forest.cons t bs k r).sizeL deep N = -1 from HM]; rfl, b3⟩
        have t5 : decide ((255 : Int) < t) = false := by simp; omega
        by_cases hbl0 : 0 < blen
        · have t6 : decide (0 < blen) = true := by simpa using hbl0
          have hbad : Forest.bad t bs k.length deep (k.sizeL (deep + 1) 0) := .inr (.inr (.inr (.inl ⟨hn, by omega⟩)))
          clear hKS
          have HM := Lib.hid (Forest.sizeL_bad (r := r) (n := N) hbad)
          clear hbad
          go_wp2
          go_ret
          exact ⟨by rw [← (show (Forest.cons t bs k r).sizeL deep N = f.sizeL deep 0 from hV), show (Forest.cons t bs k r).sizeL deep N = -1 from HM]; rfl, b3⟩
        have t6 : decide (0 < blen) = false := by simp; omega
        by_cases hks : KS < 0
        · have t7 : decide (KS < 0) = true := by simpa using hks
          have hbad : Forest.bad t bs k.length deep (k.sizeL (deep + 1) 0) := .inr (.inr (.inr (.inr (.inr (by unfold Forest.innerOf; rw [if_pos hn, if_pos hd8, ← hKS]; exact hks)))))
          clear hKS
          have HM := Lib.hid (Forest.sizeL_bad (r := r) (n := N) hbad)
          clear hbad
          go_wp2
          go_ret
          exact ⟨by rw [← (show (Forest.cons t bs k r).sizeL deep N = f.sizeL deep 0 from hV), show (Forest.cons t bs k r).sizeL deep N = -1 from HM]; rfl, b3⟩
        have t7 : decide (KS < 0) = false := by simp; omega
        have hnb : ¬ Forest.bad t bs k.length deep (k.sizeL (deep + 1) 0) := by unfold Forest.bad Forest.innerOf; rw [if_pos hn, if_pos hd8, ← hKS]; omega
        have hI : Forest.innerOf t bs k.length deep (k.sizeL (deep + 1) 0) = KS := by unfold Forest.innerOf; rw [if_pos hn, if_pos hd8, ← hKS]
        by_cases hbig : 1048576 < N + (5 + KS)
        · have t9 : decide ((1048576 : Int) < N + (5 + KS)) = true := by simp; omega
          have HM := Lib.hid (Forest.sizeL_big (r := r) hnb hI hbig)
          clear hnb hI hbig hKS
          go_wp2
          go_ret
          exact ⟨by rw [← (show (Forest.cons t bs k r).sizeL deep N = f.sizeL deep 0 from hV), show (Forest.cons t bs k r).sizeL deep N = -1 from HM]; rfl, b3⟩
        · have t9 : decide ((1048576 : Int) < N + (5 + KS)) = false := by simp; omega
          have hnx := Forest.sizeL_next (r := r) hnb hI hbig
          have hV2 : r.sizeL deep (N + (5 + KS)) = f.sizeL deep 0 := by rw [← hnx]; exact hV
          have HV2 := Lib.hid hV2
          have hI0 : 0 ≤ KS := by omega
          have hbg : N + (5 + KS) ≤ 1048576 := by omega
          clear hnb hI hbig hnx hV2 hKS
          go_wp2
          go_roundw
          case rel =>
            refine ⟨N + (5 + KS), i + 1, r, val_eq (by omega), by go_num, by omega, by omega, hbg, by omega, HV2, hkG2, fun b' off' ha hlen => ?_, b3⟩
            injection ha with ha; injection ha with q1 q2; subst q1 q2
            refine ⟨hbn, ?_⟩
            rw [show off + (i + 1) * 3 = off + i * 3 + 3 by omega]; exact HR
          case measure => simp [intOf]; omega
      · have t4 : decide ((deep : Int) < 8) = false := by simp; omega
        have bx := b1 (.cells #[.int .i64 t, .slice ba blen bcap, .slice ka kl kc] 30)
        by_cases hk0 : 0 < kl
        · have t8 : decide (0 < kl) = true := by simpa using hk0
          have hbad : Forest.bad t bs k.length deep (k.sizeL (deep + 1) 0) := .inl ⟨hn, hd8, by omega⟩
          have HM := Lib.hid (Forest.sizeL_bad (r := r) (n := N) hbad)
          clear hbad
          go_wp2
          go_ret
          exact ⟨by rw [← (show (Forest.cons t bs k r).sizeL deep N = f.sizeL deep 0 from hV), show (Forest.cons t bs k r).sizeL deep N = -1 from HM]; rfl, bx⟩
        have t8 : decide (0 < kl) = false := by simp; omega
        by_cases h255 : 255 < t
        · have t5 : decide ((255 : Int) < t) = true := by simpa using h255
          have hbad : Forest.bad t bs k.length deep (k.sizeL (deep + 1) 0) := .inr (.inr (.inl h255))
          have HM := Lib.hid (Forest.sizeL_bad (r := r) (n := N) hbad)
          clear hbad
          go_wp2
          go_ret
          exact ⟨by rw [← (show (Forest.cons t bs k r).sizeL deep N = f.sizeL deep 0 from hV), show (Forest.cons t bs k r).sizeL deep N = -1 from HM]; rfl, bx⟩
        have t5 : decide ((255 : Int) < t) = false := by simp; omega
        by_cases hbl0 : 0 < blen
        · have t6 : decide (0 < blen) = true := by simpa using hbl0
          have hbad : Forest.bad t bs k.length deep (k.sizeL (deep + 1) 0) := .inr (.inr (.inr (.inl ⟨hn, by omega⟩)))
          have HM := Lib.hid (Forest.sizeL_bad (r := r) (n := N) hbad)
          clear hbad
          go_wp2
          go_ret
          exact ⟨by rw [← (show (Forest.cons t bs k r).sizeL deep N = f.sizeL deep 0 from hV), show (Forest.cons t bs k r).sizeL deep N = -1 from HM]; rfl, bx⟩
        have t6 : decide (0 < blen) = false := by simp; omega
        have hnb : ¬ Forest.bad t bs k.length deep (k.sizeL (deep + 1) 0) := by unfold Forest.bad Forest.innerOf; rw [if_pos hn, if_neg hd8]; omega
        have hI : Forest.innerOf t bs k.length deep (k.sizeL (deep + 1) 0) = 0 := by unfold Forest.innerOf; rw [if_pos hn, if_neg hd8]
        by_cases hbig : 1048576 < N + (5 + 0)
        · have t9 : decide ((1048576 : Int) < N + 5) = true := by simp; omega
          have HM := Lib.hid (Forest.sizeL_big (r := r) hnb hI hbig)
          clear hnb hI hbig
          go_wp2
          go_ret
          exact ⟨by rw [← (show (Forest.cons t bs k r).sizeL deep N = f.sizeL deep 0 from hV), show (Forest.cons t bs k r).sizeL deep N = -1 from HM]; rfl, bx⟩
        · have t9 : decide ((1048576 : Int) < N + 5) = false := by simp; omega
          have hnx := Forest.sizeL_next (r := r) hnb hI hbig
          have hV2 : r.sizeL deep (N + (5 + 0)) = f.sizeL deep 0 := by rw [← hnx]; exact hV
          have HV2 := Lib.hid hV2
          have hI0 : 0 ≤ 0 := by omega
          have hbg : N + (5 + 0) ≤ 1048576 := by omega
          clear hnb hI hbig hnx hV2
          go_wp2
          go_roundw
          case rel =>
            refine ⟨N + (5 + 0), i + 1, r, val_eq (by omega), by go_num, by omega, by omega, hbg, by omega, HV2, hkG2, fun b' off' ha hlen => ?_, bx⟩
            injection ha with ha; injection ha with q1 q2; subst q1 q2
            refine ⟨hbn, ?_⟩
            rw [show off + (i + 1) * 3 = off + i * 3 + 3 by omega]; exact HR
          case measure => simp [intOf]; omega
    · have t2 : decide ((128 : Int) ≤ t) = false := by simp; omega
      have bx := b1 (.cells #[.int .i64 t, .slice ba blen bcap, .slice ka kl kc] 30)
      by_cases h1 : t < 1
      · have t3 : decide (t < 1) = true := by simpa using h1
        have hbad : Forest.bad t bs k.length deep (k.sizeL (deep + 1) 0) := .inr (.inl h1)
        have HM := Lib.hid (Forest.sizeL_bad (r := r) (n := N) hbad)
        clear hbad
        go_wp2
        go_ret
        exact ⟨by rw [← (show (Forest.cons t bs k r).sizeL deep N = f.sizeL deep 0 from hV), show (Forest.cons t bs k r).sizeL deep N = -1 from HM]; rfl, bx⟩
      have t3 : decide (t < 1) = false := by simp; omega
      have t5 : decide ((255 : Int) < t) = false := by simp; omega
      by_cases hk0 : 0 < kl
      · have t8 : decide (0 < kl) = true := by simpa using hk0
        have hbad : Forest.bad t bs k.length deep (k.sizeL (deep + 1) 0) := .inr (.inr (.inr (.inr (.inl ⟨hn, by omega⟩))))
        have HM := Lib.hid (Forest.sizeL_bad (r := r) (n := N) hbad)
        clear hbad
        go_wp2
        go_ret
        exact ⟨by rw [← (show (Forest.cons t bs k r).sizeL deep N = f.sizeL deep 0 from hV), show (Forest.cons t bs k r).sizeL deep N = -1 from HM]; rfl, bx⟩
      have t8 : decide (0 < kl) = false := by simp; omega
      have hnb : ¬ Forest.bad t bs k.length deep (k.sizeL (deep + 1) 0) := by unfold Forest.bad Forest.innerOf; rw [if_neg hn]; omega
      have hI : Forest.innerOf t bs k.length deep (k.sizeL (deep + 1) 0) = (blen : Int) := by unfold Forest.innerOf; rw [if_neg hn, hbe]
      by_cases hbig : 1048576 < N + (5 + (blen : Int))
      · have t9 : decide ((1048576 : Int) < N + (5 + (blen : Int))) = true := by simp; omega
        have HM := Lib.hid (Forest.sizeL_big (r := r) hnb hI hbig)
        clear hnb hI hbig
        go_wp2
        go_ret
        exact ⟨by rw [← (show (Forest.cons t bs k r).sizeL deep N = f.sizeL deep 0 from hV), show (Forest.cons t bs k r).sizeL deep N = -1 from HM]; rfl, bx⟩
      · have t9 : decide ((1048576 : Int) < N + (5 + (blen : Int))) = false := by simp; omega
        have hnx := Forest.sizeL_next (r := r) hnb hI hbig
        have hV2 : r.sizeL deep (N + (5 + (blen : Int))) = f.sizeL deep 0 := by rw [← hnx]; exact hV
        have HV2 := Lib.hid hV2
        have hI0 : 0 ≤ (blen : Int) := by omega
        have hbg : N + (5 + (blen : Int)) ≤ 1048576 := by omega
        clear hnb hI hbig hnx hV2
        go_wp2
        go_roundw
        case rel =>
          refine ⟨N + (5 + (blen : Int)), i + 1, r, val_eq (by omega), by go_num, by omega, by omega, hbg, by omega, HV2, hkG2, fun b' off' ha hlen => ?_, bx⟩
          injection ha with ha; injection ha with q1 q2; subst q1 q2
          refine ⟨hbn, ?_⟩
          rw [show off + (i + 1) * 3 = off + i * 3 + 3 by omega]; exact HR
        case measure => simp [intOf]; omega
end Go.Proofs.Ytdlhnipkhlihjaa
