/- The walk of the document's lay. -/
import Derived.Test.YtdlhnipkhlihjaaTlvC
namespace Go.Proofs.Ytdlhnipkhlihjaa
open Go Go.RowKit
set_option linter.unusedVariables false
set_option linter.unnecessarySimpa false
/-- what the document's lay answers -/
def RLayOK (f : Forest) : Prop := ∀ (W : World) (a : Option Addr) (len cap : Nat), SlF W.heap.size W a len cap f → f.cnt ≤ 20000 →
  Calls Try.prog 36 #[.slice a len cap] W fun e W' => ∃ v, e = .returned v ∧ W'.ownsRow W.heap.size 5 1 v f.layF.length (f.layF.map (Value.int .u8)) ∧ Below W.heap.size W W'
set_option maxRecDepth 100000 in
set_option maxHeartbeats 8000000 in
theorem rlay_step (f : Forest) (hk : f.AllKids RLayOK) : RLayOK f := by
  intro W a len cap h hcnt
  obtain ⟨i0, hi, hz0, hz1, hz2⟩ := info_parts info_u8
  have hs := h.small
  obtain ⟨hl, hc⟩ := h
  go_enter Try.func36, Try.ntmps36
  go_wp2
  go_loopw [3, 4, 5, 6] (fun out i _ _ wr => ∃ (i' : Nat) (G : Forest) (P : List Int), i = .int .i64 (i' : Int) ∧ i' + G.length = len ∧ G.cnt ≤ 20000 ∧ P.length + 5 * G.cnt ≤ 100000 ∧ Hid (P ++ G.layF = f.layF) ∧ G.AllKids RLayOK ∧ (∀ b off, a = some ⟨b, off, none⟩ → 0 < len → b < W.heap.size ∧ RowF W.heap.size W G b (off + i' * 3)) ∧ wr.ownsRow W.heap.size 5 1 out P.length (P.map (Value.int .u8)) ∧ Below W.heap.size W wr) (fun _ i _ _ _ => len - (intOf i).toNat)
  case atStart =>
    refine ⟨0, f, [], rfl, by omega, hcnt, by simp; omega, rfl, hk, fun b off ha hlen => ?_, World.ownsRow_nil _ _ _ _, Below.refl _ _⟩
    rcases hc with h0 | ⟨b', off', ha', hb', _, _, hrow⟩
    · omega
    · rw [ha] at ha'; injection ha' with ha'; injection ha' with e1 e2
      subst e1 e2
      exact ⟨hb', by simpa using hrow⟩
  case round =>
    obtain ⟨i, G, P, rfl, hiG, hcG, hPG, hV, hkG, hrow, hown, hb0⟩ := hrel
    by_cases hlt : i < len
    rotate_left
    · have t1 : decide ((i : Int) < (len : Int)) = false := by simp; omega
      have hG : G = .nil := by
        cases G with
        | nil => rfl
        | cons t bs k r => simp [Forest.length] at hiG; omega
      subst hG
      have hP : P = f.layF := by rw [← (show P ++ Forest.nil.layF = f.layF from hV), Forest.layF, List.append_nil]
      rw [hP] at hown
      clear hV hrow hP
      go_wp2
      go_ret
      exact ⟨_, rfl, hown, hb0⟩
    have t1 : decide ((i : Int) < (len : Int)) = true := by simp; omega
    obtain h0 | ⟨b, off, rfl, hbn, hlc, hcm, _⟩ := hc
    · omega
    obtain ⟨_, hrow2⟩ := hrow b off rfl (by omega)
    obtain ⟨t, bs, k, r, ba, blen, bcap, ka, kl, kc, rfl, c0, c1, c2, ht1, ht2, ⟨hb, hbl⟩, hkids, hr⟩ := (RowF.below hb0 G b _ hbn hrow2).open (by omega)
    have hr' : RowF W.heap.size W r b (off + i * 3 + 3) := by
      obtain ⟨_, _, _, _, _, _, _, _, _, _, _, _, _, _, h⟩ := hrow2
      exact h
    have hbe := hb.1.open.1
    obtain ⟨hkG1, hkG2⟩ := hkG
    have hlw := hb0.size
    have hL : (Forest.cons t bs k r).length = r.length + 1 := rfl
    have hC : (Forest.cons t bs k r).cnt = 1 + bs.length + k.cnt + r.cnt := rfl
    have hlk := Forest.layF_le k
    have HR := Lib.hid hr'
    have hVL : P ++ (([t % 256] ++ bytesL ((if 128 ≤ t then k.layF else bs).length) ++ (if 128 ≤ t then k.layF else bs)) ++ r.layF) = f.layF := by
      rw [← (show P ++ (Forest.cons t bs k r).layF = f.layF from hV), Forest.layF, bytesL_len _ (by split <;> omega)]
    clear hr hr' hrow hrow2 hV
    by_cases hn : 128 ≤ t
    · have t2 : decide ((127 : Int) < t) = true := by simp; omega
      rw [if_pos hn] at hVL
      have HVL := Lib.hid hVL
      have kk := hkG1 wr ka kl kc (hkids.mono hlw) (by omega)
      have hownw := fun q hq => (hown.lt q hq).2
      clear hVL
      go_wp2_with (go_at_call 36; refine held ?_)
      unfold Held
      refine kk.mono ?_
      rintro e w2 ⟨v7, rfl, o7, b7⟩
      obtain ⟨va, vc, rfl, hva⟩ := ownsRow_slice o7
      have hvr := (RowI.of_own o7).2
      have hvb : ∀ q, blockOf (.slice va k.layF.length vc) q → wr.heap.size ≤ q := fun q hq => by
        rcases hva with h0 | ⟨g', rfl, hg'⟩
        · cases va with
          | none => exact hq.elim
          | some x => have := hq.1; omega
        · have h2 := (o7.lt g' hg').1
          have h3 : q = g' := hq.2
          omega
      have own2 := ownsRow_same hown fun q hq => b7.block q (hown.lt q hq).2
      have bel2 : Below W.heap.size W w2 := hb0.trans (b7.mono hlw)
      have nb0 : ∀ q, blockOf (.slice va k.layF.length vc) q → u3.ownBlock ≠ some q := (fun q hq e => by have h1 := hvb q hq; have h2 := hownw q e; omega)
      have y0 := (b7.cell (p := ⟨b, off + i * 3, none⟩) (show b < wr.heap.size by omega)).trans c0
      clear kk o7 b7
      have hrB : Row8 ((w2).heap.size + 1) ((w2).alloc (.cells #[.int .u8 (t % 256), .int .u8 ((k.layF.length : Nat) % 256), .int .u8 ((k.layF.length : Nat) / 256 % 256), .int .u8 ((k.layF.length : Nat) / 65536 % 256), .int .u8 ((k.layF.length : Nat) / 16777216)] 5)) (.slice (some ⟨(w2).heap.size, 0, none⟩) 5 5) ([t % 256] ++ bytesL (k.layF.length)) := by
        have := Row8.built (w2) 5 (0, 0) ([t % 256] ++ bytesL (k.layF.length)) (by
          intro z hz
          rcases List.mem_append.1 hz with hz | hz
          · simp only [List.mem_cons, List.not_mem_nil, or_false] at hz; omega
          · exact bytesL_byte _ (by omega) z hz) (by simp [bytesL, maxLen]) _ rfl 5 rfl
        simpa [bytesL] using this
      go_wp2_with (at_builtin; refine held ?_)
      unfold Held
      refine wpList_append_row rfl _ _ 25 rfl W.heap.size 5 i0 Try.underlying25 hi hz0 hz1 hz2 u3 P.length P rfl (own2.alloc _) _ 5 5 _ ([t % 256] ++ bytesL (k.layF.length)) rfl hrB.1 (by omega) (by simp; have := bel2.size; omega) ?_
      intro v1 u1 o1 g1 hv1
      have d1 : Below W.heap.size W u1 := (bel2.alloc bel2.size _).grown g1 (by simp; have := bel2.size; omega) (fun q hq => (own2.lt q hq).1)
      have r1 : RowI .u8 w2.heap.size u1 (.slice va k.layF.length vc) k.layF := hvr.same fun q hq => (g1.block q (by have := hvr.lt q hq; have := bel2.size; simp; omega) (fun e => nb0 q hq e.symm)).trans (Below.heap_alloc _ _ _ (by have := hvr.lt q hq; have := bel2.size; omega))
      have s1 := d1.size
      clear hrB
      go_wp2_with (at_builtin; refine held ?_)
      unfold Held
      refine wpList_append_row rfl _ _ 25 rfl W.heap.size 5 i0 Try.underlying25 hi hz0 hz1 hz2 v1 (P.length + 5) (P ++ ([t % 256] ++ bytesL (k.layF.length))) rfl o1 va k.layF.length vc w2.heap.size k.layF rfl r1 (by omega) s1 ?_
      intro v2 u2 o2 g2 hv2
      have d2 : Below W.heap.size W u2 := d1.grown g2 s1 (fun q hq => (o1.lt q hq).1)
      have HPL := Lib.hid (show ((P ++ ([t % 256] ++ bytesL (k.layF.length))) ++ k.layF).length = P.length + 5 + k.layF.length by
        rw [List.length_append, List.length_append]; simp [bytesL]; try omega)
      have HVF := Lib.hid (show ((P ++ ([t % 256] ++ bytesL (k.layF.length))) ++ k.layF) ++ r.layF = f.layF by
        rw [← (show _ = f.layF from HVL)]; simp only [List.append_assoc])
      clear o1 g2 hv2 g1 hv1 r1
      go_wp2
      go_roundw
      case rel =>
        have hPl : ((P ++ ([t % 256] ++ bytesL (k.layF.length))) ++ k.layF).length = P.length + 5 + k.layF.length := HPL
        refine ⟨i + 1, r, (P ++ ([t % 256] ++ bytesL (k.layF.length))) ++ k.layF, by go_num, by omega, by omega, by omega, HVF, hkG2, fun b' off' ha hlen => ?_, by rw [hPl]; exact o2, d2⟩
        injection ha with ha; injection ha with q1 q2; subst q1 q2
        refine ⟨hbn, ?_⟩
        rw [show off + (i + 1) * 3 = off + i * 3 + 3 by omega]; exact HR
      case measure => simp [intOf]; omega
    · have t2 : decide ((127 : Int) < t) = false := by simp; omega
      rw [if_neg hn, hbe] at hVL
      have HVL := Lib.hid hVL
      have hvr : RowI .u8 W.heap.size wr (.slice ba blen bcap) bs := hb.1
      have nb0 : ∀ q, blockOf (.slice ba blen bcap) q → u3.ownBlock ≠ some q := (fun q hq e => by have h1 := hb.1.lt q hq; have h2 := (hown.lt q e).1; omega)
      clear hVL
      have hrB : Row8 ((wr).heap.size + 1) ((wr).alloc (.cells #[.int .u8 (t % 256), .int .u8 ((blen : Nat) % 256), .int .u8 ((blen : Nat) / 256 % 256), .int .u8 ((blen : Nat) / 65536 % 256), .int .u8 ((blen : Nat) / 16777216)] 5)) (.slice (some ⟨(wr).heap.size, 0, none⟩) 5 5) ([t % 256] ++ bytesL (blen)) := by
        have := Row8.built (wr) 5 (0, 0) ([t % 256] ++ bytesL (blen)) (by
          intro z hz
          rcases List.mem_append.1 hz with hz | hz
          · simp only [List.mem_cons, List.not_mem_nil, or_false] at hz; omega
          · exact bytesL_byte _ (by omega) z hz) (by simp [bytesL, maxLen]) _ rfl 5 rfl
        simpa [bytesL] using this
      go_wp2_with (at_builtin; refine held ?_)
      unfold Held
      refine wpList_append_row rfl _ _ 25 rfl W.heap.size 5 i0 Try.underlying25 hi hz0 hz1 hz2 u3 P.length P rfl (hown.alloc _) _ 5 5 _ ([t % 256] ++ bytesL (blen)) rfl hrB.1 (by omega) (by simp; have := hb0.size; omega) ?_
      intro v1 u1 o1 g1 hv1
      have d1 : Below W.heap.size W u1 := (hb0.alloc hb0.size _).grown g1 (by simp; have := hb0.size; omega) (fun q hq => (hown.lt q hq).1)
      have r1 : RowI .u8 W.heap.size u1 (.slice ba blen bcap) bs := hvr.same fun q hq => (g1.block q (by have := hvr.lt q hq; have := hb0.size; simp; omega) (fun e => nb0 q hq e.symm)).trans (Below.heap_alloc _ _ _ (by have := hvr.lt q hq; have := hb0.size; omega))
      have s1 := d1.size
      clear hrB
      go_wp2_with (at_builtin; refine held ?_)
      unfold Held
      refine wpList_append_row rfl _ _ 25 rfl W.heap.size 5 i0 Try.underlying25 hi hz0 hz1 hz2 v1 (P.length + 5) (P ++ ([t % 256] ++ bytesL (blen))) rfl o1 ba blen bcap W.heap.size bs rfl r1 (by omega) s1 ?_
      intro v2 u2 o2 g2 hv2
      have d2 : Below W.heap.size W u2 := d1.grown g2 s1 (fun q hq => (o1.lt q hq).1)
      have HPL := Lib.hid (show ((P ++ ([t % 256] ++ bytesL (blen))) ++ bs).length = P.length + 5 + blen by
        rw [List.length_append, List.length_append]; simp [bytesL]; try omega)
      have HVF := Lib.hid (show ((P ++ ([t % 256] ++ bytesL (blen))) ++ bs) ++ r.layF = f.layF by
        rw [← (show _ = f.layF from HVL)]; simp only [List.append_assoc])
      clear o1 g2 hv2 g1 hv1 r1
      go_wp2
      go_roundw
      case rel =>
        have hPl : ((P ++ ([t % 256] ++ bytesL (blen))) ++ bs).length = P.length + 5 + blen := HPL
        refine ⟨i + 1, r, (P ++ ([t % 256] ++ bytesL (blen))) ++ bs, by go_num, by omega, by omega, by omega, HVF, hkG2, fun b' off' ha hlen => ?_, by rw [hPl]; exact o2, d2⟩
        injection ha with ha; injection ha with q1 q2; subst q1 q2
        refine ⟨hbn, ?_⟩
        rw [show off + (i + 1) * 3 = off + i * 3 + 3 by omega]; exact HR
      case measure => simp [intOf]; omega
theorem rlay_any (f : Forest) : RLayOK f := Forest.all RLayOK rlay_step f
end Go.Proofs.Ytdlhnipkhlihjaa
