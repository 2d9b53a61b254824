/- The walk of the law FramesPlays. -/
import Derived.Test.YtdacdfnfbknndaaFramesLeastW
namespace Go.Proofs.Ytdacdfnfbknndaa
open Go Go.RowKit
attribute [local go_sem] upV_value upV_skip upV_enter
set_option linter.unusedVariables false
set_option linter.unnecessarySimpa false
set_option linter.unusedSimpArgs false
theorem FrAt.apartG {W W' : World} {g q g' c' : Nat} {gs : List Fr} (h : FrAt W q g' c' gs) (h1 : q ≠ g) (h2 : g' ≠ g) (hw : Wr (· = g) (· = g) W W') : FrAt W' q g' c' gs :=
  h.same (hw.block q h.ltp h1) (hw.block g' h.ltg h2)
theorem rem_self (a b : Int) : (a - b != a - b) = false := by simp
set_option maxRecDepth 100000 in
set_option maxHeartbeats 16000000 in
theorem framesPlays_any (W : World) (nn : Int) (a : Option Addr) (len cap : Nat) (os : List OpM) (h : IsOps W.heap.size W a len cap os) :
    Calls Try.prog 7 #[.int .i64 nn, .slice a len cap] W fun e W' => e = .returned (.bool true) ∧ Below W.heap.size W W' := by
  go_enter Try.func7, Try.ntmps7
  go_wp2_with (go_at_call 11; refine held ?_)
  unfold Held
  refine (great_any _ W a len cap os h).mono ?_
  rintro e w3 ⟨rfl, ⟨rfl, hl1, hl2⟩ | rfl⟩
  rotate_left
  · go_wp2
    go_ret
    exact ⟨rfl, Below.refl _ _⟩
  by_cases hnn : nn < 1 ∨ nn > 256
  · go_wp2_with (go_at_call 14; refine held ?_)
    unfold Held
    refine (new_bad nn W hnn).mono ?_
    rintro e w4 ⟨rfl, rfl⟩
    go_wp2_with (go_at_call 15; refine held ?_)
    unfold Held
    refine (dnew_bad nn _ hnn).mono ?_
    rintro e w4 ⟨rfl, rfl⟩
    go_wp2
    go_ret
    exact ⟨rfl, Below.refl _ _⟩
  obtain ⟨N, rfl⟩ : ∃ N : Nat, nn = N := ⟨nn.toNat, by omega⟩
  have hN1 : 1 ≤ N := by omega
  have hN2 : N ≤ 256 := by omega
  clear hnn
  go_wp2_with (go_at_call 14; refine held ?_)
  unfold Held
  refine (new_any N W hN1 hN2).mono ?_
  rintro e w3 ⟨p, g, rfl, h1, hp, hg, b1⟩
  go_wp2_with (go_at_call 15; refine held ?_)
  unfold Held
  refine (dnew_any N w3 hN1 hN2).mono ?_
  rintro e w4 ⟨d, gr, cr, gb, cb, rfl, h3, hd, hgr, hgb, b2⟩
  have hs1 := b1.size
  have S2 : Sd W.heap.size w4 p g N d gr cr gb cb (newL N) (newL N) := ⟨h1.below b2, h3, hg, by omega, by omega, Nat.le_trans hs1 b2.size⟩
  have b2' := b1.trans (b2.mono hs1)
  have hM0 : Hid ((newL N).length = N ∧ Mem (0 : Nat) (newL N)) := ⟨newL_len N, Mem.new N⟩
  clear h1 h3 b1 b2
  go_wp2_with fail
  go_loopw [5, 42] (fun r x wr => ∃ (j p g cp : Nat) (fs : List Fr), x = .int .i64 (j : Int) ∧ r = .pointer (some ⟨p, 0, none⟩) ∧ j ≤ len ∧ Sd W.heap.size wr p g cp d gr cr gb cb fs fs ∧ Hid (fs.length = N ∧ Mem (j : Int) fs) ∧ Below W.heap.size W wr) (fun _ x _ => len - (intOf x).toNat)
  case atStart => exact ⟨0, p, g, N, newL N, rfl, rfl, Nat.zero_le _, S2, hM0, b2'⟩
  case round =>
    clear S2 b2' hM0 hg hp hs1 hd hgr hgb
    obtain ⟨j, p, g, cp, fs, rfl, rfl, hj, hS, hM, hb⟩ := hrel
    by_cases hlt : j < len
    rotate_left
    · have t1 : decide ((j : Int) < (len : Int)) = false := by simp; omega
      go_wp2
      go_ret
      exact ⟨rfl, hb⟩
    have t1 : decide ((j : Int) < (len : Int)) = true := by simp; omega
    obtain ⟨b, off, rfl, hlc, hcm, hj', c0, c1, c2, c3, c4, ho⟩ := h.at hb j hlt
    have hat := fun (W' : World) (hW : Below W.heap.size W W') => (by
      obtain ⟨hl, h0 | ⟨b', off', e1, _, _, _, hc⟩⟩ := h.below hW
      · omega
      · injection e1 with e1; injection e1 with e1 e2 _
        subst e1 e2
        exact hc j hj' : W'.cell? ⟨b, off + j * 5, none⟩ = some (.int .i64 os[j].k) ∧ W'.cell? ⟨b, off + j * 5 + 1, none⟩ = some (.int .i64 os[j].f) ∧ W'.cell? ⟨b, off + j * 5 + 2, none⟩ = some (.int .i64 os[j].o) ∧ W'.cell? ⟨b, off + j * 5 + 3, none⟩ = some (.int .i64 os[j].n) ∧ W'.cell? ⟨b, off + j * 5 + 4, none⟩ = some (.slice os[j].a os[j].len os[j].cap) ∧ IsOp W.heap.size W' os[j])
    simp only [maxLen] at hcm
    have hol' := hl2 _ (List.getElem_mem hj')
    obtain ⟨o, ho'⟩ : ∃ o, o = os[j] := ⟨_, rfl⟩
    rw [← ho'] at c0 c1 c2 c3 c4 ho hol'
    simp only [← ho'] at hat
    have HAT := Lib.hid hat
    clear hat h hl2 ho'
    by_cases hk6 : o.k = 6
    · have t2 : (o.k == 6) = true := by simpa using hk6
      clear hk6
      obtain ⟨hfl, hmm⟩ := (show _ ∧ _ from hM)
      have hsm1 : Small (takeL fs) := (hmm.take (by omega)).small (by omega)
      have hHS := Lib.hid hS
      go_wp2_with (go_at_call 20; refine held ?_)
      unfold Held
      refine (copy_any p g cp fs wr hS.fr).mono ?_
      rintro e w5 ⟨q, g', c', rfl, hq, hg', C5, b5⟩
      have F5 := (Sd.fr hHS).below b5
      have hqg : q ≠ g := by have := (Sd.fr hHS).ltg; omega
      have hgg : g' ≠ g := by have := (Sd.fr hHS).ltg; omega
      have lgg : W.heap.size ≤ g := Sd.lg hHS
      have s5 : Sd W.heap.size w5 q g' c' d gr cr gb cb fs fs := ⟨C5, (Sd.doc hHS).below b5, Nat.le_trans (Sd.hn hHS) hg', Sd.lr hHS, Sd.lb hHS, Nat.le_trans (Sd.hn hHS) b5.size⟩
      have B5 := hb.trans (b5.mono hb.size)
      clear hS hHS C5 b5 hb hq hg' c0 c1 c2 c3 c4 ho hmm
      go_wp2_with (go_at_call 23; refine held ?_)
      unfold Held
      refine (take_any p g cp fs w5 F5).mono ?_
      rintro e w6 ⟨rfl, F6, hw6⟩
      have s6 : Sd W.heap.size w6 q g' c' d gr cr gb cb fs fs := ⟨s5.fr.apartG hqg hgg hw6, s5.doc.wrG F5.tagG hw6, s5.lg, s5.lr, s5.lb, Nat.le_trans s5.hn hw6.size⟩
      have B6 := B5.trans (below_of_wr hw6 lgg B5.size)
      clear s5 B5 F5 hw6
      go_wp2_with (go_at_call 24; refine held ?_)
      unfold Held
      have kdr := drop_any p g cp (takeL fs) 0 w6 F6 hsm1
      obtain ⟨X1, hX1⟩ : ∃ X1 : Int, X1 = if okF (takeL fs) 0 then (frAt (takeL fs) 0).n - 1 else 0 := ⟨_, rfl⟩
      obtain ⟨X2, hX2⟩ : ∃ X2 : Int, X2 = if okF (takeL fs) 0 then 0 else 41 := ⟨_, rfl⟩
      rw [← hX1, ← hX2] at kdr
      clear hX1 hX2
      refine kdr.mono ?_
      rintro e w7 ⟨rfl, F7, hw7⟩
      have hS : Sd W.heap.size w7 q g' c' d gr cr gb cb fs fs := ⟨s6.fr.apartG hqg hgg hw7, s6.doc.wrG F6.tagG hw7, s6.lg, s6.lr, s6.lb, Nat.le_trans s6.hn hw7.size⟩
      have hb := B6.trans (below_of_wr hw7 lgg B6.size)
      obtain ⟨c0, c1, c2, c3, c4, ho⟩ := (show ∀ W', Below W.heap.size W W' → _ from HAT) w7 hb
      clear kdr s6 B6 F6 hw7 F7 hqg hgg lgg hsm1 t2 hfl
      obtain ⟨hfl, hmm⟩ := (show _ ∧ _ from hM)
      have hmm' := hmm.step (by omega) o
      have hfl' := stepF_len fs o
      have K0 := Lib.hid (do_any W.heap.size w7 q g' c' d gr cr gb cb fs o hS _ hmm (by omega) ho hol')
      obtain ⟨f2, hf2⟩ : ∃ f2, f2 = stepF fs o := ⟨_, rfl⟩
      rw [← hf2] at hmm' hfl' K0
      have HM2 : Hid (f2.length = N ∧ Mem ((j + 1 : Nat) : Int) f2) := ⟨hfl'.trans hfl, by simpa using hmm'⟩
      have hf2l : f2.length = N := hfl'.trans hfl
      clear hf2 hmm' hfl' hmm hM hfl hS ho
      go_wp2_with (go_at_call 16; refine held ?_)
      unfold Held
      rw [show (.agg #[.int .i64 o.k, .int .i64 o.f, .int .i64 o.o, .int .i64 o.n, .slice o.a o.len o.cap] : Value) = .agg (opAgg o) from rfl]
      refine Calls.mono K0 ?_
      rintro e w8 ⟨rfl, s8, bb8⟩
      have B8 := hb.trans bb8
      clear K0 bb8 hb c0 c1 c2 c3 c4
      have hul := usedF_len f2
      have hum := fun x => usedF_mem (fs := f2) (x := x)
      have ku := used_any q g' c' f2 w8 s8.fr
      have kd := fun (W' : World) (hf : DcAt W' d gr cr gb cb f2) => dused_any d gr cr gb cb f2 W' hf
      have kf := fun (W' : World) (hf : FrAt W' q g' c' f2) => free_any q g' c' f2 W' hf
      have kl := fun (W' : World) (hf : FrAt W' q g' c' f2) => len_any q g' c' f2 W' hf
      have ki := fun (W' : World) (hf : DcAt W' d gr cr gb cb f2) => is_any d gr cr gb cb f2 o.f W' hf
      have kr := fun (W' : World) (hf : FrAt W' q g' c' f2) => refs_any q g' c' f2 o.f W' hf
      rw [hf2l] at kf kl
      have h64 := s8.fr.len
      have h256 := s8.fr.sm
      obtain ⟨U, hU⟩ : ∃ U, U = usedF f2 := ⟨_, rfl⟩
      rw [← hU] at ku kd kf hul
      simp only [← hU] at hum
      have KU := Lib.hid ku
      have KD := Lib.hid kd
      have KF := Lib.hid kf
      have KL := Lib.hid kl
      have KI := Lib.hid ki
      have KR := Lib.hid kr
      have HU := Lib.hid hum
      have tN := rem_self (N : Int) (U.length : Int)
      clear ku kd kf kl ki kr hU hum
      go_wp2_with (go_at_call 21; refine held ?_)
      unfold Held
      refine Calls.mono KU ?_
      rintro e w9 ⟨v9, rfl, o9, bb9⟩
      have s9 := s8.below bb9
      have B9 := B8.trans (bb9.mono B8.size)
      obtain ⟨ua, uc, rfl, hop⟩ := own_open o9
      clear KU s8 bb9 B8
      go_wp2_with (go_at_call 26; refine held ?_)
      unfold Held
      refine Calls.mono ((show ∀ W' (hf : DcAt W' d gr cr gb cb f2), _ from KD) w9 s9.doc) ?_
      rintro e w10 ⟨v10, rfl, o10, bb10⟩
      have s10 := s9.below bb10
      have B10 := B9.trans (bb10.mono B9.size)
      have o9' := row_below o9 bb10
      obtain ⟨va, vc, rfl⟩ := sl_own o10
      have ra := (RowI.of_own o9').2
      have rb := (RowI.of_own o10).2
      have K4 := Lib.hid (same04_any ua _ uc U va _ vc U w10.heap.size w10 (Nat.le_refl _) ra rb (by omega))
      clear KD s9 bb10 B9 o9 o10 ra rb
      go_wp2_with (go_at_call 25; refine held ?_)
      unfold Held
      refine Calls.mono K4 ?_
      rintro e w11 ⟨rfl, bb11⟩
      simp only [decide_true]
      have s11 := s10.below bb11
      have B11 := B10.trans (bb11.mono B10.size)
      have o11 := row_below o9' bb11
      clear K4 s10 bb11 B10 o9'
      go_wp2_with (go_at_call 22; refine held ?_)
      unfold Held
      refine Calls.mono ((show ∀ W' (hf : FrAt W' q g' c' f2), _ from KF) w11 s11.fr) ?_
      rintro e w12 ⟨rfl, bb12⟩
      have s12 := s11.below bb12
      have B12 := B11.trans (bb12.mono B11.size)
      have o12 := row_below o11 bb12
      clear KF s11 bb12 B11 o11
      go_wp2_with (go_at_call 27; refine held ?_)
      unfold Held
      refine Calls.mono ((show ∀ W' (hf : FrAt W' q g' c' f2), _ from KL) w12 s12.fr) ?_
      rintro e w13 ⟨rfl, rfl⟩
      clear KL
      go_wp2_with fail
      go_loopw [90] (fun x wr => ∃ (m : Nat), x = .int .i64 (m : Int) ∧ m ≤ U.length ∧ Below w13.heap.size w13 wr) (fun x _ => U.length - (intOf x).toNat)
      case atStart => exact ⟨0, rfl, Nat.zero_le _, Below.refl _ _⟩
      case round =>
        obtain ⟨m, rfl, hm, hbm⟩ := hrel
        have sr := s12.below hbm
        have orr := row_below o12 hbm
        have Br := B12.trans (hbm.mono B12.size)
        clear s12 o12 B12
        by_cases hlm : m < U.length
        rotate_left
        · have t8 : decide ((m : Int) < ((U.length : Nat) : Int)) = false := by simp; omega
          clear orr hop tN
          obtain ⟨c0, c1, c2, c3, c4, ho⟩ := (show ∀ W', Below W.heap.size W W' → _ from HAT) _ Br
          go_wp2_with (go_at_call 28; refine held ?_)
          unfold Held
          refine Calls.mono ((show ∀ W' (hf : DcAt W' d gr cr gb cb f2), _ from KI) _ sr.doc) ?_
          rintro e w14 ⟨rfl, rfl⟩
          clear KI
          cases hok : okF f2 o.f with
          | true =>
            clear hok KR ho c0 c1 c2 c3 c4
            go_wp2_with fail
            go_roundw
            case rel => exact ⟨j + 1, q, g', c', f2, by go_num, rfl, by omega, sr, HM2, Br⟩
            case measure => simp [intOf]; omega
          | false =>
            have k7 := (show ∀ W' (hf : FrAt W' q g' c' f2), _ from KR) _ sr.fr
            rw [hok, if_neg (by decide)] at k7
            have K7 := Lib.hid k7
            clear hok KR k7 ho
            go_wp2_with (go_at_call 19; refine held ?_)
            unfold Held
            refine Calls.mono K7 ?_
            rintro e w15 ⟨rfl, rfl⟩
            clear K7 c0 c1 c2 c3 c4
            go_wp2_with fail
            go_roundw
            case rel => exact ⟨j + 1, q, g', c', f2, by go_num, rfl, by omega, sr, HM2, Br⟩
            case measure => simp [intOf]; omega
        have t8 : decide ((m : Int) < ((U.length : Nat) : Int)) = true := by simp; omega
        obtain ⟨ub, rfl, hub, hcc, hcu⟩ := hop (by omega)
        simp only [maxLen] at hcu
        obtain ⟨y, hy, he, hny⟩ := ((show ∀ x, x ∈ U ↔ _ from HU) U[m]).1 (List.getElem_mem hlm)
        have d1 : wr.cell? ⟨ub, m, none⟩ = some (.int .i64 (y : Int)) := by
          rw [orr.cellAt m (by omega), List.getElem?_map, List.getElem?_eq_getElem hlm, he]; rfl
        have k3 := read_any q g' c' f2 y 0 64 wr sr.fr
        rw [show readE f2 y 0 64 = 0 from readE_of hy hny (show 0 + 64 ≤ 64 by omega), readL_all h64 hy hny, h64.at hy] at k3
        have hA64 := h64.at hy
        have HDX := Lib.hid (fun (W' : World) (hf : DcAt W' d gr cr gb cb f2) => hf.row y hy hny)
        have HDC := Lib.hid (fun (W' : World) (hf : DcAt W' d gr cr gb cb f2) => hf.count y hy)
        have k5 := fun (W' : World) (hf : FrAt W' q g' c' f2) => by
          have := refs_any q g' c' f2 y W' hf
          rw [okF_at hy, decide_eq_true hny, if_pos rfl, frAt_at hy] at this
          exact this
        obtain ⟨A, hA⟩ : ∃ A, A = f2[y].b := ⟨_, rfl⟩
        obtain ⟨R, hR⟩ : ∃ R, R = f2[y].n := ⟨_, rfl⟩
        rw [← hA] at k3 hA64 HDX
        rw [← hR] at k5 HDC
        have hyN : y < f2.length := hy
        have K3 := Lib.hid k3
        have K5 := Lib.hid k5
        have HB := Lib.hid (And.intro hbm hm)
        clear k3 k5 hA hR hny he orr hop hbm hm tN Br
        go_wp2_with (go_at_call 13; refine held ?_)
        unfold Held
        refine Calls.mono K3 ?_
        rintro e w14 ⟨v14, rfl, o14, bb14⟩
        have s14 := sr.below bb14
        have hb14 := Below.trans HB.1 (bb14.mono (Below.size HB.1))
        obtain ⟨a14, c14, rfl, _⟩ := own_open o14
        clear K3 bb14 sr d1
        go_upto_region 26 with fail
        obtain ⟨lb, lc, q5, q6⟩ := (show ∀ W' (hf : DcAt W' d gr cr gb cb f2), ∃ lb c, _ from HDX) w14 s14.doc
        have q7 := (show ∀ W' (hf : DcAt W' d gr cr gb cb f2), _ from HDC) w14 s14.doc
        have hcB := s14.doc.capsB
        have hcR := s14.doc.capsR
        simp only [maxLen] at hcB hcR
        obtain ⟨hcB1, hcB2⟩ := hcB
        obtain ⟨hcR1, hcR2⟩ := hcR
        have lgb := s14.doc.tagB.lt
        have lgr := s14.doc.tagR.lt
        have HX : Hid (∀ W', Grows w14.drew W' → W'.cell? ⟨d, 0, none⟩ = some (.slice (some ⟨gr, 0, none⟩) f2.length cr) ∧ W'.cell? ⟨d, 1, none⟩ = some (.slice (some ⟨gb, 0, none⟩) f2.length cb) ∧ W'.cell? ⟨gb, y, none⟩ = some (.slice (some ⟨lb, 0, none⟩) 64 lc) ∧ W'.cell? ⟨gr, y, none⟩ = some (.int .i64 R) ∧ (convert 23 9 (.slice (some ⟨lb, 0, none⟩) 64 lc)).run Try.prog W' = .ok (.string (strOfNums A)) W' ∧ (convert 23 9 (.slice a14 64 c14)).run Try.prog W' = .ok (.string (strOfNums A)) W') := fun W' hW => by
          have hW' : Below w14.heap.size w14 W' := below_undrew hW
          have sd := s14.doc.below hW'
          refine ⟨sd.c0, sd.c1, (hW'.cell (p := ⟨gb, y, none⟩) lgb).trans q5, (hW'.cell (p := ⟨gr, y, none⟩) lgr).trans q7, ?_, ?_⟩
          · exact OwnBytes.conv (show W'.ownsRow _ _ _ _ A.length _ by rw [show A.length = 64 from hA64]; exact row_below q6 hW')
          · exact OwnBytes.conv (show W'.ownsRow _ _ _ _ A.length _ by rw [show A.length = 64 from hA64]; exact row_below o14 hW')
        clear q5 q6 q7 HDX HDC lgb lgr o14
        rw [hf2l] at HX hyN hcB1 hcR1
        refine wp_region_anyV Grows (by kernel_rfl) 28 rfl ?_
        first
          | (refine anyV_val 0 (Grows.pre) rfl (by kernel_rfl) (by kernel_rfl) (by kernel_rfl) (by rfl) (v := ?av1) (fun W hW => ?ay1) (fun K hK => ?ar1); case ay1 => (obtain ⟨z0, z1, z2, z3, z4, z5⟩ := (show ∀ W', Grows w14.drew W' → _ from HX) W hW; go_simp; first | done | rfl))
          | refine anyV_skip 0 (Grows.pre) rfl (by kernel_rfl) (by kernel_rfl) (by kernel_rfl) (by rfl) (fun K hK => ?_)
        go_simp
        refine hK _ ?_
        clear hK K
        first
          | (refine anyV_val 1 (Grows.pre) rfl (by kernel_rfl) (by kernel_rfl) (by kernel_rfl) (by rfl) (v := ?av2) (fun W hW => ?ay2) (fun K hK => ?ar2); case ay2 => (obtain ⟨z0, z1, z2, z3, z4, z5⟩ := (show ∀ W', Grows w14.drew W' → _ from HX) W hW; go_simp; first | done | rfl))
          | refine anyV_skip 1 (Grows.pre) rfl (by kernel_rfl) (by kernel_rfl) (by kernel_rfl) (by rfl) (fun K hK => ?_)
        go_simp
        refine hK _ ?_
        clear hK K
        first
          | (refine anyV_val 2 (Grows.pre) rfl (by kernel_rfl) (by kernel_rfl) (by kernel_rfl) (by rfl) (v := ?av3) (fun W hW => ?ay3) (fun K hK => ?ar3); case ay3 => (obtain ⟨z0, z1, z2, z3, z4, z5⟩ := (show ∀ W', Grows w14.drew W' → _ from HX) W hW; go_simp; first | done | rfl))
          | refine anyV_skip 2 (Grows.pre) rfl (by kernel_rfl) (by kernel_rfl) (by kernel_rfl) (by rfl) (fun K hK => ?_)
        go_simp
        refine hK _ ?_
        clear hK K
        first
          | (refine anyV_val 3 (Grows.pre) rfl (by kernel_rfl) (by kernel_rfl) (by kernel_rfl) (by rfl) (v := ?av4) (fun W hW => ?ay4) (fun K hK => ?ar4); case ay4 => (obtain ⟨z0, z1, z2, z3, z4, z5⟩ := (show ∀ W', Grows w14.drew W' → _ from HX) W hW; go_simp; first | done | rfl))
          | refine anyV_skip 3 (Grows.pre) rfl (by kernel_rfl) (by kernel_rfl) (by kernel_rfl) (by rfl) (fun K hK => ?_)
        go_simp
        refine hK _ ?_
        clear hK K
        first
          | (refine anyV_val 4 (Grows.pre) rfl (by kernel_rfl) (by kernel_rfl) (by kernel_rfl) (by rfl) (v := ?av5) (fun W hW => ?ay5) (fun K hK => ?ar5); case ay5 => (obtain ⟨z0, z1, z2, z3, z4, z5⟩ := (show ∀ W', Grows w14.drew W' → _ from HX) W hW; go_simp; first | done | rfl))
          | refine anyV_skip 4 (Grows.pre) rfl (by kernel_rfl) (by kernel_rfl) (by kernel_rfl) (by rfl) (fun K hK => ?_)
        go_simp
        refine hK _ ?_
        clear hK K
        first
          | (refine anyV_val 5 (Grows.pre) rfl (by kernel_rfl) (by kernel_rfl) (by kernel_rfl) (by rfl) (v := ?av6) (fun W hW => ?ay6) (fun K hK => ?ar6); case ay6 => (obtain ⟨z0, z1, z2, z3, z4, z5⟩ := (show ∀ W', Grows w14.drew W' → _ from HX) W hW; go_simp; first | done | rfl))
          | refine anyV_skip 5 (Grows.pre) rfl (by kernel_rfl) (by kernel_rfl) (by kernel_rfl) (by rfl) (fun K hK => ?_)
        go_simp
        refine hK _ ?_
        clear hK K
        first
          | (refine anyV_val 6 (Grows.pre) rfl (by kernel_rfl) (by kernel_rfl) (by kernel_rfl) (by rfl) (v := ?av7) (fun W hW => ?ay7) (fun K hK => ?ar7); case ay7 => (obtain ⟨z0, z1, z2, z3, z4, z5⟩ := (show ∀ W', Grows w14.drew W' → _ from HX) W hW; go_simp; first | done | rfl))
          | refine anyV_skip 6 (Grows.pre) rfl (by kernel_rfl) (by kernel_rfl) (by kernel_rfl) (by rfl) (fun K hK => ?_)
        go_simp
        refine hK _ ?_
        clear hK K
        first
          | (refine anyV_val 7 (Grows.pre) rfl (by kernel_rfl) (by kernel_rfl) (by kernel_rfl) (by rfl) (v := ?av8) (fun W hW => ?ay8) (fun K hK => ?ar8); case ay8 => (obtain ⟨z0, z1, z2, z3, z4, z5⟩ := (show ∀ W', Grows w14.drew W' → _ from HX) W hW; go_simp; first | done | rfl))
          | refine anyV_skip 7 (Grows.pre) rfl (by kernel_rfl) (by kernel_rfl) (by kernel_rfl) (by rfl) (fun K hK => ?_)
        go_simp
        refine hK _ ?_
        clear hK K
        first
          | (refine anyV_val 8 (Grows.pre) rfl (by kernel_rfl) (by kernel_rfl) (by kernel_rfl) (by rfl) (v := ?av9) (fun W hW => ?ay9) (fun K hK => ?ar9); case ay9 => (obtain ⟨z0, z1, z2, z3, z4, z5⟩ := (show ∀ W', Grows w14.drew W' → _ from HX) W hW; go_simp; first | done | rfl))
          | refine anyV_skip 8 (Grows.pre) rfl (by kernel_rfl) (by kernel_rfl) (by kernel_rfl) (by rfl) (fun K hK => ?_)
        go_simp
        refine hK _ ?_
        clear hK K
        first
          | (refine anyV_val 9 (Grows.pre) rfl (by kernel_rfl) (by kernel_rfl) (by kernel_rfl) (by rfl) (v := ?av10) (fun W hW => ?ay10) (fun K hK => ?ar10); case ay10 => (obtain ⟨z0, z1, z2, z3, z4, z5⟩ := (show ∀ W', Grows w14.drew W' → _ from HX) W hW; go_simp; first | done | rfl))
          | refine anyV_skip 9 (Grows.pre) rfl (by kernel_rfl) (by kernel_rfl) (by kernel_rfl) (by rfl) (fun K hK => ?_)
        go_simp
        refine hK _ ?_
        clear hK K
        first
          | (refine anyV_val 10 (Grows.pre) rfl (by kernel_rfl) (by kernel_rfl) (by kernel_rfl) (by rfl) (v := ?av11) (fun W hW => ?ay11) (fun K hK => ?ar11); case ay11 => (obtain ⟨z0, z1, z2, z3, z4, z5⟩ := (show ∀ W', Grows w14.drew W' → _ from HX) W hW; go_simp; first | done | rfl))
          | refine anyV_skip 10 (Grows.pre) rfl (by kernel_rfl) (by kernel_rfl) (by kernel_rfl) (by rfl) (fun K hK => ?_)
        go_simp
        refine hK _ ?_
        clear hK K
        first
          | (refine anyV_val 11 (Grows.pre) rfl (by kernel_rfl) (by kernel_rfl) (by kernel_rfl) (by rfl) (v := ?av12) (fun W hW => ?ay12) (fun K hK => ?ar12); case ay12 => (obtain ⟨z0, z1, z2, z3, z4, z5⟩ := (show ∀ W', Grows w14.drew W' → _ from HX) W hW; go_simp; first | done | rfl))
          | refine anyV_skip 11 (Grows.pre) rfl (by kernel_rfl) (by kernel_rfl) (by kernel_rfl) (by rfl) (fun K hK => ?_)
        go_simp
        refine hK _ ?_
        clear hK K
        first
          | (refine anyV_val 12 (Grows.pre) rfl (by kernel_rfl) (by kernel_rfl) (by kernel_rfl) (by rfl) (v := ?av13) (fun W hW => ?ay13) (fun K hK => ?ar13); case ay13 => (obtain ⟨z0, z1, z2, z3, z4, z5⟩ := (show ∀ W', Grows w14.drew W' → _ from HX) W hW; go_simp; first | done | rfl))
          | refine anyV_skip 12 (Grows.pre) rfl (by kernel_rfl) (by kernel_rfl) (by kernel_rfl) (by rfl) (fun K hK => ?_)
        go_simp
        refine hK _ ?_
        clear hK K
        first
          | (refine anyV_val 13 (Grows.pre) rfl (by kernel_rfl) (by kernel_rfl) (by kernel_rfl) (by rfl) (v := ?av14) (fun W hW => ?ay14) (fun K hK => ?ar14); case ay14 => (obtain ⟨z0, z1, z2, z3, z4, z5⟩ := (show ∀ W', Grows w14.drew W' → _ from HX) W hW; go_simp; first | done | rfl))
          | refine anyV_skip 13 (Grows.pre) rfl (by kernel_rfl) (by kernel_rfl) (by kernel_rfl) (by rfl) (fun K hK => ?_)
        go_simp
        refine hK _ ?_
        clear hK K
        first
          | (refine anyV_val 14 (Grows.pre) rfl (by kernel_rfl) (by kernel_rfl) (by kernel_rfl) (by rfl) (v := ?av15) (fun W hW => ?ay15) (fun K hK => ?ar15); case ay15 => (obtain ⟨z0, z1, z2, z3, z4, z5⟩ := (show ∀ W', Grows w14.drew W' → _ from HX) W hW; go_simp; first | done | rfl))
          | refine anyV_skip 14 (Grows.pre) rfl (by kernel_rfl) (by kernel_rfl) (by kernel_rfl) (by rfl) (fun K hK => ?_)
        go_simp
        refine hK _ ?_
        clear hK K
        first
          | (refine anyV_val 15 (Grows.pre) rfl (by kernel_rfl) (by kernel_rfl) (by kernel_rfl) (by rfl) (v := ?av16) (fun W hW => ?ay16) (fun K hK => ?ar16); case ay16 => (obtain ⟨z0, z1, z2, z3, z4, z5⟩ := (show ∀ W', Grows w14.drew W' → _ from HX) W hW; go_simp; first | done | rfl))
          | refine anyV_skip 15 (Grows.pre) rfl (by kernel_rfl) (by kernel_rfl) (by kernel_rfl) (by rfl) (fun K hK => ?_)
        go_simp
        refine hK _ ?_
        clear hK K
        first
          | (refine anyV_val 16 (Grows.pre) rfl (by kernel_rfl) (by kernel_rfl) (by kernel_rfl) (by rfl) (v := ?av17) (fun W hW => ?ay17) (fun K hK => ?ar17); case ay17 => (obtain ⟨z0, z1, z2, z3, z4, z5⟩ := (show ∀ W', Grows w14.drew W' → _ from HX) W hW; go_simp; first | done | rfl))
          | refine anyV_skip 16 (Grows.pre) rfl (by kernel_rfl) (by kernel_rfl) (by kernel_rfl) (by rfl) (fun K hK => ?_)
        go_simp
        refine hK _ ?_
        clear hK K
        first
          | (refine anyV_val 17 (Grows.pre) rfl (by kernel_rfl) (by kernel_rfl) (by kernel_rfl) (by rfl) (v := ?av18) (fun W hW => ?ay18) (fun K hK => ?ar18); case ay18 => (obtain ⟨z0, z1, z2, z3, z4, z5⟩ := (show ∀ W', Grows w14.drew W' → _ from HX) W hW; go_simp; first | done | rfl))
          | refine anyV_skip 17 (Grows.pre) rfl (by kernel_rfl) (by kernel_rfl) (by kernel_rfl) (by rfl) (fun K hK => ?_)
        go_simp
        refine hK _ ?_
        clear hK K
        first
          | (refine anyV_val 19 (Grows.pre) rfl (by kernel_rfl) (by kernel_rfl) (by kernel_rfl) (by rfl) (v := ?av19) (fun W hW => ?ay19) (fun K hK => ?ar19); case ay19 => (obtain ⟨z0, z1, z2, z3, z4, z5⟩ := (show ∀ W', Grows w14.drew W' → _ from HX) W hW; go_simp; first | done | rfl))
          | refine anyV_skip 19 (Grows.pre) rfl (by kernel_rfl) (by kernel_rfl) (by kernel_rfl) (by rfl) (fun K hK => ?_)
        go_simp
        refine hK _ ?_
        clear hK K
        first
          | (refine anyV_val 20 (Grows.pre) rfl (by kernel_rfl) (by kernel_rfl) (by kernel_rfl) (by rfl) (v := ?av20) (fun W hW => ?ay20) (fun K hK => ?ar20); case ay20 => (obtain ⟨z0, z1, z2, z3, z4, z5⟩ := (show ∀ W', Grows w14.drew W' → _ from HX) W hW; go_simp; first | done | rfl))
          | refine anyV_skip 20 (Grows.pre) rfl (by kernel_rfl) (by kernel_rfl) (by kernel_rfl) (by rfl) (fun K hK => ?_)
        go_simp
        refine hK _ ?_
        clear hK K
        first
          | (refine anyV_val 21 (Grows.pre) rfl (by kernel_rfl) (by kernel_rfl) (by kernel_rfl) (by rfl) (v := ?av21) (fun W hW => ?ay21) (fun K hK => ?ar21); case ay21 => (obtain ⟨z0, z1, z2, z3, z4, z5⟩ := (show ∀ W', Grows w14.drew W' → _ from HX) W hW; go_simp; first | done | rfl))
          | refine anyV_skip 21 (Grows.pre) rfl (by kernel_rfl) (by kernel_rfl) (by kernel_rfl) (by rfl) (fun K hK => ?_)
        go_simp
        refine hK _ ?_
        clear hK K
        first
          | (refine anyV_val 22 (Grows.pre) rfl (by kernel_rfl) (by kernel_rfl) (by kernel_rfl) (by rfl) (v := ?av22) (fun W hW => ?ay22) (fun K hK => ?ar22); case ay22 => (obtain ⟨z0, z1, z2, z3, z4, z5⟩ := (show ∀ W', Grows w14.drew W' → _ from HX) W hW; go_simp; first | done | rfl))
          | refine anyV_skip 22 (Grows.pre) rfl (by kernel_rfl) (by kernel_rfl) (by kernel_rfl) (by rfl) (fun K hK => ?_)
        go_simp
        refine hK _ ?_
        clear hK K
        first
          | (refine anyV_val 23 (Grows.pre) rfl (by kernel_rfl) (by kernel_rfl) (by kernel_rfl) (by rfl) (v := ?av23) (fun W hW => ?ay23) (fun K hK => ?ar23); case ay23 => (obtain ⟨z0, z1, z2, z3, z4, z5⟩ := (show ∀ W', Grows w14.drew W' → _ from HX) W hW; go_simp; first | done | rfl))
          | refine anyV_skip 23 (Grows.pre) rfl (by kernel_rfl) (by kernel_rfl) (by kernel_rfl) (by rfl) (fun K hK => ?_)
        go_simp
        refine hK _ ?_
        clear hK K
        first
          | (refine anyV_val 24 (Grows.pre) rfl (by kernel_rfl) (by kernel_rfl) (by kernel_rfl) (by rfl) (v := ?av24) (fun W hW => ?ay24) (fun K hK => ?ar24); case ay24 => (obtain ⟨z0, z1, z2, z3, z4, z5⟩ := (show ∀ W', Grows w14.drew W' → _ from HX) W hW; go_simp; first | done | rfl))
          | refine anyV_skip 24 (Grows.pre) rfl (by kernel_rfl) (by kernel_rfl) (by kernel_rfl) (by rfl) (fun K hK => ?_)
        go_simp
        refine hK _ ?_
        clear hK K
        first
          | (refine anyV_val 25 (Grows.pre) rfl (by kernel_rfl) (by kernel_rfl) (by kernel_rfl) (by rfl) (v := ?av25) (fun W hW => ?ay25) (fun K hK => ?ar25); case ay25 => (obtain ⟨z0, z1, z2, z3, z4, z5⟩ := (show ∀ W', Grows w14.drew W' → _ from HX) W hW; go_simp; first | done | rfl))
          | refine anyV_skip 25 (Grows.pre) rfl (by kernel_rfl) (by kernel_rfl) (by kernel_rfl) (by rfl) (fun K hK => ?_)
        go_simp
        refine hK _ ?_
        clear hK K
        refine anyV_only 18 rfl (by kernel_rfl) (by rfl) (fun K hK => ?_)
        go_simp
        refine Calls.mono ((show ∀ W' (hf : FrAt W' q g' c' f2), _ from K5) w14.drew s14.drew.fr) ?_
        rintro e w15 ⟨rfl, rfl⟩
        refine ⟨_, rfl, hK _ _ (Grows.pre.refl _) ?_⟩
        clear hK K
        refine anyV_frame (fun K hK => ?_)
        go_simp
        refine hK _ ?_
        clear hK K
        first
          | (refine anyV_val 26 (Grows.pre) rfl (by kernel_rfl) (by kernel_rfl) (by kernel_rfl) (by rfl) (v := ?av26) (fun W hW => ?ay26) (fun K hK => ?ar26); case ay26 => (obtain ⟨z0, z1, z2, z3, z4, z5⟩ := (show ∀ W', Grows w14.drew W' → _ from HX) W hW; go_simp; first | done | rfl))
          | refine anyV_skip 26 (Grows.pre) rfl (by kernel_rfl) (by kernel_rfl) (by kernel_rfl) (by rfl) (fun K hK => ?_)
        go_simp
        refine hK _ ?_
        clear hK K
        first
          | (refine anyV_val 27 (Grows.pre) rfl (by kernel_rfl) (by kernel_rfl) (by kernel_rfl) (by rfl) (v := ?av27) (fun W hW => ?ay27) (fun K hK => ?ar27); case ay27 => (obtain ⟨z0, z1, z2, z3, z4, z5⟩ := (show ∀ W', Grows w14.drew W' → _ from HX) W hW; go_simp; first | done | rfl))
          | refine anyV_skip 27 (Grows.pre) rfl (by kernel_rfl) (by kernel_rfl) (by kernel_rfl) (by rfl) (fun K hK => ?_)
        go_simp
        refine hK _ ?_
        clear hK K
        refine anyV_done (by kernel_rfl) ?_
        have hbe : Below w13.heap.size w13 w14.drew := ⟨hb14.os, hb14.tape, hb14.output, hb14.size, hb14.block⟩
        obtain ⟨W9, hW9⟩ : ∃ W9, W9 = w14.drew := ⟨_, rfl⟩
        rw [← hW9] at hbe ⊢
        clear hW9 HX K5 s14 hb14
        go_wp2_with fail
        go_roundw
        case rel => exact ⟨m + 1, by go_num, by have := HB.2; omega, hbe⟩
        case measure => simp [intOf]; have := HB.2; omega
    · have t2 : (o.k == 6) = false := by simpa using hk6
      clear hk6
      obtain ⟨hfl, hmm⟩ := (show _ ∧ _ from hM)
      have hmm' := hmm.step (by omega) o
      have hfl' := stepF_len fs o
      have K0 := Lib.hid (do_any W.heap.size wr p g cp d gr cr gb cb fs o hS _ hmm (by omega) ho hol')
      obtain ⟨f2, hf2⟩ : ∃ f2, f2 = stepF fs o := ⟨_, rfl⟩
      rw [← hf2] at hmm' hfl' K0
      have HM2 : Hid (f2.length = N ∧ Mem ((j + 1 : Nat) : Int) f2) := ⟨hfl'.trans hfl, by simpa using hmm'⟩
      have hf2l : f2.length = N := hfl'.trans hfl
      clear hf2 hmm' hfl' hmm hM hfl hS ho
      go_wp2_with (go_at_call 16; refine held ?_)
      unfold Held
      rw [show (.agg #[.int .i64 o.k, .int .i64 o.f, .int .i64 o.o, .int .i64 o.n, .slice o.a o.len o.cap] : Value) = .agg (opAgg o) from rfl]
      refine Calls.mono K0 ?_
      rintro e w8 ⟨rfl, s8, bb8⟩
      have B8 := hb.trans bb8
      clear K0 bb8 hb c0 c1 c2 c3 c4
      have hul := usedF_len f2
      have hum := fun x => usedF_mem (fs := f2) (x := x)
      have ku := used_any p g cp f2 w8 s8.fr
      have kd := fun (W' : World) (hf : DcAt W' d gr cr gb cb f2) => dused_any d gr cr gb cb f2 W' hf
      have kf := fun (W' : World) (hf : FrAt W' p g cp f2) => free_any p g cp f2 W' hf
      have kl := fun (W' : World) (hf : FrAt W' p g cp f2) => len_any p g cp f2 W' hf
      have ki := fun (W' : World) (hf : DcAt W' d gr cr gb cb f2) => is_any d gr cr gb cb f2 o.f W' hf
      have kr := fun (W' : World) (hf : FrAt W' p g cp f2) => refs_any p g cp f2 o.f W' hf
      rw [hf2l] at kf kl
      have h64 := s8.fr.len
      have h256 := s8.fr.sm
      obtain ⟨U, hU⟩ : ∃ U, U = usedF f2 := ⟨_, rfl⟩
      rw [← hU] at ku kd kf hul
      simp only [← hU] at hum
      have KU := Lib.hid ku
      have KD := Lib.hid kd
      have KF := Lib.hid kf
      have KL := Lib.hid kl
      have KI := Lib.hid ki
      have KR := Lib.hid kr
      have HU := Lib.hid hum
      have tN := rem_self (N : Int) (U.length : Int)
      clear ku kd kf kl ki kr hU hum
      go_wp2_with (go_at_call 21; refine held ?_)
      unfold Held
      refine Calls.mono KU ?_
      rintro e w9 ⟨v9, rfl, o9, bb9⟩
      have s9 := s8.below bb9
      have B9 := B8.trans (bb9.mono B8.size)
      obtain ⟨ua, uc, rfl, hop⟩ := own_open o9
      clear KU s8 bb9 B8
      go_wp2_with (go_at_call 26; refine held ?_)
      unfold Held
      refine Calls.mono ((show ∀ W' (hf : DcAt W' d gr cr gb cb f2), _ from KD) w9 s9.doc) ?_
      rintro e w10 ⟨v10, rfl, o10, bb10⟩
      have s10 := s9.below bb10
      have B10 := B9.trans (bb10.mono B9.size)
      have o9' := row_below o9 bb10
      obtain ⟨va, vc, rfl⟩ := sl_own o10
      have ra := (RowI.of_own o9').2
      have rb := (RowI.of_own o10).2
      have K4 := Lib.hid (same04_any ua _ uc U va _ vc U w10.heap.size w10 (Nat.le_refl _) ra rb (by omega))
      clear KD s9 bb10 B9 o9 o10 ra rb
      go_wp2_with (go_at_call 25; refine held ?_)
      unfold Held
      refine Calls.mono K4 ?_
      rintro e w11 ⟨rfl, bb11⟩
      simp only [decide_true]
      have s11 := s10.below bb11
      have B11 := B10.trans (bb11.mono B10.size)
      have o11 := row_below o9' bb11
      clear K4 s10 bb11 B10 o9'
      go_wp2_with (go_at_call 22; refine held ?_)
      unfold Held
      refine Calls.mono ((show ∀ W' (hf : FrAt W' p g cp f2), _ from KF) w11 s11.fr) ?_
      rintro e w12 ⟨rfl, bb12⟩
      have s12 := s11.below bb12
      have B12 := B11.trans (bb12.mono B11.size)
      have o12 := row_below o11 bb12
      clear KF s11 bb12 B11 o11
      go_wp2_with (go_at_call 27; refine held ?_)
      unfold Held
      refine Calls.mono ((show ∀ W' (hf : FrAt W' p g cp f2), _ from KL) w12 s12.fr) ?_
      rintro e w13 ⟨rfl, rfl⟩
      clear KL
      go_wp2_with fail
      go_loopw [90] (fun x wr => ∃ (m : Nat), x = .int .i64 (m : Int) ∧ m ≤ U.length ∧ Below w13.heap.size w13 wr) (fun x _ => U.length - (intOf x).toNat)
      case atStart => exact ⟨0, rfl, Nat.zero_le _, Below.refl _ _⟩
      case round =>
        obtain ⟨m, rfl, hm, hbm⟩ := hrel
        have sr := s12.below hbm
        have orr := row_below o12 hbm
        have Br := B12.trans (hbm.mono B12.size)
        clear s12 o12 B12
        by_cases hlm : m < U.length
        rotate_left
        · have t8 : decide ((m : Int) < ((U.length : Nat) : Int)) = false := by simp; omega
          clear orr hop tN
          obtain ⟨c0, c1, c2, c3, c4, ho⟩ := (show ∀ W', Below W.heap.size W W' → _ from HAT) _ Br
          go_wp2_with (go_at_call 28; refine held ?_)
          unfold Held
          refine Calls.mono ((show ∀ W' (hf : DcAt W' d gr cr gb cb f2), _ from KI) _ sr.doc) ?_
          rintro e w14 ⟨rfl, rfl⟩
          clear KI
          cases hok : okF f2 o.f with
          | true =>
            clear hok KR ho c0 c1 c2 c3 c4
            go_wp2_with fail
            go_roundw
            case rel => exact ⟨j + 1, p, g, cp, f2, by go_num, rfl, by omega, sr, HM2, Br⟩
            case measure => simp [intOf]; omega
          | false =>
            have k7 := (show ∀ W' (hf : FrAt W' p g cp f2), _ from KR) _ sr.fr
            rw [hok, if_neg (by decide)] at k7
            have K7 := Lib.hid k7
            clear hok KR k7 ho
            go_wp2_with (go_at_call 19; refine held ?_)
            unfold Held
            refine Calls.mono K7 ?_
            rintro e w15 ⟨rfl, rfl⟩
            clear K7 c0 c1 c2 c3 c4
            go_wp2_with fail
            go_roundw
            case rel => exact ⟨j + 1, p, g, cp, f2, by go_num, rfl, by omega, sr, HM2, Br⟩
            case measure => simp [intOf]; omega
        have t8 : decide ((m : Int) < ((U.length : Nat) : Int)) = true := by simp; omega
        obtain ⟨ub, rfl, hub, hcc, hcu⟩ := hop (by omega)
        simp only [maxLen] at hcu
        obtain ⟨y, hy, he, hny⟩ := ((show ∀ x, x ∈ U ↔ _ from HU) U[m]).1 (List.getElem_mem hlm)
        have d1 : wr.cell? ⟨ub, m, none⟩ = some (.int .i64 (y : Int)) := by
          rw [orr.cellAt m (by omega), List.getElem?_map, List.getElem?_eq_getElem hlm, he]; rfl
        have k3 := read_any p g cp f2 y 0 64 wr sr.fr
        rw [show readE f2 y 0 64 = 0 from readE_of hy hny (show 0 + 64 ≤ 64 by omega), readL_all h64 hy hny, h64.at hy] at k3
        have hA64 := h64.at hy
        have HDX := Lib.hid (fun (W' : World) (hf : DcAt W' d gr cr gb cb f2) => hf.row y hy hny)
        have HDC := Lib.hid (fun (W' : World) (hf : DcAt W' d gr cr gb cb f2) => hf.count y hy)
        have k5 := fun (W' : World) (hf : FrAt W' p g cp f2) => by
          have := refs_any p g cp f2 y W' hf
          rw [okF_at hy, decide_eq_true hny, if_pos rfl, frAt_at hy] at this
          exact this
        obtain ⟨A, hA⟩ : ∃ A, A = f2[y].b := ⟨_, rfl⟩
        obtain ⟨R, hR⟩ : ∃ R, R = f2[y].n := ⟨_, rfl⟩
        rw [← hA] at k3 hA64 HDX
        rw [← hR] at k5 HDC
        have hyN : y < f2.length := hy
        have K3 := Lib.hid k3
        have K5 := Lib.hid k5
        have HB := Lib.hid (And.intro hbm hm)
        clear k3 k5 hA hR hny he orr hop hbm hm tN Br
        go_wp2_with (go_at_call 13; refine held ?_)
        unfold Held
        refine Calls.mono K3 ?_
        rintro e w14 ⟨v14, rfl, o14, bb14⟩
        have s14 := sr.below bb14
        have hb14 := Below.trans HB.1 (bb14.mono (Below.size HB.1))
        obtain ⟨a14, c14, rfl, _⟩ := own_open o14
        clear K3 bb14 sr d1
        go_upto_region 26 with fail
        obtain ⟨lb, lc, q5, q6⟩ := (show ∀ W' (hf : DcAt W' d gr cr gb cb f2), ∃ lb c, _ from HDX) w14 s14.doc
        have q7 := (show ∀ W' (hf : DcAt W' d gr cr gb cb f2), _ from HDC) w14 s14.doc
        have hcB := s14.doc.capsB
        have hcR := s14.doc.capsR
        simp only [maxLen] at hcB hcR
        obtain ⟨hcB1, hcB2⟩ := hcB
        obtain ⟨hcR1, hcR2⟩ := hcR
        have lgb := s14.doc.tagB.lt
        have lgr := s14.doc.tagR.lt
        have HX : Hid (∀ W', Grows w14.drew W' → W'.cell? ⟨d, 0, none⟩ = some (.slice (some ⟨gr, 0, none⟩) f2.length cr) ∧ W'.cell? ⟨d, 1, none⟩ = some (.slice (some ⟨gb, 0, none⟩) f2.length cb) ∧ W'.cell? ⟨gb, y, none⟩ = some (.slice (some ⟨lb, 0, none⟩) 64 lc) ∧ W'.cell? ⟨gr, y, none⟩ = some (.int .i64 R) ∧ (convert 23 9 (.slice (some ⟨lb, 0, none⟩) 64 lc)).run Try.prog W' = .ok (.string (strOfNums A)) W' ∧ (convert 23 9 (.slice a14 64 c14)).run Try.prog W' = .ok (.string (strOfNums A)) W') := fun W' hW => by
          have hW' : Below w14.heap.size w14 W' := below_undrew hW
          have sd := s14.doc.below hW'
          refine ⟨sd.c0, sd.c1, (hW'.cell (p := ⟨gb, y, none⟩) lgb).trans q5, (hW'.cell (p := ⟨gr, y, none⟩) lgr).trans q7, ?_, ?_⟩
          · exact OwnBytes.conv (show W'.ownsRow _ _ _ _ A.length _ by rw [show A.length = 64 from hA64]; exact row_below q6 hW')
          · exact OwnBytes.conv (show W'.ownsRow _ _ _ _ A.length _ by rw [show A.length = 64 from hA64]; exact row_below o14 hW')
        clear q5 q6 q7 HDX HDC lgb lgr o14
        rw [hf2l] at HX hyN hcB1 hcR1
        refine wp_region_anyV Grows (by kernel_rfl) 28 rfl ?_
        first
          | (refine anyV_val 0 (Grows.pre) rfl (by kernel_rfl) (by kernel_rfl) (by kernel_rfl) (by rfl) (v := ?av28) (fun W hW => ?ay28) (fun K hK => ?ar28); case ay28 => (obtain ⟨z0, z1, z2, z3, z4, z5⟩ := (show ∀ W', Grows w14.drew W' → _ from HX) W hW; go_simp; first | done | rfl))
          | refine anyV_skip 0 (Grows.pre) rfl (by kernel_rfl) (by kernel_rfl) (by kernel_rfl) (by rfl) (fun K hK => ?_)
        go_simp
        refine hK _ ?_
        clear hK K
        first
          | (refine anyV_val 1 (Grows.pre) rfl (by kernel_rfl) (by kernel_rfl) (by kernel_rfl) (by rfl) (v := ?av29) (fun W hW => ?ay29) (fun K hK => ?ar29); case ay29 => (obtain ⟨z0, z1, z2, z3, z4, z5⟩ := (show ∀ W', Grows w14.drew W' → _ from HX) W hW; go_simp; first | done | rfl))
          | refine anyV_skip 1 (Grows.pre) rfl (by kernel_rfl) (by kernel_rfl) (by kernel_rfl) (by rfl) (fun K hK => ?_)
        go_simp
        refine hK _ ?_
        clear hK K
        first
          | (refine anyV_val 2 (Grows.pre) rfl (by kernel_rfl) (by kernel_rfl) (by kernel_rfl) (by rfl) (v := ?av30) (fun W hW => ?ay30) (fun K hK => ?ar30); case ay30 => (obtain ⟨z0, z1, z2, z3, z4, z5⟩ := (show ∀ W', Grows w14.drew W' → _ from HX) W hW; go_simp; first | done | rfl))
          | refine anyV_skip 2 (Grows.pre) rfl (by kernel_rfl) (by kernel_rfl) (by kernel_rfl) (by rfl) (fun K hK => ?_)
        go_simp
        refine hK _ ?_
        clear hK K
        first
          | (refine anyV_val 3 (Grows.pre) rfl (by kernel_rfl) (by kernel_rfl) (by kernel_rfl) (by rfl) (v := ?av31) (fun W hW => ?ay31) (fun K hK => ?ar31); case ay31 => (obtain ⟨z0, z1, z2, z3, z4, z5⟩ := (show ∀ W', Grows w14.drew W' → _ from HX) W hW; go_simp; first | done | rfl))
          | refine anyV_skip 3 (Grows.pre) rfl (by kernel_rfl) (by kernel_rfl) (by kernel_rfl) (by rfl) (fun K hK => ?_)
        go_simp
        refine hK _ ?_
        clear hK K
        first
          | (refine anyV_val 4 (Grows.pre) rfl (by kernel_rfl) (by kernel_rfl) (by kernel_rfl) (by rfl) (v := ?av32) (fun W hW => ?ay32) (fun K hK => ?ar32); case ay32 => (obtain ⟨z0, z1, z2, z3, z4, z5⟩ := (show ∀ W', Grows w14.drew W' → _ from HX) W hW; go_simp; first | done | rfl))
          | refine anyV_skip 4 (Grows.pre) rfl (by kernel_rfl) (by kernel_rfl) (by kernel_rfl) (by rfl) (fun K hK => ?_)
        go_simp
        refine hK _ ?_
        clear hK K
        first
          | (refine anyV_val 5 (Grows.pre) rfl (by kernel_rfl) (by kernel_rfl) (by kernel_rfl) (by rfl) (v := ?av33) (fun W hW => ?ay33) (fun K hK => ?ar33); case ay33 => (obtain ⟨z0, z1, z2, z3, z4, z5⟩ := (show ∀ W', Grows w14.drew W' → _ from HX) W hW; go_simp; first | done | rfl))
          | refine anyV_skip 5 (Grows.pre) rfl (by kernel_rfl) (by kernel_rfl) (by kernel_rfl) (by rfl) (fun K hK => ?_)
        go_simp
        refine hK _ ?_
        clear hK K
        first
          | (refine anyV_val 6 (Grows.pre) rfl (by kernel_rfl) (by kernel_rfl) (by kernel_rfl) (by rfl) (v := ?av34) (fun W hW => ?ay34) (fun K hK => ?ar34); case ay34 => (obtain ⟨z0, z1, z2, z3, z4, z5⟩ := (show ∀ W', Grows w14.drew W' → _ from HX) W hW; go_simp; first | done | rfl))
          | refine anyV_skip 6 (Grows.pre) rfl (by kernel_rfl) (by kernel_rfl) (by kernel_rfl) (by rfl) (fun K hK => ?_)
        go_simp
        refine hK _ ?_
        clear hK K
        first
          | (refine anyV_val 7 (Grows.pre) rfl (by kernel_rfl) (by kernel_rfl) (by kernel_rfl) (by rfl) (v := ?av35) (fun W hW => ?ay35) (fun K hK => ?ar35); case ay35 => (obtain ⟨z0, z1, z2, z3, z4, z5⟩ := (show ∀ W', Grows w14.drew W' → _ from HX) W hW; go_simp; first | done | rfl))
          | refine anyV_skip 7 (Grows.pre) rfl (by kernel_rfl) (by kernel_rfl) (by kernel_rfl) (by rfl) (fun K hK => ?_)
        go_simp
        refine hK _ ?_
        clear hK K
        first
          | (refine anyV_val 8 (Grows.pre) rfl (by kernel_rfl) (by kernel_rfl) (by kernel_rfl) (by rfl) (v := ?av36) (fun W hW => ?ay36) (fun K hK => ?ar36); case ay36 => (obtain ⟨z0, z1, z2, z3, z4, z5⟩ := (show ∀ W', Grows w14.drew W' → _ from HX) W hW; go_simp; first | done | rfl))
          | refine anyV_skip 8 (Grows.pre) rfl (by kernel_rfl) (by kernel_rfl) (by kernel_rfl) (by rfl) (fun K hK => ?_)
        go_simp
        refine hK _ ?_
        clear hK K
        first
          | (refine anyV_val 9 (Grows.pre) rfl (by kernel_rfl) (by kernel_rfl) (by kernel_rfl) (by rfl) (v := ?av37) (fun W hW => ?ay37) (fun K hK => ?ar37); case ay37 => (obtain ⟨z0, z1, z2, z3, z4, z5⟩ := (show ∀ W', Grows w14.drew W' → _ from HX) W hW; go_simp; first | done | rfl))
          | refine anyV_skip 9 (Grows.pre) rfl (by kernel_rfl) (by kernel_rfl) (by kernel_rfl) (by rfl) (fun K hK => ?_)
        go_simp
        refine hK _ ?_
        clear hK K
        first
          | (refine anyV_val 10 (Grows.pre) rfl (by kernel_rfl) (by kernel_rfl) (by kernel_rfl) (by rfl) (v := ?av38) (fun W hW => ?ay38) (fun K hK => ?ar38); case ay38 => (obtain ⟨z0, z1, z2, z3, z4, z5⟩ := (show ∀ W', Grows w14.drew W' → _ from HX) W hW; go_simp; first | done | rfl))
          | refine anyV_skip 10 (Grows.pre) rfl (by kernel_rfl) (by kernel_rfl) (by kernel_rfl) (by rfl) (fun K hK => ?_)
        go_simp
        refine hK _ ?_
        clear hK K
        first
          | (refine anyV_val 11 (Grows.pre) rfl (by kernel_rfl) (by kernel_rfl) (by kernel_rfl) (by rfl) (v := ?av39) (fun W hW => ?ay39) (fun K hK => ?ar39); case ay39 => (obtain ⟨z0, z1, z2, z3, z4, z5⟩ := (show ∀ W', Grows w14.drew W' → _ from HX) W hW; go_simp; first | done | rfl))
          | refine anyV_skip 11 (Grows.pre) rfl (by kernel_rfl) (by kernel_rfl) (by kernel_rfl) (by rfl) (fun K hK => ?_)
        go_simp
        refine hK _ ?_
        clear hK K
        first
          | (refine anyV_val 12 (Grows.pre) rfl (by kernel_rfl) (by kernel_rfl) (by kernel_rfl) (by rfl) (v := ?av40) (fun W hW => ?ay40) (fun K hK => ?ar40); case ay40 => (obtain ⟨z0, z1, z2, z3, z4, z5⟩ := (show ∀ W', Grows w14.drew W' → _ from HX) W hW; go_simp; first | done | rfl))
          | refine anyV_skip 12 (Grows.pre) rfl (by kernel_rfl) (by kernel_rfl) (by kernel_rfl) (by rfl) (fun K hK => ?_)
        go_simp
        refine hK _ ?_
        clear hK K
        first
          | (refine anyV_val 13 (Grows.pre) rfl (by kernel_rfl) (by kernel_rfl) (by kernel_rfl) (by rfl) (v := ?av41) (fun W hW => ?ay41) (fun K hK => ?ar41); case ay41 => (obtain ⟨z0, z1, z2, z3, z4, z5⟩ := (show ∀ W', Grows w14.drew W' → _ from HX) W hW; go_simp; first | done | rfl))
          | refine anyV_skip 13 (Grows.pre) rfl (by kernel_rfl) (by kernel_rfl) (by kernel_rfl) (by rfl) (fun K hK => ?_)
        go_simp
        refine hK _ ?_
        clear hK K
        first
          | (refine anyV_val 14 (Grows.pre) rfl (by kernel_rfl) (by kernel_rfl) (by kernel_rfl) (by rfl) (v := ?av42) (fun W hW => ?ay42) (fun K hK => ?ar42); case ay42 => (obtain ⟨z0, z1, z2, z3, z4, z5⟩ := (show ∀ W', Grows w14.drew W' → _ from HX) W hW; go_simp; first | done | rfl))
          | refine anyV_skip 14 (Grows.pre) rfl (by kernel_rfl) (by kernel_rfl) (by kernel_rfl) (by rfl) (fun K hK => ?_)
        go_simp
        refine hK _ ?_
        clear hK K
        first
          | (refine anyV_val 15 (Grows.pre) rfl (by kernel_rfl) (by kernel_rfl) (by kernel_rfl) (by rfl) (v := ?av43) (fun W hW => ?ay43) (fun K hK => ?ar43); case ay43 => (obtain ⟨z0, z1, z2, z3, z4, z5⟩ := (show ∀ W', Grows w14.drew W' → _ from HX) W hW; go_simp; first | done | rfl))
          | refine anyV_skip 15 (Grows.pre) rfl (by kernel_rfl) (by kernel_rfl) (by kernel_rfl) (by rfl) (fun K hK => ?_)
        go_simp
        refine hK _ ?_
        clear hK K
        first
          | (refine anyV_val 16 (Grows.pre) rfl (by kernel_rfl) (by kernel_rfl) (by kernel_rfl) (by rfl) (v := ?av44) (fun W hW => ?ay44) (fun K hK => ?ar44); case ay44 => (obtain ⟨z0, z1, z2, z3, z4, z5⟩ := (show ∀ W', Grows w14.drew W' → _ from HX) W hW; go_simp; first | done | rfl))
          | refine anyV_skip 16 (Grows.pre) rfl (by kernel_rfl) (by kernel_rfl) (by kernel_rfl) (by rfl) (fun K hK => ?_)
        go_simp
        refine hK _ ?_
        clear hK K
        first
          | (refine anyV_val 17 (Grows.pre) rfl (by kernel_rfl) (by kernel_rfl) (by kernel_rfl) (by rfl) (v := ?av45) (fun W hW => ?ay45) (fun K hK => ?ar45); case ay45 => (obtain ⟨z0, z1, z2, z3, z4, z5⟩ := (show ∀ W', Grows w14.drew W' → _ from HX) W hW; go_simp; first | done | rfl))
          | refine anyV_skip 17 (Grows.pre) rfl (by kernel_rfl) (by kernel_rfl) (by kernel_rfl) (by rfl) (fun K hK => ?_)
        go_simp
        refine hK _ ?_
        clear hK K
        first
          | (refine anyV_val 19 (Grows.pre) rfl (by kernel_rfl) (by kernel_rfl) (by kernel_rfl) (by rfl) (v := ?av46) (fun W hW => ?ay46) (fun K hK => ?ar46); case ay46 => (obtain ⟨z0, z1, z2, z3, z4, z5⟩ := (show ∀ W', Grows w14.drew W' → _ from HX) W hW; go_simp; first | done | rfl))
          | refine anyV_skip 19 (Grows.pre) rfl (by kernel_rfl) (by kernel_rfl) (by kernel_rfl) (by rfl) (fun K hK => ?_)
        go_simp
        refine hK _ ?_
        clear hK K
        first
          | (refine anyV_val 20 (Grows.pre) rfl (by kernel_rfl) (by kernel_rfl) (by kernel_rfl) (by rfl) (v := ?av47) (fun W hW => ?ay47) (fun K hK => ?ar47); case ay47 => (obtain ⟨z0, z1, z2, z3, z4, z5⟩ := (show ∀ W', Grows w14.drew W' → _ from HX) W hW; go_simp; first | done | rfl))
          | refine anyV_skip 20 (Grows.pre) rfl (by kernel_rfl) (by kernel_rfl) (by kernel_rfl) (by rfl) (fun K hK => ?_)
        go_simp
        refine hK _ ?_
        clear hK K
        first
          | (refine anyV_val 21 (Grows.pre) rfl (by kernel_rfl) (by kernel_rfl) (by kernel_rfl) (by rfl) (v := ?av48) (fun W hW => ?ay48) (fun K hK => ?ar48); case ay48 => (obtain ⟨z0, z1, z2, z3, z4, z5⟩ := (show ∀ W', Grows w14.drew W' → _ from HX) W hW; go_simp; first | done | rfl))
          | refine anyV_skip 21 (Grows.pre) rfl (by kernel_rfl) (by kernel_rfl) (by kernel_rfl) (by rfl) (fun K hK => ?_)
        go_simp
        refine hK _ ?_
        clear hK K
        first
          | (refine anyV_val 22 (Grows.pre) rfl (by kernel_rfl) (by kernel_rfl) (by kernel_rfl) (by rfl) (v := ?av49) (fun W hW => ?ay49) (fun K hK => ?ar49); case ay49 => (obtain ⟨z0, z1, z2, z3, z4, z5⟩ := (show ∀ W', Grows w14.drew W' → _ from HX) W hW; go_simp; first | done | rfl))
          | refine anyV_skip 22 (Grows.pre) rfl (by kernel_rfl) (by kernel_rfl) (by kernel_rfl) (by rfl) (fun K hK => ?_)
        go_simp
        refine hK _ ?_
        clear hK K
        first
          | (refine anyV_val 23 (Grows.pre) rfl (by kernel_rfl) (by kernel_rfl) (by kernel_rfl) (by rfl) (v := ?av50) (fun W hW => ?ay50) (fun K hK => ?ar50); case ay50 => (obtain ⟨z0, z1, z2, z3, z4, z5⟩ := (show ∀ W', Grows w14.drew W' → _ from HX) W hW; go_simp; first | done | rfl))
          | refine anyV_skip 23 (Grows.pre) rfl (by kernel_rfl) (by kernel_rfl) (by kernel_rfl) (by rfl) (fun K hK => ?_)
        go_simp
        refine hK _ ?_
        clear hK K
        first
          | (refine anyV_val 24 (Grows.pre) rfl (by kernel_rfl) (by kernel_rfl) (by kernel_rfl) (by rfl) (v := ?av51) (fun W hW => ?ay51) (fun K hK => ?ar51); case ay51 => (obtain ⟨z0, z1, z2, z3, z4, z5⟩ := (show ∀ W', Grows w14.drew W' → _ from HX) W hW; go_simp; first | done | rfl))
          | refine anyV_skip 24 (Grows.pre) rfl (by kernel_rfl) (by kernel_rfl) (by kernel_rfl) (by rfl) (fun K hK => ?_)
        go_simp
        refine hK _ ?_
        clear hK K
        first
          | (refine anyV_val 25 (Grows.pre) rfl (by kernel_rfl) (by kernel_rfl) (by kernel_rfl) (by rfl) (v := ?av52) (fun W hW => ?ay52) (fun K hK => ?ar52); case ay52 => (obtain ⟨z0, z1, z2, z3, z4, z5⟩ := (show ∀ W', Grows w14.drew W' → _ from HX) W hW; go_simp; first | done | rfl))
          | refine anyV_skip 25 (Grows.pre) rfl (by kernel_rfl) (by kernel_rfl) (by kernel_rfl) (by rfl) (fun K hK => ?_)
        go_simp
        refine hK _ ?_
        clear hK K
        refine anyV_only 18 rfl (by kernel_rfl) (by rfl) (fun K hK => ?_)
        go_simp
        refine Calls.mono ((show ∀ W' (hf : FrAt W' p g cp f2), _ from K5) w14.drew s14.drew.fr) ?_
        rintro e w15 ⟨rfl, rfl⟩
        refine ⟨_, rfl, hK _ _ (Grows.pre.refl _) ?_⟩
        clear hK K
        refine anyV_frame (fun K hK => ?_)
        go_simp
        refine hK _ ?_
        clear hK K
        first
          | (refine anyV_val 26 (Grows.pre) rfl (by kernel_rfl) (by kernel_rfl) (by kernel_rfl) (by rfl) (v := ?av53) (fun W hW => ?ay53) (fun K hK => ?ar53); case ay53 => (obtain ⟨z0, z1, z2, z3, z4, z5⟩ := (show ∀ W', Grows w14.drew W' → _ from HX) W hW; go_simp; first | done | rfl))
          | refine anyV_skip 26 (Grows.pre) rfl (by kernel_rfl) (by kernel_rfl) (by kernel_rfl) (by rfl) (fun K hK => ?_)
        go_simp
        refine hK _ ?_
        clear hK K
        first
          | (refine anyV_val 27 (Grows.pre) rfl (by kernel_rfl) (by kernel_rfl) (by kernel_rfl) (by rfl) (v := ?av54) (fun W hW => ?ay54) (fun K hK => ?ar54); case ay54 => (obtain ⟨z0, z1, z2, z3, z4, z5⟩ := (show ∀ W', Grows w14.drew W' → _ from HX) W hW; go_simp; first | done | rfl))
          | refine anyV_skip 27 (Grows.pre) rfl (by kernel_rfl) (by kernel_rfl) (by kernel_rfl) (by rfl) (fun K hK => ?_)
        go_simp
        refine hK _ ?_
        clear hK K
        refine anyV_done (by kernel_rfl) ?_
        have hbe : Below w13.heap.size w13 w14.drew := ⟨hb14.os, hb14.tape, hb14.output, hb14.size, hb14.block⟩
        obtain ⟨W9, hW9⟩ : ∃ W9, W9 = w14.drew := ⟨_, rfl⟩
        rw [← hW9] at hbe ⊢
        clear hW9 HX K5 s14 hb14
        go_wp2_with fail
        go_roundw
        case rel => exact ⟨m + 1, by go_num, by have := HB.2; omega, hbe⟩
        case measure => simp [intOf]; have := HB.2; omega
end Go.Proofs.Ytdacdfnfbknndaa
