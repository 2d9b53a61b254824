/- The walk of the law PipeCounts. -/
import Derived.Test.YtcmcilfopkhipaaPipeOps
import Derived.Deep.Cut
namespace Go.Proofs.Ytcmcilfopkhipaa
open Go Go.RowKit
attribute [local go_sem] upV_value upV_skip upV_enter
set_option linter.unusedVariables false
set_option linter.unnecessarySimpa false
set_option maxRecDepth 100000 in
set_option maxHeartbeats 8000000 in
theorem pipeCounts_any (w : World) (st : StV) (a1 : Option Addr) (l1 c1 : Nat) (o1 : List OpV) (x : OpV) (hst : IsSt w.heap.size w st) (h1 : IsOps w.heap.size w a1 l1 c1 o1) :
    Calls Try.prog 4 #[.agg #[.int .i64 st.c, .slice st.a st.len st.cap, .int .i64 st.rd, .int .i64 st.wr], .slice a1 l1 c1, .agg #[.int .i64 x.k, .slice x.a x.len x.cap, .int .i64 x.n, .bool x.w]] w fun e w' => e = .returned (.bool true) ∧ Below w.heap.size w w' := by
  have s1 := h1.small
  obtain ⟨xk, xa, xlen, xcap, xs, xn, xw⟩ := x
  simp only
  obtain ⟨W0, hW0⟩ : ∃ W0, W0 = (w.alloc (.cells #[.int .i64 st.c, .slice st.a st.len st.cap, .int .i64 st.rd, .int .i64 st.wr] 36)).alloc (.cells #[.int .i64 xk, .slice xa xlen xcap, .int .i64 xn, .bool xw] 39) := ⟨_, rfl⟩
  have hX0 : StAt W0 w.heap.size st := by rw [hW0]; exact (Below.heap_alloc _ _ _ (by simp)).trans (World.alloc_heap_new w _)
  have hY0 : XAt W0 (w.heap.size + 1) ⟨xk, xa, xlen, xcap, xs, xn, xw⟩ := by
    rw [hW0]
    have := World.alloc_heap_new (w.alloc (.cells #[.int .i64 st.c, .slice st.a st.len st.cap, .int .i64 st.rd, .int .i64 st.wr] 36)) (.cells #[.int .i64 xk, .slice xa xlen xcap, .int .i64 xn, .bool xw] 39)
    rw [World.size_alloc] at this
    exact this
  have b0 : Below w.heap.size w W0 := by rw [hW0]; exact ((Below.refl _ w).alloc (Nat.le_refl _) _).alloc (by simp) _
  have hxl : st.cap ≤ 9223372036854775807 ∧ st.len ≤ st.cap ∨ st.len = 0 := by
    rcases hst.row.1 with ⟨_, _, h, _⟩ | ⟨_, _, _, h, _, h5, h6, _⟩
    · injection h with e1 e2 e3; exact .inr e2
    · injection h with e1 e2 e3; simp only [maxLen] at h6; left; omega
  go_enter Try.func4, Try.ntmps4
  go_wp2_with (go_at_call 9; refine held ?_)
  unfold Held
  rw [← hW0]
  obtain ⟨xb, hxb⟩ : ∃ xb, xb = w.heap.size + 1 := ⟨_, rfl⟩
  rw [← hxb] at hY0 ⊢
  obtain ⟨sb, hsb⟩ : ∃ sb, sb = w.heap.size := ⟨_, rfl⟩
  rw [← hsb] at hX0 ⊢
  have hxw : w.heap.size ≤ xb := by omega
  clear hW0 hsb hxb
  refine (palive_any W0).mono ?_
  rintro e w1 ⟨rfl, b1⟩
  have hX1 := hX0.below b1
  have hY1 := hY0.below b1
  have b1 := b0.trans (b1.mono b0.size)
  clear b0 hX0 hY0
  go_wp2_with (go_at_call 14; refine held ?_)
  unfold Held
  refine (great_any _ w1 a1 l1 c1 o1 (h1.below b1)).mono ?_
  rintro e w2 ⟨rfl, ⟨rfl, hl1, hk1⟩ | rfl⟩
  rotate_left
  · go_wp2
    go_ret
    exact ⟨rfl, b1⟩
  have y0 := hX1.c0
  have y1 := hX1.c1
  have y2 := hX1.c2
  have y3 := hX1.c3
  have hsr := (hst.row.below b1).mono b1.size
  obtain ⟨sc, sa, slen, scap, sxs, srd, swr⟩ := st
  simp only at y0 y1 y2 y3 hxl hsr
  by_cases hl : slen ≤ 200
  rotate_left
  · have t1 : decide ((200 : Int) < (slen : Int)) = true := by simp; omega
    go_wp2
    go_ret
    exact ⟨rfl, b1⟩
  have t1 : decide ((200 : Int) < (slen : Int)) = false := by simp; omega
  go_wp2_with (go_at_call 15; refine held ?_)
  unfold Held
  refine (pof_any sc sa slen scap sxs srd swr w1 hsr (by omega)).mono ?_
  rintro e w2 ⟨hbo, ⟨g1, g2, g3, g4, g5, g6, g7, g8, p, g, rfl, hP, hpw, hgw⟩ | ⟨_, rfl⟩ | ⟨_, _, rfl⟩⟩
  rotate_left
  · go_wp2
    go_ret
    exact ⟨rfl, b1.trans (hbo.mono b1.size)⟩
  · go_wp2
    go_ret
    exact ⟨rfl, b1.trans (hbo.mono b1.size)⟩
  have hpw1 := hpw
  have hgw1 := hgw
  have hpw : w.heap.size ≤ p := Nat.le_trans b1.size hpw
  have hgw : w.heap.size ≤ g := Nat.le_trans b1.size hgw
  have b2 := b1.trans (hbo.mono b1.size)
  obtain ⟨m, hm⟩ : ∃ m, m = sc.toNat := ⟨_, rfl⟩
  obtain ⟨rd, hrd⟩ : ∃ rd, rd = srd.toNat := ⟨_, rfl⟩
  obtain ⟨ws, hwr⟩ : ∃ ws, ws = swr.toNat := ⟨_, rfl⟩
  rw [← hm, ← hrd, ← hwr] at hP
  have hY2 := hY1.below hbo
  have hxp : xb < w1.heap.size := hY1.lt
  have hnp : xb ≠ p := by omega
  have hng : xb ≠ g := by omega
  clear hm hrd hwr y0 y1 y2 y3 hX1 hY1 hsr hbo b1 hst hxp
  go_wp2_with fail
  go_loopw [54] (fun i wld => ∃ (k : Nat) (bs : List Int) (rd ws : Nat), i = .int .i64 (k : Int) ∧ k ≤ l1 ∧ IsPipe wld p g m bs rd ws ∧ XAt wld xb ⟨xk, xa, xlen, xcap, xs, xn, xw⟩ ∧ Below w.heap.size w wld) (fun i _ => l1 - (intOf i).toNat)
  case atStart => exact ⟨0, _, _, _, rfl, Nat.zero_le _, hP, hY2, b2⟩
  case round =>
    clear hP b2 hY2
    obtain ⟨k, bs, rd, ws, rfl, hk, hPr, hYr, hbr⟩ := hrel
    by_cases hlt : k < l1
    · have t3 : decide ((k : Int) < (l1 : Int)) = true := by simp; omega
      obtain ⟨hol, h0 | ⟨b, off, rfl, hbl, h3, h4, hc⟩⟩ := h1.below hbr
      · omega
      obtain ⟨x1, x2, x3, x4, ho⟩ := hc k (by omega)
      have hol3 := hk1 _ (List.getElem_mem (by omega : k < o1.length))
      obtain ⟨o, he⟩ : ∃ o, o = o1[k] := ⟨_, rfl⟩
      rw [← he] at x1 x2 x3 x4 ho hol3
      have hgo : ¬ blockOf (.slice o.a o.len o.cap) g := fun h => by have := ho.row.lt g h; omega
      have ho' : IsOp wr.heap.size wr o := ⟨ho.row.mono hbr.size, ho.k1, ho.k2, ho.n1, ho.n2⟩
      clear hc he
      go_wp2_with (go_at_call 16; refine (act_any _ p g m bs rd ws o hPr ho' hgo hol3).mono ?_; rintro e w3 ⟨rfl, hP3, hw3⟩)
      have b3 := hbr.trans (below_of_wrS hw3 (fun b hb h => by rcases h with h | h <;> omega) hbr.size)
      have hY3 := hYr.same (hw3.block xb hYr.lt (fun h => by rcases h with h | h <;> omega))
      go_roundw
      case rel => exact ⟨k + 1, _, _, _, by go_num, by omega, hP3, hY3, b3⟩
      case measure => simp [intOf]; omega
    · have t3 : decide ((k : Int) < (l1 : Int)) = false := by simp; omega
      have y3 := hYr.c3
      have h64r := hPr.rd64
      have h64w := hPr.wr64
      cases xw
      · go_upto_region 15 with fail
        obtain ⟨was, hwas⟩ : ∃ was, was = rd := ⟨_, rfl⟩
        have hw64 : was ≤ 64 := by omega
        have hPw : IsPipe wr p g m bs was ws := by rw [hwas]; exact hPr
        clear hwas hPr
        have hbw := hbr.size
        refine wp_region_anyV Grows (by kernel_rfl) 7 rfl ?_
        first
          | (refine anyV_val 0 (Grows.pre) rfl (by kernel_rfl) (by kernel_rfl) (by kernel_rfl) (by rfl) (v := ?av1) (fun W hW => ?ay1) (fun K hK => ?ar1); case ay1 => (go_simp; first | done | rfl))
          | refine anyV_skip 0 (Grows.pre) rfl (by kernel_rfl) (by kernel_rfl) (by kernel_rfl) (by rfl) (fun K hK => ?_)
        go_simp
        refine hK _ ?_
        clear hK K
        first
          | (refine anyV_val 2 (Grows.pre) rfl (by kernel_rfl) (by kernel_rfl) (by kernel_rfl) (by rfl) (v := ?av2) (fun W hW => ?ay2) (fun K hK => ?ar2); case ay2 => (go_simp; first | done | rfl))
          | refine anyV_skip 2 (Grows.pre) rfl (by kernel_rfl) (by kernel_rfl) (by kernel_rfl) (by rfl) (fun K hK => ?_)
        go_simp
        refine hK _ ?_
        clear hK K
        refine anyV_only 1 rfl (by kernel_rfl) (by rfl) (fun K hK => ?_)
        go_simp
        refine (readers_any wr.drew p g m bs was ws (hPw.same rfl rfl)).mono ?_
        rintro e w2 ⟨rfl, rfl⟩
        refine ⟨_, rfl, hK _ _ (Grows.pre.refl _) ?_⟩
        clear hK K
        refine anyV_frame (fun K hK => ?_)
        go_simp
        refine hK _ ?_
        clear hK K
        refine anyV_only 3 rfl (by kernel_rfl) (by rfl) (fun K hK => ?_)
        go_simp
        refine (pall_any wr.drew p g m bs was ws (hPw.same rfl rfl)).mono ?_
        rintro e w3 ⟨⟨v, rfl, hv, _⟩, hb3⟩
        have cv : ∀ W, Grows w3 W → (convert 22 9 v).run Try.prog W = .ok (.string (strOfNums bs)) W := fun W hW => OwnBytes.conv (ownsRow_same hv fun b hb => hW.block b (hv.lt b hb).2)
        refine ⟨_, rfl, hK _ _ hb3 ?_⟩
        clear hK K
        refine anyV_frame (fun K hK => ?_)
        go_simp
        refine hK _ ?_
        clear hK K
        first
          | (refine anyV_val 4 (Grows.pre) rfl (by kernel_rfl) (by kernel_rfl) (by kernel_rfl) (by rfl) (v := ?av3) (fun W hW => ?ay3) (fun K hK => ?ar3); case ay3 => (go_simp; first | done | rfl))
          | refine anyV_skip 4 (Grows.pre) rfl (by kernel_rfl) (by kernel_rfl) (by kernel_rfl) (by rfl) (fun K hK => ?_)
        go_simp
        refine hK _ ?_
        clear hK K
        first
          | (refine anyV_val 5 (Grows.pre) rfl (by kernel_rfl) (by kernel_rfl) (by kernel_rfl) (by rfl) (v := ?av4) (fun W hW => ?ay4) (fun K hK => ?ar4); case ay4 => (go_simp; first | done | rfl))
          | refine anyV_skip 5 (Grows.pre) rfl (by kernel_rfl) (by kernel_rfl) (by kernel_rfl) (by rfl) (fun K hK => ?_)
        go_simp
        refine hK _ ?_
        clear hK K
        first
          | (refine anyV_val 6 (Grows.pre) rfl (by kernel_rfl) (by kernel_rfl) (by kernel_rfl) (by rfl) (v := ?av5) (fun W hW => ?ay5) (fun K hK => ?ar5); case ay5 => (go_simp; first | done | rfl))
          | refine anyV_skip 6 (Grows.pre) rfl (by kernel_rfl) (by kernel_rfl) (by kernel_rfl) (by rfl) (fun K hK => ?_)
        go_simp
        refine hK _ ?_
        clear hK K
        refine anyV_done (by kernel_rfl) ?_
        have hP3 : IsPipe w3 p g m bs was ws := (hPw.same rfl rfl : IsPipe wr.drew p g m bs was ws).below hb3
        have hY3 := (hYr.same rfl : XAt wr.drew xb _).below hb3
        have b3 : Below w.heap.size w w3 := hbr.trans (below_undrew (hb3.mono hbw))
        clear cv hv hb3 hPw hYr hbr hbw y3
        go_wp2_with fail
        go_loopw [14, 15] (fun mo i wld => ∃ (j more : Nat), i = .int .i64 (j : Int) ∧ mo = .int .i64 (more : Int) ∧ j ≤ 70 ∧ was + more ≤ 64 ∧ (was = 0 → more = 0) ∧ IsPipe wld p g m bs (was + more) ws ∧ XAt wld xb ⟨xk, xa, xlen, xcap, xs, xn, false⟩ ∧ Below w.heap.size w wld) (fun _ i _ => 70 - (intOf i).toNat)
        case atStart => exact ⟨0, 0, rfl, rfl, by omega, by omega, fun _ => rfl, hP3, hY3, b3⟩
        case round =>
          clear hP3 hY3 b3
          obtain ⟨j, more, rfl, rfl, hj, hwm, hwz, hPr, hYr, hbr⟩ := hrel
          have y2 := hYr.c2
          have y3 := hYr.c3
          by_cases hgo : j < 70 ∧ (j : Int) < xn
          · obtain ⟨hj1, hj2⟩ := hgo
            have t4 : decide ((j : Int) < 70) = true := by simp; omega
            have t5 : decide ((j : Int) < xn) = true := by simpa using hj2
            obtain ⟨n, hn⟩ : ∃ n, n = was + more := ⟨_, rfl⟩
            rw [← hn] at hPr
            have kO := open_pipe_any wr p g m bs n ws hPr false
            rw [show cnt n ws false = n from rfl] at kO
            by_cases hyes : 0 < n ∧ n < 64
            · have hw0 : 0 < was := by omega
              have u1 : decide ((0 : Int) < (was : Int)) = true := by simp; omega
              have u2 : decide ((was : Int) + (more : Int) < 64) = true := by simp; omega
              have HN := Lib.hid hn
              have HZ := Lib.hid hwz
              clear hn hwz
              go_wp2_with (go_at_call 20; refine held ?_)
              unfold Held
              refine kO.mono ?_
              rintro e w4 (⟨hno, _⟩ | ⟨_, _, rfl, hP4, hw4⟩)
              · omega
              have hY4 := hYr.same (hw4.block xb hYr.lt hnp)
              have b4 := hbr.trans (below_of_wr hw4 hpw hbr.size)
              have hn : n = was + more := HN
              have hP4' : IsPipe w4 p g m bs (was + (more + 1)) ws := by rw [← Nat.add_assoc, ← hn]; exact hP4
              have hm1 : was + (more + 1) ≤ 64 := by omega
              have hm2 : was = 0 → more + 1 = 0 := fun h => by omega
              clear hn hP4 kO hPr hYr hbr
              go_wp2_with fail
              go_roundw
              case rel => exact ⟨j + 1, more + 1, by go_num, by go_num, by omega, hm1, hm2, hP4', hY4, b4⟩
              case measure => simp [intOf]; omega
            · by_cases hw0 : 0 < was
              · have u1 : decide ((0 : Int) < (was : Int)) = true := by simp; omega
                have u2 : decide ((was : Int) + (more : Int) < 64) = false := by simp; omega
                have HZ := Lib.hid hwz
                have hPr2 : IsPipe wr p g m bs (was + more) ws := by rw [← hn]; exact hPr
                clear hn hwz
                go_wp2_with (go_at_call 20; refine held ?_)
                unfold Held
                refine kO.mono ?_
                rintro e w4 (⟨_, rfl, rfl⟩ | ⟨h5, h6, _⟩)
                rotate_left
                · exact absurd ⟨h5, h6⟩ hyes
                clear kO hPr
                go_wp2_with fail
                go_roundw
                case rel => exact ⟨j + 1, more, by go_num, by go_num, by omega, hwm, HZ, hPr2, hYr, hbr⟩
                case measure => simp [intOf]; omega
              · have u1 : decide ((0 : Int) < (was : Int)) = false := by simp; omega
                have HZ := Lib.hid hwz
                have hPr2 : IsPipe wr p g m bs (was + more) ws := by rw [← hn]; exact hPr
                clear hn hwz
                go_wp2_with (go_at_call 20; refine held ?_)
                unfold Held
                refine kO.mono ?_
                rintro e w4 (⟨_, rfl, rfl⟩ | ⟨h5, h6, _⟩)
                rotate_left
                · exact absurd ⟨h5, h6⟩ hyes
                clear kO hPr
                go_wp2_with fail
                go_roundw
                case rel => exact ⟨j + 1, more, by go_num, by go_num, by omega, hwm, HZ, hPr2, hYr, hbr⟩
                case measure => simp [intOf]; omega
          · obtain ⟨n, hn⟩ : ∃ n, n = was + more := ⟨_, rfl⟩
            rw [← hn] at hPr
            have hn64 : n ≤ 64 := by omega
            have hni : (was : Int) + (more : Int) = (n : Int) := by omega
            have hcs : (j : Int) < 70 ∧ ¬ (j : Int) < xn ∨ ¬ (j : Int) < 70 := by omega
            have fin : ∀ (Q : Prop), Q → Q := fun _ h => h
            clear hgo hwz hn
            rcases hcs with ⟨hc1, hc2⟩ | hc1
            · have t4 : decide ((j : Int) < 70) = true := by simpa using hc1
              have t5 : decide ((j : Int) < xn) = false := by simpa using hc2
              go_wp2_with fail
              go_loopw [17] (fun lf wld => ∃ L : Nat, lf = .int .i64 (L : Int) ∧ L ≤ 64 ∧ IsPipe wld p g m bs L ws ∧ XAt wld xb ⟨xk, xa, xlen, xcap, xs, xn, false⟩ ∧ Below w.heap.size w wld) (fun lf _ => (intOf lf).toNat)
              case atStart => exact ⟨n, rfl, hn64, hPr, hYr, hbr⟩
              case round =>
                clear hPr hYr hbr y2 y3
                obtain ⟨L, rfl, hL, hPr, hYr, hbr⟩ := hrel
                have y3 := hYr.c3
                have kC := close_pipe_any wr p g m bs L ws hPr false
                rw [show cnt L ws false = L from rfl] at kC
                by_cases hL0 : 0 < L
                · have t6 : decide ((0 : Int) < (L : Int)) = true := by simp; omega
                  obtain ⟨d, hd⟩ : ∃ d, d = decide (L = 1) := ⟨_, rfl⟩
                  have e1 : ((L : Int) == 1) = d := by rw [hd]; by_cases h : L = 1 <;> simp [h]; omega
                  obtain ⟨M, hM⟩ : ∃ M, M = L - 1 := ⟨_, rfl⟩
                  have e2 : (L : Int) - 1 = (M : Int) := by omega
                  rw [← hd] at kC
                  have hM64 : M ≤ 64 := by omega
                  have HM := Lib.hid hM
                  clear hd hM
                  go_wp2_with (go_at_call 13; refine held ?_)
                  unfold Held
                  refine kC.mono ?_
                  rintro e w4 (⟨hno, _⟩ | ⟨_, rfl, hP4, hw4⟩)
                  · omega
                  have hP4' : IsPipe w4 p g m bs M ws := by rw [show M = L - 1 from HM]; exact hP4
                  have hY4 := hYr.same (hw4.block xb hYr.lt hnp)
                  have b4 := hbr.trans (below_of_wr hw4 hpw hbr.size)
                  clear kC hP4 hPr hYr hbr hw4
                  go_wp2_with (go_at_call 17; refine (readers_any w4 p g m bs M ws hP4').mono ?_; rintro e w5 ⟨rfl, rfl⟩)
                  go_roundw
                  case rel => exact ⟨M, by go_num, hM64, hP4', hY4, b4⟩
                  case measure =>
                    have hM : M = L - 1 := HM
                    simp [intOf]; omega
                · have t6 : decide ((0 : Int) < (L : Int)) = false := by simp; omega
                  obtain rfl : L = 0 := by omega
                  go_wp2_with (go_at_call 13; refine held ?_)
                  unfold Held
                  refine kC.mono ?_
                  rintro e w4 (⟨_, rfl, rfl⟩ | ⟨hno, _⟩)
                  rotate_left
                  · omega
                  have kO := open_pipe_any wr p g m bs 0 ws hPr false
                  obtain ⟨D, hD⟩ : ∃ D, D = decide (0 = 0 ∧ ws = 0) := ⟨_, rfl⟩
                  have eD : ((ws : Int) == 0) = D := by rw [hD]; by_cases h : ws = 0 <;> simp [h]
                  have kG := fun (W : World) hW => gone_any W p g m bs 0 ws hW
                  rw [← hD] at kG
                  clear hD kC
                  go_wp2_with (go_at_call 20; refine held ?_)
                  unfold Held
                  refine kO.mono ?_
                  rintro e w4 (⟨_, rfl, rfl⟩ | ⟨hno, _⟩)
                  rotate_left
                  · exact absurd hno (Nat.lt_irrefl 0)
                  clear kO
                  go_wp2_with (go_at_call 19; refine held ?_)
                  unfold Held
                  refine (pall_any _ p g m bs 0 ws hPr).mono ?_
                  rintro e w5 ⟨⟨v5, rfl, hv5, _⟩, hb5⟩
                  have cv5 := OwnBytes.conv hv5
                  have hP5 := hPr.below hb5
                  have b5 := hbr.trans (hb5.mono hbr.size)
                  have kg5 := kG w5 hP5
                  clear hv5 hb5 hPr hYr hbr y3 kG
                  go_wp2_with (first
                    | (go_at_call 21; refine kg5.mono ?_; rintro e w6 ⟨rfl, rfl⟩)
                    | (go_at_call 17; refine (readers_any w5 p g m bs 0 ws hP5).mono ?_; rintro e w6 ⟨rfl, rfl⟩)
                    | (go_at_call 18; refine (writers_any w5 p g m bs 0 ws hP5).mono ?_; rintro e w6 ⟨rfl, rfl⟩))
                  go_ret
                  exact ⟨rfl, b5⟩
            · have t4 : decide ((j : Int) < 70) = false := by simpa using hc1
              go_wp2_with fail
              go_loopw [17] (fun lf wld => ∃ L : Nat, lf = .int .i64 (L : Int) ∧ L ≤ 64 ∧ IsPipe wld p g m bs L ws ∧ XAt wld xb ⟨xk, xa, xlen, xcap, xs, xn, false⟩ ∧ Below w.heap.size w wld) (fun lf _ => (intOf lf).toNat)
              case atStart => exact ⟨n, rfl, hn64, hPr, hYr, hbr⟩
              case round =>
                clear hPr hYr hbr y2 y3
                obtain ⟨L, rfl, hL, hPr, hYr, hbr⟩ := hrel
                have y3 := hYr.c3
                have kC := close_pipe_any wr p g m bs L ws hPr false
                rw [show cnt L ws false = L from rfl] at kC
                by_cases hL0 : 0 < L
                · have t6 : decide ((0 : Int) < (L : Int)) = true := by simp; omega
                  obtain ⟨d, hd⟩ : ∃ d, d = decide (L = 1) := ⟨_, rfl⟩
                  have e1 : ((L : Int) == 1) = d := by rw [hd]; by_cases h : L = 1 <;> simp [h]; omega
                  obtain ⟨M, hM⟩ : ∃ M, M = L - 1 := ⟨_, rfl⟩
                  have e2 : (L : Int) - 1 = (M : Int) := by omega
                  rw [← hd] at kC
                  have hM64 : M ≤ 64 := by omega
                  have HM := Lib.hid hM
                  clear hd hM
                  go_wp2_with (go_at_call 13; refine held ?_)
                  unfold Held
                  refine kC.mono ?_
                  rintro e w4 (⟨hno, _⟩ | ⟨_, rfl, hP4, hw4⟩)
                  · omega
                  have hP4' : IsPipe w4 p g m bs M ws := by rw [show M = L - 1 from HM]; exact hP4
                  have hY4 := hYr.same (hw4.block xb hYr.lt hnp)
                  have b4 := hbr.trans (below_of_wr hw4 hpw hbr.size)
                  clear kC hP4 hPr hYr hbr hw4
                  go_wp2_with (go_at_call 17; refine (readers_any w4 p g m bs M ws hP4').mono ?_; rintro e w5 ⟨rfl, rfl⟩)
                  go_roundw
                  case rel => exact ⟨M, by go_num, hM64, hP4', hY4, b4⟩
                  case measure =>
                    have hM : M = L - 1 := HM
                    simp [intOf]; omega
                · have t6 : decide ((0 : Int) < (L : Int)) = false := by simp; omega
                  obtain rfl : L = 0 := by omega
                  go_wp2_with (go_at_call 13; refine held ?_)
                  unfold Held
                  refine kC.mono ?_
                  rintro e w4 (⟨_, rfl, rfl⟩ | ⟨hno, _⟩)
                  rotate_left
                  · omega
                  have kO := open_pipe_any wr p g m bs 0 ws hPr false
                  obtain ⟨D, hD⟩ : ∃ D, D = decide (0 = 0 ∧ ws = 0) := ⟨_, rfl⟩
                  have eD : ((ws : Int) == 0) = D := by rw [hD]; by_cases h : ws = 0 <;> simp [h]
                  have kG := fun (W : World) hW => gone_any W p g m bs 0 ws hW
                  rw [← hD] at kG
                  clear hD kC
                  go_wp2_with (go_at_call 20; refine held ?_)
                  unfold Held
                  refine kO.mono ?_
                  rintro e w4 (⟨_, rfl, rfl⟩ | ⟨hno, _⟩)
                  rotate_left
                  · exact absurd hno (Nat.lt_irrefl 0)
                  clear kO
                  go_wp2_with (go_at_call 19; refine held ?_)
                  unfold Held
                  refine (pall_any _ p g m bs 0 ws hPr).mono ?_
                  rintro e w5 ⟨⟨v5, rfl, hv5, _⟩, hb5⟩
                  have cv5 := OwnBytes.conv hv5
                  have hP5 := hPr.below hb5
                  have b5 := hbr.trans (hb5.mono hbr.size)
                  have kg5 := kG w5 hP5
                  clear hv5 hb5 hPr hYr hbr y3 kG
                  go_wp2_with (first
                    | (go_at_call 21; refine kg5.mono ?_; rintro e w6 ⟨rfl, rfl⟩)
                    | (go_at_call 17; refine (readers_any w5 p g m bs 0 ws hP5).mono ?_; rintro e w6 ⟨rfl, rfl⟩)
                    | (go_at_call 18; refine (writers_any w5 p g m bs 0 ws hP5).mono ?_; rintro e w6 ⟨rfl, rfl⟩))
                  go_ret
                  exact ⟨rfl, b5⟩
      · go_upto_region 15 with fail
        obtain ⟨was, hwas⟩ : ∃ was, was = ws := ⟨_, rfl⟩
        have hw64 : was ≤ 64 := by omega
        have hPw : IsPipe wr p g m bs rd was := by rw [hwas]; exact hPr
        clear hwas hPr
        have hbw := hbr.size
        refine wp_region_anyV Grows (by kernel_rfl) 7 rfl ?_
        first
          | (refine anyV_val 0 (Grows.pre) rfl (by kernel_rfl) (by kernel_rfl) (by kernel_rfl) (by rfl) (v := ?av6) (fun W hW => ?ay6) (fun K hK => ?ar6); case ay6 => (go_simp; first | done | rfl))
          | refine anyV_skip 0 (Grows.pre) rfl (by kernel_rfl) (by kernel_rfl) (by kernel_rfl) (by rfl) (fun K hK => ?_)
        go_simp
        refine hK _ ?_
        clear hK K
        first
          | (refine anyV_val 2 (Grows.pre) rfl (by kernel_rfl) (by kernel_rfl) (by kernel_rfl) (by rfl) (v := ?av7) (fun W hW => ?ay7) (fun K hK => ?ar7); case ay7 => (go_simp; first | done | rfl))
          | refine anyV_skip 2 (Grows.pre) rfl (by kernel_rfl) (by kernel_rfl) (by kernel_rfl) (by rfl) (fun K hK => ?_)
        go_simp
        refine hK _ ?_
        clear hK K
        refine anyV_only 1 rfl (by kernel_rfl) (by rfl) (fun K hK => ?_)
        go_simp
        refine (writers_any wr.drew p g m bs rd was (hPw.same rfl rfl)).mono ?_
        rintro e w2 ⟨rfl, rfl⟩
        refine ⟨_, rfl, hK _ _ (Grows.pre.refl _) ?_⟩
        clear hK K
        refine anyV_frame (fun K hK => ?_)
        go_simp
        refine hK _ ?_
        clear hK K
        refine anyV_only 3 rfl (by kernel_rfl) (by rfl) (fun K hK => ?_)
        go_simp
        refine (pall_any wr.drew p g m bs rd was (hPw.same rfl rfl)).mono ?_
        rintro e w3 ⟨⟨v, rfl, hv, _⟩, hb3⟩
        have cv : ∀ W, Grows w3 W → (convert 22 9 v).run Try.prog W = .ok (.string (strOfNums bs)) W := fun W hW => OwnBytes.conv (ownsRow_same hv fun b hb => hW.block b (hv.lt b hb).2)
        refine ⟨_, rfl, hK _ _ hb3 ?_⟩
        clear hK K
        refine anyV_frame (fun K hK => ?_)
        go_simp
        refine hK _ ?_
        clear hK K
        first
          | (refine anyV_val 4 (Grows.pre) rfl (by kernel_rfl) (by kernel_rfl) (by kernel_rfl) (by rfl) (v := ?av8) (fun W hW => ?ay8) (fun K hK => ?ar8); case ay8 => (go_simp; first | done | rfl))
          | refine anyV_skip 4 (Grows.pre) rfl (by kernel_rfl) (by kernel_rfl) (by kernel_rfl) (by rfl) (fun K hK => ?_)
        go_simp
        refine hK _ ?_
        clear hK K
        first
          | (refine anyV_val 5 (Grows.pre) rfl (by kernel_rfl) (by kernel_rfl) (by kernel_rfl) (by rfl) (v := ?av9) (fun W hW => ?ay9) (fun K hK => ?ar9); case ay9 => (go_simp; first | done | rfl))
          | refine anyV_skip 5 (Grows.pre) rfl (by kernel_rfl) (by kernel_rfl) (by kernel_rfl) (by rfl) (fun K hK => ?_)
        go_simp
        refine hK _ ?_
        clear hK K
        first
          | (refine anyV_val 6 (Grows.pre) rfl (by kernel_rfl) (by kernel_rfl) (by kernel_rfl) (by rfl) (v := ?av10) (fun W hW => ?ay10) (fun K hK => ?ar10); case ay10 => (go_simp; first | done | rfl))
          | refine anyV_skip 6 (Grows.pre) rfl (by kernel_rfl) (by kernel_rfl) (by kernel_rfl) (by rfl) (fun K hK => ?_)
        go_simp
        refine hK _ ?_
        clear hK K
        refine anyV_done (by kernel_rfl) ?_
        have hP3 : IsPipe w3 p g m bs rd was := (hPw.same rfl rfl : IsPipe wr.drew p g m bs rd was).below hb3
        have hY3 := (hYr.same rfl : XAt wr.drew xb _).below hb3
        have b3 : Below w.heap.size w w3 := hbr.trans (below_undrew (hb3.mono hbw))
        clear cv hv hb3 hPw hYr hbr hbw y3
        go_wp2_with fail
        go_loopw [14, 15] (fun mo i wld => ∃ (j more : Nat), i = .int .i64 (j : Int) ∧ mo = .int .i64 (more : Int) ∧ j ≤ 70 ∧ was + more ≤ 64 ∧ (was = 0 → more = 0) ∧ IsPipe wld p g m bs rd (was + more) ∧ XAt wld xb ⟨xk, xa, xlen, xcap, xs, xn, true⟩ ∧ Below w.heap.size w wld) (fun _ i _ => 70 - (intOf i).toNat)
        case atStart => exact ⟨0, 0, rfl, rfl, by omega, by omega, fun _ => rfl, hP3, hY3, b3⟩
        case round =>
          clear hP3 hY3 b3
          obtain ⟨j, more, rfl, rfl, hj, hwm, hwz, hPr, hYr, hbr⟩ := hrel
          have y2 := hYr.c2
          have y3 := hYr.c3
          by_cases hgo : j < 70 ∧ (j : Int) < xn
          · obtain ⟨hj1, hj2⟩ := hgo
            have t4 : decide ((j : Int) < 70) = true := by simp; omega
            have t5 : decide ((j : Int) < xn) = true := by simpa using hj2
            obtain ⟨n, hn⟩ : ∃ n, n = was + more := ⟨_, rfl⟩
            rw [← hn] at hPr
            have kO := open_pipe_any wr p g m bs rd n hPr true
            rw [show cnt rd n true = n from rfl] at kO
            by_cases hyes : 0 < n ∧ n < 64
            · have hw0 : 0 < was := by omega
              have u1 : decide ((0 : Int) < (was : Int)) = true := by simp; omega
              have u2 : decide ((was : Int) + (more : Int) < 64) = true := by simp; omega
              have HN := Lib.hid hn
              have HZ := Lib.hid hwz
              clear hn hwz
              go_wp2_with (go_at_call 20; refine held ?_)
              unfold Held
              refine kO.mono ?_
              rintro e w4 (⟨hno, _⟩ | ⟨_, _, rfl, hP4, hw4⟩)
              · omega
              have hY4 := hYr.same (hw4.block xb hYr.lt hnp)
              have b4 := hbr.trans (below_of_wr hw4 hpw hbr.size)
              have hn : n = was + more := HN
              have hP4' : IsPipe w4 p g m bs rd (was + (more + 1)) := by rw [← Nat.add_assoc, ← hn]; exact hP4
              have hm1 : was + (more + 1) ≤ 64 := by omega
              have hm2 : was = 0 → more + 1 = 0 := fun h => by omega
              clear hn hP4 kO hPr hYr hbr
              go_wp2_with fail
              go_roundw
              case rel => exact ⟨j + 1, more + 1, by go_num, by go_num, by omega, hm1, hm2, hP4', hY4, b4⟩
              case measure => simp [intOf]; omega
            · by_cases hw0 : 0 < was
              · have u1 : decide ((0 : Int) < (was : Int)) = true := by simp; omega
                have u2 : decide ((was : Int) + (more : Int) < 64) = false := by simp; omega
                have HZ := Lib.hid hwz
                have hPr2 : IsPipe wr p g m bs rd (was + more) := by rw [← hn]; exact hPr
                clear hn hwz
                go_wp2_with (go_at_call 20; refine held ?_)
                unfold Held
                refine kO.mono ?_
                rintro e w4 (⟨_, rfl, rfl⟩ | ⟨h5, h6, _⟩)
                rotate_left
                · exact absurd ⟨h5, h6⟩ hyes
                clear kO hPr
                go_wp2_with fail
                go_roundw
                case rel => exact ⟨j + 1, more, by go_num, by go_num, by omega, hwm, HZ, hPr2, hYr, hbr⟩
                case measure => simp [intOf]; omega
              · have u1 : decide ((0 : Int) < (was : Int)) = false := by simp; omega
                have HZ := Lib.hid hwz
                have hPr2 : IsPipe wr p g m bs rd (was + more) := by rw [← hn]; exact hPr
                clear hn hwz
                go_wp2_with (go_at_call 20; refine held ?_)
                unfold Held
                refine kO.mono ?_
                rintro e w4 (⟨_, rfl, rfl⟩ | ⟨h5, h6, _⟩)
                rotate_left
                · exact absurd ⟨h5, h6⟩ hyes
                clear kO hPr
                go_wp2_with fail
                go_roundw
                case rel => exact ⟨j + 1, more, by go_num, by go_num, by omega, hwm, HZ, hPr2, hYr, hbr⟩
                case measure => simp [intOf]; omega
          · obtain ⟨n, hn⟩ : ∃ n, n = was + more := ⟨_, rfl⟩
            rw [← hn] at hPr
            have hn64 : n ≤ 64 := by omega
            have hni : (was : Int) + (more : Int) = (n : Int) := by omega
            have hcs : (j : Int) < 70 ∧ ¬ (j : Int) < xn ∨ ¬ (j : Int) < 70 := by omega
            have fin : ∀ (Q : Prop), Q → Q := fun _ h => h
            clear hgo hwz hn
            rcases hcs with ⟨hc1, hc2⟩ | hc1
            · have t4 : decide ((j : Int) < 70) = true := by simpa using hc1
              have t5 : decide ((j : Int) < xn) = false := by simpa using hc2
              go_wp2_with fail
              go_loopw [17] (fun lf wld => ∃ L : Nat, lf = .int .i64 (L : Int) ∧ L ≤ 64 ∧ IsPipe wld p g m bs rd L ∧ XAt wld xb ⟨xk, xa, xlen, xcap, xs, xn, true⟩ ∧ Below w.heap.size w wld) (fun lf _ => (intOf lf).toNat)
              case atStart => exact ⟨n, rfl, hn64, hPr, hYr, hbr⟩
              case round =>
                clear hPr hYr hbr y2 y3
                obtain ⟨L, rfl, hL, hPr, hYr, hbr⟩ := hrel
                have y3 := hYr.c3
                have kC := close_pipe_any wr p g m bs rd L hPr true
                rw [show cnt rd L true = L from rfl] at kC
                by_cases hL0 : 0 < L
                · have t6 : decide ((0 : Int) < (L : Int)) = true := by simp; omega
                  obtain ⟨d, hd⟩ : ∃ d, d = decide (L = 1) := ⟨_, rfl⟩
                  have e1 : ((L : Int) == 1) = d := by rw [hd]; by_cases h : L = 1 <;> simp [h]; omega
                  obtain ⟨M, hM⟩ : ∃ M, M = L - 1 := ⟨_, rfl⟩
                  have e2 : (L : Int) - 1 = (M : Int) := by omega
                  rw [← hd] at kC
                  have hM64 : M ≤ 64 := by omega
                  have HM := Lib.hid hM
                  clear hd hM
                  go_wp2_with (go_at_call 13; refine held ?_)
                  unfold Held
                  refine kC.mono ?_
                  rintro e w4 (⟨hno, _⟩ | ⟨_, rfl, hP4, hw4⟩)
                  · omega
                  have hP4' : IsPipe w4 p g m bs rd M := by rw [show M = L - 1 from HM]; exact hP4
                  have hY4 := hYr.same (hw4.block xb hYr.lt hnp)
                  have b4 := hbr.trans (below_of_wr hw4 hpw hbr.size)
                  clear kC hP4 hPr hYr hbr hw4
                  go_wp2_with (go_at_call 18; refine (writers_any w4 p g m bs rd M hP4').mono ?_; rintro e w5 ⟨rfl, rfl⟩)
                  go_roundw
                  case rel => exact ⟨M, by go_num, hM64, hP4', hY4, b4⟩
                  case measure =>
                    have hM : M = L - 1 := HM
                    simp [intOf]; omega
                · have t6 : decide ((0 : Int) < (L : Int)) = false := by simp; omega
                  obtain rfl : L = 0 := by omega
                  go_wp2_with (go_at_call 13; refine held ?_)
                  unfold Held
                  refine kC.mono ?_
                  rintro e w4 (⟨_, rfl, rfl⟩ | ⟨hno, _⟩)
                  rotate_left
                  · omega
                  have kO := open_pipe_any wr p g m bs rd 0 hPr true
                  obtain ⟨D, hD⟩ : ∃ D, D = decide (rd = 0 ∧ 0 = 0) := ⟨_, rfl⟩
                  have eD : ((rd : Int) == 0) = D := by rw [hD]; by_cases h : rd = 0 <;> simp [h]
                  have kG := fun (W : World) hW => gone_any W p g m bs rd 0 hW
                  rw [← hD] at kG
                  clear hD kC
                  go_wp2_with (go_at_call 20; refine held ?_)
                  unfold Held
                  refine kO.mono ?_
                  rintro e w4 (⟨_, rfl, rfl⟩ | ⟨hno, _⟩)
                  rotate_left
                  · exact absurd hno (Nat.lt_irrefl 0)
                  clear kO
                  go_wp2_with (go_at_call 19; refine held ?_)
                  unfold Held
                  refine (pall_any _ p g m bs rd 0 hPr).mono ?_
                  rintro e w5 ⟨⟨v5, rfl, hv5, _⟩, hb5⟩
                  have cv5 := OwnBytes.conv hv5
                  have hP5 := hPr.below hb5
                  have b5 := hbr.trans (hb5.mono hbr.size)
                  have kg5 := kG w5 hP5
                  clear hv5 hb5 hPr hYr hbr y3 kG
                  go_wp2_with (first
                    | (go_at_call 21; refine kg5.mono ?_; rintro e w6 ⟨rfl, rfl⟩)
                    | (go_at_call 17; refine (readers_any w5 p g m bs rd 0 hP5).mono ?_; rintro e w6 ⟨rfl, rfl⟩)
                    | (go_at_call 18; refine (writers_any w5 p g m bs rd 0 hP5).mono ?_; rintro e w6 ⟨rfl, rfl⟩))
                  go_ret
                  exact ⟨rfl, b5⟩
            · have t4 : decide ((j : Int) < 70) = false := by simpa using hc1
              go_wp2_with fail
              go_loopw [17] (fun lf wld => ∃ L : Nat, lf = .int .i64 (L : Int) ∧ L ≤ 64 ∧ IsPipe wld p g m bs rd L ∧ XAt wld xb ⟨xk, xa, xlen, xcap, xs, xn, true⟩ ∧ Below w.heap.size w wld) (fun lf _ => (intOf lf).toNat)
              case atStart => exact ⟨n, rfl, hn64, hPr, hYr, hbr⟩
              case round =>
                clear hPr hYr hbr y2 y3
                obtain ⟨L, rfl, hL, hPr, hYr, hbr⟩ := hrel
                have y3 := hYr.c3
                have kC := close_pipe_any wr p g m bs rd L hPr true
                rw [show cnt rd L true = L from rfl] at kC
                by_cases hL0 : 0 < L
                · have t6 : decide ((0 : Int) < (L : Int)) = true := by simp; omega
                  obtain ⟨d, hd⟩ : ∃ d, d = decide (L = 1) := ⟨_, rfl⟩
                  have e1 : ((L : Int) == 1) = d := by rw [hd]; by_cases h : L = 1 <;> simp [h]; omega
                  obtain ⟨M, hM⟩ : ∃ M, M = L - 1 := ⟨_, rfl⟩
                  have e2 : (L : Int) - 1 = (M : Int) := by omega
                  rw [← hd] at kC
                  have hM64 : M ≤ 64 := by omega
                  have HM := Lib.hid hM
                  clear hd hM
                  go_wp2_with (go_at_call 13; refine held ?_)
                  unfold Held
                  refine kC.mono ?_
                  rintro e w4 (⟨hno, _⟩ | ⟨_, rfl, hP4, hw4⟩)
                  · omega
                  have hP4' : IsPipe w4 p g m bs rd M := by rw [show M = L - 1 from HM]; exact hP4
                  have hY4 := hYr.same (hw4.block xb hYr.lt hnp)
                  have b4 := hbr.trans (below_of_wr hw4 hpw hbr.size)
                  clear kC hP4 hPr hYr hbr hw4
                  go_wp2_with (go_at_call 18; refine (writers_any w4 p g m bs rd M hP4').mono ?_; rintro e w5 ⟨rfl, rfl⟩)
                  go_roundw
                  case rel => exact ⟨M, by go_num, hM64, hP4', hY4, b4⟩
                  case measure =>
                    have hM : M = L - 1 := HM
                    simp [intOf]; omega
                · have t6 : decide ((0 : Int) < (L : Int)) = false := by simp; omega
                  obtain rfl : L = 0 := by omega
                  go_wp2_with (go_at_call 13; refine held ?_)
                  unfold Held
                  refine kC.mono ?_
                  rintro e w4 (⟨_, rfl, rfl⟩ | ⟨hno, _⟩)
                  rotate_left
                  · omega
                  have kO := open_pipe_any wr p g m bs rd 0 hPr true
                  obtain ⟨D, hD⟩ : ∃ D, D = decide (rd = 0 ∧ 0 = 0) := ⟨_, rfl⟩
                  have eD : ((rd : Int) == 0) = D := by rw [hD]; by_cases h : rd = 0 <;> simp [h]
                  have kG := fun (W : World) hW => gone_any W p g m bs rd 0 hW
                  rw [← hD] at kG
                  clear hD kC
                  go_wp2_with (go_at_call 20; refine held ?_)
                  unfold Held
                  refine kO.mono ?_
                  rintro e w4 (⟨_, rfl, rfl⟩ | ⟨hno, _⟩)
                  rotate_left
                  · exact absurd hno (Nat.lt_irrefl 0)
                  clear kO
                  go_wp2_with (go_at_call 19; refine held ?_)
                  unfold Held
                  refine (pall_any _ p g m bs rd 0 hPr).mono ?_
                  rintro e w5 ⟨⟨v5, rfl, hv5, _⟩, hb5⟩
                  have cv5 := OwnBytes.conv hv5
                  have hP5 := hPr.below hb5
                  have b5 := hbr.trans (hb5.mono hbr.size)
                  have kg5 := kG w5 hP5
                  clear hv5 hb5 hPr hYr hbr y3 kG
                  go_wp2_with (first
                    | (go_at_call 21; refine kg5.mono ?_; rintro e w6 ⟨rfl, rfl⟩)
                    | (go_at_call 17; refine (readers_any w5 p g m bs rd 0 hP5).mono ?_; rintro e w6 ⟨rfl, rfl⟩)
                    | (go_at_call 18; refine (writers_any w5 p g m bs rd 0 hP5).mono ?_; rintro e w6 ⟨rfl, rfl⟩))
                  go_ret
                  exact ⟨rfl, b5⟩
end Go.Proofs.Ytcmcilfopkhipaa
