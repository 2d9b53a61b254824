/- The walk of the law PipePlace. -/
import Derived.Test.YtcmcilfopkhipaaPipeOps
import Derived.Deep.Cut
namespace Go.Proofs.Ytcmcilfopkhipaa
open Go Go.RowKit
attribute [local go_sem] upV_value upV_skip upV_enter
set_option linter.unusedVariables false
set_option linter.unnecessarySimpa false
set_option maxRecDepth 100000 in
set_option maxHeartbeats 8000000 in
theorem pipePlace_any (w : World) (st : StV) (a1 : Option Addr) (l1 c1 : Nat) (o1 : List OpV) (a2 : Option Addr) (l2 c2 : Nat) (o2 : List OpV) (hst : IsSt w.heap.size w st) (h1 : IsOps w.heap.size w a1 l1 c1 o1) (h2 : IsOps w.heap.size w a2 l2 c2 o2) :
    Calls Try.prog 6 #[.agg #[.int .i64 st.c, .slice st.a st.len st.cap, .int .i64 st.rd, .int .i64 st.wr], .slice a1 l1 c1, .slice a2 l2 c2] w fun e w' => e = .returned (.bool true) ∧ Below w.heap.size w w' := by
  have s1 := h1.small
  have s2 := h2.small
  obtain ⟨W0, hW0⟩ : ∃ W0, W0 = w.alloc (.cells #[.int .i64 st.c, .slice st.a st.len st.cap, .int .i64 st.rd, .int .i64 st.wr] 36) := ⟨_, rfl⟩
  have hX0 : StAt W0 w.heap.size st := by rw [hW0]; exact World.alloc_heap_new w _
  have b0 : Below w.heap.size w W0 := by rw [hW0]; exact (Below.refl _ w).alloc (Nat.le_refl _) _
  have hxl : st.cap ≤ 9223372036854775807 ∧ st.len ≤ st.cap ∨ st.len = 0 := by
    rcases hst.row.1 with ⟨_, _, h, _⟩ | ⟨_, _, _, h, _, h5, h6, _⟩
    · injection h with e1 e2 e3; exact .inr e2
    · injection h with e1 e2 e3; simp only [maxLen] at h6; left; omega
  go_enter Try.func6, Try.ntmps6
  go_wp2_with (go_at_call 9; refine held ?_)
  unfold Held
  rw [← hW0]
  obtain ⟨sb, hsb⟩ : ∃ sb, sb = w.heap.size := ⟨_, rfl⟩
  rw [← hsb] at hX0 ⊢
  clear hW0 hsb
  refine (palive_any W0).mono ?_
  rintro e w1 ⟨rfl, b1⟩
  have hX1 := hX0.below b1
  have b1 := b0.trans (b1.mono b0.size)
  clear b0 hX0
  go_wp2_with (go_at_call 14; refine held ?_)
  unfold Held
  refine (great_any _ w1 a1 l1 c1 o1 (h1.below b1)).mono ?_
  rintro e w2 ⟨rfl, ⟨rfl, hl1, hk1⟩ | rfl⟩
  rotate_left
  · go_wp2
    go_ret
    exact ⟨rfl, b1⟩
  go_wp2_with (go_at_call 14; refine held ?_)
  unfold Held
  refine (great_any _ w1 a2 l2 c2 o2 (h2.below b1)).mono ?_
  rintro e w2 ⟨rfl, ⟨rfl, hl2, hk2⟩ | rfl⟩
  rotate_left
  · go_wp2
    go_ret
    exact ⟨rfl, b1⟩
  have y0 := hX1.c0
  have y1 := hX1.c1
  have y2 := hX1.c2
  have y3 := hX1.c3
  have hsr := (hst.row.below b1).mono b1.size
  obtain ⟨sc, sa, slen, scap, sxs, srd, swr⟩ := st
  simp only at y0 y1 y2 y3 hxl hsr
  by_cases hl : slen ≤ 200
  rotate_left
  · have t1 : decide ((200 : Int) < (slen : Int)) = true := by simp; omega
    go_wp2
    go_ret
    exact ⟨rfl, b1⟩
  have t1 : decide ((200 : Int) < (slen : Int)) = false := by simp; omega
  go_wp2_with (go_at_call 15; refine held ?_)
  unfold Held
  refine (pof_any sc sa slen scap sxs srd swr w1 hsr (by omega)).mono ?_
  rintro e w2 ⟨hbo, ⟨g1, g2, g3, g4, g5, g6, g7, g8, p, g, rfl, hP, hpw, hgw⟩ | ⟨_, rfl⟩ | ⟨_, _, rfl⟩⟩
  rotate_left
  · go_wp2
    go_ret
    exact ⟨rfl, b1.trans (hbo.mono b1.size)⟩
  · go_wp2
    go_ret
    exact ⟨rfl, b1.trans (hbo.mono b1.size)⟩
  have hpw : w.heap.size ≤ p := Nat.le_trans b1.size hpw
  have hgw : w.heap.size ≤ g := Nat.le_trans b1.size hgw
  have b2 := b1.trans (hbo.mono b1.size)
  obtain ⟨m, hm⟩ : ∃ m, m = sc.toNat := ⟨_, rfl⟩
  obtain ⟨rd, hrd⟩ : ∃ rd, rd = srd.toNat := ⟨_, rfl⟩
  obtain ⟨ws, hwr⟩ : ∃ ws, ws = swr.toNat := ⟨_, rfl⟩
  rw [← hm, ← hrd, ← hwr] at hP
  clear hm hrd hwr y0 y1 y2 y3 hX1 hsr hbo b1 hst
  go_wp2_with fail
  go_loopw [57] (fun i wld => ∃ (k : Nat) (bs : List Int) (rd ws : Nat), i = .int .i64 (k : Int) ∧ k ≤ l1 ∧ IsPipe wld p g m bs rd ws ∧ Below w.heap.size w wld) (fun i _ => l1 - (intOf i).toNat)
  case atStart => exact ⟨0, _, _, _, rfl, Nat.zero_le _, hP, b2⟩
  case round =>
    clear hP b2
    obtain ⟨k, bs, rd, ws, rfl, hk, hPr, hbr⟩ := hrel
    by_cases hlt : k < l1
    · have t3 : decide ((k : Int) < (l1 : Int)) = true := by simp; omega
      obtain ⟨hol, h0 | ⟨b, off, rfl, hbl, h3, h4, hc⟩⟩ := h1.below hbr
      · omega
      obtain ⟨x1, x2, x3, x4, ho⟩ := hc k (by omega)
      have hol3 := hk1 _ (List.getElem_mem (by omega : k < o1.length))
      obtain ⟨o, he⟩ : ∃ o, o = o1[k] := ⟨_, rfl⟩
      rw [← he] at x1 x2 x3 x4 ho hol3
      have hgo : ¬ blockOf (.slice o.a o.len o.cap) g := fun h => by have := ho.row.lt g h; omega
      have ho' : IsOp wr.heap.size wr o := ⟨ho.row.mono hbr.size, ho.k1, ho.k2, ho.n1, ho.n2⟩
      clear hc he
      go_wp2_with (go_at_call 16; refine (act_any _ p g m bs rd ws o hPr ho' hgo hol3).mono ?_; rintro e w3 ⟨rfl, hP3, hw3⟩)
      have b3 := hbr.trans (below_of_wrS hw3 (fun b hb h => by rcases h with h | h <;> omega) hbr.size)
      go_roundw
      case rel => exact ⟨k + 1, _, _, _, by go_num, by omega, hP3, b3⟩
      case measure => simp [intOf]; omega
    · have t3 : decide ((k : Int) < (l1 : Int)) = false := by simp; omega
      go_wp2_with (first
        | (go_at_call 24; refine (pcap_any _ p g m bs rd ws hPr).mono ?_; rintro e w2 ⟨rfl, rfl⟩)
        | (go_at_call 19; refine held ?_))
      unfold Held
      have hcap := hPr.ring.most_le
      refine (pall_any _ p g m bs rd ws hPr).mono ?_
      rintro e w3 ⟨⟨v, rfl, hv, _⟩, hb3⟩
      have hP3 := hPr.below hb3
      have b3 := hbr.trans (hb3.mono hbr.size)
      have hr3 : Row8 w3.heap.size w3 v bs := ⟨(RowI.of_own hv).2, hPr.ring.bytes⟩
      obtain ⟨va, vc, rfl, _⟩ := ownsRow_slice hv
      have b3s := b3.size
      have hp3 := hP3.lt
      clear hb3 hv hPr hbr
      go_wp2_with (first
        | (go_at_call 17; refine (readers_any w3 p g m bs rd ws hP3).mono ?_; rintro e w2 ⟨rfl, rfl⟩)
        | (go_at_call 18; refine (writers_any w3 p g m bs rd ws hP3).mono ?_; rintro e w2 ⟨rfl, rfl⟩)
        | (go_at_call 15; refine held ?_))
      unfold Held
      refine (pof_any (m : Int) va bs.length vc bs (rd : Int) (ws : Int) w3 hr3 (by omega)).mono ?_
      have h64r := hP3.rd64
      have h64w := hP3.wr64
      rintro e w4 ⟨hb4, ⟨_, _, _, _, _, _, _, _, q, h, rfl, hQ, hq3, hh3⟩ | ⟨hno, _⟩ | ⟨_, hno, rfl⟩⟩
      rotate_left
      · exact absurd ⟨by omega, by omega, by omega⟩ hno
      · have hP4 := hP3.below hb4
        have hz : rd = 0 ∧ ws = 0 := by omega
        have kg := gone_any w4 p g m bs rd ws hP4
        rw [decide_eq_true hz] at kg
        have b4 := b3.trans (hb4.mono b3s)
        go_wp2_with (go_at_call 21; refine kg.mono ?_; rintro e w5 ⟨rfl, rfl⟩)
        go_ret
        exact ⟨rfl, b4⟩
      simp only [Int.toNat_natCast] at hQ
      have hP4 := hP3.below hb4
      have b4 := b3.trans (hb4.mono b3s)
      have hqw : w.heap.size ≤ q := Nat.le_trans b3s hq3
      have hhw : w.heap.size ≤ h := Nat.le_trans b3s hh3
      have hn1 : q ≠ p := by omega
      have hn2 : q ≠ g := by omega
      have hn3 : h ≠ p := by omega
      have hn4 : h ≠ g := by omega
      clear hr3 hb4 hP3 hq3 hh3 hp3 b3 b3s hcap h64r h64w
      go_wp2_with fail
      go_loopw [92] (fun i wld => ∃ (k : Nat) (bs : List Int) (rd ws : Nat), i = .int .i64 (k : Int) ∧ k ≤ l2 ∧ IsPipe wld p g m bs rd ws ∧ IsPipe wld q h m bs rd ws ∧ Below w.heap.size w wld) (fun i _ => l2 - (intOf i).toNat)
      case atStart => exact ⟨0, _, _, _, rfl, Nat.zero_le _, hP4, hQ, b4⟩
      case round =>
        clear hP4 hQ b4
        obtain ⟨k, bs, rd, ws, rfl, hk, hPr, hQr, hbr⟩ := hrel
        by_cases hlt : k < l2
        · have t3 : decide ((k : Int) < (l2 : Int)) = true := by simp; omega
          obtain ⟨hol, h0 | ⟨b, off, rfl, hbl, h3, h4, hc⟩⟩ := h2.below hbr
          · omega
          obtain ⟨x1, x2, x3, x4, ho⟩ := hc k (by omega)
          have hol3 := hk2 _ (List.getElem_mem (by omega : k < o2.length))
          obtain ⟨o, he⟩ : ∃ o, o = o2[k] := ⟨_, rfl⟩
          rw [← he] at x1 x2 x3 x4 ho hol3
          have hgo : ∀ b, blockOf (.slice o.a o.len o.cap) b → ¬ (b = p ∨ b = g) := fun b h e => by have := ho.row.lt b h; rcases e with e | e <;> omega
          have hgo1 : ¬ blockOf (.slice o.a o.len o.cap) g := fun h => hgo g h (.inr rfl)
          have hho1 : ¬ blockOf (.slice o.a o.len o.cap) h := fun hx => by have := ho.row.lt h hx; omega
          have ho' : IsOp wr.heap.size wr o := ⟨ho.row.mono hbr.size, ho.k1, ho.k2, ho.n1, ho.n2⟩
          clear hc he
          go_wp2_with (go_at_call 16; refine (act_any _ p g m bs rd ws o hPr ho' hgo1 hol3).mono ?_; rintro e w3 ⟨rfl, hP3, hw3⟩; refine held ?_)
          unfold Held
          have b3 := hbr.trans (below_of_wrS hw3 (fun b hb h => by rcases h with h | h <;> omega) hbr.size)
          have hQ3 : IsPipe w3 q h m bs rd ws := hQr.same (hw3.block q hQr.lt.1 (fun e => by rcases e with e | e <;> omega)) (hw3.block h hQr.lt.2 (fun e => by rcases e with e | e <;> omega))
          have ho3 : IsOp w3.heap.size w3 o := ho'.wr hw3 hgo
          have z1 : w3.cell? ⟨b, off + k * 4, none⟩ = some (.int .i64 o.k) := cell_same (p := ⟨b, _, none⟩) (hw3.block b (by have := hbr.size; show b < wr.heap.size; omega) (fun e => by rcases e with e | e <;> omega)) x1
          have z2 : w3.cell? ⟨b, off + k * 4 + 1, none⟩ = some (.slice o.a o.len o.cap) := cell_same (p := ⟨b, _, none⟩) (hw3.block b (by have := hbr.size; show b < wr.heap.size; omega) (fun e => by rcases e with e | e <;> omega)) x2
          have z3 : w3.cell? ⟨b, off + k * 4 + 2, none⟩ = some (.int .i64 o.n) := cell_same (p := ⟨b, _, none⟩) (hw3.block b (by have := hbr.size; show b < wr.heap.size; omega) (fun e => by rcases e with e | e <;> omega)) x3
          have z4 : w3.cell? ⟨b, off + k * 4 + 3, none⟩ = some (.bool o.w) := cell_same (p := ⟨b, _, none⟩) (hw3.block b (by have := hbr.size; show b < wr.heap.size; omega) (fun e => by rcases e with e | e <;> omega)) x4
          obtain ⟨A, hA⟩ : ∃ A, A = actA m bs rd ws o := ⟨_, rfl⟩
          obtain ⟨B, hB⟩ : ∃ B, B = actB m bs rd ws o := ⟨_, rfl⟩
          obtain ⟨E, hE⟩ : ∃ E, E = actE m bs rd ws o := ⟨_, rfl⟩
          have kq := act_any w3 q h m bs rd ws o hQ3 ho3 hho1 hol3
          rw [← hA, ← hB, ← hE] at kq ⊢
          obtain ⟨bs2, hbs2⟩ : ∃ bs2, bs2 = actBs m bs rd ws o := ⟨_, rfl⟩
          obtain ⟨rd2, hrd2⟩ : ∃ rd2, rd2 = actRd rd ws o := ⟨_, rfl⟩
          obtain ⟨ws2, hws2⟩ : ∃ ws2, ws2 = actWr rd ws o := ⟨_, rfl⟩
          rw [← hbs2, ← hrd2, ← hws2] at kq hP3
          clear hA hB hE hbs2 hrd2 hws2 x1 x2 x3 x4
          go_wp2_with (go_at_call 16; refine kq.mono ?_; rintro e w4 ⟨rfl, hQ4, hw4⟩; refine held ?_)
          unfold Held
          have b4 := b3.trans (below_of_wrS hw4 (fun b hb h => by rcases h with h | h <;> omega) b3.size)
          have hP4 : IsPipe w4 p g m bs2 rd2 ws2 := hP3.same (hw4.block p hP3.lt.1 (fun e => by rcases e with e | e <;> omega)) (hw4.block g hP3.lt.2 (fun e => by rcases e with e | e <;> omega))
          clear kq z1 z2 z3 z4 hw3 hw4 hQ3 hP3 ho3 b3
          go_wp2_with (go_at_call 23; refine (ready_any w4 p g m bs2 rd2 ws2 hP4 true).mono ?_; rintro e w5 ⟨rfl, hb5⟩; refine held ?_)
          unfold Held
          have hP5 := hP4.below hb5
          have hQ5 := hQ4.below hb5
          have b5 := b4.trans (hb5.mono b4.size)
          obtain ⟨R1, hR1⟩ : ∃ R1, R1 = (decide (0 < cnt rd2 ws2 true) && !waitsB m bs2 rd2 ws2 true) := ⟨_, rfl⟩
          obtain ⟨R0, hR0⟩ : ∃ R0, R0 = (decide (0 < cnt rd2 ws2 false) && !waitsB m bs2 rd2 ws2 false) := ⟨_, rfl⟩
          have kq := ready_any w5 q h m bs2 rd2 ws2 hQ5 true
          rw [← hR1] at kq ⊢
          have kp0 := fun (W : World) hW => ready_any W p g m bs2 rd2 ws2 hW false
          have kq0 := fun (W : World) hW => ready_any W q h m bs2 rd2 ws2 hW false
          rw [← hR0] at kp0 kq0
          clear hR1 hR0 hb5 hP4 hQ4 b4
          go_wp2_with (go_at_call 23; refine kq.mono ?_; rintro e w6 ⟨rfl, hb6⟩; refine held ?_)
          unfold Held
          have hP6 := hP5.below hb6
          have hQ6 := hQ5.below hb6
          have b6 := b5.trans (hb6.mono b5.size)
          clear hb6 hP5 hQ5 b5 kq
          go_wp2_with (go_at_call 23; refine (kp0 w6 hP6).mono ?_; rintro e w7 ⟨rfl, hb7⟩; refine held ?_)
          unfold Held
          have hP7 := hP6.below hb7
          have hQ7 := hQ6.below hb7
          have b7 := b6.trans (hb7.mono b6.size)
          clear hb7 hP6 hQ6 b6 kp0
          go_wp2_with (go_at_call 23; refine (kq0 w7 hQ7).mono ?_; rintro e w8 ⟨rfl, hb8⟩; refine held ?_)
          unfold Held
          have hP8 := hP7.below hb8
          have hQ8 := hQ7.below hb8
          have b8 := b7.trans (hb8.mono b7.size)
          clear hb8 hP7 hQ7 b7 kq0
          go_wp2_with fail
          go_roundw
          case rel => exact ⟨k + 1, bs2, rd2, ws2, by go_num, by omega, hP8, hQ8, b8⟩
          case measure => simp [intOf]; omega
        · have t3 : decide ((k : Int) < (l2 : Int)) = false := by simp; omega
          go_upto_region 23 with fail
          have hbw := hbr.size
          refine wp_region_anyV Grows (by kernel_rfl) 25 rfl ?_
          first
            | (refine anyV_val 0 (Grows.pre) rfl (by kernel_rfl) (by kernel_rfl) (by kernel_rfl) (by rfl) (v := ?av1) (fun W hW => ?ay1) (fun K hK => ?ar1); case ay1 => (go_simp; first | done | rfl))
            | refine anyV_skip 0 (Grows.pre) rfl (by kernel_rfl) (by kernel_rfl) (by kernel_rfl) (by rfl) (fun K hK => ?_)
          go_simp
          refine hK _ ?_
          clear hK K
          first
            | (refine anyV_val 1 (Grows.pre) rfl (by kernel_rfl) (by kernel_rfl) (by kernel_rfl) (by rfl) (v := ?av2) (fun W hW => ?ay2) (fun K hK => ?ar2); case ay2 => (go_simp; first | done | rfl))
            | refine anyV_skip 1 (Grows.pre) rfl (by kernel_rfl) (by kernel_rfl) (by kernel_rfl) (by rfl) (fun K hK => ?_)
          go_simp
          refine hK _ ?_
          clear hK K
          first
            | (refine anyV_val 2 (Grows.pre) rfl (by kernel_rfl) (by kernel_rfl) (by kernel_rfl) (by rfl) (v := ?av3) (fun W hW => ?ay3) (fun K hK => ?ar3); case ay3 => (go_simp; first | done | rfl))
            | refine anyV_skip 2 (Grows.pre) rfl (by kernel_rfl) (by kernel_rfl) (by kernel_rfl) (by rfl) (fun K hK => ?_)
          go_simp
          refine hK _ ?_
          clear hK K
          first
            | (refine anyV_val 5 (Grows.pre) rfl (by kernel_rfl) (by kernel_rfl) (by kernel_rfl) (by rfl) (v := ?av4) (fun W hW => ?ay4) (fun K hK => ?ar4); case ay4 => (go_simp; first | done | rfl))
            | refine anyV_skip 5 (Grows.pre) rfl (by kernel_rfl) (by kernel_rfl) (by kernel_rfl) (by rfl) (fun K hK => ?_)
          go_simp
          refine hK _ ?_
          clear hK K
          refine anyV_only 3 rfl (by kernel_rfl) (by rfl) (fun K hK => ?_)
          go_simp
          refine (pall_any wr.drew p g m bs rd ws (hPr.same rfl rfl)).mono ?_
          rintro e w3 ⟨⟨v, rfl, hv, _⟩, hb3⟩
          have cv : ∀ W, Grows w3 W → (convert 22 9 v).run Try.prog W = .ok (.string (strOfNums bs)) W := fun W hW => OwnBytes.conv (ownsRow_same hv fun b hb => hW.block b (hv.lt b hb).2)
          have hP3 : IsPipe w3 p g m bs rd ws := (hPr.same rfl rfl : IsPipe wr.drew p g m bs rd ws).below hb3
          have hQ3 : IsPipe w3 q h m bs rd ws := (hQr.same rfl rfl : IsPipe wr.drew q h m bs rd ws).below hb3
          refine ⟨_, rfl, hK _ _ hb3 ?_⟩
          clear hK K
          refine anyV_frame (fun K hK => ?_)
          go_simp
          refine hK _ ?_
          clear hK K
          first
            | (refine anyV_val 4 (Grows.pre) rfl (by kernel_rfl) (by kernel_rfl) (by kernel_rfl) (by rfl) (v := ?av5) (fun W hW => ?ay5) (fun K hK => ?ar5); case ay5 => (go_simp; first | done | rfl))
            | refine anyV_skip 4 (Grows.pre) rfl (by kernel_rfl) (by kernel_rfl) (by kernel_rfl) (by rfl) (fun K hK => ?_)
          go_simp
          refine hK _ ?_
          clear hK K
          refine anyV_only 6 rfl (by kernel_rfl) (by rfl) (fun K hK => ?_)
          go_simp
          refine (pall_any w3 q h m bs rd ws hQ3).mono ?_
          rintro e w4 ⟨⟨v4, rfl, hv4, _⟩, hb4⟩
          have cv4 : ∀ W, Grows w4 W → (convert 22 9 v4).run Try.prog W = .ok (.string (strOfNums bs)) W := fun W hW => OwnBytes.conv (ownsRow_same hv4 fun b hb => hW.block b (hv4.lt b hb).2)
          have hP4 := hP3.below hb4
          have hQ4 := hQ3.below hb4
          refine ⟨_, rfl, hK _ _ hb4 ?_⟩
          clear hK K
          refine anyV_frame (fun K hK => ?_)
          go_simp
          refine hK _ ?_
          clear hK K
          first
            | (refine anyV_val 7 (Grows.pre) rfl (by kernel_rfl) (by kernel_rfl) (by kernel_rfl) (by rfl) (v := ?av6) (fun W hW => ?ay6) (fun K hK => ?ar6); case ay6 => (go_simp; first | done | rfl))
            | refine anyV_skip 7 (Grows.pre) rfl (by kernel_rfl) (by kernel_rfl) (by kernel_rfl) (by rfl) (fun K hK => ?_)
          go_simp
          refine hK _ ?_
          clear hK K
          first
            | (refine anyV_val 8 (Grows.pre) rfl (by kernel_rfl) (by kernel_rfl) (by kernel_rfl) (by rfl) (v := ?av7) (fun W hW => ?ay7) (fun K hK => ?ar7); case ay7 => (go_simp; first | done | rfl))
            | refine anyV_skip 8 (Grows.pre) rfl (by kernel_rfl) (by kernel_rfl) (by kernel_rfl) (by rfl) (fun K hK => ?_)
          go_simp
          refine hK _ ?_
          clear hK K
          first
            | (refine anyV_val 9 (Grows.pre) rfl (by kernel_rfl) (by kernel_rfl) (by kernel_rfl) (by rfl) (v := ?av8) (fun W hW => ?ay8) (fun K hK => ?ar8); case ay8 => (go_simp; first | done | rfl))
            | refine anyV_skip 9 (Grows.pre) rfl (by kernel_rfl) (by kernel_rfl) (by kernel_rfl) (by rfl) (fun K hK => ?_)
          go_simp
          refine hK _ ?_
          clear hK K
          first
            | (refine anyV_val 10 (Grows.pre) rfl (by kernel_rfl) (by kernel_rfl) (by kernel_rfl) (by rfl) (v := ?av9) (fun W hW => ?ay9) (fun K hK => ?ar9); case ay9 => (go_simp; first | done | rfl))
            | refine anyV_skip 10 (Grows.pre) rfl (by kernel_rfl) (by kernel_rfl) (by kernel_rfl) (by rfl) (fun K hK => ?_)
          go_simp
          refine hK _ ?_
          clear hK K
          first
            | (refine anyV_val 11 (Grows.pre) rfl (by kernel_rfl) (by kernel_rfl) (by kernel_rfl) (by rfl) (v := ?av10) (fun W hW => ?ay10) (fun K hK => ?ar10); case ay10 => (go_simp; first | done | rfl))
            | refine anyV_skip 11 (Grows.pre) rfl (by kernel_rfl) (by kernel_rfl) (by kernel_rfl) (by rfl) (fun K hK => ?_)
          go_simp
          refine hK _ ?_
          clear hK K
          first
            | (refine anyV_val 13 (Grows.pre) rfl (by kernel_rfl) (by kernel_rfl) (by kernel_rfl) (by rfl) (v := ?av11) (fun W hW => ?ay11) (fun K hK => ?ar11); case ay11 => (go_simp; first | done | rfl))
            | refine anyV_skip 13 (Grows.pre) rfl (by kernel_rfl) (by kernel_rfl) (by kernel_rfl) (by rfl) (fun K hK => ?_)
          go_simp
          refine hK _ ?_
          clear hK K
          refine anyV_only 12 rfl (by kernel_rfl) (by rfl) (fun K hK => ?_)
          go_simp
          refine (readers_any w4 p g m bs rd ws hP4).mono ?_
          rintro e w5 ⟨rfl, rfl⟩
          refine ⟨_, rfl, hK _ _ (Grows.pre.refl _) ?_⟩
          clear hK K
          refine anyV_frame (fun K hK => ?_)
          go_simp
          refine hK _ ?_
          clear hK K
          refine anyV_only 14 rfl (by kernel_rfl) (by rfl) (fun K hK => ?_)
          go_simp
          refine (readers_any w4 q h m bs rd ws hQ4).mono ?_
          rintro e w5 ⟨rfl, rfl⟩
          refine ⟨_, rfl, hK _ _ (Grows.pre.refl _) ?_⟩
          clear hK K
          refine anyV_frame (fun K hK => ?_)
          go_simp
          refine hK _ ?_
          clear hK K
          first
            | (refine anyV_val 15 (Grows.pre) rfl (by kernel_rfl) (by kernel_rfl) (by kernel_rfl) (by rfl) (v := ?av12) (fun W hW => ?ay12) (fun K hK => ?ar12); case ay12 => (go_simp; first | done | rfl))
            | refine anyV_skip 15 (Grows.pre) rfl (by kernel_rfl) (by kernel_rfl) (by kernel_rfl) (by rfl) (fun K hK => ?_)
          go_simp
          refine hK _ ?_
          clear hK K
          first
            | (refine anyV_val 16 (Grows.pre) rfl (by kernel_rfl) (by kernel_rfl) (by kernel_rfl) (by rfl) (v := ?av13) (fun W hW => ?ay13) (fun K hK => ?ar13); case ay13 => (go_simp; first | done | rfl))
            | refine anyV_skip 16 (Grows.pre) rfl (by kernel_rfl) (by kernel_rfl) (by kernel_rfl) (by rfl) (fun K hK => ?_)
          go_simp
          refine hK _ ?_
          clear hK K
          first
            | (refine anyV_val 17 (Grows.pre) rfl (by kernel_rfl) (by kernel_rfl) (by kernel_rfl) (by rfl) (v := ?av14) (fun W hW => ?ay14) (fun K hK => ?ar14); case ay14 => (go_simp; first | done | rfl))
            | refine anyV_skip 17 (Grows.pre) rfl (by kernel_rfl) (by kernel_rfl) (by kernel_rfl) (by rfl) (fun K hK => ?_)
          go_simp
          refine hK _ ?_
          clear hK K
          first
            | (refine anyV_val 18 (Grows.pre) rfl (by kernel_rfl) (by kernel_rfl) (by kernel_rfl) (by rfl) (v := ?av15) (fun W hW => ?ay15) (fun K hK => ?ar15); case ay15 => (go_simp; first | done | rfl))
            | refine anyV_skip 18 (Grows.pre) rfl (by kernel_rfl) (by kernel_rfl) (by kernel_rfl) (by rfl) (fun K hK => ?_)
          go_simp
          refine hK _ ?_
          clear hK K
          first
            | (refine anyV_val 20 (Grows.pre) rfl (by kernel_rfl) (by kernel_rfl) (by kernel_rfl) (by rfl) (v := ?av16) (fun W hW => ?ay16) (fun K hK => ?ar16); case ay16 => (go_simp; first | done | rfl))
            | refine anyV_skip 20 (Grows.pre) rfl (by kernel_rfl) (by kernel_rfl) (by kernel_rfl) (by rfl) (fun K hK => ?_)
          go_simp
          refine hK _ ?_
          clear hK K
          refine anyV_only 19 rfl (by kernel_rfl) (by rfl) (fun K hK => ?_)
          go_simp
          refine (writers_any w4 p g m bs rd ws hP4).mono ?_
          rintro e w5 ⟨rfl, rfl⟩
          refine ⟨_, rfl, hK _ _ (Grows.pre.refl _) ?_⟩
          clear hK K
          refine anyV_frame (fun K hK => ?_)
          go_simp
          refine hK _ ?_
          clear hK K
          refine anyV_only 21 rfl (by kernel_rfl) (by rfl) (fun K hK => ?_)
          go_simp
          refine (writers_any w4 q h m bs rd ws hQ4).mono ?_
          rintro e w5 ⟨rfl, rfl⟩
          refine ⟨_, rfl, hK _ _ (Grows.pre.refl _) ?_⟩
          clear hK K
          refine anyV_frame (fun K hK => ?_)
          go_simp
          refine hK _ ?_
          clear hK K
          first
            | (refine anyV_val 22 (Grows.pre) rfl (by kernel_rfl) (by kernel_rfl) (by kernel_rfl) (by rfl) (v := ?av17) (fun W hW => ?ay17) (fun K hK => ?ar17); case ay17 => (go_simp; first | done | rfl))
            | refine anyV_skip 22 (Grows.pre) rfl (by kernel_rfl) (by kernel_rfl) (by kernel_rfl) (by rfl) (fun K hK => ?_)
          go_simp
          refine hK _ ?_
          clear hK K
          first
            | (refine anyV_val 23 (Grows.pre) rfl (by kernel_rfl) (by kernel_rfl) (by kernel_rfl) (by rfl) (v := ?av18) (fun W hW => ?ay18) (fun K hK => ?ar18); case ay18 => (go_simp; first | done | rfl))
            | refine anyV_skip 23 (Grows.pre) rfl (by kernel_rfl) (by kernel_rfl) (by kernel_rfl) (by rfl) (fun K hK => ?_)
          go_simp
          refine hK _ ?_
          clear hK K
          first
            | (refine anyV_val 24 (Grows.pre) rfl (by kernel_rfl) (by kernel_rfl) (by kernel_rfl) (by rfl) (v := ?av19) (fun W hW => ?ay19) (fun K hK => ?ar19); case ay19 => (go_simp; first | done | rfl))
            | refine anyV_skip 24 (Grows.pre) rfl (by kernel_rfl) (by kernel_rfl) (by kernel_rfl) (by rfl) (fun K hK => ?_)
          go_simp
          refine hK _ ?_
          clear hK K
          refine anyV_done (by kernel_rfl) ?_
          have b4 : Below w.heap.size w w4 := (hbr.trans (below_undrew (hb3.mono hbw))).trans (hb4.mono (Nat.le_trans hbw hb3.size))
          clear cv cv4
          go_wp2_with fail
          go_ret
          exact ⟨rfl, b4⟩
end Go.Proofs.Ytcmcilfopkhipaa
