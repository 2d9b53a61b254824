/- The walk of the law RingPlace. -/
import Derived.Test.YtdnbinjinpnnmaaRingOps
import Derived.Deep.Cut
namespace Go.Proofs.Ytdnbinjinpnnmaa
open Go Go.RowKit
attribute [local go_sem] upV_value upV_skip upV_enter
set_option linter.unusedVariables false
set_option linter.unnecessarySimpa false
set_option maxRecDepth 100000 in
set_option maxHeartbeats 4000000 in
theorem ringPlace_any (w : World) (c : Int) (hc0 : 0 ≤ c) (hc1 : c ≤ 255) (a1 : Option Addr) (l1 c1 : Nat) (o1 : List OpV) (a2 : Option Addr) (l2 c2 : Nat) (o2 : List OpV) (h1 : IsOps w.heap.size w a1 l1 c1 o1) (h2 : IsOps w.heap.size w a2 l2 c2 o2) :
    Calls Try.prog 5 #[.int .u8 c, .slice a1 l1 c1, .slice a2 l2 c2] w fun e w' => e = .returned (.bool true) ∧ Below w.heap.size w w' := by
  obtain ⟨m, hm⟩ : ∃ m : Nat, 1 + c % 64 = (m : Int) := ⟨(1 + c % 64).toNat, by omega⟩
  have hm1 : 1 ≤ m := by omega
  have hm2 : m ≤ 64 := by omega
  have s1 := h1.small
  have s2 := h2.small
  go_enter Try.func5, Try.ntmps5
  go_wp2_with (first
    | (go_at_call 8; refine (alive_any w).mono ?_; rintro e w1 ⟨rfl, b1⟩)
    | (go_at_call 16; refine held ?_))
  unfold Held
  refine (great_any _ w1 a1 l1 c1 o1 (h1.below b1)).mono ?_
  rintro e w2 ⟨rfl, ⟨rfl, hl1, hk1⟩ | rfl⟩
  rotate_left
  · go_wp2
    go_ret
    exact ⟨rfl, b1⟩
  go_wp2_with (go_at_call 16; refine held ?_)
  unfold Held
  refine (great_any _ w1 a2 l2 c2 o2 (h2.below b1)).mono ?_
  rintro e w2 ⟨rfl, ⟨rfl, hl2, hk2⟩ | rfl⟩
  rotate_left
  · go_wp2
    go_ret
    exact ⟨rfl, b1⟩
  go_wp2_with (go_at_call 9; refine held ?_)
  unfold Held
  have hy := new_yes (m : Int) w1 (by omega) (by omega)
  have hI := IsRing.new w1 m hm1 hm2
  obtain ⟨W1, hW1⟩ : ∃ W1, W1 = w1.alloc (.cells (ringCells (fun _ => 0) (m : Int) 0 0) 50) := ⟨_, rfl⟩
  rw [← hW1] at hI hy
  have b2 : Below w.heap.size w W1 := by rw [hW1]; exact b1.alloc b1.size _
  have hgw := b1.size
  obtain ⟨g, hg⟩ : ∃ g, g = w1.heap.size := ⟨_, rfl⟩
  rw [← hg] at hI hy hgw
  clear hW1 hg b1
  refine hy.mono ?_
  rintro e W2 ⟨rfl, rfl⟩
  clear hy
  go_wp2_with fail
  go_loopw [44] (fun i wr => ∃ (k : Nat) (bs : List Int), i = .int .i64 (k : Int) ∧ k ≤ l1 ∧ IsRing wr g m bs ∧ Below w.heap.size w wr) (fun i _ => l1 - (intOf i).toNat)
  case atStart => exact ⟨0, [], rfl, Nat.zero_le _, hI, b2⟩
  case round =>
    obtain ⟨k, bs, rfl, hk, hIr, hbr⟩ := hrel
    by_cases hlt : k < l1
    · have t3 : decide ((k : Int) < (l1 : Int)) = true := by simp; omega
      obtain ⟨hol, h0 | ⟨b, off, rfl, hbl, h3, h4, hc⟩⟩ := h1.below hbr
      · omega
      obtain ⟨x1, x2, x3, ho⟩ := hc k (by omega)
      have hol3 := hk1 _ (List.getElem_mem (by omega : k < o1.length))
      obtain ⟨o, he⟩ : ∃ o, o = o1[k] := ⟨_, rfl⟩
      rw [← he] at x1 x2 x3 ho hol3
      have hgo : ¬ blockOf (.slice o.a o.len o.cap) g := fun h => by have := ho.row.lt g h; omega
      have ho' : IsOp wr.heap.size wr o := ⟨ho.row.mono hbr.size, ho.k1, ho.k2, ho.n1, ho.n2⟩
      clear hc he
      go_wp2_with (go_at_call 17; refine (act_any wr g m bs o hIr ho' hgo hol3).mono ?_; rintro e w3 ⟨rfl, hI3, hw3⟩)
      have b3 := hbr.trans (below_of_wr hw3 hgw hbr.size)
      go_roundw
      case rel => exact ⟨k + 1, _, by go_num, by omega, hI3, b3⟩
      case measure => simp [intOf]; omega
    · have t3 : decide ((k : Int) < (l1 : Int)) = false := by simp; omega
      go_wp2_with (go_at_call 15; refine held ?_)
      unfold Held
      refine (all_ring wr g m bs hIr).mono ?_
      rintro e w3 ⟨⟨v, rfl, ho, _⟩, hb3⟩
      have hI3 := hIr.below hIr.lt hb3
      have b3 := hbr.trans (hb3.mono hbr.size)
      have hml := hIr.most_le
      have hr3 : Row8 w3.heap.size w3 v bs := ⟨(RowI.of_own ho).2, hIr.bytes⟩
      obtain ⟨va, vc, rfl, _⟩ := ownsRow_slice ho
      go_wp2_with (go_at_call 20; refine held ?_)
      unfold Held
      refine (of_ring (m : Int) va bs.length vc bs w3 hr3 (by omega)).mono ?_
      rintro e w4 ⟨hb4, ⟨_, _, _, rfl, hq4⟩ | ⟨hno, _⟩⟩
      rotate_left
      · exact absurd ⟨by omega, by omega, by omega⟩ hno
      rw [Int.toNat_natCast] at hq4
      have hI4 := hI3.below hI3.lt hb4
      have b4 := b3.trans (hb4.mono b3.size)
      have hgq : g < w3.heap.size := hI3.lt
      have hqw := b3.size
      obtain ⟨q, hq⟩ : ∃ q, q = w3.heap.size := ⟨_, rfl⟩
      rw [← hq] at hq4 hgq hqw
      rw [← hq]
      clear hq hr3 ho hb3 hb4 hI3 b3 hI b2
      go_wp2_with fail
      go_loopw [65] (fun i wr => ∃ (k : Nat) (bs : List Int), i = .int .i64 (k : Int) ∧ k ≤ l2 ∧ IsRing wr g m bs ∧ IsRing wr q m bs ∧ Below w.heap.size w wr) (fun i _ => l2 - (intOf i).toNat)
      case atStart => exact ⟨0, bs, rfl, Nat.zero_le _, hI4, hq4, b4⟩
      case round =>
        clear hI4 hq4 hIr hbr hml b4
        obtain ⟨k, bs, rfl, hk, hIr, hQr, hbr⟩ := hrel
        by_cases hlt : k < l2
        · have t3 : decide ((k : Int) < (l2 : Int)) = true := by simp; omega
          obtain ⟨hol, h0 | ⟨b, off, rfl, hbl, h3, h4, hc⟩⟩ := h2.below hbr
          · omega
          obtain ⟨x1, x2, x3, ho⟩ := hc k (by omega)
          have hol3 := hk2 _ (List.getElem_mem (by omega : k < o2.length))
          obtain ⟨o, he⟩ : ∃ o, o = o2[k] := ⟨_, rfl⟩
          rw [← he] at x1 x2 x3 ho hol3
          have hgo : ¬ blockOf (.slice o.a o.len o.cap) g := fun h => by have := ho.row.lt g h; omega
          have hqo : ¬ blockOf (.slice o.a o.len o.cap) q := fun h => by have := ho.row.lt q h; omega
          clear hc he
          have ho' : IsOp wr.heap.size wr o := ⟨ho.row.mono hbr.size, ho.k1, ho.k2, ho.n1, ho.n2⟩
          go_upto_region 19 with fail
          obtain ⟨S, hS⟩ : ∃ S : Nat → Prop, S = fun b => b = g ∨ b = q := ⟨_, rfl⟩
          have hSb : ∀ b, b < w.heap.size → ¬ S b := fun b hb h => by rw [hS] at h; rcases h with h | h <;> omega
          have hcells : ∀ W, GrowsBut S wr.drew W → W.cell? ⟨b, off + k * 3, none⟩ = some (.int .i64 o.k) ∧ W.cell? ⟨b, off + k * 3 + 1, none⟩ = some (.slice o.a o.len o.cap) ∧ W.cell? ⟨b, off + k * 3 + 2, none⟩ = some (.int .i64 o.n) := fun W hW => by
            have hb := hW.block b (by have := hbr.size; show b < wr.heap.size; omega) (hSb b hbl)
            exact ⟨(cell_same (p := ⟨b, _, none⟩) hb x1), (cell_same (p := ⟨b, _, none⟩) hb x2), (cell_same (p := ⟨b, _, none⟩) hb x3)⟩
          have HC := Lib.hid hcells
          clear hcells
          refine wp_region_anyV (GrowsBut S) (by kernel_rfl) 14 rfl ?_
          first
            | (refine anyV_val 0 (GrowsBut.pre _) rfl (by kernel_rfl) (by kernel_rfl) (by kernel_rfl) (by rfl) (v := ?av1) (fun W hW => ?ay1) (fun K hK => ?ar1); case ay1 => (obtain ⟨y1, y2, y3⟩ := HC W hW; go_simp; first | done | rfl))
            | refine anyV_skip 0 (GrowsBut.pre _) rfl (by kernel_rfl) (by kernel_rfl) (by kernel_rfl) (by rfl) (fun K hK => ?_)
          go_simp
          refine hK _ ?_
          clear hK K
          first
            | (refine anyV_val 1 (GrowsBut.pre _) rfl (by kernel_rfl) (by kernel_rfl) (by kernel_rfl) (by rfl) (v := ?av2) (fun W hW => ?ay2) (fun K hK => ?ar2); case ay2 => (obtain ⟨y1, y2, y3⟩ := HC W hW; go_simp; first | done | rfl))
            | refine anyV_skip 1 (GrowsBut.pre _) rfl (by kernel_rfl) (by kernel_rfl) (by kernel_rfl) (by rfl) (fun K hK => ?_)
          go_simp
          refine hK _ ?_
          clear hK K
          first
            | (refine anyV_val 2 (GrowsBut.pre _) rfl (by kernel_rfl) (by kernel_rfl) (by kernel_rfl) (by rfl) (v := ?av3) (fun W hW => ?ay3) (fun K hK => ?ar3); case ay3 => (obtain ⟨y1, y2, y3⟩ := HC W hW; go_simp; first | done | rfl))
            | refine anyV_skip 2 (GrowsBut.pre _) rfl (by kernel_rfl) (by kernel_rfl) (by kernel_rfl) (by rfl) (fun K hK => ?_)
          go_simp
          refine hK _ ?_
          clear hK K
          first
            | (refine anyV_val 3 (GrowsBut.pre _) rfl (by kernel_rfl) (by kernel_rfl) (by kernel_rfl) (by rfl) (v := ?av4) (fun W hW => ?ay4) (fun K hK => ?ar4); case ay4 => (obtain ⟨y1, y2, y3⟩ := HC W hW; go_simp; first | done | rfl))
            | refine anyV_skip 3 (GrowsBut.pre _) rfl (by kernel_rfl) (by kernel_rfl) (by kernel_rfl) (by rfl) (fun K hK => ?_)
          go_simp
          refine hK _ ?_
          clear hK K
          first
            | (refine anyV_val 4 (GrowsBut.pre _) rfl (by kernel_rfl) (by kernel_rfl) (by kernel_rfl) (by rfl) (v := ?av5) (fun W hW => ?ay5) (fun K hK => ?ar5); case ay5 => (obtain ⟨y1, y2, y3⟩ := HC W hW; go_simp; first | done | rfl))
            | refine anyV_skip 4 (GrowsBut.pre _) rfl (by kernel_rfl) (by kernel_rfl) (by kernel_rfl) (by rfl) (fun K hK => ?_)
          go_simp
          refine hK _ ?_
          clear hK K
          first
            | (refine anyV_val 6 (GrowsBut.pre _) rfl (by kernel_rfl) (by kernel_rfl) (by kernel_rfl) (by rfl) (v := ?av6) (fun W hW => ?ay6) (fun K hK => ?ar6); case ay6 => (obtain ⟨y1, y2, y3⟩ := HC W hW; go_simp; first | done | rfl))
            | refine anyV_skip 6 (GrowsBut.pre _) rfl (by kernel_rfl) (by kernel_rfl) (by kernel_rfl) (by rfl) (fun K hK => ?_)
          go_simp
          refine hK _ ?_
          clear hK K
          first
            | (refine anyV_val 7 (GrowsBut.pre _) rfl (by kernel_rfl) (by kernel_rfl) (by kernel_rfl) (by rfl) (v := ?av7) (fun W hW => ?ay7) (fun K hK => ?ar7); case ay7 => (obtain ⟨y1, y2, y3⟩ := HC W hW; go_simp; first | done | rfl))
            | refine anyV_skip 7 (GrowsBut.pre _) rfl (by kernel_rfl) (by kernel_rfl) (by kernel_rfl) (by rfl) (fun K hK => ?_)
          go_simp
          refine hK _ ?_
          clear hK K
          first
            | (refine anyV_val 8 (GrowsBut.pre _) rfl (by kernel_rfl) (by kernel_rfl) (by kernel_rfl) (by rfl) (v := ?av8) (fun W hW => ?ay8) (fun K hK => ?ar8); case ay8 => (obtain ⟨y1, y2, y3⟩ := HC W hW; go_simp; first | done | rfl))
            | refine anyV_skip 8 (GrowsBut.pre _) rfl (by kernel_rfl) (by kernel_rfl) (by kernel_rfl) (by rfl) (fun K hK => ?_)
          go_simp
          refine hK _ ?_
          clear hK K
          first
            | (refine anyV_val 9 (GrowsBut.pre _) rfl (by kernel_rfl) (by kernel_rfl) (by kernel_rfl) (by rfl) (v := ?av9) (fun W hW => ?ay9) (fun K hK => ?ar9); case ay9 => (obtain ⟨y1, y2, y3⟩ := HC W hW; go_simp; first | done | rfl))
            | refine anyV_skip 9 (GrowsBut.pre _) rfl (by kernel_rfl) (by kernel_rfl) (by kernel_rfl) (by rfl) (fun K hK => ?_)
          go_simp
          refine hK _ ?_
          clear hK K
          first
            | (refine anyV_val 10 (GrowsBut.pre _) rfl (by kernel_rfl) (by kernel_rfl) (by kernel_rfl) (by rfl) (v := ?av10) (fun W hW => ?ay10) (fun K hK => ?ar10); case ay10 => (obtain ⟨y1, y2, y3⟩ := HC W hW; go_simp; first | done | rfl))
            | refine anyV_skip 10 (GrowsBut.pre _) rfl (by kernel_rfl) (by kernel_rfl) (by kernel_rfl) (by rfl) (fun K hK => ?_)
          go_simp
          refine hK _ ?_
          clear hK K
          refine anyV_only 5 rfl (by kernel_rfl) (by rfl) (fun K hK => ?_)
          go_simp
          refine (act_any wr.drew g m bs o (hIr.same rfl) (ho'.below ⟨rfl, rfl, rfl, Nat.le_refl _, fun _ _ => rfl⟩) hgo hol3).mono ?_
          rintro e w3 ⟨rfl, hI3, hw3⟩
          have hw3' : GrowsBut S wr.drew w3 := Wr.widen hw3 (fun b h => by rw [hS]; exact .inl h)
          have hQ3 : IsRing w3 q m bs := hQr.same ((hw3.block q hQr.lt (by omega)))
          have ho3 : IsOp w3.heap.size w3 o := ho'.wr hw3.undrew hgo
          refine ⟨_, rfl, hK _ _ hw3' ?_⟩
          clear hK K
          refine anyV_frame (fun K hK => ?_)
          go_simp
          refine hK _ ?_
          clear hK K
          refine anyV_only 11 rfl (by kernel_rfl) (by rfl) (fun K hK => ?_)
          go_simp
          refine (act_any w3 q m bs o hQ3 ho3 hqo hol3).mono ?_
          rintro e w4 ⟨rfl, hQ4, hw4⟩
          have hw4' : GrowsBut S w3 w4 := Wr.widen hw4 (fun b h => by rw [hS]; exact .inr h)
          have hI4 : IsRing w4 g m (actBs m bs o) := hI3.same (hw4.block g hI3.lt (by omega))
          refine ⟨_, rfl, hK _ _ hw4' ?_⟩
          clear hK K
          refine anyV_frame (fun K hK => ?_)
          go_simp
          refine hK _ ?_
          clear hK K
          first
            | (refine anyV_val 12 (GrowsBut.pre _) rfl (by kernel_rfl) (by kernel_rfl) (by kernel_rfl) (by rfl) (v := ?av11) (fun W hW => ?ay11) (fun K hK => ?ar11); case ay11 => (go_simp; first | done | rfl))
            | refine anyV_skip 12 (GrowsBut.pre _) rfl (by kernel_rfl) (by kernel_rfl) (by kernel_rfl) (by rfl) (fun K hK => ?_)
          go_simp
          refine hK _ ?_
          clear hK K
          first
            | (refine anyV_val 13 (GrowsBut.pre _) rfl (by kernel_rfl) (by kernel_rfl) (by kernel_rfl) (by rfl) (v := ?av12) (fun W hW => ?ay12) (fun K hK => ?ar12); case ay12 => (go_simp; first | done | rfl))
            | refine anyV_skip 13 (GrowsBut.pre _) rfl (by kernel_rfl) (by kernel_rfl) (by kernel_rfl) (by rfl) (fun K hK => ?_)
          go_simp
          refine hK _ ?_
          clear hK K
          refine anyV_done (by kernel_rfl) ?_
          have hwb := hbr.size
          have b4 : Below w.heap.size w w4 := hbr.trans (below_of_wrS (Wr.undrew (Wr.trans hw3' hw4')) hSb hwb)
          clear HC x1 x2 x3
          obtain ⟨bs2, hbs2⟩ : ∃ bs2, bs2 = actBs m bs o := ⟨_, rfl⟩
          rw [← hbs2] at hI4 hQ4
          have hml := hI4.most_le
          have cl := len_ring w4 g m bs2 hI4
          have cr := room_ring w4 g m bs2 hI4
          have cl2 := len_ring w4 q m bs2 hQ4
          have cr2 := room_ring w4 q m bs2 hQ4
          go_wp2_with (first
            | (go_at_call 12; refine cl.mono ?_; rintro e w5 ⟨rfl, rfl⟩)
            | (go_at_call 12; refine cl2.mono ?_; rintro e w5 ⟨rfl, rfl⟩)
            | (go_at_call 13; refine cr.mono ?_; rintro e w5 ⟨rfl, rfl⟩)
            | (go_at_call 13; refine cr2.mono ?_; rintro e w5 ⟨rfl, rfl⟩))
          go_roundw
          case rel => exact ⟨k + 1, bs2, by go_num, by omega, hI4, hQ4, b4⟩
          case measure => simp [intOf]; omega
        · have t3 : decide ((k : Int) < (l2 : Int)) = false := by simp; omega
          go_upto_region 23 with fail
          refine wp_region_anyV Grows (by kernel_rfl) 11 rfl ?_
          first
            | (refine anyV_val 0 (Grows.pre) rfl (by kernel_rfl) (by kernel_rfl) (by kernel_rfl) (by rfl) (v := ?av13) (fun W hW => ?ay13) (fun K hK => ?ar13); case ay13 => (go_simp; first | done | rfl))
            | refine anyV_skip 0 (Grows.pre) rfl (by kernel_rfl) (by kernel_rfl) (by kernel_rfl) (by rfl) (fun K hK => ?_)
          go_simp
          refine hK _ ?_
          clear hK K
          first
            | (refine anyV_val 1 (Grows.pre) rfl (by kernel_rfl) (by kernel_rfl) (by kernel_rfl) (by rfl) (v := ?av14) (fun W hW => ?ay14) (fun K hK => ?ar14); case ay14 => (go_simp; first | done | rfl))
            | refine anyV_skip 1 (Grows.pre) rfl (by kernel_rfl) (by kernel_rfl) (by kernel_rfl) (by rfl) (fun K hK => ?_)
          go_simp
          refine hK _ ?_
          clear hK K
          first
            | (refine anyV_val 2 (Grows.pre) rfl (by kernel_rfl) (by kernel_rfl) (by kernel_rfl) (by rfl) (v := ?av15) (fun W hW => ?ay15) (fun K hK => ?ar15); case ay15 => (go_simp; first | done | rfl))
            | refine anyV_skip 2 (Grows.pre) rfl (by kernel_rfl) (by kernel_rfl) (by kernel_rfl) (by rfl) (fun K hK => ?_)
          go_simp
          refine hK _ ?_
          clear hK K
          first
            | (refine anyV_val 5 (Grows.pre) rfl (by kernel_rfl) (by kernel_rfl) (by kernel_rfl) (by rfl) (v := ?av16) (fun W hW => ?ay16) (fun K hK => ?ar16); case ay16 => (go_simp; first | done | rfl))
            | refine anyV_skip 5 (Grows.pre) rfl (by kernel_rfl) (by kernel_rfl) (by kernel_rfl) (by rfl) (fun K hK => ?_)
          go_simp
          refine hK _ ?_
          clear hK K
          refine anyV_only 3 rfl (by kernel_rfl) (by rfl) (fun K hK => ?_)
          go_simp
          refine (all_ring wr.drew g m bs (hIr.same rfl)).mono ?_
          rintro e w3 ⟨⟨v, rfl, hv, _⟩, hb3⟩
          have cv : ∀ W, Grows w3 W → (convert 22 9 v).run Try.prog W = .ok (.string (strOfNums bs)) W := fun W hW => OwnBytes.conv (ownsRow_same hv fun b hb => hW.block b (hv.lt b hb).2)
          have hQ3 : IsRing w3 q m bs := (hQr.same rfl : IsRing wr.drew q m bs).below hQr.lt hb3
          refine ⟨_, rfl, hK _ _ hb3 ?_⟩
          clear hK K
          refine anyV_frame (fun K hK => ?_)
          go_simp
          refine hK _ ?_
          clear hK K
          first
            | (refine anyV_val 4 (Grows.pre) rfl (by kernel_rfl) (by kernel_rfl) (by kernel_rfl) (by rfl) (v := ?av17) (fun W hW => ?ay17) (fun K hK => ?ar17); case ay17 => (go_simp; first | done | rfl))
            | refine anyV_skip 4 (Grows.pre) rfl (by kernel_rfl) (by kernel_rfl) (by kernel_rfl) (by rfl) (fun K hK => ?_)
          go_simp
          refine hK _ ?_
          clear hK K
          refine anyV_only 6 rfl (by kernel_rfl) (by rfl) (fun K hK => ?_)
          go_simp
          refine (all_ring w3 q m bs hQ3).mono ?_
          rintro e w4 ⟨⟨v4, rfl, hv4, _⟩, hb4⟩
          have cv4 : ∀ W, Grows w4 W → (convert 22 9 v4).run Try.prog W = .ok (.string (strOfNums bs)) W := fun W hW => OwnBytes.conv (ownsRow_same hv4 fun b hb => hW.block b (hv4.lt b hb).2)
          refine ⟨_, rfl, hK _ _ hb4 ?_⟩
          clear hK K
          refine anyV_frame (fun K hK => ?_)
          go_simp
          refine hK _ ?_
          clear hK K
          first
            | (refine anyV_val 7 (Grows.pre) rfl (by kernel_rfl) (by kernel_rfl) (by kernel_rfl) (by rfl) (v := ?av18) (fun W hW => ?ay18) (fun K hK => ?ar18); case ay18 => (go_simp; first | done | rfl))
            | refine anyV_skip 7 (Grows.pre) rfl (by kernel_rfl) (by kernel_rfl) (by kernel_rfl) (by rfl) (fun K hK => ?_)
          go_simp
          refine hK _ ?_
          clear hK K
          first
            | (refine anyV_val 8 (Grows.pre) rfl (by kernel_rfl) (by kernel_rfl) (by kernel_rfl) (by rfl) (v := ?av19) (fun W hW => ?ay19) (fun K hK => ?ar19); case ay19 => (go_simp; first | done | rfl))
            | refine anyV_skip 8 (Grows.pre) rfl (by kernel_rfl) (by kernel_rfl) (by kernel_rfl) (by rfl) (fun K hK => ?_)
          go_simp
          refine hK _ ?_
          clear hK K
          first
            | (refine anyV_val 9 (Grows.pre) rfl (by kernel_rfl) (by kernel_rfl) (by kernel_rfl) (by rfl) (v := ?av20) (fun W hW => ?ay20) (fun K hK => ?ar20); case ay20 => (go_simp; first | done | rfl))
            | refine anyV_skip 9 (Grows.pre) rfl (by kernel_rfl) (by kernel_rfl) (by kernel_rfl) (by rfl) (fun K hK => ?_)
          go_simp
          refine hK _ ?_
          clear hK K
          first
            | (refine anyV_val 10 (Grows.pre) rfl (by kernel_rfl) (by kernel_rfl) (by kernel_rfl) (by rfl) (v := ?av21) (fun W hW => ?ay21) (fun K hK => ?ar21); case ay21 => (go_simp; first | done | rfl))
            | refine anyV_skip 10 (Grows.pre) rfl (by kernel_rfl) (by kernel_rfl) (by kernel_rfl) (by rfl) (fun K hK => ?_)
          go_simp
          refine hK _ ?_
          clear hK K
          refine anyV_done (by kernel_rfl) ?_
          have hwb := hbr.size
          have b4 : Below w.heap.size w w4 := (hbr.trans (below_undrew (hb3.mono hwb))).trans (hb4.mono (Nat.le_trans hwb hb3.size))
          go_wp2_with fail
          go_ret
          exact ⟨rfl, b4⟩
end Go.Proofs.Ytdnbinjinpnnmaa
