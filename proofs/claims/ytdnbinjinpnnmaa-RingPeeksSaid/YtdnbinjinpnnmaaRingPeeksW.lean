/- The walk of the law RingPeeks. -/
import Derived.Test.YtdnbinjinpnnmaaRingOps
import Derived.Deep.Cut
namespace Go.Proofs.Ytdnbinjinpnnmaa
open Go Go.RowKit
attribute [local go_sem] upV_value upV_skip upV_enter
set_option linter.unusedVariables false
set_option linter.unnecessarySimpa false
/-- one call lies in the block xb -/
def XAt (W : World) (xb : Nat) (o : OpV) : Prop := W.heap[xb]? = some (.cells #[.int .i64 o.k, .slice o.a o.len o.cap, .int .i64 o.n] 35 (0, 0))
section
variable {W : World} {xb : Nat} {o : OpV}
theorem XAt.c1 (h : XAt W xb o) : W.cell? ⟨xb, 1, none⟩ = some (.slice o.a o.len o.cap) := by rw [cell_of_row W xb 1 _ _ _ h]; rfl
theorem XAt.c2 (h : XAt W xb o) : W.cell? ⟨xb, 2, none⟩ = some (.int .i64 o.n) := by rw [cell_of_row W xb 2 _ _ _ h]; rfl
theorem XAt.lt (h : XAt W xb o) : xb < W.heap.size := (Array.getElem?_eq_some_iff.1 h).1
theorem XAt.same {B : World} (h : XAt W xb o) (hs : B.heap[xb]? = W.heap[xb]?) : XAt B xb o := hs.trans h
theorem XAt.below {B : World} (h : XAt W xb o) (hb : Below W.heap.size W B) : XAt B xb o := h.same (hb.block _ h.lt)
end
theorem strExtract (zs : List Int) (k : Nat) : (strOfNums zs).extract 0 k = strOfNums (zs.take k) := by
  apply ByteArray.ext
  apply Array.ext'
  rw [ByteArray.data_extract, Array.toList_extract, strOfNums_data, strOfNums_data]
  simp [List.extract]
set_option maxRecDepth 100000 in
set_option maxHeartbeats 4000000 in
theorem ringPeeks_any (w : World) (c : Int) (hc0 : 0 ≤ c) (hc1 : c ≤ 255) (a1 : Option Addr) (l1 c1 : Nat) (o1 : List OpV) (x : OpV) (h1 : IsOps w.heap.size w a1 l1 c1 o1) (h2 : IsOp w.heap.size w x) :
    Calls Try.prog 4 #[.int .u8 c, .slice a1 l1 c1, .agg #[.int .i64 x.k, .slice x.a x.len x.cap, .int .i64 x.n]] w fun e w' => e = .returned (.bool true) ∧ Below w.heap.size w w' := by
  obtain ⟨m, hm⟩ : ∃ m : Nat, 1 + c % 64 = (m : Int) := ⟨(1 + c % 64).toNat, by omega⟩
  have hm1 : 1 ≤ m := by omega
  have hm2 : m ≤ 64 := by omega
  have s1 := h1.small
  obtain ⟨W0, hW0⟩ : ∃ W0, W0 = w.alloc (.cells #[.int .i64 x.k, .slice x.a x.len x.cap, .int .i64 x.n] 35) := ⟨_, rfl⟩
  have hX0 : XAt W0 w.heap.size x := by rw [hW0]; exact World.alloc_heap_new w _
  have b0 : Below w.heap.size w W0 := by rw [hW0]; exact (Below.refl _ w).alloc (Nat.le_refl _) _
  have hxl : x.cap ≤ 9223372036854775807 ∧ x.len ≤ x.cap ∨ x.len = 0 := by
    rcases h2.row.1 with ⟨_, _, h, _⟩ | ⟨_, _, _, h, _, h5, h6, _⟩
    · injection h with e1 e2 e3; exact .inr e2
    · injection h with e1 e2 e3; simp only [maxLen] at h6; left; omega
  go_enter Try.func4, Try.ntmps4
  go_wp2_with (go_at_call 8; refine held ?_)
  unfold Held
  rw [← hW0]
  obtain ⟨xb, hxb⟩ : ∃ xb, xb = w.heap.size := ⟨_, rfl⟩
  rw [← hxb] at hX0 ⊢
  have hxw : w.heap.size ≤ xb := by omega
  clear hW0 hxb
  refine (alive_any W0).mono ?_
  rintro e w1 ⟨rfl, b1⟩
  have hX1 := hX0.below b1
  have b1 := b0.trans (b1.mono b0.size)
  go_wp2_with (go_at_call 16; refine held ?_)
  unfold Held
  refine (great_any _ w1 a1 l1 c1 o1 (h1.below b1)).mono ?_
  rintro e w2 ⟨rfl, ⟨rfl, hl1, hk1⟩ | rfl⟩
  rotate_left
  · go_wp2
    go_ret
    exact ⟨rfl, b1⟩
  have y1 := hX1.c1
  have y2 := hX1.c2
  obtain ⟨xk, xa, xlen, xcap, xs, xn⟩ := x
  simp only at y1 y2 hxl
  by_cases hl : xlen ≤ 300
  rotate_left
  · have t1 : decide ((300 : Int) < (xlen : Int)) = true := by simp; omega
    go_wp2
    go_ret
    exact ⟨rfl, b1⟩
  have t1 : decide ((300 : Int) < (xlen : Int)) = false := by simp; omega
  by_cases hn0 : 0 ≤ xn
  rotate_left
  · have t2 : decide (xn < 0) = true := by simp; omega
    go_wp2
    go_ret
    exact ⟨rfl, b1⟩
  obtain ⟨N, rfl⟩ : ∃ N : Nat, xn = N := ⟨xn.toNat, by omega⟩
  have t2 : decide ((N : Int) < 0) = false := by simp
  by_cases hn3 : N ≤ 300
  rotate_left
  · have t3 : decide ((300 : Int) < (N : Int)) = true := by simp; omega
    go_wp2
    go_ret
    exact ⟨rfl, b1⟩
  have t3 : decide ((300 : Int) < (N : Int)) = false := by simp; omega
  go_wp2_with (go_at_call 9; refine held ?_)
  unfold Held
  have hy := new_yes (m : Int) w1 (by omega) (by omega)
  have hI := IsRing.new w1 m hm1 hm2
  obtain ⟨W1, hW1⟩ : ∃ W1, W1 = w1.alloc (.cells (ringCells (fun _ => 0) (m : Int) 0 0) 50) := ⟨_, rfl⟩
  rw [← hW1] at hI hy
  have b2 : Below w.heap.size w W1 := by rw [hW1]; exact b1.alloc b1.size _
  have hX2 : XAt W1 xb ⟨xk, xa, xlen, xcap, xs, (N : Int)⟩ := by rw [hW1]; exact hX1.same (Below.heap_alloc _ _ _ hX1.lt)
  have hgw := b1.size
  obtain ⟨g, hg⟩ : ∃ g, g = w1.heap.size := ⟨_, rfl⟩
  have hxg : xb < g := by rw [hg]; exact hX1.lt
  rw [← hg] at hI hy hgw
  clear hW1 hg b1 hX1 y1 y2
  refine hy.mono ?_
  rintro e W2 ⟨rfl, rfl⟩
  clear hy
  go_wp2_with fail
  go_loopw [55] (fun i wr => ∃ (k : Nat) (bs : List Int), i = .int .i64 (k : Int) ∧ k ≤ l1 ∧ IsRing wr g m bs ∧ XAt wr xb ⟨xk, xa, xlen, xcap, xs, (N : Int)⟩ ∧ Below w.heap.size w wr) (fun i _ => l1 - (intOf i).toNat)
  case atStart => exact ⟨0, [], rfl, Nat.zero_le _, hI, hX2, b2⟩
  case round =>
    clear hI b2 hX2
    obtain ⟨k, bs, rfl, hk, hIr, hXr, hbr⟩ := hrel
    by_cases hlt : k < l1
    · have t3 : decide ((k : Int) < (l1 : Int)) = true := by simp; omega
      obtain ⟨hol, h0 | ⟨b, off, rfl, hbl, h3, h4, hc⟩⟩ := h1.below hbr
      · omega
      obtain ⟨x1, x2, x3, ho⟩ := hc k (by omega)
      have hol3 := hk1 _ (List.getElem_mem (by omega : k < o1.length))
      obtain ⟨o, he⟩ : ∃ o, o = o1[k] := ⟨_, rfl⟩
      rw [← he] at x1 x2 x3 ho hol3
      have hgo : ¬ blockOf (.slice o.a o.len o.cap) g := fun h => by have := ho.row.lt g h; omega
      have ho' : IsOp wr.heap.size wr o := ⟨ho.row.mono hbr.size, ho.k1, ho.k2, ho.n1, ho.n2⟩
      clear hc he
      go_wp2_with (go_at_call 17; refine (act_any wr g m bs o hIr ho' hgo hol3).mono ?_; rintro e w3 ⟨rfl, hI3, hw3⟩)
      have b3 := hbr.trans (below_of_wr hw3 hgw hbr.size)
      have hX3 := hXr.same (hw3.block xb hXr.lt (by omega))
      go_roundw
      case rel => exact ⟨k + 1, _, by go_num, by omega, hI3, hX3, b3⟩
      case measure => simp [intOf]; omega
    · have t3 : decide ((k : Int) < (l1 : Int)) = false := by simp; omega
      go_upto_region 12 with fail
      have hbw := hbr.size
      refine wp_region_anyV Grows (by kernel_rfl) 7 rfl ?_
      first
        | (refine anyV_val 0 (Grows.pre) rfl (by kernel_rfl) (by kernel_rfl) (by kernel_rfl) (by rfl) (v := ?av1) (fun W hW => ?ay1) (fun K hK => ?ar1); case ay1 => (go_simp; first | done | rfl))
        | refine anyV_skip 0 (Grows.pre) rfl (by kernel_rfl) (by kernel_rfl) (by kernel_rfl) (by rfl) (fun K hK => ?_)
      go_simp
      refine hK _ ?_
      clear hK K
      first
        | (refine anyV_val 3 (Grows.pre) rfl (by kernel_rfl) (by kernel_rfl) (by kernel_rfl) (by rfl) (v := ?av2) (fun W hW => ?ay2) (fun K hK => ?ar2); case ay2 => (go_simp; first | done | rfl))
        | refine anyV_skip 3 (Grows.pre) rfl (by kernel_rfl) (by kernel_rfl) (by kernel_rfl) (by rfl) (fun K hK => ?_)
      go_simp
      refine hK _ ?_
      clear hK K
      refine anyV_only 1 rfl (by kernel_rfl) (by rfl) (fun K hK => ?_)
      go_simp
      refine (all_ring wr.drew g m bs (hIr.same rfl)).mono ?_
      rintro e w3 ⟨⟨v, rfl, hv, _⟩, hb3⟩
      have cv : ∀ W, Grows w3 W → (convert 22 9 v).run Try.prog W = .ok (.string (strOfNums bs)) W := fun W hW => OwnBytes.conv (ownsRow_same hv fun b hb => hW.block b (hv.lt b hb).2)
      have hI3 : IsRing w3 g m bs := (hIr.same rfl : IsRing wr.drew g m bs).below hIr.lt hb3
      have hX3 : XAt w3 xb ⟨xk, xa, xlen, xcap, xs, (N : Int)⟩ := (hXr.same rfl : XAt wr.drew xb _).below hb3
      have b3 : Below w.heap.size w w3 := hbr.trans (below_undrew (hb3.mono hbw))
      refine ⟨_, rfl, hK _ _ hb3 ?_⟩
      clear hK K
      refine anyV_frame (fun K hK => ?_)
      go_simp
      refine hK _ ?_
      clear hK K
      first
        | (refine anyV_val 2 (Grows.pre) rfl (by kernel_rfl) (by kernel_rfl) (by kernel_rfl) (by rfl) (v := ?av3) (fun W hW => ?ay3) (fun K hK => ?ar3); case ay3 => (go_simp; first | done | rfl))
        | refine anyV_skip 2 (Grows.pre) rfl (by kernel_rfl) (by kernel_rfl) (by kernel_rfl) (by rfl) (fun K hK => ?_)
      go_simp
      refine hK _ ?_
      clear hK K
      refine anyV_only 4 rfl (by kernel_rfl) (by rfl) (fun K hK => ?_)
      go_simp
      refine (room_ring w3 g m bs hI3).mono ?_
      rintro e w4 ⟨rfl, rfl⟩
      refine ⟨_, rfl, hK _ _ (Grows.pre.refl _) ?_⟩
      clear hK K
      refine anyV_frame (fun K hK => ?_)
      go_simp
      refine hK _ ?_
      clear hK K
      first
        | (refine anyV_val 5 (Grows.pre) rfl (by kernel_rfl) (by kernel_rfl) (by kernel_rfl) (by rfl) (v := ?av4) (fun W hW => ?ay4) (fun K hK => ?ar4); case ay4 => (go_simp; first | done | rfl))
        | refine anyV_skip 5 (Grows.pre) rfl (by kernel_rfl) (by kernel_rfl) (by kernel_rfl) (by rfl) (fun K hK => ?_)
      go_simp
      refine hK _ ?_
      clear hK K
      first
        | (refine anyV_val 6 (Grows.pre) rfl (by kernel_rfl) (by kernel_rfl) (by kernel_rfl) (by rfl) (v := ?av5) (fun W hW => ?ay5) (fun K hK => ?ar5); case ay5 => (go_simp; first | done | rfl))
        | refine anyV_skip 6 (Grows.pre) rfl (by kernel_rfl) (by kernel_rfl) (by kernel_rfl) (by rfl) (fun K hK => ?_)
      go_simp
      refine hK _ ?_
      clear hK K
      refine anyV_done (by kernel_rfl) ?_
      clear cv hv hb3 hIr hXr hbr hbw
      have hml := hI3.most_le
      have z1 := hX3.c1
      have hrx := (h2.row.below b3).mono b3.size
      have hxc := hrx.1.cap
      have hgx : ¬ blockOf (.slice xa xlen xcap) g := fun h => by have := h2.row.lt g h; omega
      have hxlen : xs.length = xlen := h2.row.1.open.1
      have kw := write_ring w3 g m bs xa xlen xcap xs hI3 hrx hgx (by omega)
      obtain ⟨Rm, hRm⟩ : ∃ Rm, Rm = m - bs.length := ⟨_, rfl⟩
      rw [← hRm] at kw ⊢
      obtain ⟨Q, hQ⟩ : ∃ Q, Q = min xlen Rm := ⟨_, rfl⟩
      rw [← hQ] at kw
      obtain ⟨ys, hys⟩ : ∃ ys, ys = bs ++ xs.take Rm := ⟨_, rfl⟩
      have hys2 : bs ++ xs.take Q = ys := by
        rw [hys, hQ]
        rcases Nat.le_total xlen Rm with h | h
        · rw [Nat.min_eq_left h, List.take_of_length_le (by omega), List.take_of_length_le (by omega)]
        · rw [Nat.min_eq_right h]
      rw [← hys] at kw
      have ha := fun W => strAdd (P := Try.prog) bs (xs.take Q) (by rw [List.length_take]; simp only [maxLen]; omega) W
      rw [hys2] at ha
      have q1 : (if (xlen : Int) < (Rm : Int) then (xlen : Int) else (Rm : Int)) = (Q : Int) := by split <;> omega
      have q2 : (if xlen < Rm then (xlen : Int) else (Rm : Int)) = (Q : Int) := by split <;> omega
      have q3 : (if (Rm : Int) < (xlen : Int) then (Rm : Int) else (xlen : Int)) = (Q : Int) := by split <;> omega
      have q4 : (if Rm < xlen then (Rm : Int) else (xlen : Int)) = (Q : Int) := by split <;> omega
      have hQx : Q ≤ xlen := by omega
      have hRm64 : Rm ≤ 64 := by omega
      obtain ⟨sq, hsq⟩ : ∃ sq, sliced xa 0 Q xcap 1 = .slice sq (Q - 0) (xcap - 0) := ⟨_, rfl⟩
      have hcut := fun W (hb : Below w.heap.size w W) => (((h2.row.below hb).sub 0 Q (Nat.zero_le _) hQx).1)
      rw [hsq] at hcut
      simp only [List.drop_zero, Nat.sub_zero] at hcut hsq
      have HS := Lib.hid (And.intro hys (And.intro hQ hRm))
      have HT := Lib.hid hys2
      clear hys hQ hRm hys2
      go_wp2_with (go_at_call 10; refine kw.mono ?_; rintro e w4 ⟨rfl, hI4, hw4⟩; refine held ?_)
      unfold Held
      have hX4 := hX3.same (hw4.block xb hX3.lt (by omega))
      have b4 := b3.trans (below_of_wr hw4 hgw b3.size)
      have b4w := b4.size
      clear kw hX3 b3 hI3 hw4 hrx z1
      go_upto_region 14 with fail
      have HX := Lib.hid (fun W (hW : Grows w4.drew W) => (hX4.same rfl : XAt w4.drew xb _).below hW)
      have csl : ∀ W, Grows w4.drew W → (convert 22 9 (.slice sq Q xcap)).run Try.prog W = .ok (.string (strOfNums (xs.take Q))) W := fun W hW =>
        convRow (hcut W (b4.trans (below_undrew (Below.mono hW b4w)))).1 22 5 9 Try.underlying22 Try.underlying5 Try.underlying9
      refine wp_region_anyV Grows (by kernel_rfl) 20 rfl ?_
      first
        | (refine anyV_val 0 (Grows.pre) rfl (by kernel_rfl) (by kernel_rfl) (by kernel_rfl) (by rfl) (v := ?av6) (fun W hW => ?ay6) (fun K hK => ?ar6); case ay6 => (have z1 := (HX W hW).c1; go_simp; first | done | rfl))
        | refine anyV_skip 0 (Grows.pre) rfl (by kernel_rfl) (by kernel_rfl) (by kernel_rfl) (by rfl) (fun K hK => ?_)
      go_simp
      refine hK _ ?_
      clear hK K
      first
        | (refine anyV_val 1 (Grows.pre) rfl (by kernel_rfl) (by kernel_rfl) (by kernel_rfl) (by rfl) (v := ?av7) (fun W hW => ?ay7) (fun K hK => ?ar7); case ay7 => (have z1 := (HX W hW).c1; go_simp; first | done | rfl))
        | refine anyV_skip 1 (Grows.pre) rfl (by kernel_rfl) (by kernel_rfl) (by kernel_rfl) (by rfl) (fun K hK => ?_)
      go_simp
      refine hK _ ?_
      clear hK K
      first
        | (refine anyV_val 2 (Grows.pre) rfl (by kernel_rfl) (by kernel_rfl) (by kernel_rfl) (by rfl) (v := ?av8) (fun W hW => ?ay8) (fun K hK => ?ar8); case ay8 => (have z1 := (HX W hW).c1; go_simp; first | done | rfl))
        | refine anyV_skip 2 (Grows.pre) rfl (by kernel_rfl) (by kernel_rfl) (by kernel_rfl) (by rfl) (fun K hK => ?_)
      go_simp
      refine hK _ ?_
      clear hK K
      first
        | (refine anyV_val 3 (Grows.pre) rfl (by kernel_rfl) (by kernel_rfl) (by kernel_rfl) (by rfl) (v := ?av9) (fun W hW => ?ay9) (fun K hK => ?ar9); case ay9 => (have z1 := (HX W hW).c1; go_simp; first | done | rfl))
        | refine anyV_skip 3 (Grows.pre) rfl (by kernel_rfl) (by kernel_rfl) (by kernel_rfl) (by rfl) (fun K hK => ?_)
      go_simp
      refine hK _ ?_
      clear hK K
      first
        | (refine anyV_val 4 (Grows.pre) rfl (by kernel_rfl) (by kernel_rfl) (by kernel_rfl) (by rfl) (v := ?av10) (fun W hW => ?ay10) (fun K hK => ?ar10); case ay10 => (have z1 := (HX W hW).c1; go_simp; first | done | rfl))
        | refine anyV_skip 4 (Grows.pre) rfl (by kernel_rfl) (by kernel_rfl) (by kernel_rfl) (by rfl) (fun K hK => ?_)
      go_simp
      refine hK _ ?_
      clear hK K
      first
        | (refine anyV_val 5 (Grows.pre) rfl (by kernel_rfl) (by kernel_rfl) (by kernel_rfl) (by rfl) (v := ?av11) (fun W hW => ?ay11) (fun K hK => ?ar11); case ay11 => (have z1 := (HX W hW).c1; go_simp; first | done | rfl))
        | refine anyV_skip 5 (Grows.pre) rfl (by kernel_rfl) (by kernel_rfl) (by kernel_rfl) (by rfl) (fun K hK => ?_)
      go_simp
      refine hK _ ?_
      clear hK K
      first
        | (refine anyV_val 6 (Grows.pre) rfl (by kernel_rfl) (by kernel_rfl) (by kernel_rfl) (by rfl) (v := ?av12) (fun W hW => ?ay12) (fun K hK => ?ar12); case ay12 => (have z1 := (HX W hW).c1; go_simp; first | done | rfl))
        | refine anyV_skip 6 (Grows.pre) rfl (by kernel_rfl) (by kernel_rfl) (by kernel_rfl) (by rfl) (fun K hK => ?_)
      go_simp
      refine hK _ ?_
      clear hK K
      first
        | (refine anyV_val 7 (Grows.pre) rfl (by kernel_rfl) (by kernel_rfl) (by kernel_rfl) (by rfl) (v := ?av13) (fun W hW => ?ay13) (fun K hK => ?ar13); case ay13 => (have z1 := (HX W hW).c1; go_simp; first | done | rfl))
        | refine anyV_skip 7 (Grows.pre) rfl (by kernel_rfl) (by kernel_rfl) (by kernel_rfl) (by rfl) (fun K hK => ?_)
      go_simp
      refine hK _ ?_
      clear hK K
      first
        | (refine anyV_val 8 (Grows.pre) rfl (by kernel_rfl) (by kernel_rfl) (by kernel_rfl) (by rfl) (v := ?av14) (fun W hW => ?ay14) (fun K hK => ?ar14); case ay14 => (have z1 := (HX W hW).c1; go_simp; first | done | rfl))
        | refine anyV_skip 8 (Grows.pre) rfl (by kernel_rfl) (by kernel_rfl) (by kernel_rfl) (by rfl) (fun K hK => ?_)
      go_simp
      refine hK _ ?_
      clear hK K
      first
        | (refine anyV_val 11 (Grows.pre) rfl (by kernel_rfl) (by kernel_rfl) (by kernel_rfl) (by rfl) (v := ?av15) (fun W hW => ?ay15) (fun K hK => ?ar15); case ay15 => (have z1 := (HX W hW).c1; go_simp; first | done | rfl))
        | refine anyV_skip 11 (Grows.pre) rfl (by kernel_rfl) (by kernel_rfl) (by kernel_rfl) (by rfl) (fun K hK => ?_)
      go_simp
      refine hK _ ?_
      clear hK K
      first
        | (refine anyV_val 12 (Grows.pre) rfl (by kernel_rfl) (by kernel_rfl) (by kernel_rfl) (by rfl) (v := ?av16) (fun W hW => ?ay16) (fun K hK => ?ar16); case ay16 => (have z1 := (HX W hW).c1; go_simp; first | done | rfl))
        | refine anyV_skip 12 (Grows.pre) rfl (by kernel_rfl) (by kernel_rfl) (by kernel_rfl) (by rfl) (fun K hK => ?_)
      go_simp
      refine hK _ ?_
      clear hK K
      first
        | (refine anyV_val 13 (Grows.pre) rfl (by kernel_rfl) (by kernel_rfl) (by kernel_rfl) (by rfl) (v := ?av17) (fun W hW => ?ay17) (fun K hK => ?ar17); case ay17 => (have z1 := (HX W hW).c1; go_simp; first | done | rfl))
        | refine anyV_skip 13 (Grows.pre) rfl (by kernel_rfl) (by kernel_rfl) (by kernel_rfl) (by rfl) (fun K hK => ?_)
      go_simp
      refine hK _ ?_
      clear hK K
      first
        | (refine anyV_val 14 (Grows.pre) rfl (by kernel_rfl) (by kernel_rfl) (by kernel_rfl) (by rfl) (v := ?av18) (fun W hW => ?ay18) (fun K hK => ?ar18); case ay18 => (have z1 := (HX W hW).c1; go_simp; first | done | rfl))
        | refine anyV_skip 14 (Grows.pre) rfl (by kernel_rfl) (by kernel_rfl) (by kernel_rfl) (by rfl) (fun K hK => ?_)
      go_simp
      refine hK _ ?_
      clear hK K
      refine anyV_val 15 (Grows.pre) rfl (by kernel_rfl) (by kernel_rfl) (by kernel_rfl) (by rfl) (v := .slice sq Q xcap) (fun W hW => ?ay19) (fun K hK => ?ar19)
      case ay19 => (exact exec_slice 22 (.tmp 87) none (some (.tmp 88)) rfl xa xlen xcap 0 Q rfl (.inl ⟨rfl, rfl⟩) (.inr ⟨_, rfl, rfl⟩) (by kernel_rfl) (by kernel_rfl) (Nat.zero_le _) hQx hxc _ hsq)
      go_simp
      refine hK _ ?_
      clear hK K
      first
        | (refine anyV_val 16 (Grows.pre) rfl (by kernel_rfl) (by kernel_rfl) (by kernel_rfl) (by rfl) (v := ?av20) (fun W hW => ?ay20) (fun K hK => ?ar20); case ay20 => (have z1 := (HX W hW).c1; go_simp; first | done | rfl))
        | refine anyV_skip 16 (Grows.pre) rfl (by kernel_rfl) (by kernel_rfl) (by kernel_rfl) (by rfl) (fun K hK => ?_)
      go_simp
      refine hK _ ?_
      clear hK K
      first
        | (refine anyV_val 17 (Grows.pre) rfl (by kernel_rfl) (by kernel_rfl) (by kernel_rfl) (by rfl) (v := ?av21) (fun W hW => ?ay21) (fun K hK => ?ar21); case ay21 => (have z1 := (HX W hW).c1; go_simp; first | done | rfl))
        | refine anyV_skip 17 (Grows.pre) rfl (by kernel_rfl) (by kernel_rfl) (by kernel_rfl) (by rfl) (fun K hK => ?_)
      go_simp
      refine hK _ ?_
      clear hK K
      refine anyV_only 9 rfl (by kernel_rfl) (by rfl) (fun K hK => ?_)
      go_simp
      refine (all_ring w4.drew g m ys (hI4.same rfl)).mono ?_
      rintro e w5 ⟨⟨v, rfl, hv, _⟩, hb5⟩
      have cv : ∀ W, Grows w5 W → (convert 22 9 v).run Try.prog W = .ok (.string (strOfNums ys)) W := fun W hW => OwnBytes.conv (ownsRow_same hv fun b hb => hW.block b (hv.lt b hb).2)
      refine ⟨_, rfl, hK _ _ hb5 ?_⟩
      clear hK K
      refine anyV_frame (fun K hK => ?_)
      go_simp
      refine hK _ ?_
      clear hK K
      first
        | (refine anyV_val 10 (Grows.pre) rfl (by kernel_rfl) (by kernel_rfl) (by kernel_rfl) (by rfl) (v := ?av22) (fun W hW => ?ay22) (fun K hK => ?ar22); case ay22 => (go_simp; first | done | rfl))
        | refine anyV_skip 10 (Grows.pre) rfl (by kernel_rfl) (by kernel_rfl) (by kernel_rfl) (by rfl) (fun K hK => ?_)
      go_simp
      refine hK _ ?_
      clear hK K
      first
        | (refine anyV_val 18 (Grows.pre) rfl (by kernel_rfl) (by kernel_rfl) (by kernel_rfl) (by rfl) (v := ?av23) (fun W hW => ?ay23) (fun K hK => ?ar23); case ay23 => (go_simp; first | done | rfl))
        | refine anyV_skip 18 (Grows.pre) rfl (by kernel_rfl) (by kernel_rfl) (by kernel_rfl) (by rfl) (fun K hK => ?_)
      go_simp
      refine hK _ ?_
      clear hK K
      first
        | (refine anyV_val 19 (Grows.pre) rfl (by kernel_rfl) (by kernel_rfl) (by kernel_rfl) (by rfl) (v := ?av24) (fun W hW => ?ay24) (fun K hK => ?ar24); case ay24 => (go_simp; first | done | rfl))
        | refine anyV_skip 19 (Grows.pre) rfl (by kernel_rfl) (by kernel_rfl) (by kernel_rfl) (by rfl) (fun K hK => ?_)
      go_simp
      refine hK _ ?_
      clear hK K
      refine anyV_done (by kernel_rfl) ?_
      have hI5 : IsRing w5 g m ys := (hI4.same rfl : IsRing w4.drew g m ys).below hI4.lt hb5
      have hX5 := (show ∀ W, Grows w4.drew W → XAt W xb _ from HX) w5 hb5
      have b5 : Below w.heap.size w w5 := b4.trans (below_undrew (hb5.mono b4w))
      clear cv hv hb5 hX4 HX csl b4w b4 hI4 hcut ha hsq q1 q2 q3 q4
      have hml5 := hI5.most_le
      obtain ⟨L, hL⟩ : ∃ L, L = ys.length := ⟨_, rfl⟩
      have hsz : (strOfNums ys).size = L := by rw [strOfNums_size, hL]
      obtain ⟨K, hK⟩ : ∃ K, K = min L N := ⟨_, rfl⟩
      have q1 : (if (L : Int) < (N : Int) then (L : Int) else (N : Int)) = (K : Int) := by split <;> omega
      have q2 : (if L < N then (L : Int) else (N : Int)) = (K : Int) := by split <;> omega
      have q3 : (if (N : Int) < (L : Int) then (N : Int) else (L : Int)) = (K : Int) := by split <;> omega
      have q4 : (if N < L then (N : Int) else (L : Int)) = (K : Int) := by split <;> omega
      have hKL : K ≤ L := by omega
      have hL64 : L ≤ 64 := by omega
      have hex : (strOfNums ys).extract 0 K = strOfNums (ys.take N) := by
        rw [strExtract, hK]
        rcases Nat.le_total L N with h | h
        · rw [Nat.min_eq_left h, List.take_of_length_le (by omega), List.take_of_length_le (by omega)]
        · rw [Nat.min_eq_right h]
      have k16 := all_ring w5 g m ys hI5
      have HL := Lib.hid (And.intro hL hK)
      clear hL hK
      go_wp2_with (go_at_call 15; refine k16.mono ?_; rintro e w6 ⟨⟨v6, rfl, hv6, _⟩, hb6⟩; have cv6 := OwnBytes.conv hv6; refine held ?_)
      unfold Held
      have hI6 := hI5.below hI5.lt hb6
      have hX6 := hX5.below hb6
      have b6 := b5.trans (hb6.mono b5.size)
      have k17 := copy_ring w6 g m ys hI6
      go_wp2_with (go_at_call 18; refine k17.mono ?_; rintro e w7 ⟨rfl, hC7, hb7⟩; refine held ?_)
      unfold Held
      have hI7 := hI6.below hI6.lt hb7
      have hX7 := hX6.below hb7
      have b7 := b6.trans (hb7.mono b6.size)
      have hgh : g < w6.heap.size := hI6.lt
      have hxh : xb < w6.heap.size := hX6.lt
      have hwh := b6.size
      obtain ⟨h, hh⟩ : ∃ h, h = w6.heap.size := ⟨_, rfl⟩
      rw [← hh] at hC7 hgh hxh hwh ⊢
      clear hh k17 hb7 hI6 hX6 b6 cv6 hv6 hb6 k16 hI5 hX5 b5
      have z7 := hX7.c2
      go_wp2_with (go_at_call 19; refine (peek_ring w7 g m ys N hI7).mono ?_; rintro e w8 ⟨⟨v8, rfl, hv8, _⟩, hb8⟩; rw [Int.toNat_natCast] at hv8; have cv8 := OwnBytes.conv hv8; refine held ?_)
      unfold Held
      have hI8 := hI7.below hI7.lt hb8
      have hC8 := hC7.below hC7.lt hb8
      have hX8 := hX7.below hb8
      have b8 := b7.trans (hb8.mono b7.size)
      clear z7 hI7 hC7 hX7 b7 hb8 hv8
      go_wp2_with (go_at_call 15; refine (all_ring w8 g m ys hI8).mono ?_; rintro e w9 ⟨⟨v9, rfl, hv9, _⟩, hb9⟩; have cv9 := OwnBytes.conv hv9; have z9 := (hX8.below hb9).c2; refine held ?_)
      unfold Held
      have hI9 := hI8.below hI8.lt hb9
      have hC9 := hC8.below hC8.lt hb9
      have hX9 := hX8.below hb9
      have b9 := b8.trans (hb9.mono b8.size)
      clear hI8 hC8 hX8 b8 hb9 hv9 cv8
      go_upto_region 21 with fail
      clear z9 cv9 hex hsz q1 q2 q3 q4
      obtain ⟨S, hS⟩ : ∃ S : Nat → Prop, S = fun b => b = g ∨ b = h := ⟨_, rfl⟩
      have hSw : ∀ b, b < w.heap.size → ¬ S b := fun b hb e => by rw [hS] at e; rcases e with e | e <;> omega
      have hSx : ¬ S xb := fun e => by rw [hS] at e; rcases e with e | e <;> omega
      have hgSg : ∀ b, b = g → S b := fun b e => by rw [hS]; exact .inl e
      have hgSh : ∀ b, b = h → S b := fun b e => by rw [hS]; exact .inr e
      have hSlt : ∀ b, S b → b < w9.heap.size := fun b e => by
        have h5 := hI9.lt
        have h6 := hC9.lt
        rw [hS] at e; rcases e with e | e <;> omega
      clear hS
      have b9w := b9.size
      have HX := Lib.hid (fun W (hW : GrowsBut S w9.drew W) => (hX9.same (hW.block xb hX9.lt hSx) : XAt W xb _))
      obtain ⟨M, hM⟩ : ∃ M, M = N / 2 := ⟨_, rfl⟩
      obtain ⟨M2, hM2⟩ : ∃ M2, M2 = N - M := ⟨_, rfl⟩
      have p1 : (N : Int).tdiv 2 = (M : Int) := by rw [Int.tdiv_eq_ediv_of_nonneg (by omega)]; omega
      have p2 : IntKind.i64.wrap (M : Int) = (M : Int) := by rw [IntKind.wrap_i64]; omega
      have p3 : (N : Int) - (M : Int) = (M2 : Int) := by omega
      have p4 : IntKind.i64.wrap (M2 : Int) = (M2 : Int) := by rw [IntKind.wrap_i64]; omega
      have p5 : (N : Int) / 2 = (M : Int) := by omega
      have hNM : N = M + M2 := by omega
      have HM := Lib.hid hNM
      clear hM hM2 hNM
      have hI9d : IsRing w9.drew g m ys := hI9.same rfl
      have hC9d : IsRing w9.drew h m ys := hC9.same rfl
      refine wp_region_anyV (GrowsBut S) (by kernel_rfl) 17 rfl ?_
      first
        | (refine anyV_val 0 (GrowsBut.pre _) rfl (by kernel_rfl) (by kernel_rfl) (by kernel_rfl) (by rfl) (v := ?av25) (fun W hW => ?ay25) (fun K hK => ?ar25); case ay25 => (have z1 := (HX W hW).c2; go_simp; first | done | rfl))
        | refine anyV_skip 0 (GrowsBut.pre _) rfl (by kernel_rfl) (by kernel_rfl) (by kernel_rfl) (by rfl) (fun K hK => ?_)
      go_simp
      refine hK _ ?_
      clear hK K
      first
        | (refine anyV_val 1 (GrowsBut.pre _) rfl (by kernel_rfl) (by kernel_rfl) (by kernel_rfl) (by rfl) (v := ?av26) (fun W hW => ?ay26) (fun K hK => ?ar26); case ay26 => (have z1 := (HX W hW).c2; go_simp; first | done | rfl))
        | refine anyV_skip 1 (GrowsBut.pre _) rfl (by kernel_rfl) (by kernel_rfl) (by kernel_rfl) (by rfl) (fun K hK => ?_)
      go_simp
      refine hK _ ?_
      clear hK K
      first
        | (refine anyV_val 2 (GrowsBut.pre _) rfl (by kernel_rfl) (by kernel_rfl) (by kernel_rfl) (by rfl) (v := ?av27) (fun W hW => ?ay27) (fun K hK => ?ar27); case ay27 => (have z1 := (HX W hW).c2; go_simp; first | done | rfl))
        | refine anyV_skip 2 (GrowsBut.pre _) rfl (by kernel_rfl) (by kernel_rfl) (by kernel_rfl) (by rfl) (fun K hK => ?_)
      go_simp
      refine hK _ ?_
      clear hK K
      first
        | (refine anyV_val 3 (GrowsBut.pre _) rfl (by kernel_rfl) (by kernel_rfl) (by kernel_rfl) (by rfl) (v := ?av28) (fun W hW => ?ay28) (fun K hK => ?ar28); case ay28 => (have z1 := (HX W hW).c2; go_simp; first | done | rfl))
        | refine anyV_skip 3 (GrowsBut.pre _) rfl (by kernel_rfl) (by kernel_rfl) (by kernel_rfl) (by rfl) (fun K hK => ?_)
      go_simp
      refine hK _ ?_
      clear hK K
      first
        | (refine anyV_val 6 (GrowsBut.pre _) rfl (by kernel_rfl) (by kernel_rfl) (by kernel_rfl) (by rfl) (v := ?av29) (fun W hW => ?ay29) (fun K hK => ?ar29); case ay29 => (have z1 := (HX W hW).c2; go_simp; first | done | rfl))
        | refine anyV_skip 6 (GrowsBut.pre _) rfl (by kernel_rfl) (by kernel_rfl) (by kernel_rfl) (by rfl) (fun K hK => ?_)
      go_simp
      refine hK _ ?_
      clear hK K
      first
        | (refine anyV_val 7 (GrowsBut.pre _) rfl (by kernel_rfl) (by kernel_rfl) (by kernel_rfl) (by rfl) (v := ?av30) (fun W hW => ?ay30) (fun K hK => ?ar30); case ay30 => (have z1 := (HX W hW).c2; go_simp; first | done | rfl))
        | refine anyV_skip 7 (GrowsBut.pre _) rfl (by kernel_rfl) (by kernel_rfl) (by kernel_rfl) (by rfl) (fun K hK => ?_)
      go_simp
      refine hK _ ?_
      clear hK K
      first
        | (refine anyV_val 8 (GrowsBut.pre _) rfl (by kernel_rfl) (by kernel_rfl) (by kernel_rfl) (by rfl) (v := ?av31) (fun W hW => ?ay31) (fun K hK => ?ar31); case ay31 => (have z1 := (HX W hW).c2; go_simp; first | done | rfl))
        | refine anyV_skip 8 (GrowsBut.pre _) rfl (by kernel_rfl) (by kernel_rfl) (by kernel_rfl) (by rfl) (fun K hK => ?_)
      go_simp
      refine hK _ ?_
      clear hK K
      first
        | (refine anyV_val 9 (GrowsBut.pre _) rfl (by kernel_rfl) (by kernel_rfl) (by kernel_rfl) (by rfl) (v := ?av32) (fun W hW => ?ay32) (fun K hK => ?ar32); case ay32 => (have z1 := (HX W hW).c2; go_simp; first | done | rfl))
        | refine anyV_skip 9 (GrowsBut.pre _) rfl (by kernel_rfl) (by kernel_rfl) (by kernel_rfl) (by rfl) (fun K hK => ?_)
      go_simp
      refine hK _ ?_
      clear hK K
      first
        | (refine anyV_val 10 (GrowsBut.pre _) rfl (by kernel_rfl) (by kernel_rfl) (by kernel_rfl) (by rfl) (v := ?av33) (fun W hW => ?ay33) (fun K hK => ?ar33); case ay33 => (have z1 := (HX W hW).c2; go_simp; first | done | rfl))
        | refine anyV_skip 10 (GrowsBut.pre _) rfl (by kernel_rfl) (by kernel_rfl) (by kernel_rfl) (by rfl) (fun K hK => ?_)
      go_simp
      refine hK _ ?_
      clear hK K
      first
        | (refine anyV_val 11 (GrowsBut.pre _) rfl (by kernel_rfl) (by kernel_rfl) (by kernel_rfl) (by rfl) (v := ?av34) (fun W hW => ?ay34) (fun K hK => ?ar34); case ay34 => (have z1 := (HX W hW).c2; go_simp; first | done | rfl))
        | refine anyV_skip 11 (GrowsBut.pre _) rfl (by kernel_rfl) (by kernel_rfl) (by kernel_rfl) (by rfl) (fun K hK => ?_)
      go_simp
      refine hK _ ?_
      clear hK K
      first
        | (refine anyV_val 12 (GrowsBut.pre _) rfl (by kernel_rfl) (by kernel_rfl) (by kernel_rfl) (by rfl) (v := ?av35) (fun W hW => ?ay35) (fun K hK => ?ar35); case ay35 => (have z1 := (HX W hW).c2; go_simp; first | done | rfl))
        | refine anyV_skip 12 (GrowsBut.pre _) rfl (by kernel_rfl) (by kernel_rfl) (by kernel_rfl) (by rfl) (fun K hK => ?_)
      go_simp
      refine hK _ ?_
      clear hK K
      refine anyV_only 4 rfl (by kernel_rfl) (by rfl) (fun K hK => ?_)
      go_simp
      refine (read_ring w9.drew g m ys M hI9d).mono ?_
      rintro e w10 ⟨⟨v10, rfl, hv10, _⟩, hI10, hw10⟩
      rw [Int.toNat_natCast] at hv10 hI10
      have hg10 : GrowsBut S w9.drew w10 := Wr.widen hw10 hgSg
      have hC10 : IsRing w10 h m ys := hC9d.same (hw10.block h hC9d.lt (by omega))
      have cv : ∀ W, GrowsBut S w10 W → (convert 22 9 v10).run Try.prog W = .ok (.string (strOfNums (ys.take M))) W := fun W hW => OwnBytes.conv (ownsRow_same hv10 fun b hb => hW.block b (hv10.lt b hb).2 (fun e => Nat.lt_irrefl _ (Nat.lt_of_lt_of_le (hSlt b e) (hv10.lt b hb).1)))
      refine ⟨_, rfl, hK _ _ hg10 ?_⟩
      clear hK K
      refine anyV_frame (fun K hK => ?_)
      go_simp
      refine hK _ ?_
      clear hK K
      first
        | (refine anyV_val 5 (GrowsBut.pre _) rfl (by kernel_rfl) (by kernel_rfl) (by kernel_rfl) (by rfl) (v := ?av36) (fun W hW => ?ay36) (fun K hK => ?ar36); case ay36 => (go_simp; first | done | rfl))
        | refine anyV_skip 5 (GrowsBut.pre _) rfl (by kernel_rfl) (by kernel_rfl) (by kernel_rfl) (by rfl) (fun K hK => ?_)
      go_simp
      refine hK _ ?_
      clear hK K
      refine anyV_only 13 rfl (by kernel_rfl) (by rfl) (fun K hK => ?_)
      go_simp
      refine (read_ring w10 g m _ M2 hI10).mono ?_
      rintro e w11 ⟨⟨v11, rfl, hv11, _⟩, hI11, hw11⟩
      rw [Int.toNat_natCast] at hv11 hI11
      have hg11 : GrowsBut S w10 w11 := Wr.widen hw11 hgSg
      have hC11 : IsRing w11 h m ys := hC10.same (hw11.block h hC10.lt (by omega))
      have cv11 : ∀ W, GrowsBut S w11 W → (convert 22 9 v11).run Try.prog W = .ok (.string (strOfNums ((ys.drop M).take M2))) W := fun W hW => OwnBytes.conv (ownsRow_same hv11 fun b hb => hW.block b (hv11.lt b hb).2 (fun e => Nat.lt_irrefl _ (Nat.lt_of_lt_of_le (Nat.lt_of_lt_of_le (hSlt b e) hg10.size) (hv11.lt b hb).1)))
      have ha : ∀ W, (Op.stringOp .add (strOfNums (ys.take M)) (strOfNums ((ys.drop M).take M2))).run Try.prog W = .ok (.string (strOfNums (ys.take N))) W := fun W => by
        have := strAdd (P := Try.prog) (ys.take M) ((ys.drop M).take M2) (by rw [List.length_take, List.length_take, List.length_drop]; simp only [maxLen]; omega) W
        rw [← List.take_add, ← (show N = M + M2 from HM)] at this
        exact this
      refine ⟨_, rfl, hK _ _ hg11 ?_⟩
      clear hK K
      refine anyV_frame (fun K hK => ?_)
      go_simp
      refine hK _ ?_
      clear hK K
      first
        | (refine anyV_val 14 (GrowsBut.pre _) rfl (by kernel_rfl) (by kernel_rfl) (by kernel_rfl) (by rfl) (v := ?av37) (fun W hW => ?ay37) (fun K hK => ?ar37); case ay37 => (go_simp; first | done | rfl))
        | refine anyV_skip 14 (GrowsBut.pre _) rfl (by kernel_rfl) (by kernel_rfl) (by kernel_rfl) (by rfl) (fun K hK => ?_)
      go_simp
      refine hK _ ?_
      clear hK K
      first
        | (refine anyV_val 15 (GrowsBut.pre _) rfl (by kernel_rfl) (by kernel_rfl) (by kernel_rfl) (by rfl) (v := ?av38) (fun W hW => ?ay38) (fun K hK => ?ar38); case ay38 => (go_simp; first | done | rfl))
        | refine anyV_skip 15 (GrowsBut.pre _) rfl (by kernel_rfl) (by kernel_rfl) (by kernel_rfl) (by rfl) (fun K hK => ?_)
      go_simp
      refine hK _ ?_
      clear hK K
      first
        | (refine anyV_val 16 (GrowsBut.pre _) rfl (by kernel_rfl) (by kernel_rfl) (by kernel_rfl) (by rfl) (v := ?av39) (fun W hW => ?ay39) (fun K hK => ?ar39); case ay39 => (go_simp; first | done | rfl))
        | refine anyV_skip 16 (GrowsBut.pre _) rfl (by kernel_rfl) (by kernel_rfl) (by kernel_rfl) (by rfl) (fun K hK => ?_)
      go_simp
      refine hK _ ?_
      clear hK K
      refine anyV_done (by kernel_rfl) ?_
      have hI11' : IsRing w11 g m (ys.drop N) := by
        rw [List.drop_drop, ← (show N = M + M2 from HM)] at hI11
        exact hI11
      have b11 : Below w.heap.size w w11 := b9.trans (below_of_wrS (Wr.undrew (Wr.trans hg10 hg11)) hSw b9w)
      have hX11 : XAt w11 xb _ := (show ∀ W, GrowsBut S w9.drew W → XAt W xb _ from HX) w11 (Wr.trans hg10 hg11)
      have b11w := b11.size
      have hSlt11 : ∀ b, S b → b < w11.heap.size := fun b e => Nat.lt_of_lt_of_le (hSlt b e) (Nat.le_trans hg10.size hg11.size)
      clear ha cv cv11 hv10 hv11 hI11 hI10 hC10 hg10 hg11 hw10 hw11 HX hX9 hI9 hC9 hI9d hC9d p1 p2 p3 p4 p5 b9 b9w
      go_upto_region 22 with fail
      have HX := Lib.hid (fun W (hW : GrowsBut S w11.drew W) => (hX11.same (hW.block xb hX11.lt hSx) : XAt W xb _))
      have hI11d : IsRing w11.drew g m (ys.drop N) := hI11'.same rfl
      have hC11d : IsRing w11.drew h m ys := hC11.same rfl
      have ha2 : ∀ W, (Op.stringOp .add (strOfNums (ys.take N)) (strOfNums (ys.drop N))).run Try.prog W = .ok (.string (strOfNums ys)) W := fun W => by
        have := strAdd (P := Try.prog) (ys.take N) (ys.drop N) (by rw [List.length_take, List.length_drop]; simp only [maxLen]; omega) W
        rw [List.take_append_drop] at this
        exact this
      refine wp_region_anyV (GrowsBut S) (by kernel_rfl) 34 rfl ?_
      first
        | (refine anyV_val 0 (GrowsBut.pre _) rfl (by kernel_rfl) (by kernel_rfl) (by kernel_rfl) (by rfl) (v := ?av40) (fun W hW => ?ay40) (fun K hK => ?ar40); case ay40 => (have z1 := (HX W hW).c2; go_simp; first | done | rfl))
        | refine anyV_skip 0 (GrowsBut.pre _) rfl (by kernel_rfl) (by kernel_rfl) (by kernel_rfl) (by rfl) (fun K hK => ?_)
      go_simp
      refine hK _ ?_
      clear hK K
      first
        | (refine anyV_val 1 (GrowsBut.pre _) rfl (by kernel_rfl) (by kernel_rfl) (by kernel_rfl) (by rfl) (v := ?av41) (fun W hW => ?ay41) (fun K hK => ?ar41); case ay41 => (have z1 := (HX W hW).c2; go_simp; first | done | rfl))
        | refine anyV_skip 1 (GrowsBut.pre _) rfl (by kernel_rfl) (by kernel_rfl) (by kernel_rfl) (by rfl) (fun K hK => ?_)
      go_simp
      refine hK _ ?_
      clear hK K
      first
        | (refine anyV_val 2 (GrowsBut.pre _) rfl (by kernel_rfl) (by kernel_rfl) (by kernel_rfl) (by rfl) (v := ?av42) (fun W hW => ?ay42) (fun K hK => ?ar42); case ay42 => (have z1 := (HX W hW).c2; go_simp; first | done | rfl))
        | refine anyV_skip 2 (GrowsBut.pre _) rfl (by kernel_rfl) (by kernel_rfl) (by kernel_rfl) (by rfl) (fun K hK => ?_)
      go_simp
      refine hK _ ?_
      clear hK K
      first
        | (refine anyV_val 3 (GrowsBut.pre _) rfl (by kernel_rfl) (by kernel_rfl) (by kernel_rfl) (by rfl) (v := ?av43) (fun W hW => ?ay43) (fun K hK => ?ar43); case ay43 => (have z1 := (HX W hW).c2; go_simp; first | done | rfl))
        | refine anyV_skip 3 (GrowsBut.pre _) rfl (by kernel_rfl) (by kernel_rfl) (by kernel_rfl) (by rfl) (fun K hK => ?_)
      go_simp
      refine hK _ ?_
      clear hK K
      first
        | (refine anyV_val 4 (GrowsBut.pre _) rfl (by kernel_rfl) (by kernel_rfl) (by kernel_rfl) (by rfl) (v := ?av44) (fun W hW => ?ay44) (fun K hK => ?ar44); case ay44 => (have z1 := (HX W hW).c2; go_simp; first | done | rfl))
        | refine anyV_skip 4 (GrowsBut.pre _) rfl (by kernel_rfl) (by kernel_rfl) (by kernel_rfl) (by rfl) (fun K hK => ?_)
      go_simp
      refine hK _ ?_
      clear hK K
      first
        | (refine anyV_val 5 (GrowsBut.pre _) rfl (by kernel_rfl) (by kernel_rfl) (by kernel_rfl) (by rfl) (v := ?av45) (fun W hW => ?ay45) (fun K hK => ?ar45); case ay45 => (have z1 := (HX W hW).c2; go_simp; first | done | rfl))
        | refine anyV_skip 5 (GrowsBut.pre _) rfl (by kernel_rfl) (by kernel_rfl) (by kernel_rfl) (by rfl) (fun K hK => ?_)
      go_simp
      refine hK _ ?_
      clear hK K
      first
        | (refine anyV_val 6 (GrowsBut.pre _) rfl (by kernel_rfl) (by kernel_rfl) (by kernel_rfl) (by rfl) (v := ?av46) (fun W hW => ?ay46) (fun K hK => ?ar46); case ay46 => (have z1 := (HX W hW).c2; go_simp; first | done | rfl))
        | refine anyV_skip 6 (GrowsBut.pre _) rfl (by kernel_rfl) (by kernel_rfl) (by kernel_rfl) (by rfl) (fun K hK => ?_)
      go_simp
      refine hK _ ?_
      clear hK K
      first
        | (refine anyV_val 7 (GrowsBut.pre _) rfl (by kernel_rfl) (by kernel_rfl) (by kernel_rfl) (by rfl) (v := ?av47) (fun W hW => ?ay47) (fun K hK => ?ar47); case ay47 => (have z1 := (HX W hW).c2; go_simp; first | done | rfl))
        | refine anyV_skip 7 (GrowsBut.pre _) rfl (by kernel_rfl) (by kernel_rfl) (by kernel_rfl) (by rfl) (fun K hK => ?_)
      go_simp
      refine hK _ ?_
      clear hK K
      first
        | (refine anyV_val 8 (GrowsBut.pre _) rfl (by kernel_rfl) (by kernel_rfl) (by kernel_rfl) (by rfl) (v := ?av48) (fun W hW => ?ay48) (fun K hK => ?ar48); case ay48 => (have z1 := (HX W hW).c2; go_simp; first | done | rfl))
        | refine anyV_skip 8 (GrowsBut.pre _) rfl (by kernel_rfl) (by kernel_rfl) (by kernel_rfl) (by rfl) (fun K hK => ?_)
      go_simp
      refine hK _ ?_
      clear hK K
      first
        | (refine anyV_val 9 (GrowsBut.pre _) rfl (by kernel_rfl) (by kernel_rfl) (by kernel_rfl) (by rfl) (v := ?av49) (fun W hW => ?ay49) (fun K hK => ?ar49); case ay49 => (have z1 := (HX W hW).c2; go_simp; first | done | rfl))
        | refine anyV_skip 9 (GrowsBut.pre _) rfl (by kernel_rfl) (by kernel_rfl) (by kernel_rfl) (by rfl) (fun K hK => ?_)
      go_simp
      refine hK _ ?_
      clear hK K
      first
        | (refine anyV_val 10 (GrowsBut.pre _) rfl (by kernel_rfl) (by kernel_rfl) (by kernel_rfl) (by rfl) (v := ?av50) (fun W hW => ?ay50) (fun K hK => ?ar50); case ay50 => (have z1 := (HX W hW).c2; go_simp; first | done | rfl))
        | refine anyV_skip 10 (GrowsBut.pre _) rfl (by kernel_rfl) (by kernel_rfl) (by kernel_rfl) (by rfl) (fun K hK => ?_)
      go_simp
      refine hK _ ?_
      clear hK K
      refine anyV_only 11 rfl (by kernel_rfl) (by rfl) (fun K hK => ?_)
      go_simp
      refine (read_ring w11.drew h m ys N hC11d).mono ?_
      rintro e w12 ⟨⟨v12, rfl, hv12, _⟩, hC12, hw12⟩
      rw [Int.toNat_natCast] at hv12 hC12
      have hg12 : GrowsBut S w11.drew w12 := Wr.widen hw12 hgSh
      have hI12 : IsRing w12 g m (ys.drop N) := hI11d.same (hw12.block g hI11d.lt (by omega))
      have cv12 : ∀ W, GrowsBut S w12 W → (convert 22 9 v12).run Try.prog W = .ok (.string (strOfNums (ys.take N))) W := fun W hW => OwnBytes.conv (ownsRow_same hv12 fun b hb => hW.block b (hv12.lt b hb).2 (fun e => Nat.lt_irrefl _ (Nat.lt_of_lt_of_le (hSlt11 b e) (hv12.lt b hb).1)))
      have hSlt12 : ∀ b, S b → b < w12.heap.size := fun b e => Nat.lt_of_lt_of_le (hSlt11 b e) hg12.size
      refine ⟨_, rfl, hK _ _ hg12 ?_⟩
      clear hK K
      refine anyV_frame (fun K hK => ?_)
      go_simp
      refine hK _ ?_
      clear hK K
      first
        | (refine anyV_val 12 (GrowsBut.pre _) rfl (by kernel_rfl) (by kernel_rfl) (by kernel_rfl) (by rfl) (v := ?av51) (fun W hW => ?ay51) (fun K hK => ?ar51); case ay51 => (go_simp; first | done | rfl))
        | refine anyV_skip 12 (GrowsBut.pre _) rfl (by kernel_rfl) (by kernel_rfl) (by kernel_rfl) (by rfl) (fun K hK => ?_)
      go_simp
      refine hK _ ?_
      clear hK K
      first
        | (refine anyV_val 13 (GrowsBut.pre _) rfl (by kernel_rfl) (by kernel_rfl) (by kernel_rfl) (by rfl) (v := ?av52) (fun W hW => ?ay52) (fun K hK => ?ar52); case ay52 => (go_simp; first | done | rfl))
        | refine anyV_skip 13 (GrowsBut.pre _) rfl (by kernel_rfl) (by kernel_rfl) (by kernel_rfl) (by rfl) (fun K hK => ?_)
      go_simp
      refine hK _ ?_
      clear hK K
      first
        | (refine anyV_val 14 (GrowsBut.pre _) rfl (by kernel_rfl) (by kernel_rfl) (by kernel_rfl) (by rfl) (v := ?av53) (fun W hW => ?ay53) (fun K hK => ?ar53); case ay53 => (go_simp; first | done | rfl))
        | refine anyV_skip 14 (GrowsBut.pre _) rfl (by kernel_rfl) (by kernel_rfl) (by kernel_rfl) (by rfl) (fun K hK => ?_)
      go_simp
      refine hK _ ?_
      clear hK K
      first
        | (refine anyV_val 15 (GrowsBut.pre _) rfl (by kernel_rfl) (by kernel_rfl) (by kernel_rfl) (by rfl) (v := ?av54) (fun W hW => ?ay54) (fun K hK => ?ar54); case ay54 => (go_simp; first | done | rfl))
        | refine anyV_skip 15 (GrowsBut.pre _) rfl (by kernel_rfl) (by kernel_rfl) (by kernel_rfl) (by rfl) (fun K hK => ?_)
      go_simp
      refine hK _ ?_
      clear hK K
      first
        | (refine anyV_val 16 (GrowsBut.pre _) rfl (by kernel_rfl) (by kernel_rfl) (by kernel_rfl) (by rfl) (v := ?av55) (fun W hW => ?ay55) (fun K hK => ?ar55); case ay55 => (go_simp; first | done | rfl))
        | refine anyV_skip 16 (GrowsBut.pre _) rfl (by kernel_rfl) (by kernel_rfl) (by kernel_rfl) (by rfl) (fun K hK => ?_)
      go_simp
      refine hK _ ?_
      clear hK K
      first
        | (refine anyV_val 19 (GrowsBut.pre _) rfl (by kernel_rfl) (by kernel_rfl) (by kernel_rfl) (by rfl) (v := ?av56) (fun W hW => ?ay56) (fun K hK => ?ar56); case ay56 => (go_simp; first | done | rfl))
        | refine anyV_skip 19 (GrowsBut.pre _) rfl (by kernel_rfl) (by kernel_rfl) (by kernel_rfl) (by rfl) (fun K hK => ?_)
      go_simp
      refine hK _ ?_
      clear hK K
      refine anyV_only 17 rfl (by kernel_rfl) (by rfl) (fun K hK => ?_)
      go_simp
      refine (all_ring w12 h m _ hC12).mono ?_
      rintro e w13 ⟨⟨v13, rfl, hv13, _⟩, hb13⟩
      have hg13 : GrowsBut S w12 w13 := Wr.of_below hb13
      have hI13 := hI12.below hI12.lt hb13
      have cv13 : ∀ W, GrowsBut S w13 W → (convert 22 9 v13).run Try.prog W = .ok (.string (strOfNums (ys.drop N))) W := fun W hW => OwnBytes.conv (ownsRow_same hv13 fun b hb => hW.block b (hv13.lt b hb).2 (fun e => Nat.lt_irrefl _ (Nat.lt_of_lt_of_le (hSlt12 b e) (hv13.lt b hb).1)))
      have hSlt13 : ∀ b, S b → b < w13.heap.size := fun b e => Nat.lt_of_lt_of_le (hSlt12 b e) hg13.size
      refine ⟨_, rfl, hK _ _ hg13 ?_⟩
      clear hK K
      refine anyV_frame (fun K hK => ?_)
      go_simp
      refine hK _ ?_
      clear hK K
      first
        | (refine anyV_val 18 (GrowsBut.pre _) rfl (by kernel_rfl) (by kernel_rfl) (by kernel_rfl) (by rfl) (v := ?av57) (fun W hW => ?ay57) (fun K hK => ?ar57); case ay57 => (go_simp; first | done | rfl))
        | refine anyV_skip 18 (GrowsBut.pre _) rfl (by kernel_rfl) (by kernel_rfl) (by kernel_rfl) (by rfl) (fun K hK => ?_)
      go_simp
      refine hK _ ?_
      clear hK K
      refine anyV_only 20 rfl (by kernel_rfl) (by rfl) (fun K hK => ?_)
      go_simp
      refine (all_ring w13 g m _ hI13).mono ?_
      rintro e w14 ⟨⟨v14, rfl, hv14, _⟩, hb14⟩
      have hg14 : GrowsBut S w13 w14 := Wr.of_below hb14
      have hI14 := hI13.below hI13.lt hb14
      have cv14 : ∀ W, GrowsBut S w14 W → (convert 22 9 v14).run Try.prog W = .ok (.string (strOfNums (ys.drop N))) W := fun W hW => OwnBytes.conv (ownsRow_same hv14 fun b hb => hW.block b (hv14.lt b hb).2 (fun e => Nat.lt_irrefl _ (Nat.lt_of_lt_of_le (hSlt13 b e) (hv14.lt b hb).1)))
      have hSlt14 : ∀ b, S b → b < w14.heap.size := fun b e => Nat.lt_of_lt_of_le (hSlt13 b e) hg14.size
      refine ⟨_, rfl, hK _ _ hg14 ?_⟩
      clear hK K
      refine anyV_frame (fun K hK => ?_)
      go_simp
      refine hK _ ?_
      clear hK K
      first
        | (refine anyV_val 21 (GrowsBut.pre _) rfl (by kernel_rfl) (by kernel_rfl) (by kernel_rfl) (by rfl) (v := ?av58) (fun W hW => ?ay58) (fun K hK => ?ar58); case ay58 => (go_simp; first | done | rfl))
        | refine anyV_skip 21 (GrowsBut.pre _) rfl (by kernel_rfl) (by kernel_rfl) (by kernel_rfl) (by rfl) (fun K hK => ?_)
      go_simp
      refine hK _ ?_
      clear hK K
      first
        | (refine anyV_val 22 (GrowsBut.pre _) rfl (by kernel_rfl) (by kernel_rfl) (by kernel_rfl) (by rfl) (v := ?av59) (fun W hW => ?ay59) (fun K hK => ?ar59); case ay59 => (go_simp; first | done | rfl))
        | refine anyV_skip 22 (GrowsBut.pre _) rfl (by kernel_rfl) (by kernel_rfl) (by kernel_rfl) (by rfl) (fun K hK => ?_)
      go_simp
      refine hK _ ?_
      clear hK K
      first
        | (refine anyV_val 23 (GrowsBut.pre _) rfl (by kernel_rfl) (by kernel_rfl) (by kernel_rfl) (by rfl) (v := ?av60) (fun W hW => ?ay60) (fun K hK => ?ar60); case ay60 => (go_simp; first | done | rfl))
        | refine anyV_skip 23 (GrowsBut.pre _) rfl (by kernel_rfl) (by kernel_rfl) (by kernel_rfl) (by rfl) (fun K hK => ?_)
      go_simp
      refine hK _ ?_
      clear hK K
      first
        | (refine anyV_val 24 (GrowsBut.pre _) rfl (by kernel_rfl) (by kernel_rfl) (by kernel_rfl) (by rfl) (v := ?av61) (fun W hW => ?ay61) (fun K hK => ?ar61); case ay61 => (go_simp; first | done | rfl))
        | refine anyV_skip 24 (GrowsBut.pre _) rfl (by kernel_rfl) (by kernel_rfl) (by kernel_rfl) (by rfl) (fun K hK => ?_)
      go_simp
      refine hK _ ?_
      clear hK K
      first
        | (refine anyV_val 25 (GrowsBut.pre _) rfl (by kernel_rfl) (by kernel_rfl) (by kernel_rfl) (by rfl) (v := ?av62) (fun W hW => ?ay62) (fun K hK => ?ar62); case ay62 => (go_simp; first | done | rfl))
        | refine anyV_skip 25 (GrowsBut.pre _) rfl (by kernel_rfl) (by kernel_rfl) (by kernel_rfl) (by rfl) (fun K hK => ?_)
      go_simp
      refine hK _ ?_
      clear hK K
      first
        | (refine anyV_val 26 (GrowsBut.pre _) rfl (by kernel_rfl) (by kernel_rfl) (by kernel_rfl) (by rfl) (v := ?av63) (fun W hW => ?ay63) (fun K hK => ?ar63); case ay63 => (go_simp; first | done | rfl))
        | refine anyV_skip 26 (GrowsBut.pre _) rfl (by kernel_rfl) (by kernel_rfl) (by kernel_rfl) (by rfl) (fun K hK => ?_)
      go_simp
      refine hK _ ?_
      clear hK K
      first
        | (refine anyV_val 30 (GrowsBut.pre _) rfl (by kernel_rfl) (by kernel_rfl) (by kernel_rfl) (by rfl) (v := ?av64) (fun W hW => ?ay64) (fun K hK => ?ar64); case ay64 => (go_simp; first | done | rfl))
        | refine anyV_skip 30 (GrowsBut.pre _) rfl (by kernel_rfl) (by kernel_rfl) (by kernel_rfl) (by rfl) (fun K hK => ?_)
      go_simp
      refine hK _ ?_
      clear hK K
      refine anyV_only 27 rfl (by kernel_rfl) (by rfl) (fun K hK => ?_)
      go_simp
      refine (all_ring w14 g m _ hI14).mono ?_
      rintro e w15 ⟨⟨v15, rfl, hv15, _⟩, hb15⟩
      have hg15 : GrowsBut S w14 w15 := Wr.of_below hb15
      have cv15 : ∀ W, GrowsBut S w15 W → (convert 22 9 v15).run Try.prog W = .ok (.string (strOfNums (ys.drop N))) W := fun W hW => OwnBytes.conv (ownsRow_same hv15 fun b hb => hW.block b (hv15.lt b hb).2 (fun e => Nat.lt_irrefl _ (Nat.lt_of_lt_of_le (hSlt14 b e) (hv15.lt b hb).1)))
      refine ⟨_, rfl, hK _ _ hg15 ?_⟩
      clear hK K
      refine anyV_frame (fun K hK => ?_)
      go_simp
      refine hK _ ?_
      clear hK K
      first
        | (refine anyV_val 28 (GrowsBut.pre _) rfl (by kernel_rfl) (by kernel_rfl) (by kernel_rfl) (by rfl) (v := ?av65) (fun W hW => ?ay65) (fun K hK => ?ar65); case ay65 => (go_simp; first | done | rfl))
        | refine anyV_skip 28 (GrowsBut.pre _) rfl (by kernel_rfl) (by kernel_rfl) (by kernel_rfl) (by rfl) (fun K hK => ?_)
      go_simp
      refine hK _ ?_
      clear hK K
      first
        | (refine anyV_val 29 (GrowsBut.pre _) rfl (by kernel_rfl) (by kernel_rfl) (by kernel_rfl) (by rfl) (v := ?av66) (fun W hW => ?ay66) (fun K hK => ?ar66); case ay66 => (go_simp; first | done | rfl))
        | refine anyV_skip 29 (GrowsBut.pre _) rfl (by kernel_rfl) (by kernel_rfl) (by kernel_rfl) (by rfl) (fun K hK => ?_)
      go_simp
      refine hK _ ?_
      clear hK K
      first
        | (refine anyV_val 31 (GrowsBut.pre _) rfl (by kernel_rfl) (by kernel_rfl) (by kernel_rfl) (by rfl) (v := ?av67) (fun W hW => ?ay67) (fun K hK => ?ar67); case ay67 => (go_simp; first | done | rfl))
        | refine anyV_skip 31 (GrowsBut.pre _) rfl (by kernel_rfl) (by kernel_rfl) (by kernel_rfl) (by rfl) (fun K hK => ?_)
      go_simp
      refine hK _ ?_
      clear hK K
      first
        | (refine anyV_val 32 (GrowsBut.pre _) rfl (by kernel_rfl) (by kernel_rfl) (by kernel_rfl) (by rfl) (v := ?av68) (fun W hW => ?ay68) (fun K hK => ?ar68); case ay68 => (go_simp; first | done | rfl))
        | refine anyV_skip 32 (GrowsBut.pre _) rfl (by kernel_rfl) (by kernel_rfl) (by kernel_rfl) (by rfl) (fun K hK => ?_)
      go_simp
      refine hK _ ?_
      clear hK K
      first
        | (refine anyV_val 33 (GrowsBut.pre _) rfl (by kernel_rfl) (by kernel_rfl) (by kernel_rfl) (by rfl) (v := ?av69) (fun W hW => ?ay69) (fun K hK => ?ar69); case ay69 => (go_simp; first | done | rfl))
        | refine anyV_skip 33 (GrowsBut.pre _) rfl (by kernel_rfl) (by kernel_rfl) (by kernel_rfl) (by rfl) (fun K hK => ?_)
      go_simp
      refine hK _ ?_
      clear hK K
      refine anyV_done (by kernel_rfl) ?_
      have b15 : Below w.heap.size w w15 := b11.trans (below_of_wrS (Wr.undrew (Wr.trans hg12 (Wr.trans hg13 (Wr.trans hg14 hg15)))) hSw b11w)
      clear cv12 cv13 cv14 cv15 ha2
      go_wp2_with fail
      go_ret
      exact ⟨rfl, b15⟩
end Go.Proofs.Ytdnbinjinpnnmaa
