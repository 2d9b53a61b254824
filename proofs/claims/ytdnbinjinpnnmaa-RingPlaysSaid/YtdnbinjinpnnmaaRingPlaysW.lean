/- The walk of the law RingPlays. -/
import Derived.Test.YtdnbinjinpnnmaaRingOps
import Derived.Test.YtdnbinjinpnnmaaDocRing
import Derived.Laws.OwnMore
import Derived.Deep.Cut
import Derived.Deep.CutRange
import Derived.Deep.CutBlock
namespace Go.Proofs.Ytdnbinjinpnnmaa
open Go Go.RowKit
attribute [local go_sem] upV_value upV_skip upV_enter
set_option linter.unusedVariables false
set_option linter.unnecessarySimpa false
/-- one call lies in the block xb -/
def XAt (W : World) (xb : Nat) (o : OpV) : Prop := W.heap[xb]? = some (.cells #[.int .i64 o.k, .slice o.a o.len o.cap, .int .i64 o.n] 35 (0, 0))
section
variable {W : World} {xb : Nat} {o : OpV}
theorem XAt.c0 (h : XAt W xb o) : W.cell? ⟨xb, 0, none⟩ = some (.int .i64 o.k) := by rw [cell_of_row W xb 0 _ _ _ h]; rfl
theorem XAt.c1 (h : XAt W xb o) : W.cell? ⟨xb, 1, none⟩ = some (.slice o.a o.len o.cap) := by rw [cell_of_row W xb 1 _ _ _ h]; rfl
theorem XAt.c2 (h : XAt W xb o) : W.cell? ⟨xb, 2, none⟩ = some (.int .i64 o.n) := by rw [cell_of_row W xb 2 _ _ _ h]; rfl
theorem XAt.lt (h : XAt W xb o) : xb < W.heap.size := (Array.getElem?_eq_some_iff.1 h).1
theorem XAt.same {B : World} (h : XAt W xb o) (hs : B.heap[xb]? = W.heap[xb]?) : XAt B xb o := hs.trans h
theorem XAt.below {B : World} (h : XAt W xb o) (hb : Below W.heap.size W B) : XAt B xb o := h.same (hb.block _ h.lt)
end
set_option maxRecDepth 100000 in
set_option maxHeartbeats 4000000 in
theorem ringPlays_any (w : World) (c : Int) (hc0 : -9223372036854775808 ≤ c) (hc1 : c ≤ 9223372036854775807) (a0 : Option Addr) (l0 c0 : Nat) (xs : List Int) (a1 : Option Addr) (l1 c1 : Nat) (o1 : List OpV) (hr : Row8 w.heap.size w (.slice a0 l0 c0) xs) (h1 : IsOps w.heap.size w a1 l1 c1 o1) :
    Calls Try.prog 6 #[.int .i64 c, .slice a0 l0 c0, .slice a1 l1 c1] w fun e w' => e = .returned (.bool true) ∧ Below w.heap.size w w' := by
  obtain ⟨i0, hi, hz0, hz1, hz2⟩ := info_parts info_u8
  have s1 := h1.small
  have b0 := Below.refl w.heap.size w
  go_enter Try.func6, Try.ntmps6
  go_wp2_with (go_at_call 16; refine held ?_)
  unfold Held
  refine (great_any _ w a1 l1 c1 o1 h1).mono ?_
  rintro e w2 ⟨rfl, ⟨rfl, hl1, hk1⟩ | rfl⟩
  rotate_left
  · go_wp2
    go_ret
    exact ⟨rfl, b0⟩
  by_cases hl : l0 ≤ 300
  rotate_left
  · have t1 : decide ((300 : Int) < (l0 : Int)) = true := by simp; omega
    go_wp2
    go_ret
    exact ⟨rfl, b0⟩
  have t1 : decide ((300 : Int) < (l0 : Int)) = false := by simp; omega
  go_wp2_with (go_at_call 20; refine held ?_)
  unfold Held
  refine (of_ring c a0 l0 c0 xs w hr (by omega)).mono ?_
  rintro e w3 ⟨b3, hcase⟩
  have hr3 := (hr.below b3).mono b3.size
  rcases hcase with ⟨g1, g2, g3, rfl, hI⟩ | ⟨hno, rfl⟩
  rotate_left
  · go_wp2_with (go_at_call 21; refine held ?_)
    unfold Held
    refine (docOf_any c a0 l0 c0 xs w3 hr3 (by omega)).mono ?_
    rintro e w4 ⟨b4, ⟨g1, g2, g3, _⟩ | ⟨_, rfl⟩⟩
    · exact absurd ⟨g1, g2, g3⟩ hno
    · go_wp2
      go_ret
      exact ⟨rfl, b3.trans (b4.mono b3.size)⟩
  go_wp2_with (go_at_call 21; refine held ?_)
  unfold Held
  refine (docOf_any c a0 l0 c0 xs w3 hr3 (by omega)).mono ?_
  rintro e w4 ⟨b4, ⟨_, _, _, d, rfl, hD⟩ | ⟨hno, _⟩⟩
  rotate_left
  · exact absurd ⟨g1, g2, g3⟩ hno
  have hI4 := hI.below hI.lt b4
  have hgd : w.heap.size ≠ d := by have := hD.1; have := hI.lt; omega
  have hD4 : IsDoc w4 w.heap.size w.heap.size d c.toNat xs := ⟨Nat.le_trans b3.size hD.1, (hD.mono b3.size).2⟩
  have b5 := b3.trans (b4.mono b3.size)
  obtain ⟨m, rfl⟩ : ∃ m : Nat, c = (m : Int) := ⟨c.toNat, by omega⟩
  rw [Int.toNat_natCast] at hI4 hD4
  obtain ⟨g, hg⟩ : ∃ g, g = w.heap.size := ⟨_, rfl⟩
  rw [← hg] at hI4 hgd ⊢
  have hgw : w.heap.size ≤ g := by omega
  clear hg hI hD b3 b4 hr3 hr b0
  go_wp2_with fail
  go_loopw [7, 54] (fun r i wr => ∃ (k g : Nat) (bs : List Int), i = .int .i64 (k : Int) ∧ k ≤ l1 ∧ r = .pointer (some ⟨g, 0, none⟩) ∧ w.heap.size ≤ g ∧ g ≠ d ∧ IsRing wr g m bs ∧ IsDoc wr w.heap.size w.heap.size d m bs ∧ Below w.heap.size w wr) (fun _ i _ => l1 - (intOf i).toNat)
  case atStart => exact ⟨0, g, xs, rfl, Nat.zero_le _, rfl, hgw, hgd, hI4, hD4, b5⟩
  case round =>
    clear hI4 hD4 b5 hgw hgd
    obtain ⟨k, g, bs, rfl, hk, rfl, hgw, hgd, hIr, hDr, hbr⟩ := hrel
    by_cases hlt : k < l1
    rotate_left
    · have t3 : decide ((k : Int) < (l1 : Int)) = false := by simp; omega
      go_wp2_with fail
      go_ret
      exact ⟨rfl, hbr⟩
    have t3 : decide ((k : Int) < (l1 : Int)) = true := by simp; omega
    obtain ⟨hol, h0 | ⟨b, off, rfl, hbl, h3, h4, hc⟩⟩ := h1.below hbr
    · omega
    obtain ⟨x1, x2, x3, ho⟩ := hc k (by omega)
    have hol3 := hk1 _ (List.getElem_mem (by omega : k < o1.length))
    obtain ⟨o, he⟩ : ∃ o, o = o1[k] := ⟨_, rfl⟩
    rw [← he] at x1 x2 x3 ho hol3
    have hxl : o.cap ≤ 9223372036854775807 ∧ o.len ≤ o.cap ∨ o.len = 0 := by
      rcases ho.row.1 with ⟨_, _, h, _⟩ | ⟨_, _, _, h, _, h5, h6, _⟩
      · injection h with e1 e2 e3; exact .inr e2
      · injection h with e1 e2 e3; simp only [maxLen] at h6; left; omega
    clear hc he
    go_upto_block 2 with fail
    obtain ⟨W1, hW1⟩ : ∃ W1, W1 = wr.alloc (.cells #[.int .i64 o.k, .slice o.a o.len o.cap, .int .i64 o.n] 35) := ⟨_, rfl⟩
    have hX : XAt W1 wr.heap.size o := by rw [hW1]; exact World.alloc_heap_new wr _
    have bW : Below wr.heap.size wr W1 := by rw [hW1]; exact (Below.refl _ wr).alloc (Nat.le_refl _) _
    have hI1 := hIr.below hIr.lt bW
    have hD1 := hDr.below bW
    have hb1 := hbr.trans (bW.mono hbr.size)
    have hxg := hIr.lt
    have hxd := hDr.lt
    have hxw := hbr.size
    have hro := ho.row.below (bW.mono hxw)
    rw [← hW1]
    obtain ⟨xb, hxb⟩ : ∃ xb, xb = wr.heap.size := ⟨_, rfl⟩
    rw [← hxb] at hX hxg hxd hxw ⊢
    obtain ⟨ok, oa, olen, ocap, obs, on⟩ := o
    simp only at hxl hol3 hro
    clear hW1 hxb hIr hDr hbr bW ho x1 x2 x3
    have hXl := hX.lt
    have e0 := hX.c0
    have e1 := hX.c1
    have e2 := hX.c2
    go_cut [7, 13, 14, 15, 16, 17, 18, 19, 20] from 63 to 186 (fun r fine _ _ _ _ _ _ _ wx => ∃ (g : Nat) (bs : List Int), r = .pointer (some ⟨g, 0, none⟩) ∧ fine = .bool true ∧ w.heap.size ≤ g ∧ g ≠ d ∧ IsRing wx g m bs ∧ IsDoc wx w.heap.size w.heap.size d m bs ∧ Below w.heap.size w wx)
    case first =>
      by_cases d0 : ok = 0
      · subst d0
        go_wp2_with (at_builtin; refine held ?_)
        unfold Held
        have hl0 := World.ownsRow_lit (base := W1.heap.size) (e := 5) (size := 1) W1 #[] 0 (Nat.le_refl _) (by decide) rfl
        obtain ⟨W2, hW2⟩ : ∃ W2, W2 = W1.alloc (.cells #[] 5) := ⟨_, rfl⟩
        have b2 : Below W1.heap.size W1 W2 := by rw [hW2]; exact (Below.refl _ W1).alloc (Nat.le_refl _) _
        rw [← hW2] at hl0 ⊢
        refine wpList_append_row rfl _ _ 22 rfl W1.heap.size 5 i0 Try.underlying22 hi hz0 hz1 hz2 (.slice (some ⟨W1.heap.size, 0, none⟩) 0 0) 0 [] rfl hl0 oa olen ocap w.heap.size obs rfl (hro.1.below (b2.mono hb1.size)) (by omega) b2.size ?_
        intro c2 w2 hc2 hgrow hcv
        rw [Nat.zero_add, List.nil_append] at hc2
        have b3 : Below W1.heap.size W1 w2 := b2.grown hgrow b2.size (fun b h => by simp [Value.ownBlock] at h; omega)
        obtain ⟨ca, cc, rfl, hca⟩ := ownsRow_slice hc2
        have hX2 := hX.below b3
        have hI2 := hI1.below hI1.lt b3
        have hD2 := hD1.below b3
        have hb2 := hb1.trans (b3.mono hb1.size)
        have hcl := fun b hb => hc2.lt b hb
        have hgl := hI1.lt
        have hdl := hD1.lt
        have hcrow : Row8 w2.heap.size w2 (.slice ca olen cc) obs := ⟨(RowI.of_own hc2).2, hro.2⟩
        have hcg : ¬ blockOf (.slice ca olen cc) g := fun h => by
          rcases hca with h0 | ⟨q, rfl, hq⟩
          · subst h0; revert h; cases ca <;> simp [blockOf]
          · have h1 := h.2; have := (hcl q hq).1; simp only at h1; omega
        clear hgrow hcv e0 e1 e2 hl0 hW2 b2
        go_wp2_with (go_at_call 10; refine held ?_)
        unfold Held
        refine (write_ring w2 g m bs ca olen cc obs hI2 hcrow hcg (by omega)).mono ?_
        rintro e w3 ⟨rfl, hI3, hw3⟩
        have hX3 := hX2.same (hw3.block xb hX2.lt (by omega))
        have hD3 := hD2.wr hw3 (fun b h => by
          subst h
          obtain ⟨f, first, hR, _⟩ := hI2
          exact ⟨hgd, _, _, _, hR, by decide⟩)
        have hc3 := ownsRow_same hc2 fun b hb => hw3.block b (hc2.lt b hb).2 (by have := (hcl b hb).1; omega)
        have hb3 := hb2.trans (below_of_wr hw3 hgw hb2.size)
        have hro3 : Row8 w3.heap.size w3 (.slice oa olen ocap) obs := (hro.below (show Below w.heap.size W1 w3 from (b3.mono hb1.size).trans (below_of_wr hw3 hgw hb2.size))).mono hb3.size
        have f1 := hX3.c1
        have hs3 := hw3.size
        clear hI2 hD2 hX2 hcrow hcg hc2 hb2 hro b3
        go_wp2_with (go_at_call 22; refine held ?_)
        unfold Held
        refine (docWrite_any w3 w.heap.size w.heap.size d m bs oa olen ocap obs hD3 hro3 (by omega)).mono ?_
        rintro e w4 ⟨rfl, hD4, hw4⟩
        have hI4 := hI3.same (hw4.block g hI3.lt (by omega))
        have hc4 := ownsRow_same hc3 fun b hb => hw4.block b (hc3.lt b hb).2 (by have := (hcl b hb).1; omega)
        have hb4 := hb3.trans (below_of_wr hw4 hD3.1 hb3.size)
        have hq3 : ∀ b, (Value.slice ca olen cc).ownBlock = some b → W1.heap.size ≤ b ∧ b < w3.heap.size := fun b hb => ⟨(hcl b hb).1, (hc3.lt b hb).2⟩
        obtain ⟨bs', hbs'⟩ : ∃ bs', bs' = bs ++ obs.take (m - bs.length) := ⟨_, rfl⟩
        rw [← hbs'] at hI4 hD4
        have hob := hc3.1
        rw [List.length_map] at hob
        have hN3 := hb3.size
        clear hI3 hD3 hX3 hc3 hb3 hro3 f1 hbs' hI1 hD1 hb1 hX hw3 hw4
        go_wp2_with fail
        go_loopw [80] (fun i wl => ∃ (j : Nat) (ys : List Int), i = .int .i64 (j : Int) ∧ j ≤ olen ∧ ys.length = olen ∧ wl.ownsRow W1.heap.size 5 1 (.slice ca olen cc) olen (ys.map (Value.int .u8)) ∧ IsRing wl g m bs' ∧ IsDoc wl w.heap.size w3.heap.size d m bs' ∧ Below w.heap.size w wl) (fun i _ => olen - (intOf i).toNat)
        case atStart => exact ⟨0, obs, rfl, Nat.zero_le _, by omega, hc4, hI4, hD4, hb4⟩
        case round =>
          clear hc4 hI4 hD4 hb4
          obtain ⟨j, ys, rfl, hj, hys, hcl, hIl, hDl, hbl⟩ := hrel
          by_cases hjl : j < olen
          · have t5 : decide ((j : Int) < (olen : Int)) = true := by simp; omega
            obtain ⟨q, rfl, hq⟩ := hca.resolve_left (by omega)
            have ck : wr.cell? ⟨q, j, none⟩ = some (.int .u8 (ys.getD j 0)) := by
              rw [hcl.cellAt j (by omega), List.getElem?_map, getD_at _ _ (by omega), List.getElem?_eq_getElem (by omega)]; rfl
            have fk := hcl.frozenAt j
            have hst := fun u => (hcl.stored j u).1
            obtain ⟨hq1, hq2⟩ := hq3 q hq
            go_wp2_with fail
            go_roundw
            case rel =>
              refine ⟨j + 1, ys.set j ((ys[j]'(by omega) + 1) % 256), by go_num, by omega, by rw [List.length_set]; exact hys, by rw [List.map_set]; exact hst _, hIl.same (Below.heap_setCell _ ⟨q, j, none⟩ _ g (fun e => by simp only at e; omega)), hDl.wrLow (S := (· = q)) (S' := (· = q)) ((Wr.refl (· = q) _).setCell (p := ⟨q, j, none⟩) (.inl rfl) _) (show ¬ d = q by omega) (fun b h => by subst h; exact hq2), hbl.setCell (p := ⟨q, j, none⟩) (show w.heap.size ≤ q by omega) _⟩
            case measure => simp [intOf]; omega
          · have t5 : decide ((j : Int) < (olen : Int)) = false := by simp; omega
            go_wp2_with fail
            go_meet
            exact ⟨g, bs', rfl, rfl, hgw, hgd, hIl, hDl.mono hN3, hbl⟩
      have u0 : (ok == 0) = false := by simpa using d0
      by_cases d1 : ok = 1
      · subst d1
        go_wp2_with (go_at_call 11; refine held ?_)
        unfold Held
        refine (read_ring W1 g m bs on hI1).mono ?_
        rintro e w2 ⟨⟨v, rfl, hv, _⟩, hI2, hw2⟩
        have hX2 := hX.same (hw2.block xb hX.lt (by omega))
        have hD2 := hD1.wr hw2 (fun b h => by
          subst h
          obtain ⟨f, first, hR, _⟩ := hI1
          exact ⟨hgd, _, _, _, hR, by decide⟩)
        have hb2 := hb1.trans (below_of_wr hw2 hgw hb1.size)
        have hb2w := hb2.size
        have hdl := hD1.lt
        clear hI1 hD1 hX hb1 hw2 hro e0 e1 e2
        go_upto_region 26 with fail
        have HX := Lib.hid (fun W (hW : GrowsBut (· = d) w2.drew W) => (hX2.same (hW.block xb hX2.lt (show ¬ xb = d by omega)) : XAt W xb _))
        have cv : ∀ W, GrowsBut (· = d) w2.drew W → (convert 22 9 v).run Try.prog W = .ok (.string (strOfNums (bs.take on.toNat))) W := fun W hW => OwnBytes.conv (ownsRow_same hv fun b hb => hW.block b (hv.lt b hb).2 (show ¬ b = d by have := (hv.lt b hb).1; omega))
        have hI2d : IsRing w2.drew g m (bs.drop on.toNat) := hI2.same rfl
        have hD2d := hD2.below (Below.refl _ w2).drew
        refine wp_region_anyV (GrowsBut (· = d)) (by kernel_rfl) 9 rfl ?_
        first
          | (refine anyV_val 0 (GrowsBut.pre _) rfl (by kernel_rfl) (by kernel_rfl) (by kernel_rfl) (by rfl) (v := ?av1) (fun W hW => ?ay1) (fun K hK => ?ar1); case ay1 => (have z1 := (HX W hW).c2; go_simp; first | done | rfl))
          | refine anyV_skip 0 (GrowsBut.pre _) rfl (by kernel_rfl) (by kernel_rfl) (by kernel_rfl) (by rfl) (fun K hK => ?_)
        go_simp
        refine hK _ ?_
        clear hK K
        first
          | (refine anyV_val 1 (GrowsBut.pre _) rfl (by kernel_rfl) (by kernel_rfl) (by kernel_rfl) (by rfl) (v := ?av2) (fun W hW => ?ay2) (fun K hK => ?ar2); case ay2 => (have z1 := (HX W hW).c2; go_simp; first | done | rfl))
          | refine anyV_skip 1 (GrowsBut.pre _) rfl (by kernel_rfl) (by kernel_rfl) (by kernel_rfl) (by rfl) (fun K hK => ?_)
        go_simp
        refine hK _ ?_
        clear hK K
        first
          | (refine anyV_val 2 (GrowsBut.pre _) rfl (by kernel_rfl) (by kernel_rfl) (by kernel_rfl) (by rfl) (v := ?av3) (fun W hW => ?ay3) (fun K hK => ?ar3); case ay3 => (have z1 := (HX W hW).c2; go_simp; first | done | rfl))
          | refine anyV_skip 2 (GrowsBut.pre _) rfl (by kernel_rfl) (by kernel_rfl) (by kernel_rfl) (by rfl) (fun K hK => ?_)
        go_simp
        refine hK _ ?_
        clear hK K
        first
          | (refine anyV_val 3 (GrowsBut.pre _) rfl (by kernel_rfl) (by kernel_rfl) (by kernel_rfl) (by rfl) (v := ?av4) (fun W hW => ?ay4) (fun K hK => ?ar4); case ay4 => (have z1 := (HX W hW).c2; go_simp; first | done | rfl))
          | refine anyV_skip 3 (GrowsBut.pre _) rfl (by kernel_rfl) (by kernel_rfl) (by kernel_rfl) (by rfl) (fun K hK => ?_)
        go_simp
        refine hK _ ?_
        clear hK K
        first
          | (refine anyV_val 4 (GrowsBut.pre _) rfl (by kernel_rfl) (by kernel_rfl) (by kernel_rfl) (by rfl) (v := ?av5) (fun W hW => ?ay5) (fun K hK => ?ar5); case ay5 => (have z1 := (HX W hW).c2; go_simp; first | done | rfl))
          | refine anyV_skip 4 (GrowsBut.pre _) rfl (by kernel_rfl) (by kernel_rfl) (by kernel_rfl) (by rfl) (fun K hK => ?_)
        go_simp
        refine hK _ ?_
        clear hK K
        refine anyV_only 5 rfl (by kernel_rfl) (by rfl) (fun K hK => ?_)
        go_simp
        refine (docRead_any w2.drew w.heap.size w.heap.size d m bs on hD2d).mono ?_
        rintro e w3 ⟨v3, rfl, hv3, hD3, hw3⟩
        have hI3 := hI2d.same (hw3.block g hI2d.lt (by omega))
        have cv3 : ∀ W, GrowsBut (· = d) w3 W → (convert 22 9 v3).run Try.prog W = .ok (.string (strOfNums (bs.take on.toNat))) W := fun W hW => OwnBytes.conv (ownsRow_same hv3 fun b hb => hW.block b (hv3.lt b hb).2 (show ¬ b = d by have := (hv3.lt b hb).1; have := hD2d.lt; omega))
        refine ⟨_, rfl, hK _ _ hw3 ?_⟩
        clear hK K
        refine anyV_frame (fun K hK => ?_)
        go_simp
        refine hK _ ?_
        clear hK K
        first
          | (refine anyV_val 6 (GrowsBut.pre _) rfl (by kernel_rfl) (by kernel_rfl) (by kernel_rfl) (by rfl) (v := ?av6) (fun W hW => ?ay6) (fun K hK => ?ar6); case ay6 => (go_simp; first | done | rfl))
          | refine anyV_skip 6 (GrowsBut.pre _) rfl (by kernel_rfl) (by kernel_rfl) (by kernel_rfl) (by rfl) (fun K hK => ?_)
        go_simp
        refine hK _ ?_
        clear hK K
        first
          | (refine anyV_val 7 (GrowsBut.pre _) rfl (by kernel_rfl) (by kernel_rfl) (by kernel_rfl) (by rfl) (v := ?av7) (fun W hW => ?ay7) (fun K hK => ?ar7); case ay7 => (go_simp; first | done | rfl))
          | refine anyV_skip 7 (GrowsBut.pre _) rfl (by kernel_rfl) (by kernel_rfl) (by kernel_rfl) (by rfl) (fun K hK => ?_)
        go_simp
        refine hK _ ?_
        clear hK K
        first
          | (refine anyV_val 8 (GrowsBut.pre _) rfl (by kernel_rfl) (by kernel_rfl) (by kernel_rfl) (by rfl) (v := ?av8) (fun W hW => ?ay8) (fun K hK => ?ar8); case ay8 => (go_simp; first | done | rfl))
          | refine anyV_skip 8 (GrowsBut.pre _) rfl (by kernel_rfl) (by kernel_rfl) (by kernel_rfl) (by rfl) (fun K hK => ?_)
        go_simp
        refine hK _ ?_
        clear hK K
        refine anyV_done (by kernel_rfl) ?_
        have hb3 : Below w.heap.size w w3 := hb2.trans (below_of_wr (Wr.undrew hw3) hD2.1 hb2w)
        clear cv cv3 HX hv hv3
        go_wp2_with fail
        go_meet
        exact ⟨g, _, rfl, rfl, hgw, hgd, hI3, hD3.mono (show w.heap.size ≤ w2.heap.size from hb2w), hb3⟩
      have u1 : (ok == 1) = false := by simpa using d1
      by_cases d2 : ok = 2
      · subst d2
        go_wp2_with (go_at_call 19; refine held ?_)
        unfold Held
        refine (peek_ring W1 g m bs on hI1).mono ?_
        rintro e w2 ⟨⟨v, rfl, hv, _⟩, hb2⟩
        have hX2 := hX.below hb2
        have hD2 := hD1.below hb2
        have hgl := hI1.lt
        have hdl := hD1.lt
        have hb2w := hb2.size
        have hb1w := hb1.size
        clear hro e0 e1 e2 hX
        go_upto_region 29 with fail
        have HX := Lib.hid (fun W (hW : Grows w2.drew W) => (hX2.same rfl : XAt w2.drew xb _).below hW)
        have cv : ∀ W, Grows w2.drew W → (convert 22 9 v).run Try.prog W = .ok (.string (strOfNums (bs.take on.toNat))) W := fun W hW => OwnBytes.conv (ownsRow_same hv fun b hb => hW.block b (hv.lt b hb).2)
        have hD2d := hD2.below (Below.refl _ w2).drew
        refine wp_region_anyV Grows (by kernel_rfl) 9 rfl ?_
        first
          | (refine anyV_val 0 (Grows.pre) rfl (by kernel_rfl) (by kernel_rfl) (by kernel_rfl) (by rfl) (v := ?av9) (fun W hW => ?ay9) (fun K hK => ?ar9); case ay9 => (have z1 := (HX W hW).c2; go_simp; first | done | rfl))
          | refine anyV_skip 0 (Grows.pre) rfl (by kernel_rfl) (by kernel_rfl) (by kernel_rfl) (by rfl) (fun K hK => ?_)
        go_simp
        refine hK _ ?_
        clear hK K
        first
          | (refine anyV_val 1 (Grows.pre) rfl (by kernel_rfl) (by kernel_rfl) (by kernel_rfl) (by rfl) (v := ?av10) (fun W hW => ?ay10) (fun K hK => ?ar10); case ay10 => (have z1 := (HX W hW).c2; go_simp; first | done | rfl))
          | refine anyV_skip 1 (Grows.pre) rfl (by kernel_rfl) (by kernel_rfl) (by kernel_rfl) (by rfl) (fun K hK => ?_)
        go_simp
        refine hK _ ?_
        clear hK K
        first
          | (refine anyV_val 2 (Grows.pre) rfl (by kernel_rfl) (by kernel_rfl) (by kernel_rfl) (by rfl) (v := ?av11) (fun W hW => ?ay11) (fun K hK => ?ar11); case ay11 => (have z1 := (HX W hW).c2; go_simp; first | done | rfl))
          | refine anyV_skip 2 (Grows.pre) rfl (by kernel_rfl) (by kernel_rfl) (by kernel_rfl) (by rfl) (fun K hK => ?_)
        go_simp
        refine hK _ ?_
        clear hK K
        first
          | (refine anyV_val 3 (Grows.pre) rfl (by kernel_rfl) (by kernel_rfl) (by kernel_rfl) (by rfl) (v := ?av12) (fun W hW => ?ay12) (fun K hK => ?ar12); case ay12 => (have z1 := (HX W hW).c2; go_simp; first | done | rfl))
          | refine anyV_skip 3 (Grows.pre) rfl (by kernel_rfl) (by kernel_rfl) (by kernel_rfl) (by rfl) (fun K hK => ?_)
        go_simp
        refine hK _ ?_
        clear hK K
        first
          | (refine anyV_val 4 (Grows.pre) rfl (by kernel_rfl) (by kernel_rfl) (by kernel_rfl) (by rfl) (v := ?av13) (fun W hW => ?ay13) (fun K hK => ?ar13); case ay13 => (have z1 := (HX W hW).c2; go_simp; first | done | rfl))
          | refine anyV_skip 4 (Grows.pre) rfl (by kernel_rfl) (by kernel_rfl) (by kernel_rfl) (by rfl) (fun K hK => ?_)
        go_simp
        refine hK _ ?_
        clear hK K
        refine anyV_only 5 rfl (by kernel_rfl) (by rfl) (fun K hK => ?_)
        go_simp
        refine (docPeek_any w2.drew w.heap.size w.heap.size d m bs on hD2d).mono ?_
        rintro e w3 ⟨v3, rfl, hv3, hb3⟩
        have cv3 : ∀ W, Grows w3 W → (convert 22 9 v3).run Try.prog W = .ok (.string (strOfNums (bs.take on.toNat))) W := fun W hW => OwnBytes.conv (ownsRow_same hv3 fun b hb => hW.block b (hv3.lt b hb).2)
        refine ⟨_, rfl, hK _ _ hb3 ?_⟩
        clear hK K
        refine anyV_frame (fun K hK => ?_)
        go_simp
        refine hK _ ?_
        clear hK K
        first
          | (refine anyV_val 6 (Grows.pre) rfl (by kernel_rfl) (by kernel_rfl) (by kernel_rfl) (by rfl) (v := ?av14) (fun W hW => ?ay14) (fun K hK => ?ar14); case ay14 => (go_simp; first | done | rfl))
          | refine anyV_skip 6 (Grows.pre) rfl (by kernel_rfl) (by kernel_rfl) (by kernel_rfl) (by rfl) (fun K hK => ?_)
        go_simp
        refine hK _ ?_
        clear hK K
        first
          | (refine anyV_val 7 (Grows.pre) rfl (by kernel_rfl) (by kernel_rfl) (by kernel_rfl) (by rfl) (v := ?av15) (fun W hW => ?ay15) (fun K hK => ?ar15); case ay15 => (go_simp; first | done | rfl))
          | refine anyV_skip 7 (Grows.pre) rfl (by kernel_rfl) (by kernel_rfl) (by kernel_rfl) (by rfl) (fun K hK => ?_)
        go_simp
        refine hK _ ?_
        clear hK K
        first
          | (refine anyV_val 8 (Grows.pre) rfl (by kernel_rfl) (by kernel_rfl) (by kernel_rfl) (by rfl) (v := ?av16) (fun W hW => ?ay16) (fun K hK => ?ar16); case ay16 => (go_simp; first | done | rfl))
          | refine anyV_skip 8 (Grows.pre) rfl (by kernel_rfl) (by kernel_rfl) (by kernel_rfl) (by rfl) (fun K hK => ?_)
        go_simp
        refine hK _ ?_
        clear hK K
        refine anyV_done (by kernel_rfl) ?_
        have hv4 := ownsRow_same hv fun b hb => (below_undrew hb3).block b (hv.lt b hb).2
        have hb4 : Below W1.heap.size W1 w3 := hb2.trans (below_undrew (hb3.mono hb2w))
        clear cv cv3 HX hv hv3 hX2 hD2 hD2d hb2 hb3
        have hLN : (bs.take on.toNat).length ≤ 64 := by have := hI1.most_le; rw [List.length_take]; omega
        obtain ⟨ts, hts⟩ : ∃ ts, ts = bs.take on.toNat := ⟨_, rfl⟩
        rw [← hts] at hv4 hLN
        obtain ⟨L, hL⟩ : ∃ L, L = ts.length := ⟨_, rfl⟩
        rw [← hL] at hv4 hLN
        obtain ⟨va, vc, rfl, hva⟩ := ownsRow_slice hv4
        have HL := Lib.hid hL
        clear hts hL
        go_wp2_with fail
        go_loopw [122] (fun i wl => ∃ (j : Nat) (ys : List Int), i = .int .i64 (j : Int) ∧ j ≤ L ∧ ys.length = L ∧ wl.ownsRow W1.heap.size 5 1 (.slice va L vc) L (ys.map (Value.int .u8)) ∧ Below W1.heap.size W1 wl) (fun i _ => L - (intOf i).toNat)
        case atStart => exact ⟨0, ts, rfl, Nat.zero_le _, (show L = ts.length from HL).symm, hv4, hb4⟩
        case round =>
          clear hv4 hb4
          obtain ⟨j, ys, rfl, hj, hys, hcl, hbl⟩ := hrel
          by_cases hjl : j < L
          · have t5 : decide ((j : Int) < (L : Int)) = true := by simp; omega
            obtain ⟨q, rfl, hq⟩ := hva.resolve_left (by omega)
            have ck : wr.cell? ⟨q, j, none⟩ = some (.int .u8 (ys.getD j 0)) := by
              rw [hcl.cellAt j (by omega), List.getElem?_map, getD_at _ _ (by omega), List.getElem?_eq_getElem (by omega)]; rfl
            have fk := hcl.frozenAt j
            have hst := fun u => (hcl.stored j u).1
            obtain ⟨hq1, hq2⟩ := hcl.lt q hq
            go_wp2_with fail
            go_roundw
            case rel =>
              exact ⟨j + 1, ys.set j ((ys[j]'(by omega) + 1) % 256), by go_num, by omega, by rw [List.length_set]; exact hys, by rw [List.map_set]; exact hst _, hbl.setCell (p := ⟨q, j, none⟩) hq1 _⟩
            case measure => simp [intOf]; omega
          · have t5 : decide ((j : Int) < (L : Int)) = false := by simp; omega
            go_wp2_with fail
            go_meet
            exact ⟨g, bs, rfl, rfl, hgw, hgd, hI1.below hI1.lt hbl, hD1.below hbl, hb1.trans (hbl.mono hb1w)⟩
      have u2 : (ok == 2) = false := by simpa using d2
      by_cases d3 : ok = 3
      · subst d3
        go_wp2_with (go_at_call 18; refine held ?_)
        unfold Held
        refine (copy_ring W1 g m bs hI1).mono ?_
        rintro e w2 ⟨rfl, hC2, hb2⟩
        have hX2 := hX.below hb2
        have hD2 := hD1.below hb2
        have hI2 := hI1.below hI1.lt hb2
        have hgl := hI1.lt
        have hdl := hD1.lt
        have hb3 := hb1.trans (hb2.mono hb1.size)
        have hb1w := hb1.size
        obtain ⟨h, hh⟩ : ∃ h, h = W1.heap.size := ⟨_, rfl⟩
        rw [← hh] at hC2 hgl hdl hb1w ⊢
        have hro2 : Row8 w2.heap.size w2 (.slice oa olen ocap) obs := (hro.below (hb2.mono hb1.size)).mono hb3.size
        have hgo : ¬ blockOf (.slice oa olen ocap) g := fun h => by have := hro.lt g h; omega
        have f1 := hX2.c1
        clear hro e0 e1 e2 hh hX hI1 hD1 hb1 hb2
        go_wp2_with (go_at_call 10; refine held ?_)
        unfold Held
        refine (write_ring w2 g m bs oa olen ocap obs hI2 hro2 hgo (by omega)).mono ?_
        rintro e w3 ⟨rfl, hI3, hw3⟩
        have hC3 := hC2.same (hw3.block h hC2.lt (by omega))
        have hD3 := hD2.wr hw3 (fun b h => by
          subst h
          obtain ⟨f, first, hR, _⟩ := hI2
          exact ⟨hgd, _, _, _, hR, by decide⟩)
        have hb4 := hb3.trans (below_of_wr hw3 hgw hb3.size)
        clear hI2 hD2 hX2 hro2 hgo hC2 f1
        go_wp2_with (go_at_call 11; refine held ?_)
        unfold Held
        refine (read_ring w3 g m _ 1 hI3).mono ?_
        rintro e w4 ⟨⟨v4, rfl, _, _⟩, hI4, hw4⟩
        have hC4 := hC3.same (hw4.block h hC3.lt (by omega))
        have hD4 := hD3.wr hw4 (fun b h => by
          subst h
          obtain ⟨f, first, hR, _⟩ := hI3
          exact ⟨hgd, _, _, _, hR, by decide⟩)
        have hb5 := hb4.trans (below_of_wr hw4 hgw hb4.size)
        go_wp2_with fail
        go_meet
        exact ⟨h, bs, rfl, rfl, hb1w, by omega, hC4, hD4, hb5⟩
      have u3 : (ok == 3) = false := by simpa using d3
      go_wp2_with fail
      go_meet
      exact ⟨g, bs, rfl, rfl, hgw, hgd, hI1, hD1, hb1⟩
    case rest =>
      clear hI1 hD1 hb1 hX hro e0 e1 e2
      obtain ⟨g, bs, rfl, rfl, hgw, hgd, hI, hD, hb⟩ := hcut
      go_upto_region 40 with fail
      have hml := hI.most_le
      have hbw := hb.size
      have hDD := hD
      obtain ⟨_, _, _, _, v, hDA, hown⟩ := hDD
      have cvd : ∀ W, Grows wc.drew W → (convert 22 9 v).run Try.prog W = .ok (.string (strOfNums bs)) W := fun W hW => OwnBytes.conv (ownsRow_same hown fun b hb => hW.block b (hown.lt b hb).2)
      obtain ⟨va, vc, rfl, _⟩ := ownsRow_slice hown
      have HX := Lib.hid (fun W (hW : Grows wc.drew W) => ((hDA.same (hW.block d hDA.lt) : DocAt W d m (.slice va bs.length vc)).cell 1 _ rfl))
      have hId : IsRing wc.drew g m bs := hI.same rfl
      obtain ⟨Rm, hRm⟩ : ∃ Rm, Rm = m - bs.length := ⟨_, rfl⟩
      have p3 : (m : Int) - (bs.length : Int) = (Rm : Int) := by omega
      have p4 : IntKind.i64.wrap (Rm : Int) = (Rm : Int) := by rw [IntKind.wrap_i64]; omega
      have HRm := Lib.hid hRm
      clear hRm
      refine wp_region_anyV Grows (by kernel_rfl) 41 rfl ?_
      first
        | (refine anyV_val 0 (Grows.pre) rfl (by kernel_rfl) (by kernel_rfl) (by kernel_rfl) (by rfl) (v := ?av17) (fun W hW => ?ay17) (fun K hK => ?ar17); case ay17 => (have z1 := HX W hW; go_simp; first | done | rfl))
        | refine anyV_skip 0 (Grows.pre) rfl (by kernel_rfl) (by kernel_rfl) (by kernel_rfl) (by rfl) (fun K hK => ?_)
      go_simp
      refine hK _ ?_
      clear hK K
      first
        | (refine anyV_val 1 (Grows.pre) rfl (by kernel_rfl) (by kernel_rfl) (by kernel_rfl) (by rfl) (v := ?av18) (fun W hW => ?ay18) (fun K hK => ?ar18); case ay18 => (have z1 := HX W hW; go_simp; first | done | rfl))
        | refine anyV_skip 1 (Grows.pre) rfl (by kernel_rfl) (by kernel_rfl) (by kernel_rfl) (by rfl) (fun K hK => ?_)
      go_simp
      refine hK _ ?_
      clear hK K
      first
        | (refine anyV_val 2 (Grows.pre) rfl (by kernel_rfl) (by kernel_rfl) (by kernel_rfl) (by rfl) (v := ?av19) (fun W hW => ?ay19) (fun K hK => ?ar19); case ay19 => (have z1 := HX W hW; go_simp; first | done | rfl))
        | refine anyV_skip 2 (Grows.pre) rfl (by kernel_rfl) (by kernel_rfl) (by kernel_rfl) (by rfl) (fun K hK => ?_)
      go_simp
      refine hK _ ?_
      clear hK K
      first
        | (refine anyV_val 3 (Grows.pre) rfl (by kernel_rfl) (by kernel_rfl) (by kernel_rfl) (by rfl) (v := ?av20) (fun W hW => ?ay20) (fun K hK => ?ar20); case ay20 => (have z1 := HX W hW; go_simp; first | done | rfl))
        | refine anyV_skip 3 (Grows.pre) rfl (by kernel_rfl) (by kernel_rfl) (by kernel_rfl) (by rfl) (fun K hK => ?_)
      go_simp
      refine hK _ ?_
      clear hK K
      first
        | (refine anyV_val 6 (Grows.pre) rfl (by kernel_rfl) (by kernel_rfl) (by kernel_rfl) (by rfl) (v := ?av21) (fun W hW => ?ay21) (fun K hK => ?ar21); case ay21 => (have z1 := HX W hW; go_simp; first | done | rfl))
        | refine anyV_skip 6 (Grows.pre) rfl (by kernel_rfl) (by kernel_rfl) (by kernel_rfl) (by rfl) (fun K hK => ?_)
      go_simp
      refine hK _ ?_
      clear hK K
      first
        | (refine anyV_val 7 (Grows.pre) rfl (by kernel_rfl) (by kernel_rfl) (by kernel_rfl) (by rfl) (v := ?av22) (fun W hW => ?ay22) (fun K hK => ?ar22); case ay22 => (have z1 := HX W hW; go_simp; first | done | rfl))
        | refine anyV_skip 7 (Grows.pre) rfl (by kernel_rfl) (by kernel_rfl) (by kernel_rfl) (by rfl) (fun K hK => ?_)
      go_simp
      refine hK _ ?_
      clear hK K
      first
        | (refine anyV_val 8 (Grows.pre) rfl (by kernel_rfl) (by kernel_rfl) (by kernel_rfl) (by rfl) (v := ?av23) (fun W hW => ?ay23) (fun K hK => ?ar23); case ay23 => (have z1 := HX W hW; go_simp; first | done | rfl))
        | refine anyV_skip 8 (Grows.pre) rfl (by kernel_rfl) (by kernel_rfl) (by kernel_rfl) (by rfl) (fun K hK => ?_)
      go_simp
      refine hK _ ?_
      clear hK K
      first
        | (refine anyV_val 9 (Grows.pre) rfl (by kernel_rfl) (by kernel_rfl) (by kernel_rfl) (by rfl) (v := ?av24) (fun W hW => ?ay24) (fun K hK => ?ar24); case ay24 => (have z1 := HX W hW; go_simp; first | done | rfl))
        | refine anyV_skip 9 (Grows.pre) rfl (by kernel_rfl) (by kernel_rfl) (by kernel_rfl) (by rfl) (fun K hK => ?_)
      go_simp
      refine hK _ ?_
      clear hK K
      first
        | (refine anyV_val 10 (Grows.pre) rfl (by kernel_rfl) (by kernel_rfl) (by kernel_rfl) (by rfl) (v := ?av25) (fun W hW => ?ay25) (fun K hK => ?ar25); case ay25 => (have z1 := HX W hW; go_simp; first | done | rfl))
        | refine anyV_skip 10 (Grows.pre) rfl (by kernel_rfl) (by kernel_rfl) (by kernel_rfl) (by rfl) (fun K hK => ?_)
      go_simp
      refine hK _ ?_
      clear hK K
      refine anyV_only 4 rfl (by kernel_rfl) (by rfl) (fun K hK => ?_)
      go_simp
      refine (all_ring wc.drew g m bs hId).mono ?_
      rintro e w3 ⟨⟨v3, rfl, hv, _⟩, hb3⟩
      have cv : ∀ W, Grows w3 W → (convert 22 9 v3).run Try.prog W = .ok (.string (strOfNums bs)) W := fun W hW => OwnBytes.conv (ownsRow_same hv fun b hb => hW.block b (hv.lt b hb).2)
      have hI3 := hId.below hId.lt hb3
      refine ⟨_, rfl, hK _ _ hb3 ?_⟩
      clear hK K
      refine anyV_frame (fun K hK => ?_)
      go_simp
      refine hK _ ?_
      clear hK K
      first
        | (refine anyV_val 5 (Grows.pre) rfl (by kernel_rfl) (by kernel_rfl) (by kernel_rfl) (by rfl) (v := ?av26) (fun W hW => ?ay26) (fun K hK => ?ar26); case ay26 => (have z1 := HX W (Grows.pre.trans hb3 hW); go_simp; first | done | rfl))
        | refine anyV_skip 5 (Grows.pre) rfl (by kernel_rfl) (by kernel_rfl) (by kernel_rfl) (by rfl) (fun K hK => ?_)
      go_simp
      refine hK _ ?_
      clear hK K
      first
        | (refine anyV_val 11 (Grows.pre) rfl (by kernel_rfl) (by kernel_rfl) (by kernel_rfl) (by rfl) (v := ?av27) (fun W hW => ?ay27) (fun K hK => ?ar27); case ay27 => (have z1 := HX W (Grows.pre.trans hb3 hW); go_simp; first | done | rfl))
        | refine anyV_skip 11 (Grows.pre) rfl (by kernel_rfl) (by kernel_rfl) (by kernel_rfl) (by rfl) (fun K hK => ?_)
      go_simp
      refine hK _ ?_
      clear hK K
      first
        | (refine anyV_val 12 (Grows.pre) rfl (by kernel_rfl) (by kernel_rfl) (by kernel_rfl) (by rfl) (v := ?av28) (fun W hW => ?ay28) (fun K hK => ?ar28); case ay28 => (have z1 := HX W (Grows.pre.trans hb3 hW); go_simp; first | done | rfl))
        | refine anyV_skip 12 (Grows.pre) rfl (by kernel_rfl) (by kernel_rfl) (by kernel_rfl) (by rfl) (fun K hK => ?_)
      go_simp
      refine hK _ ?_
      clear hK K
      first
        | (refine anyV_val 13 (Grows.pre) rfl (by kernel_rfl) (by kernel_rfl) (by kernel_rfl) (by rfl) (v := ?av29) (fun W hW => ?ay29) (fun K hK => ?ar29); case ay29 => (have z1 := HX W (Grows.pre.trans hb3 hW); go_simp; first | done | rfl))
        | refine anyV_skip 13 (Grows.pre) rfl (by kernel_rfl) (by kernel_rfl) (by kernel_rfl) (by rfl) (fun K hK => ?_)
      go_simp
      refine hK _ ?_
      clear hK K
      first
        | (refine anyV_val 14 (Grows.pre) rfl (by kernel_rfl) (by kernel_rfl) (by kernel_rfl) (by rfl) (v := ?av30) (fun W hW => ?ay30) (fun K hK => ?ar30); case ay30 => (have z1 := HX W (Grows.pre.trans hb3 hW); go_simp; first | done | rfl))
        | refine anyV_skip 14 (Grows.pre) rfl (by kernel_rfl) (by kernel_rfl) (by kernel_rfl) (by rfl) (fun K hK => ?_)
      go_simp
      refine hK _ ?_
      clear hK K
      first
        | (refine anyV_val 16 (Grows.pre) rfl (by kernel_rfl) (by kernel_rfl) (by kernel_rfl) (by rfl) (v := ?av31) (fun W hW => ?ay31) (fun K hK => ?ar31); case ay31 => (have z1 := HX W (Grows.pre.trans hb3 hW); go_simp; first | done | rfl))
        | refine anyV_skip 16 (Grows.pre) rfl (by kernel_rfl) (by kernel_rfl) (by kernel_rfl) (by rfl) (fun K hK => ?_)
      go_simp
      refine hK _ ?_
      clear hK K
      first
        | (refine anyV_val 17 (Grows.pre) rfl (by kernel_rfl) (by kernel_rfl) (by kernel_rfl) (by rfl) (v := ?av32) (fun W hW => ?ay32) (fun K hK => ?ar32); case ay32 => (have z1 := HX W (Grows.pre.trans hb3 hW); go_simp; first | done | rfl))
        | refine anyV_skip 17 (Grows.pre) rfl (by kernel_rfl) (by kernel_rfl) (by kernel_rfl) (by rfl) (fun K hK => ?_)
      go_simp
      refine hK _ ?_
      clear hK K
      first
        | (refine anyV_val 18 (Grows.pre) rfl (by kernel_rfl) (by kernel_rfl) (by kernel_rfl) (by rfl) (v := ?av33) (fun W hW => ?ay33) (fun K hK => ?ar33); case ay33 => (have z1 := HX W (Grows.pre.trans hb3 hW); go_simp; first | done | rfl))
        | refine anyV_skip 18 (Grows.pre) rfl (by kernel_rfl) (by kernel_rfl) (by kernel_rfl) (by rfl) (fun K hK => ?_)
      go_simp
      refine hK _ ?_
      clear hK K
      first
        | (refine anyV_val 19 (Grows.pre) rfl (by kernel_rfl) (by kernel_rfl) (by kernel_rfl) (by rfl) (v := ?av34) (fun W hW => ?ay34) (fun K hK => ?ar34); case ay34 => (have z1 := HX W (Grows.pre.trans hb3 hW); go_simp; first | done | rfl))
        | refine anyV_skip 19 (Grows.pre) rfl (by kernel_rfl) (by kernel_rfl) (by kernel_rfl) (by rfl) (fun K hK => ?_)
      go_simp
      refine hK _ ?_
      clear hK K
      first
        | (refine anyV_val 20 (Grows.pre) rfl (by kernel_rfl) (by kernel_rfl) (by kernel_rfl) (by rfl) (v := ?av35) (fun W hW => ?ay35) (fun K hK => ?ar35); case ay35 => (have z1 := HX W (Grows.pre.trans hb3 hW); go_simp; first | done | rfl))
        | refine anyV_skip 20 (Grows.pre) rfl (by kernel_rfl) (by kernel_rfl) (by kernel_rfl) (by rfl) (fun K hK => ?_)
      go_simp
      refine hK _ ?_
      clear hK K
      refine anyV_only 15 rfl (by kernel_rfl) (by rfl) (fun K hK => ?_)
      go_simp
      refine (len_ring w3 g m bs hI3).mono ?_
      rintro e w4 ⟨rfl, rfl⟩
      refine ⟨_, rfl, hK _ _ (Grows.pre.refl _) ?_⟩
      clear hK K
      refine anyV_frame (fun K hK => ?_)
      go_simp
      refine hK _ ?_
      clear hK K
      first
        | (refine anyV_val 21 (Grows.pre) rfl (by kernel_rfl) (by kernel_rfl) (by kernel_rfl) (by rfl) (v := ?av36) (fun W hW => ?ay36) (fun K hK => ?ar36); case ay36 => (have z1 := HX W (Grows.pre.trans hb3 hW); go_simp; first | done | rfl))
        | refine anyV_skip 21 (Grows.pre) rfl (by kernel_rfl) (by kernel_rfl) (by kernel_rfl) (by rfl) (fun K hK => ?_)
      go_simp
      refine hK _ ?_
      clear hK K
      first
        | (refine anyV_val 22 (Grows.pre) rfl (by kernel_rfl) (by kernel_rfl) (by kernel_rfl) (by rfl) (v := ?av37) (fun W hW => ?ay37) (fun K hK => ?ar37); case ay37 => (have z1 := HX W (Grows.pre.trans hb3 hW); go_simp; first | done | rfl))
        | refine anyV_skip 22 (Grows.pre) rfl (by kernel_rfl) (by kernel_rfl) (by kernel_rfl) (by rfl) (fun K hK => ?_)
      go_simp
      refine hK _ ?_
      clear hK K
      first
        | (refine anyV_val 23 (Grows.pre) rfl (by kernel_rfl) (by kernel_rfl) (by kernel_rfl) (by rfl) (v := ?av38) (fun W hW => ?ay38) (fun K hK => ?ar38); case ay38 => (have z1 := HX W (Grows.pre.trans hb3 hW); go_simp; first | done | rfl))
        | refine anyV_skip 23 (Grows.pre) rfl (by kernel_rfl) (by kernel_rfl) (by kernel_rfl) (by rfl) (fun K hK => ?_)
      go_simp
      refine hK _ ?_
      clear hK K
      first
        | (refine anyV_val 24 (Grows.pre) rfl (by kernel_rfl) (by kernel_rfl) (by kernel_rfl) (by rfl) (v := ?av39) (fun W hW => ?ay39) (fun K hK => ?ar39); case ay39 => (have z1 := HX W (Grows.pre.trans hb3 hW); go_simp; first | done | rfl))
        | refine anyV_skip 24 (Grows.pre) rfl (by kernel_rfl) (by kernel_rfl) (by kernel_rfl) (by rfl) (fun K hK => ?_)
      go_simp
      refine hK _ ?_
      clear hK K
      first
        | (refine anyV_val 26 (Grows.pre) rfl (by kernel_rfl) (by kernel_rfl) (by kernel_rfl) (by rfl) (v := ?av40) (fun W hW => ?ay40) (fun K hK => ?ar40); case ay40 => (have z1 := HX W (Grows.pre.trans hb3 hW); go_simp; first | done | rfl))
        | refine anyV_skip 26 (Grows.pre) rfl (by kernel_rfl) (by kernel_rfl) (by kernel_rfl) (by rfl) (fun K hK => ?_)
      go_simp
      refine hK _ ?_
      clear hK K
      first
        | (refine anyV_val 27 (Grows.pre) rfl (by kernel_rfl) (by kernel_rfl) (by kernel_rfl) (by rfl) (v := ?av41) (fun W hW => ?ay41) (fun K hK => ?ar41); case ay41 => (have z1 := HX W (Grows.pre.trans hb3 hW); go_simp; first | done | rfl))
        | refine anyV_skip 27 (Grows.pre) rfl (by kernel_rfl) (by kernel_rfl) (by kernel_rfl) (by rfl) (fun K hK => ?_)
      go_simp
      refine hK _ ?_
      clear hK K
      first
        | (refine anyV_val 28 (Grows.pre) rfl (by kernel_rfl) (by kernel_rfl) (by kernel_rfl) (by rfl) (v := ?av42) (fun W hW => ?ay42) (fun K hK => ?ar42); case ay42 => (have z1 := HX W (Grows.pre.trans hb3 hW); go_simp; first | done | rfl))
        | refine anyV_skip 28 (Grows.pre) rfl (by kernel_rfl) (by kernel_rfl) (by kernel_rfl) (by rfl) (fun K hK => ?_)
      go_simp
      refine hK _ ?_
      clear hK K
      first
        | (refine anyV_val 29 (Grows.pre) rfl (by kernel_rfl) (by kernel_rfl) (by kernel_rfl) (by rfl) (v := ?av43) (fun W hW => ?ay43) (fun K hK => ?ar43); case ay43 => (have z1 := HX W (Grows.pre.trans hb3 hW); go_simp; first | done | rfl))
        | refine anyV_skip 29 (Grows.pre) rfl (by kernel_rfl) (by kernel_rfl) (by kernel_rfl) (by rfl) (fun K hK => ?_)
      go_simp
      refine hK _ ?_
      clear hK K
      first
        | (refine anyV_val 30 (Grows.pre) rfl (by kernel_rfl) (by kernel_rfl) (by kernel_rfl) (by rfl) (v := ?av44) (fun W hW => ?ay44) (fun K hK => ?ar44); case ay44 => (have z1 := HX W (Grows.pre.trans hb3 hW); go_simp; first | done | rfl))
        | refine anyV_skip 30 (Grows.pre) rfl (by kernel_rfl) (by kernel_rfl) (by kernel_rfl) (by rfl) (fun K hK => ?_)
      go_simp
      refine hK _ ?_
      clear hK K
      first
        | (refine anyV_val 31 (Grows.pre) rfl (by kernel_rfl) (by kernel_rfl) (by kernel_rfl) (by rfl) (v := ?av45) (fun W hW => ?ay45) (fun K hK => ?ar45); case ay45 => (have z1 := HX W (Grows.pre.trans hb3 hW); go_simp; first | done | rfl))
        | refine anyV_skip 31 (Grows.pre) rfl (by kernel_rfl) (by kernel_rfl) (by kernel_rfl) (by rfl) (fun K hK => ?_)
      go_simp
      refine hK _ ?_
      clear hK K
      first
        | (refine anyV_val 32 (Grows.pre) rfl (by kernel_rfl) (by kernel_rfl) (by kernel_rfl) (by rfl) (v := ?av46) (fun W hW => ?ay46) (fun K hK => ?ar46); case ay46 => (have z1 := HX W (Grows.pre.trans hb3 hW); go_simp; first | done | rfl))
        | refine anyV_skip 32 (Grows.pre) rfl (by kernel_rfl) (by kernel_rfl) (by kernel_rfl) (by rfl) (fun K hK => ?_)
      go_simp
      refine hK _ ?_
      clear hK K
      refine anyV_only 25 rfl (by kernel_rfl) (by rfl) (fun K hK => ?_)
      go_simp
      refine (room_ring w3 g m bs hI3).mono ?_
      rintro e w4 ⟨rfl, rfl⟩
      rw [← (show Rm = m - bs.length from HRm)]
      refine ⟨_, rfl, hK _ _ (Grows.pre.refl _) ?_⟩
      clear hK K
      refine anyV_frame (fun K hK => ?_)
      go_simp
      refine hK _ ?_
      clear hK K
      first
        | (refine anyV_val 33 (Grows.pre) rfl (by kernel_rfl) (by kernel_rfl) (by kernel_rfl) (by rfl) (v := ?av47) (fun W hW => ?ay47) (fun K hK => ?ar47); case ay47 => (have z1 := HX W (Grows.pre.trans hb3 hW); go_simp; first | done | rfl))
        | refine anyV_skip 33 (Grows.pre) rfl (by kernel_rfl) (by kernel_rfl) (by kernel_rfl) (by rfl) (fun K hK => ?_)
      go_simp
      refine hK _ ?_
      clear hK K
      first
        | (refine anyV_val 34 (Grows.pre) rfl (by kernel_rfl) (by kernel_rfl) (by kernel_rfl) (by rfl) (v := ?av48) (fun W hW => ?ay48) (fun K hK => ?ar48); case ay48 => (have z1 := HX W (Grows.pre.trans hb3 hW); go_simp; first | done | rfl))
        | refine anyV_skip 34 (Grows.pre) rfl (by kernel_rfl) (by kernel_rfl) (by kernel_rfl) (by rfl) (fun K hK => ?_)
      go_simp
      refine hK _ ?_
      clear hK K
      first
        | (refine anyV_val 35 (Grows.pre) rfl (by kernel_rfl) (by kernel_rfl) (by kernel_rfl) (by rfl) (v := ?av49) (fun W hW => ?ay49) (fun K hK => ?ar49); case ay49 => (have z1 := HX W (Grows.pre.trans hb3 hW); go_simp; first | done | rfl))
        | refine anyV_skip 35 (Grows.pre) rfl (by kernel_rfl) (by kernel_rfl) (by kernel_rfl) (by rfl) (fun K hK => ?_)
      go_simp
      refine hK _ ?_
      clear hK K
      first
        | (refine anyV_val 36 (Grows.pre) rfl (by kernel_rfl) (by kernel_rfl) (by kernel_rfl) (by rfl) (v := ?av50) (fun W hW => ?ay50) (fun K hK => ?ar50); case ay50 => (have z1 := HX W (Grows.pre.trans hb3 hW); go_simp; first | done | rfl))
        | refine anyV_skip 36 (Grows.pre) rfl (by kernel_rfl) (by kernel_rfl) (by kernel_rfl) (by rfl) (fun K hK => ?_)
      go_simp
      refine hK _ ?_
      clear hK K
      first
        | (refine anyV_val 38 (Grows.pre) rfl (by kernel_rfl) (by kernel_rfl) (by kernel_rfl) (by rfl) (v := ?av51) (fun W hW => ?ay51) (fun K hK => ?ar51); case ay51 => (have z1 := HX W (Grows.pre.trans hb3 hW); go_simp; first | done | rfl))
        | refine anyV_skip 38 (Grows.pre) rfl (by kernel_rfl) (by kernel_rfl) (by kernel_rfl) (by rfl) (fun K hK => ?_)
      go_simp
      refine hK _ ?_
      clear hK K
      refine anyV_only 37 rfl (by kernel_rfl) (by rfl) (fun K hK => ?_)
      go_simp
      refine (cap_ring w3 g m bs hI3).mono ?_
      rintro e w4 ⟨rfl, rfl⟩
      refine ⟨_, rfl, hK _ _ (Grows.pre.refl _) ?_⟩
      clear hK K
      refine anyV_frame (fun K hK => ?_)
      go_simp
      refine hK _ ?_
      clear hK K
      first
        | (refine anyV_val 39 (Grows.pre) rfl (by kernel_rfl) (by kernel_rfl) (by kernel_rfl) (by rfl) (v := ?av52) (fun W hW => ?ay52) (fun K hK => ?ar52); case ay52 => (have z1 := HX W (Grows.pre.trans hb3 hW); go_simp; first | done | rfl))
        | refine anyV_skip 39 (Grows.pre) rfl (by kernel_rfl) (by kernel_rfl) (by kernel_rfl) (by rfl) (fun K hK => ?_)
      go_simp
      refine hK _ ?_
      clear hK K
      first
        | (refine anyV_val 40 (Grows.pre) rfl (by kernel_rfl) (by kernel_rfl) (by kernel_rfl) (by rfl) (v := ?av53) (fun W hW => ?ay53) (fun K hK => ?ar53); case ay53 => (have z1 := HX W (Grows.pre.trans hb3 hW); go_simp; first | done | rfl))
        | refine anyV_skip 40 (Grows.pre) rfl (by kernel_rfl) (by kernel_rfl) (by kernel_rfl) (by rfl) (fun K hK => ?_)
      go_simp
      refine hK _ ?_
      clear hK K
      refine anyV_done (by kernel_rfl) ?_
      have hb4 : Below w.heap.size w w3 := hb.trans (below_undrew (hb3.mono hbw))
      have hD4 := hD.below (below_undrew hb3)
      clear cv cvd HX
      go_wp2_with fail
      go_roundw
      case rel => exact ⟨k + 1, g, bs, by go_num, by omega, rfl, hgw, hgd, hI3, hD4, hb4⟩
      case measure => simp [intOf]; omega
end Go.Proofs.Ytdnbinjinpnnmaa
