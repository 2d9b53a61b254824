/- The walk of the law TlvJoined. -/
import Derived.Test.YtdlhnipkhlihjaaTlvE
import Derived.Test.YtdlhnipkhlihjaaRowSlice
import Derived.Test.YtdlhnipkhlihjaaAnyV
namespace Go.Proofs.Ytdlhnipkhlihjaa
open Go Go.RowKit
attribute [local go_sem] upV_value upV_skip upV_enter
set_option linter.unusedVariables false
set_option linter.unnecessarySimpa false
theorem tlvE_cases (f : Forest) : (tlvE f = 220 ∧ f.sizeL 1 0 < 0) ∨ (tlvE f = 0 ∧ 0 ≤ f.sizeL 1 0) := by
  unfold tlvE
  by_cases h : f.sizeL 1 0 < 0
  · left; rw [if_pos h]; exact ⟨rfl, h⟩
  · right; rw [if_neg h]; exact ⟨rfl, by omega⟩
theorem cnt_app : ∀ f g : Forest, (f.app g).cnt = f.cnt + g.cnt
  | .nil, g => by simp [Forest.app, Forest.cnt]
  | .cons t b k r, g => by rw [Forest.app, Forest.cnt, cnt_app r g, Forest.cnt]; omega
theorem conv_row {n : Nat} {W : World} {v : Value} {X : List Int} (h : RowI .u8 n W v X) : ∀ W', Below n W W' → (convert 25 9 v).run Try.prog W' = .ok (.string (strOfNums X)) W' :=
  fun W' hW => convRow (P := Try.prog) (h.below hW) 25 5 9 Try.underlying25 Try.underlying5 Try.underlying9
theorem layF_one (f : Forest) : (Forest.cons 200 [] f .nil).layF.drop 5 = f.layF ∧ (Forest.cons 200 [] f .nil).layF.length = 5 + f.layF.length := by
  rw [Forest.layF, Forest.layF]
  simp only [show (128 : Int) ≤ 200 by decide, ↓reduceIte, List.append_nil]
  constructor
  · rfl
  · simp only [List.length_append, List.length_cons, List.length_nil]
set_option maxRecDepth 100000 in
set_option maxHeartbeats 8000000 in
theorem tlvJoined_any (w : World) (a1 : Option Addr) (l1 c1 : Nat) (f1 : Forest) (h1 : SlF w.heap.size w a1 l1 c1 f1) (a2 : Option Addr) (l2 c2 : Nat) (f2 : Forest) (h2 : SlF w.heap.size w a2 l2 c2 f2) :
    Calls Try.prog 3 #[.slice a1 l1 c1, .slice a2 l2 c2] w fun e w' => e = .returned (.bool true) ∧ Below w.heap.size w w' := by
  obtain ⟨i0, hi, hz0, hz1, hz2⟩ := info_parts info_tlv
  go_enter Try.func3, Try.ntmps3
  go_wp2_with (go_at_call 10; refine held ?_)
  unfold Held
  refine (alive_any w).mono ?_
  rintro e w1 ⟨rfl, b1⟩
  go_wp2_with (go_at_call 11; refine held ?_)
  unfold Held
  refine (great_any f1 w1 w.heap.size a1 l1 c1 1 (h1.below b1) (by omega)).mono ?_
  rintro e w1' ⟨⟨g1, rfl, _, hg1⟩, rfl⟩
  by_cases t1 : g1 ≤ 5000
  rotate_left
  · have t2 : decide ((5000 : Int) < (g1 : Int)) = true := by simp; omega
    go_wp2
    go_ret
    exact ⟨rfl, b1⟩
  have t2 : decide ((5000 : Int) < (g1 : Int)) = false := by simp; omega
  have n1 : f1.cnt ≤ 5000 := by have := hg1 (by omega); omega
  clear hg1
  go_wp2_with (go_at_call 11; refine held ?_)
  unfold Held
  refine (great_any f2 w1 w.heap.size a2 l2 c2 1 (h2.below b1) (by omega)).mono ?_
  rintro e w1' ⟨⟨g2, rfl, _, hg2⟩, rfl⟩
  by_cases t3 : g2 ≤ 5000
  rotate_left
  · have t4 : decide ((5000 : Int) < (g2 : Int)) = true := by simp; omega
    go_wp2
    go_ret
    exact ⟨rfl, b1⟩
  have t4 : decide ((5000 : Int) < (g2 : Int)) = false := by simp; omega
  have n2 : f2.cnt ≤ 5000 := by have := hg2 (by omega); omega
  clear hg2
  go_wp2_with (go_at_call 12; refine held ?_)
  unfold Held
  refine (tbytes_any f1 w1 a1 l1 c1 ((h1.below b1).mono b1.size) (by omega)).mono ?_
  rintro e w2 ⟨va, rfl, oa, b2⟩
  try dsimp only
  have hb1 := b1.size
  replace b2 := below_step b1 b2
  go_wp2_with (go_at_call 12; refine held ?_)
  unfold Held
  refine (tbytes_any f2 w2 a2 l2 c2 ((h2.below b2).mono b2.size) (by omega)).mono ?_
  rintro e w3 ⟨vb, rfl, ob, b3⟩
  try dsimp only
  have oa3 := ownsRow_same oa fun q hq => b3.block q (oa.lt q hq).2
  have hb2 := b2.size
  replace b3 := below_step b2 b3
  clear oa b1
  obtain ⟨vs1, v1l, v1o, v1r, v1c⟩ := (h1.below b3).vals
  obtain ⟨vs2, v2l, v2o, v2r, v2c⟩ := (h2.below b3).vals
  have hl1 : l1 ≤ 5000 := by have := h1.1; have := Forest.length_le_cnt f1; omega
  have hl2 : l2 ≤ 5000 := by have := h2.1; have := Forest.length_le_cnt f2; omega
  go_wp2_with (at_builtin; refine held ?_)
  unfold Held
  have hl0 := World.ownsRow_lit (base := w3.heap.size) (e := 30) (size := 3) w3 #[] 0 (Nat.le_refl _) (by decide) rfl
  obtain ⟨W2, hW2⟩ : ∃ W2, W2 = w3.alloc (.cells #[] 30) := ⟨_, rfl⟩
  have bb : Below w3.heap.size w3 W2 := by rw [hW2]; exact (Below.refl _ w3).alloc (Nat.le_refl _) _
  rw [← hW2] at hl0 ⊢
  have b4 := below_step b3 bb
  have hb3 := b3.size
  have cellsTo : ∀ (V : World) (a : Option Addr) (l c : Nat) (f : Forest) (vs : List Value), SlF w.heap.size w3 a l c f → Below w.heap.size w3 V → ((l = 0 ∧ vs = []) ∨ ∃ b off, a = some ⟨b, off, none⟩ ∧ ∀ j u, vs[j]? = some u → w3.cell? ⟨b, off + j, none⟩ = some u) →
      vs.length = l * 3 → ((l = 0 ∧ vs = []) ∨ ∃ b off, a = some ⟨b, off, none⟩ ∧ ∀ j u, vs[j]? = some u → V.cell? ⟨b, off + j, none⟩ = some u) := fun V a l c f vs hs hV hc hl => by
    rcases hc with hc | ⟨b, off, rfl, hc⟩
    · exact .inl hc
    · by_cases h0 : l = 0
      · exact .inl ⟨h0, List.eq_nil_of_length_eq_zero (by omega)⟩
      · obtain ⟨_, h | ⟨b', off', hh, hbn, _⟩⟩ := hs
        · exact absurd h h0
        · injection hh with hh; injection hh with q1 q2; subst q1 q2
          exact .inr ⟨b, off, rfl, fun j u hj => (hV.cell (p := ⟨b, off + j, none⟩) hbn).trans (hc j u hj)⟩
  have bbw : Below w.heap.size w3 W2 := ⟨bb.os, bb.tape, bb.output, bb.size, fun q hq => bb.block q (by omega)⟩
  refine wpList_append_vals rfl _ _ 22 rfl w3.heap.size 30 i0 _ 3 56 Try.underlying22 hi hz0 hz1 hz2 rfl (by decide) (.slice (some ⟨w3.heap.size, 0, none⟩) 0 0) 0 [] rfl hl0 a1 l1 c1 vs1 rfl v1l v1o (cellsTo W2 a1 l1 c1 f1 vs1 (h1.below b3) bbw v1c v1l) (by omega) (by simp only [maxLen]; omega) bb.size ?_
  intro x1 u1 p1 gr1 hx1
  rw [Nat.zero_add, List.nil_append] at p1
  have b5 : Below w.heap.size w u1 := b4.grown gr1 b4.size (fun q hq => by simp [Value.ownBlock] at hq; omega)
  have d1 : Below w3.heap.size w3 u1 := bb.grown gr1 bb.size (fun q hq => by simp [Value.ownBlock] at hq; omega)
  have d1w : Below w.heap.size w3 u1 := ⟨d1.os, d1.tape, d1.output, d1.size, fun q hq => d1.block q (by omega)⟩
  clear hl0 hW2 bb gr1 hx1 b4 bbw
  go_wp2_with (at_builtin; refine held ?_)
  unfold Held
  refine wpList_append_vals rfl _ _ 22 rfl w3.heap.size 30 i0 _ 3 56 Try.underlying22 hi hz0 hz1 hz2 rfl (by decide) x1 l1 vs1 rfl p1 a2 l2 c2 vs2 rfl v2l v2o (cellsTo u1 a2 l2 c2 f2 vs2 (h2.below b3) d1w v2c v2l) (by omega) (by simp only [maxLen]; omega) d1.size ?_
  intro x2 u2 p2 gr2 hx2
  have b6 : Below w.heap.size w u2 := b5.grown gr2 b5.size (fun q hq => by have := (p1.lt q hq).1; omega)
  have d2 : Below w3.heap.size w3 u2 := d1.grown gr2 d1.size (fun q hq => (p1.lt q hq).1)
  have d2w : Below w.heap.size w3 u2 := ⟨d2.os, d2.tape, d2.output, d2.size, fun q hq => d2.block q (by omega)⟩
  have oa6 := ownsRow_same oa3 fun q hq => d2.block q (oa3.lt q hq).2
  have ob6 := ownsRow_same ob fun q hq => d2.block q (ob.lt q hq).2
  obtain ⟨xa, xc, rfl, hxa⟩ := ownsRow_slice p2
  have hJ : SlF u2.heap.size u2 xa (l1 + l2) xc (f1.app f2) := by
    have hlen : (f1.app f2).length = l1 + l2 := by rw [Forest.length_app, h1.1, h2.1]
    refine ⟨hlen, ?_⟩
    rcases hxa with h0 | ⟨g', rfl, hg'⟩
    · exact .inl h0
    · right
      have hlt := p2.lt g' hg'
      have hcc : l1 + l2 ≤ xc ∧ xc ≤ maxLen := by
        rcases p2.2 with ⟨h, h0⟩ | ⟨_, _, _, h, _, _, q1, q2, _⟩
        · injection h with h; cases h
        · injection h with _ _ h; subst h; exact ⟨q1, q2⟩
      have hcell : ∀ j u, (vs1 ++ vs2)[j]? = some u → u2.cell? ⟨g', j, none⟩ = some u := fun j u hj => by
        have hjl := (List.getElem?_eq_some_iff.1 hj).1
        rw [List.length_append, v1l, v2l] at hjl
        rw [p2.cellAt j (by omega)]; exact hj
      refine ⟨g', 0, rfl, hlt.2, hcc.1, hcc.2, RowF.app f1 f2 g' 0 (v1r u2 _ g' 0 d2w (by have := d2.size; omega) fun j u hj => ?_) (v2r u2 _ g' _ d2w (by have := d2.size; omega) fun j u hj => ?_)⟩
      · rw [Nat.zero_add]
        exact hcell j u (by rw [List.getElem?_append_left (List.getElem?_eq_some_iff.1 hj).1]; exact hj)
      · rw [Nat.zero_add]
        refine hcell _ u ?_
        rw [List.getElem?_append_right (by rw [v1l, h1.1]; omega), v1l, h1.1, show l1 * 3 + j - l1 * 3 = j by omega]
        exact hj
  have kJ := tbytes_any (f1.app f2) u2 xa (l1 + l2) xc hJ (by rw [cnt_app]; omega)
  clear cellsTo p1 p2 gr2 hx2 hxa hJ d1 d1w v1r v2r v1c v2c v1l v2l v1o v2o
  go_wp2_with (go_at_call 12; refine held ?_)
  unfold Held
  refine kJ.mono ?_
  rintro e w4 ⟨vc, rfl, oc, b7⟩
  try dsimp only
  have oa7 := ownsRow_same oa6 fun q hq => b7.block q (oa6.lt q hq).2
  have ob7 := ownsRow_same ob6 fun q hq => b7.block q (ob6.lt q hq).2
  replace b7 := below_step b6 b7
  have hboth := Forest.sizeL_both f1 f2 1 (by omega) (by omega)
  clear kJ oa3 oa6 ob ob6 b3 b5 d2 d2w
  obtain ⟨qa, ca, rfl, _⟩ := ownsRow_slice oa7
  by_cases hok : 0 ≤ f1.sizeL 1 0 ∧ 0 ≤ f2.sizeL 1 0
  rotate_left
  · have eJ : tlvE (f1.app f2) = 220 := by
      rcases tlvE_cases (f1.app f2) with ⟨h, _⟩ | ⟨_, h⟩
      · exact h
      · exact absurd (hboth.1 h) hok
    rcases tlvE_cases f1 with ⟨e1, s1⟩ | ⟨e1, s1⟩
    · rw [e1, eJ]
      clear hboth hok e1 eJ
      go_wp2
      go_ret
      exact ⟨rfl, b7⟩
    · rcases tlvE_cases f2 with ⟨e2, s2⟩ | ⟨e2, s2⟩
      · rw [e1, e2, eJ]
        clear hboth hok e1 e2 eJ
        go_wp2
        go_ret
        exact ⟨rfl, b7⟩
      · exact absurd ⟨s1, s2⟩ hok
  have hJ0 := hboth.2 hok
  have e1 : tlvE f1 = 0 := by rcases tlvE_cases f1 with ⟨_, h⟩ | ⟨h, _⟩; omega; exact h
  have e2 : tlvE f2 = 0 := by rcases tlvE_cases f2 with ⟨_, h⟩ | ⟨h, _⟩; omega; exact h
  have eJ : tlvE (f1.app f2) = 0 := by rcases tlvE_cases (f1.app f2) with ⟨_, h⟩ | ⟨h, _⟩; omega; exact h
  have oA : outB f1 = f1.layF := by unfold outB; rw [if_neg (by omega)]
  have oB : outB f2 = f2.layF := by unfold outB; rw [if_neg (by omega)]
  have oC : outB (f1.app f2) = f1.layF ++ f2.layF := by unfold outB; rw [if_neg (by omega), Forest.layF_app]
  have lA := Forest.layF_le f1
  have lB := Forest.layF_le f2
  rw [oA] at oa7
  rw [oB] at ob7
  rw [oC] at oc
  rw [e1, e2, eJ, oA]
  have cvA := Lib.hid (conv_row (RowI.of_own oa7).2)
  have cvB := Lib.hid (conv_row (RowI.of_own ob7).2)
  have cvC := Lib.hid (conv_row (RowI.of_own oc).2)
  have kD := one_field w4 0 200 none 0 0 [] a1 l1 c1 f1 (by decide) (by decide) (row8_none _ _) (by decide) ((h1.below b7).mono b7.size)
  obtain ⟨hd5, hdl⟩ := layF_one f1
  have nF : (Forest.cons 200 [] f1 .nil).cnt = 1 + f1.cnt := by simp only [Forest.cnt, List.length_nil]; omega
  obtain ⟨F3, hF3⟩ : ∃ F3, F3 = Forest.cons 200 [] f1 .nil := ⟨_, rfl⟩
  rw [← hF3] at kD hd5 hdl nF
  obtain ⟨Y, hY⟩ : ∃ Y, Y = w4.alloc (.cells #[.int .i64 200, .slice none 0 0, .slice a1 l1 c1] 30) := ⟨_, rfl⟩
  rw [← hY] at kD
  have bY : Below w4.heap.size w4 Y := by rw [hY]; exact (Below.refl _ w4).alloc (Nat.le_refl _) _
  have kd := tbytes_any F3 Y _ 1 1 kD (by omega)
  have hb7 := b7.size
  clear hboth hok hJ0 e1 e2 eJ oA oB oC hF3 kD oa7 ob7 oc
  go_wp2_with (go_at_call 12; refine held ?_)
  unfold Held
  rw [← hY]
  clear hY
  refine kd.mono ?_
  rintro e w5 ⟨vd, rfl, od, b8⟩
  try dsimp only
  have gY : Below w4.heap.size w4 w5 := bY.trans (b8.mono bY.size)
  replace b8 := below_step (below_step b7 bY) b8
  clear kd bY b7
  obtain ⟨LA, hLA⟩ : ∃ LA, LA = f1.layF := ⟨_, rfl⟩
  obtain ⟨LB, hLB⟩ : ∃ LB, LB = f2.layF := ⟨_, rfl⟩
  rw [← hLA, ← hLB] at cvC
  rw [← hLA] at cvA hd5 hdl lA ⊢
  rw [← hLB] at cvB lB
  have hadd := strAdd (P := Try.prog) LA LB (by simp only [maxLen]; omega)
  clear hLA hLB h1 h2
  rcases tlvE_cases F3 with ⟨e3, s3⟩ | ⟨e3, s3⟩
  · rw [e3]
    clear e3 s3 od hd5 hdl
    go_wp2_with fail
    refine wp_region_anyV Grows (by kernel_rfl) 36 rfl ?_
    first
      | (refine anyV_val 0 (Grows.pre) rfl (by kernel_rfl) (by kernel_rfl) (by kernel_rfl) (by rfl) (v := ?av1) (fun W hW => ?ay1) (fun K hK => ?ar1); case ay1 => (have gW := gY.trans ((show Below w5.heap.size w5 W from below_undrew hW).mono gY.size); have qA := (show ∀ W', Below w4.heap.size w4 W' → _ from cvA) W gW; have qB := (show ∀ W', Below w4.heap.size w4 W' → _ from cvB) W gW; have qC := (show ∀ W', Below w4.heap.size w4 W' → _ from cvC) W gW; have qD := hadd W; go_simp; first | done | rfl))
      | refine anyV_skip 0 (Grows.pre) rfl (by kernel_rfl) (by kernel_rfl) (by kernel_rfl) (by rfl) (fun K hK => ?_)
    go_simp
    refine hK _ ?_
    clear hK K
    first
      | (refine anyV_val 1 (Grows.pre) rfl (by kernel_rfl) (by kernel_rfl) (by kernel_rfl) (by rfl) (v := ?av2) (fun W hW => ?ay2) (fun K hK => ?ar2); case ay2 => (have gW := gY.trans ((show Below w5.heap.size w5 W from below_undrew hW).mono gY.size); have qA := (show ∀ W', Below w4.heap.size w4 W' → _ from cvA) W gW; have qB := (show ∀ W', Below w4.heap.size w4 W' → _ from cvB) W gW; have qC := (show ∀ W', Below w4.heap.size w4 W' → _ from cvC) W gW; have qD := hadd W; go_simp; first | done | rfl))
      | refine anyV_skip 1 (Grows.pre) rfl (by kernel_rfl) (by kernel_rfl) (by kernel_rfl) (by rfl) (fun K hK => ?_)
    go_simp
    refine hK _ ?_
    clear hK K
    first
      | (refine anyV_val 2 (Grows.pre) rfl (by kernel_rfl) (by kernel_rfl) (by kernel_rfl) (by rfl) (v := ?av3) (fun W hW => ?ay3) (fun K hK => ?ar3); case ay3 => (have gW := gY.trans ((show Below w5.heap.size w5 W from below_undrew hW).mono gY.size); have qA := (show ∀ W', Below w4.heap.size w4 W' → _ from cvA) W gW; have qB := (show ∀ W', Below w4.heap.size w4 W' → _ from cvB) W gW; have qC := (show ∀ W', Below w4.heap.size w4 W' → _ from cvC) W gW; have qD := hadd W; go_simp; first | done | rfl))
      | refine anyV_skip 2 (Grows.pre) rfl (by kernel_rfl) (by kernel_rfl) (by kernel_rfl) (by rfl) (fun K hK => ?_)
    go_simp
    refine hK _ ?_
    clear hK K
    first
      | (refine anyV_val 3 (Grows.pre) rfl (by kernel_rfl) (by kernel_rfl) (by kernel_rfl) (by rfl) (v := ?av4) (fun W hW => ?ay4) (fun K hK => ?ar4); case ay4 => (have gW := gY.trans ((show Below w5.heap.size w5 W from below_undrew hW).mono gY.size); have qA := (show ∀ W', Below w4.heap.size w4 W' → _ from cvA) W gW; have qB := (show ∀ W', Below w4.heap.size w4 W' → _ from cvB) W gW; have qC := (show ∀ W', Below w4.heap.size w4 W' → _ from cvC) W gW; have qD := hadd W; go_simp; first | done | rfl))
      | refine anyV_skip 3 (Grows.pre) rfl (by kernel_rfl) (by kernel_rfl) (by kernel_rfl) (by rfl) (fun K hK => ?_)
    go_simp
    refine hK _ ?_
    clear hK K
    first
      | (refine anyV_val 4 (Grows.pre) rfl (by kernel_rfl) (by kernel_rfl) (by kernel_rfl) (by rfl) (v := ?av5) (fun W hW => ?ay5) (fun K hK => ?ar5); case ay5 => (have gW := gY.trans ((show Below w5.heap.size w5 W from below_undrew hW).mono gY.size); have qA := (show ∀ W', Below w4.heap.size w4 W' → _ from cvA) W gW; have qB := (show ∀ W', Below w4.heap.size w4 W' → _ from cvB) W gW; have qC := (show ∀ W', Below w4.heap.size w4 W' → _ from cvC) W gW; have qD := hadd W; go_simp; first | done | rfl))
      | refine anyV_skip 4 (Grows.pre) rfl (by kernel_rfl) (by kernel_rfl) (by kernel_rfl) (by rfl) (fun K hK => ?_)
    go_simp
    refine hK _ ?_
    clear hK K
    first
      | (refine anyV_val 5 (Grows.pre) rfl (by kernel_rfl) (by kernel_rfl) (by kernel_rfl) (by rfl) (v := ?av6) (fun W hW => ?ay6) (fun K hK => ?ar6); case ay6 => (have gW := gY.trans ((show Below w5.heap.size w5 W from below_undrew hW).mono gY.size); have qA := (show ∀ W', Below w4.heap.size w4 W' → _ from cvA) W gW; have qB := (show ∀ W', Below w4.heap.size w4 W' → _ from cvB) W gW; have qC := (show ∀ W', Below w4.heap.size w4 W' → _ from cvC) W gW; have qD := hadd W; go_simp; first | done | rfl))
      | refine anyV_skip 5 (Grows.pre) rfl (by kernel_rfl) (by kernel_rfl) (by kernel_rfl) (by rfl) (fun K hK => ?_)
    go_simp
    refine hK _ ?_
    clear hK K
    first
      | (refine anyV_val 6 (Grows.pre) rfl (by kernel_rfl) (by kernel_rfl) (by kernel_rfl) (by rfl) (v := ?av7) (fun W hW => ?ay7) (fun K hK => ?ar7); case ay7 => (have gW := gY.trans ((show Below w5.heap.size w5 W from below_undrew hW).mono gY.size); have qA := (show ∀ W', Below w4.heap.size w4 W' → _ from cvA) W gW; have qB := (show ∀ W', Below w4.heap.size w4 W' → _ from cvB) W gW; have qC := (show ∀ W', Below w4.heap.size w4 W' → _ from cvC) W gW; have qD := hadd W; go_simp; first | done | rfl))
      | refine anyV_skip 6 (Grows.pre) rfl (by kernel_rfl) (by kernel_rfl) (by kernel_rfl) (by rfl) (fun K hK => ?_)
    go_simp
    refine hK _ ?_
    clear hK K
    first
      | (refine anyV_val 7 (Grows.pre) rfl (by kernel_rfl) (by kernel_rfl) (by kernel_rfl) (by rfl) (v := ?av8) (fun W hW => ?ay8) (fun K hK => ?ar8); case ay8 => (have gW := gY.trans ((show Below w5.heap.size w5 W from below_undrew hW).mono gY.size); have qA := (show ∀ W', Below w4.heap.size w4 W' → _ from cvA) W gW; have qB := (show ∀ W', Below w4.heap.size w4 W' → _ from cvB) W gW; have qC := (show ∀ W', Below w4.heap.size w4 W' → _ from cvC) W gW; have qD := hadd W; go_simp; first | done | rfl))
      | refine anyV_skip 7 (Grows.pre) rfl (by kernel_rfl) (by kernel_rfl) (by kernel_rfl) (by rfl) (fun K hK => ?_)
    go_simp
    refine hK _ ?_
    clear hK K
    first
      | (refine anyV_val 8 (Grows.pre) rfl (by kernel_rfl) (by kernel_rfl) (by kernel_rfl) (by rfl) (v := ?av9) (fun W hW => ?ay9) (fun K hK => ?ar9); case ay9 => (have gW := gY.trans ((show Below w5.heap.size w5 W from below_undrew hW).mono gY.size); have qA := (show ∀ W', Below w4.heap.size w4 W' → _ from cvA) W gW; have qB := (show ∀ W', Below w4.heap.size w4 W' → _ from cvB) W gW; have qC := (show ∀ W', Below w4.heap.size w4 W' → _ from cvC) W gW; have qD := hadd W; go_simp; first | done | rfl))
      | refine anyV_skip 8 (Grows.pre) rfl (by kernel_rfl) (by kernel_rfl) (by kernel_rfl) (by rfl) (fun K hK => ?_)
    go_simp
    refine hK _ ?_
    clear hK K
    first
      | (refine anyV_val 9 (Grows.pre) rfl (by kernel_rfl) (by kernel_rfl) (by kernel_rfl) (by rfl) (v := ?av10) (fun W hW => ?ay10) (fun K hK => ?ar10); case ay10 => (have gW := gY.trans ((show Below w5.heap.size w5 W from below_undrew hW).mono gY.size); have qA := (show ∀ W', Below w4.heap.size w4 W' → _ from cvA) W gW; have qB := (show ∀ W', Below w4.heap.size w4 W' → _ from cvB) W gW; have qC := (show ∀ W', Below w4.heap.size w4 W' → _ from cvC) W gW; have qD := hadd W; go_simp; first | done | rfl))
      | refine anyV_skip 9 (Grows.pre) rfl (by kernel_rfl) (by kernel_rfl) (by kernel_rfl) (by rfl) (fun K hK => ?_)
    go_simp
    refine hK _ ?_
    clear hK K
    first
      | (refine anyV_val 10 (Grows.pre) rfl (by kernel_rfl) (by kernel_rfl) (by kernel_rfl) (by rfl) (v := ?av11) (fun W hW => ?ay11) (fun K hK => ?ar11); case ay11 => (have gW := gY.trans ((show Below w5.heap.size w5 W from below_undrew hW).mono gY.size); have qA := (show ∀ W', Below w4.heap.size w4 W' → _ from cvA) W gW; have qB := (show ∀ W', Below w4.heap.size w4 W' → _ from cvB) W gW; have qC := (show ∀ W', Below w4.heap.size w4 W' → _ from cvC) W gW; have qD := hadd W; go_simp; first | done | rfl))
      | refine anyV_skip 10 (Grows.pre) rfl (by kernel_rfl) (by kernel_rfl) (by kernel_rfl) (by rfl) (fun K hK => ?_)
    go_simp
    refine hK _ ?_
    clear hK K
    first
      | (refine anyV_val 11 (Grows.pre) rfl (by kernel_rfl) (by kernel_rfl) (by kernel_rfl) (by rfl) (v := ?av12) (fun W hW => ?ay12) (fun K hK => ?ar12); case ay12 => (have gW := gY.trans ((show Below w5.heap.size w5 W from below_undrew hW).mono gY.size); have qA := (show ∀ W', Below w4.heap.size w4 W' → _ from cvA) W gW; have qB := (show ∀ W', Below w4.heap.size w4 W' → _ from cvB) W gW; have qC := (show ∀ W', Below w4.heap.size w4 W' → _ from cvC) W gW; have qD := hadd W; go_simp; first | done | rfl))
      | refine anyV_skip 11 (Grows.pre) rfl (by kernel_rfl) (by kernel_rfl) (by kernel_rfl) (by rfl) (fun K hK => ?_)
    go_simp
    refine hK _ ?_
    clear hK K
    first
      | (refine anyV_val 12 (Grows.pre) rfl (by kernel_rfl) (by kernel_rfl) (by kernel_rfl) (by rfl) (v := ?av13) (fun W hW => ?ay13) (fun K hK => ?ar13); case ay13 => (have gW := gY.trans ((show Below w5.heap.size w5 W from below_undrew hW).mono gY.size); have qA := (show ∀ W', Below w4.heap.size w4 W' → _ from cvA) W gW; have qB := (show ∀ W', Below w4.heap.size w4 W' → _ from cvB) W gW; have qC := (show ∀ W', Below w4.heap.size w4 W' → _ from cvC) W gW; have qD := hadd W; go_simp; first | done | rfl))
      | refine anyV_skip 12 (Grows.pre) rfl (by kernel_rfl) (by kernel_rfl) (by kernel_rfl) (by rfl) (fun K hK => ?_)
    go_simp
    refine hK _ ?_
    clear hK K
    first
      | (refine anyV_val 13 (Grows.pre) rfl (by kernel_rfl) (by kernel_rfl) (by kernel_rfl) (by rfl) (v := ?av14) (fun W hW => ?ay14) (fun K hK => ?ar14); case ay14 => (have gW := gY.trans ((show Below w5.heap.size w5 W from below_undrew hW).mono gY.size); have qA := (show ∀ W', Below w4.heap.size w4 W' → _ from cvA) W gW; have qB := (show ∀ W', Below w4.heap.size w4 W' → _ from cvB) W gW; have qC := (show ∀ W', Below w4.heap.size w4 W' → _ from cvC) W gW; have qD := hadd W; go_simp; first | done | rfl))
      | refine anyV_skip 13 (Grows.pre) rfl (by kernel_rfl) (by kernel_rfl) (by kernel_rfl) (by rfl) (fun K hK => ?_)
    go_simp
    refine hK _ ?_
    clear hK K
    first
      | (refine anyV_val 14 (Grows.pre) rfl (by kernel_rfl) (by kernel_rfl) (by kernel_rfl) (by rfl) (v := ?av15) (fun W hW => ?ay15) (fun K hK => ?ar15); case ay15 => (have gW := gY.trans ((show Below w5.heap.size w5 W from below_undrew hW).mono gY.size); have qA := (show ∀ W', Below w4.heap.size w4 W' → _ from cvA) W gW; have qB := (show ∀ W', Below w4.heap.size w4 W' → _ from cvB) W gW; have qC := (show ∀ W', Below w4.heap.size w4 W' → _ from cvC) W gW; have qD := hadd W; go_simp; first | done | rfl))
      | refine anyV_skip 14 (Grows.pre) rfl (by kernel_rfl) (by kernel_rfl) (by kernel_rfl) (by rfl) (fun K hK => ?_)
    go_simp
    refine hK _ ?_
    clear hK K
    first
      | (refine anyV_val 15 (Grows.pre) rfl (by kernel_rfl) (by kernel_rfl) (by kernel_rfl) (by rfl) (v := ?av16) (fun W hW => ?ay16) (fun K hK => ?ar16); case ay16 => (have gW := gY.trans ((show Below w5.heap.size w5 W from below_undrew hW).mono gY.size); have qA := (show ∀ W', Below w4.heap.size w4 W' → _ from cvA) W gW; have qB := (show ∀ W', Below w4.heap.size w4 W' → _ from cvB) W gW; have qC := (show ∀ W', Below w4.heap.size w4 W' → _ from cvC) W gW; have qD := hadd W; go_simp; first | done | rfl))
      | refine anyV_skip 15 (Grows.pre) rfl (by kernel_rfl) (by kernel_rfl) (by kernel_rfl) (by rfl) (fun K hK => ?_)
    go_simp
    refine hK _ ?_
    clear hK K
    first
      | (refine anyV_val 16 (Grows.pre) rfl (by kernel_rfl) (by kernel_rfl) (by kernel_rfl) (by rfl) (v := ?av17) (fun W hW => ?ay17) (fun K hK => ?ar17); case ay17 => (have gW := gY.trans ((show Below w5.heap.size w5 W from below_undrew hW).mono gY.size); have qA := (show ∀ W', Below w4.heap.size w4 W' → _ from cvA) W gW; have qB := (show ∀ W', Below w4.heap.size w4 W' → _ from cvB) W gW; have qC := (show ∀ W', Below w4.heap.size w4 W' → _ from cvC) W gW; have qD := hadd W; go_simp; first | done | rfl))
      | refine anyV_skip 16 (Grows.pre) rfl (by kernel_rfl) (by kernel_rfl) (by kernel_rfl) (by rfl) (fun K hK => ?_)
    go_simp
    refine hK _ ?_
    clear hK K
    first
      | (refine anyV_val 17 (Grows.pre) rfl (by kernel_rfl) (by kernel_rfl) (by kernel_rfl) (by rfl) (v := ?av18) (fun W hW => ?ay18) (fun K hK => ?ar18); case ay18 => (have gW := gY.trans ((show Below w5.heap.size w5 W from below_undrew hW).mono gY.size); have qA := (show ∀ W', Below w4.heap.size w4 W' → _ from cvA) W gW; have qB := (show ∀ W', Below w4.heap.size w4 W' → _ from cvB) W gW; have qC := (show ∀ W', Below w4.heap.size w4 W' → _ from cvC) W gW; have qD := hadd W; go_simp; first | done | rfl))
      | refine anyV_skip 17 (Grows.pre) rfl (by kernel_rfl) (by kernel_rfl) (by kernel_rfl) (by rfl) (fun K hK => ?_)
    go_simp
    refine hK _ ?_
    clear hK K
    first
      | (refine anyV_val 18 (Grows.pre) rfl (by kernel_rfl) (by kernel_rfl) (by kernel_rfl) (by rfl) (v := ?av19) (fun W hW => ?ay19) (fun K hK => ?ar19); case ay19 => (have gW := gY.trans ((show Below w5.heap.size w5 W from below_undrew hW).mono gY.size); have qA := (show ∀ W', Below w4.heap.size w4 W' → _ from cvA) W gW; have qB := (show ∀ W', Below w4.heap.size w4 W' → _ from cvB) W gW; have qC := (show ∀ W', Below w4.heap.size w4 W' → _ from cvC) W gW; have qD := hadd W; go_simp; first | done | rfl))
      | refine anyV_skip 18 (Grows.pre) rfl (by kernel_rfl) (by kernel_rfl) (by kernel_rfl) (by rfl) (fun K hK => ?_)
    go_simp
    refine hK _ ?_
    clear hK K
    first
      | (refine anyV_val 19 (Grows.pre) rfl (by kernel_rfl) (by kernel_rfl) (by kernel_rfl) (by rfl) (v := ?av20) (fun W hW => ?ay20) (fun K hK => ?ar20); case ay20 => (have gW := gY.trans ((show Below w5.heap.size w5 W from below_undrew hW).mono gY.size); have qA := (show ∀ W', Below w4.heap.size w4 W' → _ from cvA) W gW; have qB := (show ∀ W', Below w4.heap.size w4 W' → _ from cvB) W gW; have qC := (show ∀ W', Below w4.heap.size w4 W' → _ from cvC) W gW; have qD := hadd W; go_simp; first | done | rfl))
      | refine anyV_skip 19 (Grows.pre) rfl (by kernel_rfl) (by kernel_rfl) (by kernel_rfl) (by rfl) (fun K hK => ?_)
    go_simp
    refine hK _ ?_
    clear hK K
    first
      | (refine anyV_val 20 (Grows.pre) rfl (by kernel_rfl) (by kernel_rfl) (by kernel_rfl) (by rfl) (v := ?av21) (fun W hW => ?ay21) (fun K hK => ?ar21); case ay21 => (have gW := gY.trans ((show Below w5.heap.size w5 W from below_undrew hW).mono gY.size); have qA := (show ∀ W', Below w4.heap.size w4 W' → _ from cvA) W gW; have qB := (show ∀ W', Below w4.heap.size w4 W' → _ from cvB) W gW; have qC := (show ∀ W', Below w4.heap.size w4 W' → _ from cvC) W gW; have qD := hadd W; go_simp; first | done | rfl))
      | refine anyV_skip 20 (Grows.pre) rfl (by kernel_rfl) (by kernel_rfl) (by kernel_rfl) (by rfl) (fun K hK => ?_)
    go_simp
    refine hK _ ?_
    clear hK K
    first
      | (refine anyV_val 21 (Grows.pre) rfl (by kernel_rfl) (by kernel_rfl) (by kernel_rfl) (by rfl) (v := ?av22) (fun W hW => ?ay22) (fun K hK => ?ar22); case ay22 => (have gW := gY.trans ((show Below w5.heap.size w5 W from below_undrew hW).mono gY.size); have qA := (show ∀ W', Below w4.heap.size w4 W' → _ from cvA) W gW; have qB := (show ∀ W', Below w4.heap.size w4 W' → _ from cvB) W gW; have qC := (show ∀ W', Below w4.heap.size w4 W' → _ from cvC) W gW; have qD := hadd W; go_simp; first | done | rfl))
      | refine anyV_skip 21 (Grows.pre) rfl (by kernel_rfl) (by kernel_rfl) (by kernel_rfl) (by rfl) (fun K hK => ?_)
    go_simp
    refine hK _ ?_
    clear hK K
    first
      | (refine anyV_val 22 (Grows.pre) rfl (by kernel_rfl) (by kernel_rfl) (by kernel_rfl) (by rfl) (v := ?av23) (fun W hW => ?ay23) (fun K hK => ?ar23); case ay23 => (have gW := gY.trans ((show Below w5.heap.size w5 W from below_undrew hW).mono gY.size); have qA := (show ∀ W', Below w4.heap.size w4 W' → _ from cvA) W gW; have qB := (show ∀ W', Below w4.heap.size w4 W' → _ from cvB) W gW; have qC := (show ∀ W', Below w4.heap.size w4 W' → _ from cvC) W gW; have qD := hadd W; go_simp; first | done | rfl))
      | refine anyV_skip 22 (Grows.pre) rfl (by kernel_rfl) (by kernel_rfl) (by kernel_rfl) (by rfl) (fun K hK => ?_)
    go_simp
    refine hK _ ?_
    clear hK K
    first
      | (refine anyV_val 23 (Grows.pre) rfl (by kernel_rfl) (by kernel_rfl) (by kernel_rfl) (by rfl) (v := ?av24) (fun W hW => ?ay24) (fun K hK => ?ar24); case ay24 => (have gW := gY.trans ((show Below w5.heap.size w5 W from below_undrew hW).mono gY.size); have qA := (show ∀ W', Below w4.heap.size w4 W' → _ from cvA) W gW; have qB := (show ∀ W', Below w4.heap.size w4 W' → _ from cvB) W gW; have qC := (show ∀ W', Below w4.heap.size w4 W' → _ from cvC) W gW; have qD := hadd W; go_simp; first | done | rfl))
      | refine anyV_skip 23 (Grows.pre) rfl (by kernel_rfl) (by kernel_rfl) (by kernel_rfl) (by rfl) (fun K hK => ?_)
    go_simp
    refine hK _ ?_
    clear hK K
    first
      | (refine anyV_val 24 (Grows.pre) rfl (by kernel_rfl) (by kernel_rfl) (by kernel_rfl) (by rfl) (v := ?av25) (fun W hW => ?ay25) (fun K hK => ?ar25); case ay25 => (have gW := gY.trans ((show Below w5.heap.size w5 W from below_undrew hW).mono gY.size); have qA := (show ∀ W', Below w4.heap.size w4 W' → _ from cvA) W gW; have qB := (show ∀ W', Below w4.heap.size w4 W' → _ from cvB) W gW; have qC := (show ∀ W', Below w4.heap.size w4 W' → _ from cvC) W gW; have qD := hadd W; go_simp; first | done | rfl))
      | refine anyV_skip 24 (Grows.pre) rfl (by kernel_rfl) (by kernel_rfl) (by kernel_rfl) (by rfl) (fun K hK => ?_)
    go_simp
    refine hK _ ?_
    clear hK K
    first
      | (refine anyV_val 25 (Grows.pre) rfl (by kernel_rfl) (by kernel_rfl) (by kernel_rfl) (by rfl) (v := ?av26) (fun W hW => ?ay26) (fun K hK => ?ar26); case ay26 => (have gW := gY.trans ((show Below w5.heap.size w5 W from below_undrew hW).mono gY.size); have qA := (show ∀ W', Below w4.heap.size w4 W' → _ from cvA) W gW; have qB := (show ∀ W', Below w4.heap.size w4 W' → _ from cvB) W gW; have qC := (show ∀ W', Below w4.heap.size w4 W' → _ from cvC) W gW; have qD := hadd W; go_simp; first | done | rfl))
      | refine anyV_skip 25 (Grows.pre) rfl (by kernel_rfl) (by kernel_rfl) (by kernel_rfl) (by rfl) (fun K hK => ?_)
    go_simp
    refine hK _ ?_
    clear hK K
    first
      | (refine anyV_val 26 (Grows.pre) rfl (by kernel_rfl) (by kernel_rfl) (by kernel_rfl) (by rfl) (v := ?av27) (fun W hW => ?ay27) (fun K hK => ?ar27); case ay27 => (have gW := gY.trans ((show Below w5.heap.size w5 W from below_undrew hW).mono gY.size); have qA := (show ∀ W', Below w4.heap.size w4 W' → _ from cvA) W gW; have qB := (show ∀ W', Below w4.heap.size w4 W' → _ from cvB) W gW; have qC := (show ∀ W', Below w4.heap.size w4 W' → _ from cvC) W gW; have qD := hadd W; go_simp; first | done | rfl))
      | refine anyV_skip 26 (Grows.pre) rfl (by kernel_rfl) (by kernel_rfl) (by kernel_rfl) (by rfl) (fun K hK => ?_)
    go_simp
    refine hK _ ?_
    clear hK K
    first
      | (refine anyV_val 27 (Grows.pre) rfl (by kernel_rfl) (by kernel_rfl) (by kernel_rfl) (by rfl) (v := ?av28) (fun W hW => ?ay28) (fun K hK => ?ar28); case ay28 => (have gW := gY.trans ((show Below w5.heap.size w5 W from below_undrew hW).mono gY.size); have qA := (show ∀ W', Below w4.heap.size w4 W' → _ from cvA) W gW; have qB := (show ∀ W', Below w4.heap.size w4 W' → _ from cvB) W gW; have qC := (show ∀ W', Below w4.heap.size w4 W' → _ from cvC) W gW; have qD := hadd W; go_simp; first | done | rfl))
      | refine anyV_skip 27 (Grows.pre) rfl (by kernel_rfl) (by kernel_rfl) (by kernel_rfl) (by rfl) (fun K hK => ?_)
    go_simp
    refine hK _ ?_
    clear hK K
    first
      | (refine anyV_val 28 (Grows.pre) rfl (by kernel_rfl) (by kernel_rfl) (by kernel_rfl) (by rfl) (v := ?av29) (fun W hW => ?ay29) (fun K hK => ?ar29); case ay29 => (have gW := gY.trans ((show Below w5.heap.size w5 W from below_undrew hW).mono gY.size); have qA := (show ∀ W', Below w4.heap.size w4 W' → _ from cvA) W gW; have qB := (show ∀ W', Below w4.heap.size w4 W' → _ from cvB) W gW; have qC := (show ∀ W', Below w4.heap.size w4 W' → _ from cvC) W gW; have qD := hadd W; go_simp; first | done | rfl))
      | refine anyV_skip 28 (Grows.pre) rfl (by kernel_rfl) (by kernel_rfl) (by kernel_rfl) (by rfl) (fun K hK => ?_)
    go_simp
    refine hK _ ?_
    clear hK K
    first
      | (refine anyV_val 29 (Grows.pre) rfl (by kernel_rfl) (by kernel_rfl) (by kernel_rfl) (by rfl) (v := ?av30) (fun W hW => ?ay30) (fun K hK => ?ar30); case ay30 => (have gW := gY.trans ((show Below w5.heap.size w5 W from below_undrew hW).mono gY.size); have qA := (show ∀ W', Below w4.heap.size w4 W' → _ from cvA) W gW; have qB := (show ∀ W', Below w4.heap.size w4 W' → _ from cvB) W gW; have qC := (show ∀ W', Below w4.heap.size w4 W' → _ from cvC) W gW; have qD := hadd W; go_simp; first | done | rfl))
      | refine anyV_skip 29 (Grows.pre) rfl (by kernel_rfl) (by kernel_rfl) (by kernel_rfl) (by rfl) (fun K hK => ?_)
    go_simp
    refine hK _ ?_
    clear hK K
    first
      | (refine anyV_val 30 (Grows.pre) rfl (by kernel_rfl) (by kernel_rfl) (by kernel_rfl) (by rfl) (v := ?av31) (fun W hW => ?ay31) (fun K hK => ?ar31); case ay31 => (have gW := gY.trans ((show Below w5.heap.size w5 W from below_undrew hW).mono gY.size); have qA := (show ∀ W', Below w4.heap.size w4 W' → _ from cvA) W gW; have qB := (show ∀ W', Below w4.heap.size w4 W' → _ from cvB) W gW; have qC := (show ∀ W', Below w4.heap.size w4 W' → _ from cvC) W gW; have qD := hadd W; go_simp; first | done | rfl))
      | refine anyV_skip 30 (Grows.pre) rfl (by kernel_rfl) (by kernel_rfl) (by kernel_rfl) (by rfl) (fun K hK => ?_)
    go_simp
    refine hK _ ?_
    clear hK K
    first
      | (refine anyV_val 31 (Grows.pre) rfl (by kernel_rfl) (by kernel_rfl) (by kernel_rfl) (by rfl) (v := ?av32) (fun W hW => ?ay32) (fun K hK => ?ar32); case ay32 => (have gW := gY.trans ((show Below w5.heap.size w5 W from below_undrew hW).mono gY.size); have qA := (show ∀ W', Below w4.heap.size w4 W' → _ from cvA) W gW; have qB := (show ∀ W', Below w4.heap.size w4 W' → _ from cvB) W gW; have qC := (show ∀ W', Below w4.heap.size w4 W' → _ from cvC) W gW; have qD := hadd W; go_simp; first | done | rfl))
      | refine anyV_skip 31 (Grows.pre) rfl (by kernel_rfl) (by kernel_rfl) (by kernel_rfl) (by rfl) (fun K hK => ?_)
    go_simp
    refine hK _ ?_
    clear hK K
    first
      | (refine anyV_val 32 (Grows.pre) rfl (by kernel_rfl) (by kernel_rfl) (by kernel_rfl) (by rfl) (v := ?av33) (fun W hW => ?ay33) (fun K hK => ?ar33); case ay33 => (have gW := gY.trans ((show Below w5.heap.size w5 W from below_undrew hW).mono gY.size); have qA := (show ∀ W', Below w4.heap.size w4 W' → _ from cvA) W gW; have qB := (show ∀ W', Below w4.heap.size w4 W' → _ from cvB) W gW; have qC := (show ∀ W', Below w4.heap.size w4 W' → _ from cvC) W gW; have qD := hadd W; go_simp; first | done | rfl))
      | refine anyV_skip 32 (Grows.pre) rfl (by kernel_rfl) (by kernel_rfl) (by kernel_rfl) (by rfl) (fun K hK => ?_)
    go_simp
    refine hK _ ?_
    clear hK K
    first
      | (refine anyV_val 33 (Grows.pre) rfl (by kernel_rfl) (by kernel_rfl) (by kernel_rfl) (by rfl) (v := ?av34) (fun W hW => ?ay34) (fun K hK => ?ar34); case ay34 => (have gW := gY.trans ((show Below w5.heap.size w5 W from below_undrew hW).mono gY.size); have qA := (show ∀ W', Below w4.heap.size w4 W' → _ from cvA) W gW; have qB := (show ∀ W', Below w4.heap.size w4 W' → _ from cvB) W gW; have qC := (show ∀ W', Below w4.heap.size w4 W' → _ from cvC) W gW; have qD := hadd W; go_simp; first | done | rfl))
      | refine anyV_skip 33 (Grows.pre) rfl (by kernel_rfl) (by kernel_rfl) (by kernel_rfl) (by rfl) (fun K hK => ?_)
    go_simp
    refine hK _ ?_
    clear hK K
    first
      | (refine anyV_val 34 (Grows.pre) rfl (by kernel_rfl) (by kernel_rfl) (by kernel_rfl) (by rfl) (v := ?av35) (fun W hW => ?ay35) (fun K hK => ?ar35); case ay35 => (have gW := gY.trans ((show Below w5.heap.size w5 W from below_undrew hW).mono gY.size); have qA := (show ∀ W', Below w4.heap.size w4 W' → _ from cvA) W gW; have qB := (show ∀ W', Below w4.heap.size w4 W' → _ from cvB) W gW; have qC := (show ∀ W', Below w4.heap.size w4 W' → _ from cvC) W gW; have qD := hadd W; go_simp; first | done | rfl))
      | refine anyV_skip 34 (Grows.pre) rfl (by kernel_rfl) (by kernel_rfl) (by kernel_rfl) (by rfl) (fun K hK => ?_)
    go_simp
    refine hK _ ?_
    clear hK K
    first
      | (refine anyV_val 35 (Grows.pre) rfl (by kernel_rfl) (by kernel_rfl) (by kernel_rfl) (by rfl) (v := ?av36) (fun W hW => ?ay36) (fun K hK => ?ar36); case ay36 => (have gW := gY.trans ((show Below w5.heap.size w5 W from below_undrew hW).mono gY.size); have qA := (show ∀ W', Below w4.heap.size w4 W' → _ from cvA) W gW; have qB := (show ∀ W', Below w4.heap.size w4 W' → _ from cvB) W gW; have qC := (show ∀ W', Below w4.heap.size w4 W' → _ from cvC) W gW; have qD := hadd W; go_simp; first | done | rfl))
      | refine anyV_skip 35 (Grows.pre) rfl (by kernel_rfl) (by kernel_rfl) (by kernel_rfl) (by rfl) (fun K hK => ?_)
    go_simp
    refine hK _ ?_
    clear hK K
    refine anyV_done (by kernel_rfl) ?_
    go_wp2_with fail
    go_ret
    exact ⟨by simp, ⟨b8.os, b8.tape, b8.output, b8.size, b8.block⟩⟩
  · rw [e3]
    have oD : outB F3 = F3.layF := by unfold outB; rw [if_neg (by omega)]
    rw [oD] at od
    have rd := (RowI.of_own od).2
    obtain ⟨qd, cd, rfl, _⟩ := ownsRow_slice od
    obtain ⟨rs, _⟩ := rd.sub 5 F3.layF.length (by omega) (Nat.le_refl _)
    rw [List.take_of_length_le (by rw [List.length_drop]; exact Nat.le_refl _), hd5] at rs
    have hcd := rd.cap
    obtain ⟨LD, hLD⟩ : ∃ LD, LD = F3.layF.length := ⟨_, rfl⟩
    rw [← hLD] at rs hcd hdl ⊢
    obtain ⟨sq, hsq⟩ : ∃ sq, sliced qd 5 LD cd 1 = sq := ⟨_, rfl⟩
    rw [hsq] at rs
    have cvD := Lib.hid (conv_row rs)
    have hlen : ((LD : Int) == 5 + (LA.length : Int)) = true := by simp; omega
    have h5 : 5 ≤ LD := by omega
    have HSQ := Lib.hid hsq
    clear e3 s3 od oD rd rs hd5 hdl hLD hsq
    go_wp2_with fail
    refine wp_region_anyV Grows (by kernel_rfl) 36 rfl ?_
    first
      | (refine anyV_val 0 (Grows.pre) rfl (by kernel_rfl) (by kernel_rfl) (by kernel_rfl) (by rfl) (v := ?av37) (fun W hW => ?ay37) (fun K hK => ?ar37); case ay37 => (have gW := gY.trans ((show Below w5.heap.size w5 W from below_undrew hW).mono gY.size); have qA := (show ∀ W', Below w4.heap.size w4 W' → _ from cvA) W gW; have qB := (show ∀ W', Below w4.heap.size w4 W' → _ from cvB) W gW; have qC := (show ∀ W', Below w4.heap.size w4 W' → _ from cvC) W gW; have qD := hadd W; have qE := (show ∀ W', Below w5.heap.size w5 W' → _ from cvD) W (below_undrew hW); go_simp; first | done | rfl))
      | refine anyV_skip 0 (Grows.pre) rfl (by kernel_rfl) (by kernel_rfl) (by kernel_rfl) (by rfl) (fun K hK => ?_)
    go_simp
    refine hK _ ?_
    clear hK K
    first
      | (refine anyV_val 1 (Grows.pre) rfl (by kernel_rfl) (by kernel_rfl) (by kernel_rfl) (by rfl) (v := ?av38) (fun W hW => ?ay38) (fun K hK => ?ar38); case ay38 => (have gW := gY.trans ((show Below w5.heap.size w5 W from below_undrew hW).mono gY.size); have qA := (show ∀ W', Below w4.heap.size w4 W' → _ from cvA) W gW; have qB := (show ∀ W', Below w4.heap.size w4 W' → _ from cvB) W gW; have qC := (show ∀ W', Below w4.heap.size w4 W' → _ from cvC) W gW; have qD := hadd W; have qE := (show ∀ W', Below w5.heap.size w5 W' → _ from cvD) W (below_undrew hW); go_simp; first | done | rfl))
      | refine anyV_skip 1 (Grows.pre) rfl (by kernel_rfl) (by kernel_rfl) (by kernel_rfl) (by rfl) (fun K hK => ?_)
    go_simp
    refine hK _ ?_
    clear hK K
    first
      | (refine anyV_val 2 (Grows.pre) rfl (by kernel_rfl) (by kernel_rfl) (by kernel_rfl) (by rfl) (v := ?av39) (fun W hW => ?ay39) (fun K hK => ?ar39); case ay39 => (have gW := gY.trans ((show Below w5.heap.size w5 W from below_undrew hW).mono gY.size); have qA := (show ∀ W', Below w4.heap.size w4 W' → _ from cvA) W gW; have qB := (show ∀ W', Below w4.heap.size w4 W' → _ from cvB) W gW; have qC := (show ∀ W', Below w4.heap.size w4 W' → _ from cvC) W gW; have qD := hadd W; have qE := (show ∀ W', Below w5.heap.size w5 W' → _ from cvD) W (below_undrew hW); go_simp; first | done | rfl))
      | refine anyV_skip 2 (Grows.pre) rfl (by kernel_rfl) (by kernel_rfl) (by kernel_rfl) (by rfl) (fun K hK => ?_)
    go_simp
    refine hK _ ?_
    clear hK K
    first
      | (refine anyV_val 3 (Grows.pre) rfl (by kernel_rfl) (by kernel_rfl) (by kernel_rfl) (by rfl) (v := ?av40) (fun W hW => ?ay40) (fun K hK => ?ar40); case ay40 => (have gW := gY.trans ((show Below w5.heap.size w5 W from below_undrew hW).mono gY.size); have qA := (show ∀ W', Below w4.heap.size w4 W' → _ from cvA) W gW; have qB := (show ∀ W', Below w4.heap.size w4 W' → _ from cvB) W gW; have qC := (show ∀ W', Below w4.heap.size w4 W' → _ from cvC) W gW; have qD := hadd W; have qE := (show ∀ W', Below w5.heap.size w5 W' → _ from cvD) W (below_undrew hW); go_simp; first | done | rfl))
      | refine anyV_skip 3 (Grows.pre) rfl (by kernel_rfl) (by kernel_rfl) (by kernel_rfl) (by rfl) (fun K hK => ?_)
    go_simp
    refine hK _ ?_
    clear hK K
    first
      | (refine anyV_val 4 (Grows.pre) rfl (by kernel_rfl) (by kernel_rfl) (by kernel_rfl) (by rfl) (v := ?av41) (fun W hW => ?ay41) (fun K hK => ?ar41); case ay41 => (have gW := gY.trans ((show Below w5.heap.size w5 W from below_undrew hW).mono gY.size); have qA := (show ∀ W', Below w4.heap.size w4 W' → _ from cvA) W gW; have qB := (show ∀ W', Below w4.heap.size w4 W' → _ from cvB) W gW; have qC := (show ∀ W', Below w4.heap.size w4 W' → _ from cvC) W gW; have qD := hadd W; have qE := (show ∀ W', Below w5.heap.size w5 W' → _ from cvD) W (below_undrew hW); go_simp; first | done | rfl))
      | refine anyV_skip 4 (Grows.pre) rfl (by kernel_rfl) (by kernel_rfl) (by kernel_rfl) (by rfl) (fun K hK => ?_)
    go_simp
    refine hK _ ?_
    clear hK K
    first
      | (refine anyV_val 5 (Grows.pre) rfl (by kernel_rfl) (by kernel_rfl) (by kernel_rfl) (by rfl) (v := ?av42) (fun W hW => ?ay42) (fun K hK => ?ar42); case ay42 => (have gW := gY.trans ((show Below w5.heap.size w5 W from below_undrew hW).mono gY.size); have qA := (show ∀ W', Below w4.heap.size w4 W' → _ from cvA) W gW; have qB := (show ∀ W', Below w4.heap.size w4 W' → _ from cvB) W gW; have qC := (show ∀ W', Below w4.heap.size w4 W' → _ from cvC) W gW; have qD := hadd W; have qE := (show ∀ W', Below w5.heap.size w5 W' → _ from cvD) W (below_undrew hW); go_simp; first | done | rfl))
      | refine anyV_skip 5 (Grows.pre) rfl (by kernel_rfl) (by kernel_rfl) (by kernel_rfl) (by rfl) (fun K hK => ?_)
    go_simp
    refine hK _ ?_
    clear hK K
    first
      | (refine anyV_val 6 (Grows.pre) rfl (by kernel_rfl) (by kernel_rfl) (by kernel_rfl) (by rfl) (v := ?av43) (fun W hW => ?ay43) (fun K hK => ?ar43); case ay43 => (have gW := gY.trans ((show Below w5.heap.size w5 W from below_undrew hW).mono gY.size); have qA := (show ∀ W', Below w4.heap.size w4 W' → _ from cvA) W gW; have qB := (show ∀ W', Below w4.heap.size w4 W' → _ from cvB) W gW; have qC := (show ∀ W', Below w4.heap.size w4 W' → _ from cvC) W gW; have qD := hadd W; have qE := (show ∀ W', Below w5.heap.size w5 W' → _ from cvD) W (below_undrew hW); go_simp; first | done | rfl))
      | refine anyV_skip 6 (Grows.pre) rfl (by kernel_rfl) (by kernel_rfl) (by kernel_rfl) (by rfl) (fun K hK => ?_)
    go_simp
    refine hK _ ?_
    clear hK K
    first
      | (refine anyV_val 7 (Grows.pre) rfl (by kernel_rfl) (by kernel_rfl) (by kernel_rfl) (by rfl) (v := ?av44) (fun W hW => ?ay44) (fun K hK => ?ar44); case ay44 => (have gW := gY.trans ((show Below w5.heap.size w5 W from below_undrew hW).mono gY.size); have qA := (show ∀ W', Below w4.heap.size w4 W' → _ from cvA) W gW; have qB := (show ∀ W', Below w4.heap.size w4 W' → _ from cvB) W gW; have qC := (show ∀ W', Below w4.heap.size w4 W' → _ from cvC) W gW; have qD := hadd W; have qE := (show ∀ W', Below w5.heap.size w5 W' → _ from cvD) W (below_undrew hW); go_simp; first | done | rfl))
      | refine anyV_skip 7 (Grows.pre) rfl (by kernel_rfl) (by kernel_rfl) (by kernel_rfl) (by rfl) (fun K hK => ?_)
    go_simp
    refine hK _ ?_
    clear hK K
    first
      | (refine anyV_val 8 (Grows.pre) rfl (by kernel_rfl) (by kernel_rfl) (by kernel_rfl) (by rfl) (v := ?av45) (fun W hW => ?ay45) (fun K hK => ?ar45); case ay45 => (have gW := gY.trans ((show Below w5.heap.size w5 W from below_undrew hW).mono gY.size); have qA := (show ∀ W', Below w4.heap.size w4 W' → _ from cvA) W gW; have qB := (show ∀ W', Below w4.heap.size w4 W' → _ from cvB) W gW; have qC := (show ∀ W', Below w4.heap.size w4 W' → _ from cvC) W gW; have qD := hadd W; have qE := (show ∀ W', Below w5.heap.size w5 W' → _ from cvD) W (below_undrew hW); go_simp; first | done | rfl))
      | refine anyV_skip 8 (Grows.pre) rfl (by kernel_rfl) (by kernel_rfl) (by kernel_rfl) (by rfl) (fun K hK => ?_)
    go_simp
    refine hK _ ?_
    clear hK K
    first
      | (refine anyV_val 9 (Grows.pre) rfl (by kernel_rfl) (by kernel_rfl) (by kernel_rfl) (by rfl) (v := ?av46) (fun W hW => ?ay46) (fun K hK => ?ar46); case ay46 => (have gW := gY.trans ((show Below w5.heap.size w5 W from below_undrew hW).mono gY.size); have qA := (show ∀ W', Below w4.heap.size w4 W' → _ from cvA) W gW; have qB := (show ∀ W', Below w4.heap.size w4 W' → _ from cvB) W gW; have qC := (show ∀ W', Below w4.heap.size w4 W' → _ from cvC) W gW; have qD := hadd W; have qE := (show ∀ W', Below w5.heap.size w5 W' → _ from cvD) W (below_undrew hW); go_simp; first | done | rfl))
      | refine anyV_skip 9 (Grows.pre) rfl (by kernel_rfl) (by kernel_rfl) (by kernel_rfl) (by rfl) (fun K hK => ?_)
    go_simp
    refine hK _ ?_
    clear hK K
    first
      | (refine anyV_val 10 (Grows.pre) rfl (by kernel_rfl) (by kernel_rfl) (by kernel_rfl) (by rfl) (v := ?av47) (fun W hW => ?ay47) (fun K hK => ?ar47); case ay47 => (have gW := gY.trans ((show Below w5.heap.size w5 W from below_undrew hW).mono gY.size); have qA := (show ∀ W', Below w4.heap.size w4 W' → _ from cvA) W gW; have qB := (show ∀ W', Below w4.heap.size w4 W' → _ from cvB) W gW; have qC := (show ∀ W', Below w4.heap.size w4 W' → _ from cvC) W gW; have qD := hadd W; have qE := (show ∀ W', Below w5.heap.size w5 W' → _ from cvD) W (below_undrew hW); go_simp; first | done | rfl))
      | refine anyV_skip 10 (Grows.pre) rfl (by kernel_rfl) (by kernel_rfl) (by kernel_rfl) (by rfl) (fun K hK => ?_)
    go_simp
    refine hK _ ?_
    clear hK K
    first
      | (refine anyV_val 11 (Grows.pre) rfl (by kernel_rfl) (by kernel_rfl) (by kernel_rfl) (by rfl) (v := ?av48) (fun W hW => ?ay48) (fun K hK => ?ar48); case ay48 => (have gW := gY.trans ((show Below w5.heap.size w5 W from below_undrew hW).mono gY.size); have qA := (show ∀ W', Below w4.heap.size w4 W' → _ from cvA) W gW; have qB := (show ∀ W', Below w4.heap.size w4 W' → _ from cvB) W gW; have qC := (show ∀ W', Below w4.heap.size w4 W' → _ from cvC) W gW; have qD := hadd W; have qE := (show ∀ W', Below w5.heap.size w5 W' → _ from cvD) W (below_undrew hW); go_simp; first | done | rfl))
      | refine anyV_skip 11 (Grows.pre) rfl (by kernel_rfl) (by kernel_rfl) (by kernel_rfl) (by rfl) (fun K hK => ?_)
    go_simp
    refine hK _ ?_
    clear hK K
    first
      | (refine anyV_val 12 (Grows.pre) rfl (by kernel_rfl) (by kernel_rfl) (by kernel_rfl) (by rfl) (v := ?av49) (fun W hW => ?ay49) (fun K hK => ?ar49); case ay49 => (have gW := gY.trans ((show Below w5.heap.size w5 W from below_undrew hW).mono gY.size); have qA := (show ∀ W', Below w4.heap.size w4 W' → _ from cvA) W gW; have qB := (show ∀ W', Below w4.heap.size w4 W' → _ from cvB) W gW; have qC := (show ∀ W', Below w4.heap.size w4 W' → _ from cvC) W gW; have qD := hadd W; have qE := (show ∀ W', Below w5.heap.size w5 W' → _ from cvD) W (below_undrew hW); go_simp; first | done | rfl))
      | refine anyV_skip 12 (Grows.pre) rfl (by kernel_rfl) (by kernel_rfl) (by kernel_rfl) (by rfl) (fun K hK => ?_)
    go_simp
    refine hK _ ?_
    clear hK K
    first
      | (refine anyV_val 13 (Grows.pre) rfl (by kernel_rfl) (by kernel_rfl) (by kernel_rfl) (by rfl) (v := ?av50) (fun W hW => ?ay50) (fun K hK => ?ar50); case ay50 => (have gW := gY.trans ((show Below w5.heap.size w5 W from below_undrew hW).mono gY.size); have qA := (show ∀ W', Below w4.heap.size w4 W' → _ from cvA) W gW; have qB := (show ∀ W', Below w4.heap.size w4 W' → _ from cvB) W gW; have qC := (show ∀ W', Below w4.heap.size w4 W' → _ from cvC) W gW; have qD := hadd W; have qE := (show ∀ W', Below w5.heap.size w5 W' → _ from cvD) W (below_undrew hW); go_simp; first | done | rfl))
      | refine anyV_skip 13 (Grows.pre) rfl (by kernel_rfl) (by kernel_rfl) (by kernel_rfl) (by rfl) (fun K hK => ?_)
    go_simp
    refine hK _ ?_
    clear hK K
    first
      | (refine anyV_val 14 (Grows.pre) rfl (by kernel_rfl) (by kernel_rfl) (by kernel_rfl) (by rfl) (v := ?av51) (fun W hW => ?ay51) (fun K hK => ?ar51); case ay51 => (have gW := gY.trans ((show Below w5.heap.size w5 W from below_undrew hW).mono gY.size); have qA := (show ∀ W', Below w4.heap.size w4 W' → _ from cvA) W gW; have qB := (show ∀ W', Below w4.heap.size w4 W' → _ from cvB) W gW; have qC := (show ∀ W', Below w4.heap.size w4 W' → _ from cvC) W gW; have qD := hadd W; have qE := (show ∀ W', Below w5.heap.size w5 W' → _ from cvD) W (below_undrew hW); go_simp; first | done | rfl))
      | refine anyV_skip 14 (Grows.pre) rfl (by kernel_rfl) (by kernel_rfl) (by kernel_rfl) (by rfl) (fun K hK => ?_)
    go_simp
    refine hK _ ?_
    clear hK K
    first
      | (refine anyV_val 15 (Grows.pre) rfl (by kernel_rfl) (by kernel_rfl) (by kernel_rfl) (by rfl) (v := ?av52) (fun W hW => ?ay52) (fun K hK => ?ar52); case ay52 => (have gW := gY.trans ((show Below w5.heap.size w5 W from below_undrew hW).mono gY.size); have qA := (show ∀ W', Below w4.heap.size w4 W' → _ from cvA) W gW; have qB := (show ∀ W', Below w4.heap.size w4 W' → _ from cvB) W gW; have qC := (show ∀ W', Below w4.heap.size w4 W' → _ from cvC) W gW; have qD := hadd W; have qE := (show ∀ W', Below w5.heap.size w5 W' → _ from cvD) W (below_undrew hW); go_simp; first | done | rfl))
      | refine anyV_skip 15 (Grows.pre) rfl (by kernel_rfl) (by kernel_rfl) (by kernel_rfl) (by rfl) (fun K hK => ?_)
    go_simp
    refine hK _ ?_
    clear hK K
    first
      | (refine anyV_val 16 (Grows.pre) rfl (by kernel_rfl) (by kernel_rfl) (by kernel_rfl) (by rfl) (v := ?av53) (fun W hW => ?ay53) (fun K hK => ?ar53); case ay53 => (have gW := gY.trans ((show Below w5.heap.size w5 W from below_undrew hW).mono gY.size); have qA := (show ∀ W', Below w4.heap.size w4 W' → _ from cvA) W gW; have qB := (show ∀ W', Below w4.heap.size w4 W' → _ from cvB) W gW; have qC := (show ∀ W', Below w4.heap.size w4 W' → _ from cvC) W gW; have qD := hadd W; have qE := (show ∀ W', Below w5.heap.size w5 W' → _ from cvD) W (below_undrew hW); go_simp; first | done | rfl))
      | refine anyV_skip 16 (Grows.pre) rfl (by kernel_rfl) (by kernel_rfl) (by kernel_rfl) (by rfl) (fun K hK => ?_)
    go_simp
    refine hK _ ?_
    clear hK K
    first
      | (refine anyV_val 17 (Grows.pre) rfl (by kernel_rfl) (by kernel_rfl) (by kernel_rfl) (by rfl) (v := ?av54) (fun W hW => ?ay54) (fun K hK => ?ar54); case ay54 => (have gW := gY.trans ((show Below w5.heap.size w5 W from below_undrew hW).mono gY.size); have qA := (show ∀ W', Below w4.heap.size w4 W' → _ from cvA) W gW; have qB := (show ∀ W', Below w4.heap.size w4 W' → _ from cvB) W gW; have qC := (show ∀ W', Below w4.heap.size w4 W' → _ from cvC) W gW; have qD := hadd W; have qE := (show ∀ W', Below w5.heap.size w5 W' → _ from cvD) W (below_undrew hW); go_simp; first | done | rfl))
      | refine anyV_skip 17 (Grows.pre) rfl (by kernel_rfl) (by kernel_rfl) (by kernel_rfl) (by rfl) (fun K hK => ?_)
    go_simp
    refine hK _ ?_
    clear hK K
    first
      | (refine anyV_val 18 (Grows.pre) rfl (by kernel_rfl) (by kernel_rfl) (by kernel_rfl) (by rfl) (v := ?av55) (fun W hW => ?ay55) (fun K hK => ?ar55); case ay55 => (have gW := gY.trans ((show Below w5.heap.size w5 W from below_undrew hW).mono gY.size); have qA := (show ∀ W', Below w4.heap.size w4 W' → _ from cvA) W gW; have qB := (show ∀ W', Below w4.heap.size w4 W' → _ from cvB) W gW; have qC := (show ∀ W', Below w4.heap.size w4 W' → _ from cvC) W gW; have qD := hadd W; have qE := (show ∀ W', Below w5.heap.size w5 W' → _ from cvD) W (below_undrew hW); go_simp; first | done | rfl))
      | refine anyV_skip 18 (Grows.pre) rfl (by kernel_rfl) (by kernel_rfl) (by kernel_rfl) (by rfl) (fun K hK => ?_)
    go_simp
    refine hK _ ?_
    clear hK K
    first
      | (refine anyV_val 19 (Grows.pre) rfl (by kernel_rfl) (by kernel_rfl) (by kernel_rfl) (by rfl) (v := ?av56) (fun W hW => ?ay56) (fun K hK => ?ar56); case ay56 => (have gW := gY.trans ((show Below w5.heap.size w5 W from below_undrew hW).mono gY.size); have qA := (show ∀ W', Below w4.heap.size w4 W' → _ from cvA) W gW; have qB := (show ∀ W', Below w4.heap.size w4 W' → _ from cvB) W gW; have qC := (show ∀ W', Below w4.heap.size w4 W' → _ from cvC) W gW; have qD := hadd W; have qE := (show ∀ W', Below w5.heap.size w5 W' → _ from cvD) W (below_undrew hW); go_simp; first | done | rfl))
      | refine anyV_skip 19 (Grows.pre) rfl (by kernel_rfl) (by kernel_rfl) (by kernel_rfl) (by rfl) (fun K hK => ?_)
    go_simp
    refine hK _ ?_
    clear hK K
    refine anyV_val 20 (Grows.pre) rfl (by kernel_rfl) (by kernel_rfl) (by kernel_rfl) (by rfl) (v := sq) (fun W hW => ?ay57) (fun K hK => ?ar57)
    case ay57 => (exact exec_slice 25 (.tmp 84) (some (.const (.int .i64 5))) none rfl qd LD cd 5 LD rfl (.inr ⟨_, rfl, rfl⟩) (.inl ⟨rfl, rfl⟩) (by kernel_rfl) (by kernel_rfl) h5 (Nat.le_refl _) hcd _ HSQ)
    go_simp
    refine hK _ ?_
    clear hK K
    first
      | (refine anyV_val 21 (Grows.pre) rfl (by kernel_rfl) (by kernel_rfl) (by kernel_rfl) (by rfl) (v := ?av58) (fun W hW => ?ay58) (fun K hK => ?ar58); case ay58 => (have gW := gY.trans ((show Below w5.heap.size w5 W from below_undrew hW).mono gY.size); have qA := (show ∀ W', Below w4.heap.size w4 W' → _ from cvA) W gW; have qB := (show ∀ W', Below w4.heap.size w4 W' → _ from cvB) W gW; have qC := (show ∀ W', Below w4.heap.size w4 W' → _ from cvC) W gW; have qD := hadd W; have qE := (show ∀ W', Below w5.heap.size w5 W' → _ from cvD) W (below_undrew hW); go_simp; first | done | rfl))
      | refine anyV_skip 21 (Grows.pre) rfl (by kernel_rfl) (by kernel_rfl) (by kernel_rfl) (by rfl) (fun K hK => ?_)
    go_simp
    refine hK _ ?_
    clear hK K
    first
      | (refine anyV_val 22 (Grows.pre) rfl (by kernel_rfl) (by kernel_rfl) (by kernel_rfl) (by rfl) (v := ?av59) (fun W hW => ?ay59) (fun K hK => ?ar59); case ay59 => (have gW := gY.trans ((show Below w5.heap.size w5 W from below_undrew hW).mono gY.size); have qA := (show ∀ W', Below w4.heap.size w4 W' → _ from cvA) W gW; have qB := (show ∀ W', Below w4.heap.size w4 W' → _ from cvB) W gW; have qC := (show ∀ W', Below w4.heap.size w4 W' → _ from cvC) W gW; have qD := hadd W; have qE := (show ∀ W', Below w5.heap.size w5 W' → _ from cvD) W (below_undrew hW); go_simp; first | done | rfl))
      | refine anyV_skip 22 (Grows.pre) rfl (by kernel_rfl) (by kernel_rfl) (by kernel_rfl) (by rfl) (fun K hK => ?_)
    go_simp
    refine hK _ ?_
    clear hK K
    first
      | (refine anyV_val 23 (Grows.pre) rfl (by kernel_rfl) (by kernel_rfl) (by kernel_rfl) (by rfl) (v := ?av60) (fun W hW => ?ay60) (fun K hK => ?ar60); case ay60 => (have gW := gY.trans ((show Below w5.heap.size w5 W from below_undrew hW).mono gY.size); have qA := (show ∀ W', Below w4.heap.size w4 W' → _ from cvA) W gW; have qB := (show ∀ W', Below w4.heap.size w4 W' → _ from cvB) W gW; have qC := (show ∀ W', Below w4.heap.size w4 W' → _ from cvC) W gW; have qD := hadd W; have qE := (show ∀ W', Below w5.heap.size w5 W' → _ from cvD) W (below_undrew hW); go_simp; first | done | rfl))
      | refine anyV_skip 23 (Grows.pre) rfl (by kernel_rfl) (by kernel_rfl) (by kernel_rfl) (by rfl) (fun K hK => ?_)
    go_simp
    refine hK _ ?_
    clear hK K
    first
      | (refine anyV_val 24 (Grows.pre) rfl (by kernel_rfl) (by kernel_rfl) (by kernel_rfl) (by rfl) (v := ?av61) (fun W hW => ?ay61) (fun K hK => ?ar61); case ay61 => (have gW := gY.trans ((show Below w5.heap.size w5 W from below_undrew hW).mono gY.size); have qA := (show ∀ W', Below w4.heap.size w4 W' → _ from cvA) W gW; have qB := (show ∀ W', Below w4.heap.size w4 W' → _ from cvB) W gW; have qC := (show ∀ W', Below w4.heap.size w4 W' → _ from cvC) W gW; have qD := hadd W; have qE := (show ∀ W', Below w5.heap.size w5 W' → _ from cvD) W (below_undrew hW); go_simp; first | done | rfl))
      | refine anyV_skip 24 (Grows.pre) rfl (by kernel_rfl) (by kernel_rfl) (by kernel_rfl) (by rfl) (fun K hK => ?_)
    go_simp
    refine hK _ ?_
    clear hK K
    first
      | (refine anyV_val 25 (Grows.pre) rfl (by kernel_rfl) (by kernel_rfl) (by kernel_rfl) (by rfl) (v := ?av62) (fun W hW => ?ay62) (fun K hK => ?ar62); case ay62 => (have gW := gY.trans ((show Below w5.heap.size w5 W from below_undrew hW).mono gY.size); have qA := (show ∀ W', Below w4.heap.size w4 W' → _ from cvA) W gW; have qB := (show ∀ W', Below w4.heap.size w4 W' → _ from cvB) W gW; have qC := (show ∀ W', Below w4.heap.size w4 W' → _ from cvC) W gW; have qD := hadd W; have qE := (show ∀ W', Below w5.heap.size w5 W' → _ from cvD) W (below_undrew hW); go_simp; first | done | rfl))
      | refine anyV_skip 25 (Grows.pre) rfl (by kernel_rfl) (by kernel_rfl) (by kernel_rfl) (by rfl) (fun K hK => ?_)
    go_simp
    refine hK _ ?_
    clear hK K
    first
      | (refine anyV_val 26 (Grows.pre) rfl (by kernel_rfl) (by kernel_rfl) (by kernel_rfl) (by rfl) (v := ?av63) (fun W hW => ?ay63) (fun K hK => ?ar63); case ay63 => (have gW := gY.trans ((show Below w5.heap.size w5 W from below_undrew hW).mono gY.size); have qA := (show ∀ W', Below w4.heap.size w4 W' → _ from cvA) W gW; have qB := (show ∀ W', Below w4.heap.size w4 W' → _ from cvB) W gW; have qC := (show ∀ W', Below w4.heap.size w4 W' → _ from cvC) W gW; have qD := hadd W; have qE := (show ∀ W', Below w5.heap.size w5 W' → _ from cvD) W (below_undrew hW); go_simp; first | done | rfl))
      | refine anyV_skip 26 (Grows.pre) rfl (by kernel_rfl) (by kernel_rfl) (by kernel_rfl) (by rfl) (fun K hK => ?_)
    go_simp
    refine hK _ ?_
    clear hK K
    first
      | (refine anyV_val 27 (Grows.pre) rfl (by kernel_rfl) (by kernel_rfl) (by kernel_rfl) (by rfl) (v := ?av64) (fun W hW => ?ay64) (fun K hK => ?ar64); case ay64 => (have gW := gY.trans ((show Below w5.heap.size w5 W from below_undrew hW).mono gY.size); have qA := (show ∀ W', Below w4.heap.size w4 W' → _ from cvA) W gW; have qB := (show ∀ W', Below w4.heap.size w4 W' → _ from cvB) W gW; have qC := (show ∀ W', Below w4.heap.size w4 W' → _ from cvC) W gW; have qD := hadd W; have qE := (show ∀ W', Below w5.heap.size w5 W' → _ from cvD) W (below_undrew hW); go_simp; first | done | rfl))
      | refine anyV_skip 27 (Grows.pre) rfl (by kernel_rfl) (by kernel_rfl) (by kernel_rfl) (by rfl) (fun K hK => ?_)
    go_simp
    refine hK _ ?_
    clear hK K
    first
      | (refine anyV_val 28 (Grows.pre) rfl (by kernel_rfl) (by kernel_rfl) (by kernel_rfl) (by rfl) (v := ?av65) (fun W hW => ?ay65) (fun K hK => ?ar65); case ay65 => (have gW := gY.trans ((show Below w5.heap.size w5 W from below_undrew hW).mono gY.size); have qA := (show ∀ W', Below w4.heap.size w4 W' → _ from cvA) W gW; have qB := (show ∀ W', Below w4.heap.size w4 W' → _ from cvB) W gW; have qC := (show ∀ W', Below w4.heap.size w4 W' → _ from cvC) W gW; have qD := hadd W; have qE := (show ∀ W', Below w5.heap.size w5 W' → _ from cvD) W (below_undrew hW); go_simp; first | done | rfl))
      | refine anyV_skip 28 (Grows.pre) rfl (by kernel_rfl) (by kernel_rfl) (by kernel_rfl) (by rfl) (fun K hK => ?_)
    go_simp
    refine hK _ ?_
    clear hK K
    first
      | (refine anyV_val 29 (Grows.pre) rfl (by kernel_rfl) (by kernel_rfl) (by kernel_rfl) (by rfl) (v := ?av66) (fun W hW => ?ay66) (fun K hK => ?ar66); case ay66 => (have gW := gY.trans ((show Below w5.heap.size w5 W from below_undrew hW).mono gY.size); have qA := (show ∀ W', Below w4.heap.size w4 W' → _ from cvA) W gW; have qB := (show ∀ W', Below w4.heap.size w4 W' → _ from cvB) W gW; have qC := (show ∀ W', Below w4.heap.size w4 W' → _ from cvC) W gW; have qD := hadd W; have qE := (show ∀ W', Below w5.heap.size w5 W' → _ from cvD) W (below_undrew hW); go_simp; first | done | rfl))
      | refine anyV_skip 29 (Grows.pre) rfl (by kernel_rfl) (by kernel_rfl) (by kernel_rfl) (by rfl) (fun K hK => ?_)
    go_simp
    refine hK _ ?_
    clear hK K
    first
      | (refine anyV_val 30 (Grows.pre) rfl (by kernel_rfl) (by kernel_rfl) (by kernel_rfl) (by rfl) (v := ?av67) (fun W hW => ?ay67) (fun K hK => ?ar67); case ay67 => (have gW := gY.trans ((show Below w5.heap.size w5 W from below_undrew hW).mono gY.size); have qA := (show ∀ W', Below w4.heap.size w4 W' → _ from cvA) W gW; have qB := (show ∀ W', Below w4.heap.size w4 W' → _ from cvB) W gW; have qC := (show ∀ W', Below w4.heap.size w4 W' → _ from cvC) W gW; have qD := hadd W; have qE := (show ∀ W', Below w5.heap.size w5 W' → _ from cvD) W (below_undrew hW); go_simp; first | done | rfl))
      | refine anyV_skip 30 (Grows.pre) rfl (by kernel_rfl) (by kernel_rfl) (by kernel_rfl) (by rfl) (fun K hK => ?_)
    go_simp
    refine hK _ ?_
    clear hK K
    first
      | (refine anyV_val 31 (Grows.pre) rfl (by kernel_rfl) (by kernel_rfl) (by kernel_rfl) (by rfl) (v := ?av68) (fun W hW => ?ay68) (fun K hK => ?ar68); case ay68 => (have gW := gY.trans ((show Below w5.heap.size w5 W from below_undrew hW).mono gY.size); have qA := (show ∀ W', Below w4.heap.size w4 W' → _ from cvA) W gW; have qB := (show ∀ W', Below w4.heap.size w4 W' → _ from cvB) W gW; have qC := (show ∀ W', Below w4.heap.size w4 W' → _ from cvC) W gW; have qD := hadd W; have qE := (show ∀ W', Below w5.heap.size w5 W' → _ from cvD) W (below_undrew hW); go_simp; first | done | rfl))
      | refine anyV_skip 31 (Grows.pre) rfl (by kernel_rfl) (by kernel_rfl) (by kernel_rfl) (by rfl) (fun K hK => ?_)
    go_simp
    refine hK _ ?_
    clear hK K
    first
      | (refine anyV_val 32 (Grows.pre) rfl (by kernel_rfl) (by kernel_rfl) (by kernel_rfl) (by rfl) (v := ?av69) (fun W hW => ?ay69) (fun K hK => ?ar69); case ay69 => (have gW := gY.trans ((show Below w5.heap.size w5 W from below_undrew hW).mono gY.size); have qA := (show ∀ W', Below w4.heap.size w4 W' → _ from cvA) W gW; have qB := (show ∀ W', Below w4.heap.size w4 W' → _ from cvB) W gW; have qC := (show ∀ W', Below w4.heap.size w4 W' → _ from cvC) W gW; have qD := hadd W; have qE := (show ∀ W', Below w5.heap.size w5 W' → _ from cvD) W (below_undrew hW); go_simp; first | done | rfl))
      | refine anyV_skip 32 (Grows.pre) rfl (by kernel_rfl) (by kernel_rfl) (by kernel_rfl) (by rfl) (fun K hK => ?_)
    go_simp
    refine hK _ ?_
    clear hK K
    first
      | (refine anyV_val 33 (Grows.pre) rfl (by kernel_rfl) (by kernel_rfl) (by kernel_rfl) (by rfl) (v := ?av70) (fun W hW => ?ay70) (fun K hK => ?ar70); case ay70 => (have gW := gY.trans ((show Below w5.heap.size w5 W from below_undrew hW).mono gY.size); have qA := (show ∀ W', Below w4.heap.size w4 W' → _ from cvA) W gW; have qB := (show ∀ W', Below w4.heap.size w4 W' → _ from cvB) W gW; have qC := (show ∀ W', Below w4.heap.size w4 W' → _ from cvC) W gW; have qD := hadd W; have qE := (show ∀ W', Below w5.heap.size w5 W' → _ from cvD) W (below_undrew hW); go_simp; first | done | rfl))
      | refine anyV_skip 33 (Grows.pre) rfl (by kernel_rfl) (by kernel_rfl) (by kernel_rfl) (by rfl) (fun K hK => ?_)
    go_simp
    refine hK _ ?_
    clear hK K
    first
      | (refine anyV_val 34 (Grows.pre) rfl (by kernel_rfl) (by kernel_rfl) (by kernel_rfl) (by rfl) (v := ?av71) (fun W hW => ?ay71) (fun K hK => ?ar71); case ay71 => (have gW := gY.trans ((show Below w5.heap.size w5 W from below_undrew hW).mono gY.size); have qA := (show ∀ W', Below w4.heap.size w4 W' → _ from cvA) W gW; have qB := (show ∀ W', Below w4.heap.size w4 W' → _ from cvB) W gW; have qC := (show ∀ W', Below w4.heap.size w4 W' → _ from cvC) W gW; have qD := hadd W; have qE := (show ∀ W', Below w5.heap.size w5 W' → _ from cvD) W (below_undrew hW); go_simp; first | done | rfl))
      | refine anyV_skip 34 (Grows.pre) rfl (by kernel_rfl) (by kernel_rfl) (by kernel_rfl) (by rfl) (fun K hK => ?_)
    go_simp
    refine hK _ ?_
    clear hK K
    first
      | (refine anyV_val 35 (Grows.pre) rfl (by kernel_rfl) (by kernel_rfl) (by kernel_rfl) (by rfl) (v := ?av72) (fun W hW => ?ay72) (fun K hK => ?ar72); case ay72 => (have gW := gY.trans ((show Below w5.heap.size w5 W from below_undrew hW).mono gY.size); have qA := (show ∀ W', Below w4.heap.size w4 W' → _ from cvA) W gW; have qB := (show ∀ W', Below w4.heap.size w4 W' → _ from cvB) W gW; have qC := (show ∀ W', Below w4.heap.size w4 W' → _ from cvC) W gW; have qD := hadd W; have qE := (show ∀ W', Below w5.heap.size w5 W' → _ from cvD) W (below_undrew hW); go_simp; first | done | rfl))
      | refine anyV_skip 35 (Grows.pre) rfl (by kernel_rfl) (by kernel_rfl) (by kernel_rfl) (by rfl) (fun K hK => ?_)
    go_simp
    refine hK _ ?_
    clear hK K
    refine anyV_done (by kernel_rfl) ?_
    go_wp2_with fail
    go_ret
    have hl : (LD : Int) = 5 + (LA.length : Int) := by simpa using hlen
    exact ⟨by simp [IntKind.wrap_i64]; omega, ⟨b8.os, b8.tape, b8.output, b8.size, b8.block⟩⟩
end Go.Proofs.Ytdlhnipkhlihjaa
