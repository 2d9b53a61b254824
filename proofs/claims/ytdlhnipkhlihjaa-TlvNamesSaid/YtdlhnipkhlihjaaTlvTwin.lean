/- The walk of tlv.twin. -/
import Derived.Test.YtdlhnipkhlihjaaTlvS
import Derived.Deep.Cut
import Derived.Deep.CutRange
import Derived.Deep.CutBlock
import Derived.Deep.RegionWith
import Derived.Deep.WholeRow
namespace Go.Proofs.Ytdlhnipkhlihjaa
open Go Go.RowKit
attribute [local go_sem] upV_value upV_skip upV_enter
set_option linter.unusedVariables false
set_option linter.unnecessarySimpa false
set_option linter.unusedSimpArgs false
def zT : Array Value := #[.int .i64 0, .slice none 0 0, .slice none 0 0]
theorem infoT : (Try.prog.info? 30).map (·.size) = some 3 := by kernel_rfl
theorem agg3_one (t : Int) (a : Option Addr) (l c : Nat) (ka : Option Addr) (kl kc : Nat) : (#[Value.int .i64 t, .slice a l c, .slice ka kl kc] : Array Value).all (·.oneCell') = true := by simp [Value.oneCell']
theorem belowPre (n : Nat) : Pre (Below n) := ⟨fun w => Below.refl _ w, fun h k => h.trans k⟩
theorem below_setRow {n : Nat} {A B : World} (h : Below n A B) {g : Nat} (hg : n ≤ g) (cs : Array Value) : Below n A (B.setRow g cs) :=
  ⟨h.os, h.tape, h.output, by rw [size_setRow]; exact h.size, fun b hb => (setRow_other B g b cs (by omega)).trans (h.block b hb)⟩
theorem own_mono {base base' : Nat} {e : TypeId} {size : Nat} {W W' : World} {v : Value} {n : Nat} {xs : List Value} (h : W.ownsRow base e size v n xs) (hb : base' ≤ base) (hs : ∀ b, v.ownBlock = some b → W'.heap[b]? = W.heap[b]?) : W'.ownsRow base' e size v n xs := by
  refine ⟨h.1, ?_⟩
  rcases h.2 with h | ⟨g, cap, cur, rfl, h2, h3, h4⟩
  · exact .inl h
  · exact .inr ⟨g, cap, cur, rfl, Nat.le_trans hb h2, (hs g rfl).trans h3, h4⟩
/-- the fields, parted at the j-th -/
theorem Forest.app_cons (F : Forest) (t : Int) (b : List Int) (k r : Forest) : (F.app (.cons t b k .nil)).app r = F.app (.cons t b k r) := by
  induction F with
  | nil => rfl
  | cons t' b' k' r' _ ih => simp only [Forest.app, ih]
theorem Forest.allKids_app {P : Forest → Prop} : ∀ (F G : Forest), (F.app G).AllKids P → G.AllKids P
  | .nil, _, h => h
  | .cons _ _ _ r, G, h => Forest.allKids_app r G h.2
theorem Forest.cnt_app : ∀ (F G : Forest), (F.app G).cnt = F.cnt + G.cnt
  | .nil, _ => by simp [Forest.app, Forest.cnt]
  | .cons _ _ _ r, G => by simp only [Forest.app, Forest.cnt, Forest.cnt_app r G]; omega
set_option maxRecDepth 100000 in
set_option maxHeartbeats 8000000 in
theorem twin_step (k : Forest) (hk : k.AllKids TwinOK) : TwinOK k := by
  intro W n t a len cap bs ka kl kc hn ht1 ht2 hb hkids hcnt
  obtain ⟨i0, hi0, hz0, hz1, hz2⟩ := info_parts info_tlv
  have hbl : bs.length = len := hb.1.open.1
  have hbb := hb.2
  have bX : ∀ X Y : Obj, Below W.heap.size W ((W.alloc X).alloc Y) := fun X Y => ((Below.refl _ W).alloc (Nat.le_refl _) X).alloc (by simp) Y
  go_enter Try.func28, Try.ntmps28
  go_upto_region 1 with fail
  obtain ⟨V, hV⟩ : ∃ V, V = (W.alloc (.cells #[.int .i64 t, .slice a len cap, .slice ka kl kc] 30)).alloc (.cells #[.int .i64 0, .slice none 0 0, .slice none 0 0] 30) := ⟨_, rfl⟩
  have bV : Below W.heap.size W V := by rw [hV]; exact bX _ _
  have p1 : V.heap[W.heap.size]? = some (.cells #[.int .i64 t, .slice a len cap, .slice ka kl kc] 30) := by rw [hV]; exact (Below.heap_alloc _ _ _ (by simp)).trans (World.alloc_heap_new _ _)
  have p2 : V.heap[W.heap.size + 1]? = some (.cells #[.int .i64 0, .slice none 0 0, .slice none 0 0] 30) := by
    rw [hV, show W.heap.size + 1 = (W.alloc (.cells #[.int .i64 t, .slice a len cap, .slice ka kl kc] 30)).heap.size from (World.size_alloc ..).symm]; exact World.alloc_heap_new _ _
  have sV : V.heap.size = W.heap.size + 2 := by rw [hV]; simp
  rw [← hV]
  clear hV bX
  have bVn : Below n W V := ⟨bV.os, bV.tape, bV.output, bV.size, fun q hq => bV.block q (by omega)⟩
  go_cut [3] from 6 (fun p wx => ∃ (B : Nat) (va : Option Addr) (vc : Nat), p = .pointer (some ⟨B, 0, none⟩) ∧ V.heap.size ≤ B ∧ wx.heap[B]? = some (.cells #[.int .i64 t, .slice va len vc, .slice none 0 0] 30) ∧ wx.ownsRow V.heap.size 5 1 (.slice va len vc) len (bs.map (Value.int .u8)) ∧ Below V.heap.size V wx)
  case first =>
    have hnV : n ≤ V.heap.size := by omega
    have hxl : W.heap.size < V.heap.size := by omega
    have hbl2 : bs.length ≤ 1000000000 := by omega
    have HX : Hid (∀ W', Below V.heap.size V.drew W' → W'.cell? ⟨W.heap.size, 0, none⟩ = some (.int .i64 t) ∧ W'.cell? ⟨W.heap.size, 1, none⟩ = some (.slice a len cap)) := fun W' hW => by
      have q := (hW.block W.heap.size hxl).trans p1
      exact ⟨by rw [cell_of_row W' _ 0 _ _ _ q]; rfl, by rw [cell_of_row W' _ 1 _ _ _ q]; rfl⟩
    have hrV := hb.below bVn
    clear p1 p2 hk hkids
    refine wp_region_anyV (Below V.heap.size) (by kernel_rfl) 8 rfl ?_
    first
      | (refine anyV_val 0 (belowPre _) rfl (by kernel_rfl) (by kernel_rfl) (by kernel_rfl) (by rfl) (v := ?av1) (fun W hW => ?ay1) (fun K hK => ?ar1); case ay1 => (obtain ⟨z0, z1⟩ := (show ∀ W', Below V.heap.size V.drew W' → _ from HX) W hW; go_simp; first | done | rfl))
      | refine anyV_skip 0 (belowPre _) rfl (by kernel_rfl) (by kernel_rfl) (by kernel_rfl) (by rfl) (fun K hK => ?_)
    go_simp
    refine hK _ ?_
    clear hK K
    first
      | (refine anyV_val 1 (belowPre _) rfl (by kernel_rfl) (by kernel_rfl) (by kernel_rfl) (by rfl) (v := ?av2) (fun W hW => ?ay2) (fun K hK => ?ar2); case ay2 => (obtain ⟨z0, z1⟩ := (show ∀ W', Below V.heap.size V.drew W' → _ from HX) W hW; go_simp; first | done | rfl))
      | refine anyV_skip 1 (belowPre _) rfl (by kernel_rfl) (by kernel_rfl) (by kernel_rfl) (by rfl) (fun K hK => ?_)
    go_simp
    refine hK _ ?_
    clear hK K
    first
      | (refine anyV_val 2 (belowPre _) rfl (by kernel_rfl) (by kernel_rfl) (by kernel_rfl) (by rfl) (v := ?av3) (fun W hW => ?ay3) (fun K hK => ?ar3); case ay3 => (obtain ⟨z0, z1⟩ := (show ∀ W', Below V.heap.size V.drew W' → _ from HX) W hW; go_simp; first | done | rfl))
      | refine anyV_skip 2 (belowPre _) rfl (by kernel_rfl) (by kernel_rfl) (by kernel_rfl) (by rfl) (fun K hK => ?_)
    go_simp
    refine hK _ ?_
    clear hK K
    first
      | (refine anyV_val 3 (belowPre _) rfl (by kernel_rfl) (by kernel_rfl) (by kernel_rfl) (by rfl) (v := ?av4) (fun W hW => ?ay4) (fun K hK => ?ar4); case ay4 => (obtain ⟨z0, z1⟩ := (show ∀ W', Below V.heap.size V.drew W' → _ from HX) W hW; go_simp; first | done | rfl))
      | refine anyV_skip 3 (belowPre _) rfl (by kernel_rfl) (by kernel_rfl) (by kernel_rfl) (by rfl) (fun K hK => ?_)
    go_simp
    refine hK _ ?_
    clear hK K
    refine anyV_two 4 6 rfl rfl (by kernel_rfl) (by rfl) (by rfl) (fun K hK => ?wayA) (fun K hK => ?wayB)
    case wayA =>
      go_simp
      refine (clone_any a len cap bs V.drew n hnV (hrV.same fun _ _ => rfl) hbl2).mono ?_
      rintro e w3 ⟨v, rfl, o3, b3⟩
      obtain ⟨va, vc, rfl, hva⟩ := ownsRow_slice o3
      have b3' : Below V.heap.size V w3 := below_undrew b3
      refine ⟨_, rfl, hK _ _ b3 ?_⟩
      clear hK K
      refine anyV_frame (fun K hK => ?_)
      go_simp
      refine hK _ ?_
      clear hK K
      first
        | (refine anyV_val 5 (belowPre _) rfl (by kernel_rfl) (by kernel_rfl) (by kernel_rfl) (by rfl) (v := ?av5) (fun W hW => ?ay5) (fun K hK => ?ar5); case ay5 => (go_simp; first | done | rfl))
        | refine anyV_skip 5 (belowPre _) rfl (by kernel_rfl) (by kernel_rfl) (by kernel_rfl) (by rfl) (fun K hK => ?_)
      go_simp
      refine hK _ ?_
      clear hK K
      refine anyV_only 6 rfl (by kernel_rfl) (by rfl) (fun K hK => ?_)
      go_simp
      refine hK _ _ ((Below.refl _ w3).alloc b3'.size _) ?_
      clear hK K
      refine anyV_frame (fun K hK => ?_)
      go_simp
      refine hK _ ?_
      clear hK K
      refine anyV_only 7 rfl (by kernel_rfl) (by rfl) (fun K hK => ?_)
      refine upV_store_row 30 (.tmp 3) (.tmp 11) rfl w3.heap.size #[.int .i64 t, .slice va len vc, .slice none 0 0] rfl rfl 30 zT (World.alloc_heap_new w3 _) infoT rfl (agg3_one ..) ?_
      refine hK _ _ (below_setRow (Below.refl _ _) b3'.size _) ?_
      clear hK K
      refine anyV_frame (fun K hK => ?_)
      go_simp
      refine hK _ ?_
      clear hK K
      refine anyV_done (by kernel_rfl) ?_
      go_wp2_with fail
      go_meet
      obtain ⟨W5, hW5⟩ : ∃ W5, W5 = (w3.alloc (.cells zT 30)).setRow w3.heap.size #[.int .i64 t, .slice va len vc, .slice none 0 0] := ⟨_, rfl⟩
      have e5 : W5.heap[w3.heap.size]? = some (.cells #[.int .i64 t, .slice va len vc, .slice none 0 0] 30) := by rw [hW5]; exact setRow_heap _ _ _ _ _ _ (World.alloc_heap_new w3 _)
      have b5 : Below w3.heap.size w3 W5 := by rw [hW5]; exact below_setRow ((Below.refl _ w3).alloc (Nat.le_refl _) _) (Nat.le_refl _) _
      refine ⟨w3.heap.size, va, vc, rfl, b3'.size, ?_⟩
      rw [show (w3.alloc (Obj.cells #[Value.int IntKind.i64 0, Value.slice none 0 0, Value.slice none 0 0] 30)).setRow w3.heap.size #[.int .i64 t, .slice va len vc, .slice none 0 0] = W5 from hW5.symm]
      exact ⟨e5, ownsRow_same o3 fun b hb => b5.block b (o3.lt b hb).2, b3'.trans (b5.mono b3'.size)⟩
    case wayB =>
      obtain ⟨V2, hV2⟩ : ∃ V2, V2 = (V.alloc (.cells #[.int .i64 0, .slice none 0 0, .slice none 0 0] 30)).drew := ⟨_, rfl⟩
      have bV2 : Below V.heap.size V.drew V2 := by
        have h : Below V.heap.size V (V.alloc (.cells #[.int .i64 0, .slice none 0 0, .slice none 0 0] 30)) := (Below.refl _ _).alloc (Nat.le_refl _) _
        rw [hV2]
        exact ⟨h.os, h.tape, h.output, h.size, h.block⟩
      have eV2 : V2.heap[V.heap.size]? = some (.cells zT 30) := by rw [hV2]; exact World.alloc_heap_new V _
      have sV2 : V2.heap.size = V.heap.size + 1 := by rw [hV2]; show (V.alloc _).heap.size = _; simp
      go_simp
      rw [← hV2]
      try rw [← sV]
      have HSV := Lib.hid sV
      have sV2' : V.heap.size < V2.heap.size := by omega
      clear hV2 sV sV2
      refine hK _ _ bV2 ?_
      clear hK K
      refine anyV_frame (fun K hK => ?_)
      go_simp
      refine hK _ ?_
      clear hK K
      refine anyV_only 4 rfl (by kernel_rfl) (by rfl) (fun K hK => ?_)
      go_simp
      refine (clone_any a len cap bs V2 n (by omega) ((show Row8 n V.drew _ _ from hrV.same fun _ _ => rfl).same fun q hq => bV2.block q (by have := hrV.lt q hq; omega)) hbl2).mono ?_
      rintro e w3 ⟨v, rfl, o3, b3⟩
      obtain ⟨va, vc, rfl, hva⟩ := ownsRow_slice o3
      have b3' : Below V.heap.size V2 w3 := b3.mono (by omega)
      have e3 : w3.heap[V.heap.size]? = some (.cells zT 30) := (b3.block V.heap.size (by omega)).trans eV2
      refine ⟨_, rfl, hK _ _ b3' ?_⟩
      clear hK K
      refine anyV_frame (fun K hK => ?_)
      go_simp
      refine hK _ ?_
      clear hK K
      first
        | (refine anyV_val 5 (belowPre _) rfl (by kernel_rfl) (by kernel_rfl) (by kernel_rfl) (by rfl) (v := ?av6) (fun W hW => ?ay6) (fun K hK => ?ar6); case ay6 => (go_simp; first | done | rfl))
        | refine anyV_skip 5 (belowPre _) rfl (by kernel_rfl) (by kernel_rfl) (by kernel_rfl) (by rfl) (fun K hK => ?_)
      go_simp
      refine hK _ ?_
      clear hK K
      refine anyV_only 7 rfl (by kernel_rfl) (by rfl) (fun K hK => ?_)
      refine upV_store_row 30 (.tmp 3) (.tmp 11) rfl V.heap.size #[.int .i64 t, .slice va len vc, .slice none 0 0] rfl rfl 30 zT e3 infoT rfl (agg3_one ..) ?_
      refine hK _ _ (below_setRow (Below.refl _ _) (Nat.le_refl _) _) ?_
      clear hK K
      refine anyV_frame (fun K hK => ?_)
      go_simp
      refine hK _ ?_
      clear hK K
      refine anyV_done (by kernel_rfl) ?_
      go_wp2_with fail
      go_meet
      refine ⟨V.heap.size, va, vc, rfl, Nat.le_refl _, setRow_heap _ _ _ _ _ _ e3, ?_, ?_⟩
      · refine own_mono (ownsRow_same o3 fun b hb => setRow_other _ _ _ _ (by have := (o3.lt b hb).1; omega)) (by omega) fun _ _ => rfl
      · have := below_setRow (bV2.trans b3') (Nat.le_refl _) #[.int .i64 t, .slice va len vc, .slice none 0 0]
        exact ⟨this.os, this.tape, this.output, this.size, this.block⟩
  case rest =>
    obtain ⟨B, va, vc, rfl, hB, eB, oB, bB⟩ := hcut
    have bWc : Below W.heap.size W wc := bV.trans (bB.mono bV.size)
    have e1 := (bB.block W.heap.size (by omega)).trans p1
    have e2 := (bB.block (W.heap.size + 1) (by omega)).trans p2
    have y2 : wc.cell? ⟨W.heap.size, 2, none⟩ = some (.slice ka kl kc) := by rw [cell_of_row wc _ 2 _ _ _ e1]; rfl
    have lB : B < wc.heap.size := (Array.getElem?_eq_some_iff.1 eB).1
    have hVn : V.heap.size ≤ wc.heap.size := bB.size
    have hva : ∀ b, (Value.slice va len vc).ownBlock = some b → b ≠ B := fun b hb h => by
      subst h
      rcases oB.2 with ⟨h1, _⟩ | ⟨g, cap', cur, h1, _, h3, _⟩
      · rw [h1] at hb; simp [Value.ownBlock] at hb
      · rw [h1] at hb
        obtain rfl : g = b := by simpa [Value.ownBlock] using hb
        rw [eB] at h3
        injection h3 with h3; injection h3 with _ h3 _
        exact absurd h3 (by decide)
    have hW1 : W.heap.size + 1 < V.heap.size := by omega
    have hkc : k.cnt ≤ 20000 := by omega
    have hksm := hkids.small
    obtain ⟨hkl, hkr⟩ := hkids
    have hkll := Forest.length_le_cnt k
    clear p1 p2 bV e1
    go_wp2_with fail
    go_loopw [15] (fun x wr => ∃ (j : Nat) (F G : Forest) (vk : Value) (vs : List Value) (S : Nat → Prop), x = .int .i64 (j : Int) ∧ j + G.length = kl ∧ Hid (k = F.app G ∧ F.length = j ∧ G.AllKids TwinOK) ∧ (0 < G.length → ∃ b2 o2, ka = some ⟨b2, o2, none⟩ ∧ kl ≤ kc ∧ kc ≤ maxLen ∧ RowF n W G b2 (o2 + j * 3) ∧ b2 < n) ∧
      wr.heap[B]? = some (.cells #[.int .i64 t, .slice va len vc, vk] 30) ∧ wr.ownsRow V.heap.size 5 1 (.slice va len vc) len (bs.map (Value.int .u8)) ∧ wr.ownsRow V.heap.size 30 3 vk j vs ∧ RelocS S wr F vs ∧ (∀ x, S x → V.heap.size ≤ x ∧ x < wr.heap.size ∧ x ≠ B ∧ vk.ownBlock ≠ some x) ∧ vk.ownBlock ≠ some B ∧ (∀ b, (Value.slice va len vc).ownBlock = some b → b ≠ B ∧ vk.ownBlock ≠ some b) ∧ Below V.heap.size wc wr) (fun x _ => kl - (intOf x).toNat)
    case atStart =>
      refine ⟨0, .nil, k, .slice none 0 0, [], fun _ => False, rfl, by omega, ⟨rfl, rfl, hk⟩, fun hl => ?_, eB, oB, World.ownsRow_nil _ _ _ _, RelocS.nil, fun x h => h.elim, by simp [Value.ownBlock], fun b hb => ⟨hva b hb, by simp [Value.ownBlock]⟩, Below.refl _ _⟩
      rcases hkr with h0 | ⟨b2, o2, g1, g2, g3, g4, g5⟩
      · omega
      · exact ⟨b2, o2, g1, g3, g4, by simpa using g5, g2⟩
    case round =>
      clear eB oB hkr hk lB y2
      obtain ⟨j, F, G, vk, vs, S, rfl, hjl, hFG, hGr, eB, oB, oK, hR, hS, hKB, hvb, bw⟩ := hrel
      have lB : B < wr.heap.size := (Array.getElem?_eq_some_iff.1 eB).1
      by_cases hlt : j < kl
      · have t1 : decide ((j : Int) < (kl : Int)) = true := by simp; omega
        obtain ⟨b2, o2, rfl, hkc1, hkc2, hrow, hb2⟩ := hGr (by omega)
        simp only [maxLen] at hkc2
        have bWr : Below W.heap.size W wr := bWc.trans (bw.mono (by omega))
        have bnr : Below n W wr := bWr.mono hn
        have hrow' : RowF n wr G b2 (o2 + j * 3) := RowF.below bnr G b2 _ hb2 hrow
        obtain ⟨t', bs', k', r, a1, l1, c1, ka1, kl1, kc1, rfl, q0, q1, q2, hr1, hr2, hrb, hrk, hrr⟩ := hrow'.open (by omega)
        obtain ⟨hkF, hFl, hGk⟩ := (show _ ∧ _ ∧ _ from hFG)
        have hcF : k'.cnt + bs'.length + 1 ≤ k.cnt := by rw [hkF, Forest.cnt_app]; simp only [Forest.cnt]; omega
        have hGl : r.length + 1 = kl - j := by simp only [Forest.length] at hjl; omega
        have hKid : TwinOK k' := hGk.1
        have HFG := Lib.hid (show k = (F.app (.cons t' bs' k' .nil)).app r ∧ (F.app (.cons t' bs' k' .nil)).length = j + 1 ∧ r.AllKids TwinOK from ⟨by rw [Forest.app_cons]; exact hkF, by rw [Forest.length_app]; simp only [Forest.length]; omega, hGk.2⟩)
        have hvl : vs.length = F.length * 3 := by rw [hFl]; exact oK.1
        have hls : j * 3 + 3 ≤ kl * 3 := by omega
        obtain ⟨vka, vkc, rfl, _⟩ := ownsRow_slice oK
        obtain ⟨T3, hT3⟩ : ∃ T3, T3 = wr.heap.size := ⟨_, rfl⟩
        have x3 := fun (O : Obj) => World.alloc_heap_new wr O
        have hRow2 := Lib.hid (show RowF n W r b2 (o2 + (j + 1) * 3) ∧ b2 < n from by
          have hc := hrow
          obtain ⟨_, _, _, _, _, _, _, _, _, _, _, _, _, _, hc'⟩ := hc
          rw [show o2 + (j + 1) * 3 = o2 + j * 3 + 3 by omega]
          exact ⟨hc', hb2⟩)
        clear hGr hFG hGk hkF hrow hrow' hrr
        go_wp2_with ((fail_if_success (unfold Held)); refine at_store (t := 30) rfl ?_)
        unfold Held
        refine wpList_store_row rfl 30 (.tmp 5) (.tmp 18) rfl wr.heap.size #[.int .i64 t', .slice a1 l1 c1, .slice ka1 kl1 kc1] rfl rfl 30 zT (World.alloc_heap_new _ _) infoT rfl (agg3_one ..) ?_
        rw [World.setRow_alloc_new]
        obtain ⟨V4, hV4⟩ : ∃ V4, V4 = wr.alloc (.cells #[.int .i64 t', .slice a1 l1 c1, .slice ka1 kl1 kc1] 30) := ⟨_, rfl⟩
        have x4 : V4.heap[wr.heap.size]? = some (.cells #[.int .i64 t', .slice a1 l1 c1, .slice ka1 kl1 kc1] 30) := by rw [hV4]; exact World.alloc_heap_new _ _
        have b4 : Below wr.heap.size wr V4 := by rw [hV4]; exact (Below.refl _ _).alloc (Nat.le_refl _) _
        have s4 : V4.heap.size = wr.heap.size + 1 := by rw [hV4]; simp
        rw [← hV4]
        have hs4 : wr.heap.size < V4.heap.size := by omega
        clear hV4 s4 x3
        have B4 : V4.heap[B]? = some (.cells #[.int .i64 t, .slice va len vc, .slice vka j vkc] 30) := (b4.block B lB).trans eB
        have o4 := ownsRow_same oK fun b hb => b4.block b (oK.lt b hb).2
        have hg : ∀ b, (Value.slice vka j vkc).ownBlock = some b → V.heap.size ≤ b ∧ b < wr.heap.size := fun b hb => oK.lt b hb
        have hnV4 : n ≤ V4.heap.size := by have := bw.size; omega
        have hrb4 : Row8 n V4.drew (.slice a1 l1 c1) bs' := (hrb.1.below ⟨b4.os, b4.tape, b4.output, b4.size, fun q hq => b4.block q (by have := bw.size; omega)⟩).same fun _ _ => rfl
        have hrk4 : SlF n V4.drew ka1 kl1 kc1 k' := by
          have h : Below n wr V4.drew := ⟨b4.os, b4.tape, b4.output, b4.size, fun q hq => b4.block q (by have := bw.size; omega)⟩
          exact hrk.below h
        have k1 := hKid V4.drew n t' a1 l1 c1 bs' ka1 kl1 kc1 hnV4 hr1 hr2 hrb4 hrk4 (by omega)
        obtain ⟨Sg, hSg⟩ : ∃ Sg : Nat → Prop, Sg = fun b => (Value.slice vka j vkc).ownBlock = some b := ⟨_, rfl⟩
        have hSB : ¬ Sg B := by rw [hSg]; exact hKB
        have hSx : ¬ Sg wr.heap.size := by rw [hSg]; intro h; have := (hg _ h).2; omega
        have HX : Hid (∀ W', Wr Sg Sg V4 W' → W'.cell? ⟨B, 2, none⟩ = some (.slice vka j vkc) ∧ W'.cell? ⟨wr.heap.size, 0, none⟩ = some (.int .i64 t') ∧ W'.cell? ⟨wr.heap.size, 1, none⟩ = some (.slice a1 l1 c1) ∧ W'.cell? ⟨wr.heap.size, 2, none⟩ = some (.slice ka1 kl1 kc1)) := fun W' hW => by
          have z1 := (hW.block B (by omega) hSB).trans B4
          have z2 := (hW.block wr.heap.size hs4 hSx).trans x4
          exact ⟨by rw [cell_of_row W' _ 2 _ _ _ z1]; rfl, by rw [cell_of_row W' _ 0 _ _ _ z2]; rfl, by rw [cell_of_row W' _ 1 _ _ _ z2]; rfl, by rw [cell_of_row W' _ 2 _ _ _ z2]; rfl⟩
        have K1 := Lib.hid k1
        have HEB := Lib.hid eB
        have HOB := Lib.hid oB
        have HOK := Lib.hid oK
        have HRR := Lib.hid hR
        have HS := Lib.hid hS
        have HVB := Lib.hid hvb
        have HBW := Lib.hid bw
        have HB4 := Lib.hid b4
        have HBB4 := Lib.hid B4
        have hbws := bw.size
        have hjk : j ≤ 20000 := by omega
        clear q0 q1 q2 k1 hrb hrk hrb4 hrk4 eB oB oK hR hS hvb bw b4 B4 hKid hcF x4 bWr bnr
        go_wp2_with fail
        refine wp_region_anyZ (GrowsBut Sg) 6 2 (by kernel_rfl) rfl ?_
        first
          | (refine anyZ_val 0 (GrowsBut.pre Sg) (by kernel_rfl) (by decide) rfl (by kernel_rfl) (by kernel_rfl) (by kernel_rfl) (by rfl) (v := ?av7) (fun W hW => ?ay7) (fun K hK => ?ar7); case ay7 => (obtain ⟨z0, z1, z2, z3⟩ := (show ∀ W', Wr Sg Sg V4 W' → _ from HX) W (Wr.undrew hW); go_simp; first | done | rfl))
          | refine anyZ_skip 0 (GrowsBut.pre Sg) (by kernel_rfl) (by decide) rfl (by kernel_rfl) (by kernel_rfl) (by kernel_rfl) (by rfl) (fun K hK => ?_)
        go_simp
        refine hK _ ?_
        clear hK K
        first
          | (refine anyZ_val 1 (GrowsBut.pre Sg) (by kernel_rfl) (by decide) rfl (by kernel_rfl) (by kernel_rfl) (by kernel_rfl) (by rfl) (v := ?av8) (fun W hW => ?ay8) (fun K hK => ?ar8); case ay8 => (obtain ⟨z0, z1, z2, z3⟩ := (show ∀ W', Wr Sg Sg V4 W' → _ from HX) W (Wr.undrew hW); go_simp; first | done | rfl))
          | refine anyZ_skip 1 (GrowsBut.pre Sg) (by kernel_rfl) (by decide) rfl (by kernel_rfl) (by kernel_rfl) (by kernel_rfl) (by rfl) (fun K hK => ?_)
        go_simp
        refine hK _ ?_
        clear hK K
        first
          | (refine anyZ_val 2 (GrowsBut.pre Sg) (by kernel_rfl) (by decide) rfl (by kernel_rfl) (by kernel_rfl) (by kernel_rfl) (by rfl) (v := ?av9) (fun W hW => ?ay9) (fun K hK => ?ar9); case ay9 => (obtain ⟨z0, z1, z2, z3⟩ := (show ∀ W', Wr Sg Sg V4 W' → _ from HX) W (Wr.undrew hW); go_simp; first | done | rfl))
          | refine anyZ_skip 2 (GrowsBut.pre Sg) (by kernel_rfl) (by decide) rfl (by kernel_rfl) (by kernel_rfl) (by kernel_rfl) (by rfl) (fun K hK => ?_)
        go_simp
        refine hK _ ?_
        clear hK K
        refine anyZ_only 3 rfl (by kernel_rfl) (by rfl) (fun K hK => ?_)
        go_simp
        refine Calls.mono K1 ?_
        rintro e w5 ⟨a5, l5, c5, ka5, kl5, kc5, rfl, hR5, _, b5⟩
        have b5' : Below V4.heap.size V4 w5 := below_undrew b5
        refine ⟨_, rfl, hK _ _ (Wr.of_below b5) ?_⟩
        clear hK K
        refine anyZ_frame (fun K hK => ?_)
        go_simp
        refine hK _ ?_
        clear hK K
        refine anyZ_only 4 rfl (by kernel_rfl) (by rfl) (fun K hK => ?_)
        go_simp
        obtain ⟨W6, hW6⟩ : ∃ W6, W6 = w5.alloc (Obj.cells #[.int .i64 t', .slice a5 l5 c5, .slice ka5 kl5 kc5] 30) := ⟨_, rfl⟩
        have b6 : Below w5.heap.size w5 W6 := by rw [hW6]; exact (Below.refl _ _).alloc (Nat.le_refl _) _
        have x6 : W6.heap[w5.heap.size]? = some (.cells #[.int .i64 t', .slice a5 l5 c5, .slice ka5 kl5 kc5] 30) := by rw [hW6]; exact World.alloc_heap_new _ _
        have s6 : W6.heap.size = w5.heap.size + 1 := by rw [hW6]; simp
        have b46 : Below V4.heap.size V4 W6 := b5'.trans (b6.mono b5'.size)
        have o6 := ownsRow_same o4 fun b hb => b46.block b (by have := (hg b hb).2; omega)
        have hs56 : w5.heap.size < W6.heap.size := by omega
        have h45 := b5'.size
        rw [← hW6]
        refine hK _ _ (Wr.of_below b6) ?_
        clear hW6
        clear hK K
        refine anyZ_frame (fun K hK => ?_)
        go_simp
        refine hK _ ?_
        clear hK K
        refine anyZ_only 5 rfl (by kernel_rfl) (by rfl) (fun K hK => ?_)
        refine upV_append_vals (.tmp 20) (.tmp 23) 22 rfl V.heap.size 30 i0 _ 3 56 Try.underlying22 hi0 hz0 hz1 hz2 rfl (by decide) (.slice vka j vkc) j vs rfl o6 (some ⟨w5.heap.size, 0, none⟩) 1 1 [.int .i64 t', .slice a5 l5 c5, .slice ka5 kl5 kc5] rfl rfl (by simp [Value.oneCell']) (.inr ⟨_, _, rfl, fun q u hq => by
          have hql := (List.getElem?_eq_some_iff.1 hq).1
          rw [Nat.zero_add, cell_of_row W6 _ q _ _ _ x6, List.getElem?_toArray]
          exact hq⟩) (by omega) (by simp only [maxLen]; omega) (by omega) ?_
        intro v7 w7 o7 g7 hv7
        have hg7 : Wr Sg Sg W6 w7 := Wr.grown (Wr.refl Sg W6) g7 fun b hb => .inl (by rw [hSg]; exact hb)
        have w47 : Wr Sg Sg V4 w7 := (Wr.of_below b46).trans hg7
        have e7 := (w47.block B (by omega) hSB).trans HBB4
        have cc7 : w7.cell? ⟨B, 2, none⟩ = some (.slice vka j vkc) := by rw [cell_of_row w7 _ 2 _ _ _ e7]; rfl
        have ff7 := frozen_of_row w7 B 2 _ _ e7
        obtain ⟨a7, c7, rfl, _⟩ := ownsRow_slice o7
        refine hK _ _ hg7 ?_
        clear hK K
        refine anyZ_frame (fun K hK => ?_)
        go_simp
        refine hK _ ?_
        clear hK K
        refine anyZ_done (by kernel_rfl) ?_
        refine wpAny_only 6 rfl (by kernel_rfl) (by rfl) (fun K hK => ?_)
        go_simp
        refine hK _ _ ?_
        clear hK K
        refine wpAny_frame (fun K hK => ?_)
        go_simp
        refine hK _ ?_
        clear hK K
        refine wpAny_only 7 rfl (by kernel_rfl) (by rfl) (fun K hK => ?_)
        go_simp
        refine hK _ _ ?_
        clear hK K
        refine wpAny_frame (fun K hK => ?_)
        go_simp
        refine hK _ ?_
        clear hK K
        refine wpAny_done (by kernel_rfl) ?_
        obtain ⟨W8, hW8⟩ : ∃ W8, W8 = w7.setCell ⟨B, 2, none⟩ (.slice a7 (j + 1) c7) := ⟨_, rfl⟩
        have e8 : W8.heap[B]? = some (.cells #[.int .i64 t, .slice va len vc, .slice a7 (j + 1) c7] 30) := by rw [hW8]; exact heap_setCell_same _ _ _ _ _ _ e7
        have s8 : w7.heap.size ≤ W8.heap.size := by rw [hW8]; show _ ≤ (w7.heap.modify _ _).size; rw [Array.size_modify]; exact Nat.le_refl _
        have k8 : ∀ b, b ≠ B → W8.heap[b]? = w7.heap[b]? := fun b hb => by rw [hW8]; exact Below.heap_setCell _ _ _ _ hb
        rw [← hW8]
        have h67 := hg7.size
        have hv7' : ∀ b, (Value.slice a7 (j + 1) c7).ownBlock = some b → (Value.slice vka j vkc).ownBlock = some b ∨ b = W6.heap.size := fun b hb => by
          rcases hv7 with h | h
          · rw [h] at hb; exact .inl hb
          · rw [h] at hb; injection hb with hb; exact .inr hb.symm
        -- old blocks
        have keepO : ∀ b, b < wr.heap.size → b ≠ B → (Value.slice vka j vkc).ownBlock ≠ some b → W8.heap[b]? = wr.heap[b]? := fun b h1 h2 h3 => by
          refine (k8 b h2).trans ((w47.block b (by omega) (by rw [hSg]; exact h3)).trans ((show Below wr.heap.size wr V4 from HB4).block b h1))
        have keepN : ∀ b, V4.heap.size ≤ b → b < w5.heap.size → W8.heap[b]? = w5.heap[b]? := fun b h1 h2 => by
          refine (k8 b (by omega)).trans ((hg7.block b (by omega) (by rw [hSg]; intro h; have := (hg b h).2; omega)).trans (b6.block b h2))
        have F1 : Hid (W8.heap[B]? = some (.cells #[.int .i64 t, .slice va len vc, .slice a7 (j + 1) c7] 30) ∧ W8.ownsRow V.heap.size 5 1 (.slice va len vc) len (bs.map (Value.int .u8)) ∧ W8.ownsRow V.heap.size 30 3 (.slice a7 (j + 1) c7) (j + 1) (vs ++ [.int .i64 t', .slice a5 l5 c5, .slice ka5 kl5 kc5]) ∧
            RelocS (fun x => S x ∨ (V4.heap.size ≤ x ∧ x < w5.heap.size)) W8 (F.app (.cons t' bs' k' .nil)) (vs ++ [.int .i64 t', .slice a5 l5 c5, .slice ka5 kl5 kc5]) ∧
            (∀ x, (S x ∨ (V4.heap.size ≤ x ∧ x < w5.heap.size)) → V.heap.size ≤ x ∧ x < W8.heap.size ∧ x ≠ B ∧ (Value.slice a7 (j + 1) c7).ownBlock ≠ some x) ∧ (Value.slice a7 (j + 1) c7).ownBlock ≠ some B ∧ (∀ b, (Value.slice va len vc).ownBlock = some b → b ≠ B ∧ (Value.slice a7 (j + 1) c7).ownBlock ≠ some b) ∧ Below V.heap.size wc W8) := by
          have hS := (show ∀ x, S x → V.heap.size ≤ x ∧ x < wr.heap.size ∧ x ≠ B ∧ (Value.slice vka j vkc).ownBlock ≠ some x from HS)
          have hvb := (show ∀ b, (Value.slice va len vc).ownBlock = some b → b ≠ B ∧ (Value.slice vka j vkc).ownBlock ≠ some b from HVB)
          have oB := (show wr.ownsRow V.heap.size 5 1 (.slice va len vc) len (bs.map (Value.int .u8)) from HOB)
          refine ⟨e8, ownsRow_same oB fun b hb => keepO b (oB.lt b hb).2 (hvb b hb).1 (hvb b hb).2, ownsRow_same o7 fun b hb => k8 b fun e => ?_, RelocS.app ?_ ?_ hvl, ?_, ?_, ?_, ?_⟩
          · subst e
            rcases hv7' b hb with h | h
            · exact hKB h
            · omega
          · exact ((show RelocS S wr F vs from HRR).keep fun x hx => keepO x (hS x hx).2.1 (hS x hx).2.2.1 (hS x hx).2.2.2).widen fun x hx => .inl hx
          · exact (RelocS.keep hR5 fun x hx => keepN x hx.1 hx.2).widen fun x hx => .inr hx
          · rintro x (hx | ⟨h1, h2⟩)
            · refine ⟨(hS x hx).1, by have := (hS x hx).2.1; omega, (hS x hx).2.2.1, fun h => ?_⟩
              rcases hv7' x h with h | h
              · exact (hS x hx).2.2.2 h
              · have := (hS x hx).2.1; omega
            · refine ⟨by omega, by omega, by omega, fun h => ?_⟩
              rcases hv7' x h with h | h
              · have := (hg x h).2; omega
              · omega
          · intro h
            rcases hv7' B h with h | h
            · exact hKB h
            · omega
          · intro b hb
            refine ⟨(hvb b hb).1, fun h => ?_⟩
            rcases hv7' b h with h | h
            · exact (hvb b hb).2 h
            · have := (oB.lt b hb).2; omega
          · have hbw := (show Below V.heap.size wc wr from HBW)
            refine ⟨?_, ?_, ?_, by omega, fun b hb => ?_⟩
            · rw [hW8]; exact (w47.os.trans (show Below wr.heap.size wr V4 from HB4).os).trans hbw.os
            · rw [hW8]; exact (w47.tape.trans (show Below wr.heap.size wr V4 from HB4).tape).trans hbw.tape
            · rw [hW8]; exact (w47.output.trans (show Below wr.heap.size wr V4 from HB4).output).trans hbw.output
            · exact (keepO b (by omega) (by omega) (fun h => by have := (hg b h).1; omega)).trans (hbw.block b hb)
        clear e8 s8 k8 hW8 keepO keepN hv7' o7 g7 hv7 hg7 w47 e7 cc7 ff7 b6 x6 s6 b46 o6 b5 b5' hR5 K1 HEB HOB HOK HRR HS HVB HBW HB4 HBB4 HX o4 hg hSB hSx
        go_wp2_with fail
        go_roundw
        case rel => exact ⟨j + 1, _, r, .slice a7 (j + 1) c7, _, _, by go_num, by omega, HFG, fun _ => ⟨b2, o2, rfl, hkc1, by simp only [maxLen]; omega, hRow2⟩, F1⟩
        case measure => simp [intOf]; omega
      · have t1 : decide ((j : Int) < (kl : Int)) = false := by simp; omega
        have hGn : G = .nil := by
          cases G with
          | nil => rfl
          | cons _ _ _ _ => simp only [Forest.length] at hjl; omega
        subst hGn
        obtain ⟨hkF, hFl, _⟩ := (show _ ∧ _ ∧ _ from hFG)
        rw [Forest.app_nil] at hkF
        subst hkF
        obtain ⟨vka, vkc, rfl, _⟩ := ownsRow_slice oK
        have e2r := (bw.block (W.heap.size + 1) (by omega)).trans e2
        have y0 : wr.cell? ⟨B, 0, none⟩ = some (.int .i64 t) := by rw [cell_of_row wr _ 0 _ _ _ eB]; rfl
        have y1 : wr.cell? ⟨B, 1, none⟩ = some (.slice va len vc) := by rw [cell_of_row wr _ 1 _ _ _ eB]; rfl
        have y2 : wr.cell? ⟨B, 2, none⟩ = some (.slice vka j vkc) := by rw [cell_of_row wr _ 2 _ _ _ eB]; rfl
        clear hFG hGr
        go_wp2_with ((fail_if_success (unfold Held)); refine at_store (t := 30) rfl ?_)
        unfold Held
        refine wpList_store_row rfl 30 (.tmp 2) (.tmp 27) rfl (W.heap.size + 1) #[.int .i64 t, .slice va len vc, .slice vka j vkc] rfl rfl 30 zT e2r infoT rfl (agg3_one ..) ?_
        obtain ⟨W9, hW9⟩ : ∃ W9, W9 = wr.setRow (W.heap.size + 1) #[.int .i64 t, .slice va len vc, .slice vka j vkc] := ⟨_, rfl⟩
        have e9 : W9.heap[W.heap.size + 1]? = some (.cells #[.int .i64 t, .slice va len vc, .slice vka j vkc] 30) := by rw [hW9]; exact setRow_heap _ _ _ _ _ _ e2r
        have k9 : ∀ b, b ≠ W.heap.size + 1 → W9.heap[b]? = wr.heap[b]? := fun b hb => by rw [hW9]; exact setRow_other _ _ _ _ hb
        have s9 : W9.heap.size = wr.heap.size := by rw [hW9]; exact size_setRow _ _ _
        have b9 : Below W.heap.size W W9 := by rw [hW9]; exact below_setRow (bWc.trans (bw.mono (by omega))) (by omega) _
        rw [← hW9]
        have z0 : W9.cell? ⟨W.heap.size + 1, 0, none⟩ = some (.int .i64 t) := by rw [cell_of_row W9 _ 0 _ _ _ e9]; rfl
        have z1 : W9.cell? ⟨W.heap.size + 1, 1, none⟩ = some (.slice va len vc) := by rw [cell_of_row W9 _ 1 _ _ _ e9]; rfl
        have z2 : W9.cell? ⟨W.heap.size + 1, 2, none⟩ = some (.slice vka j vkc) := by rw [cell_of_row W9 _ 2 _ _ _ e9]; rfl
        clear hW9
        have hb9 : ∀ (W' : World) (n' : Nat), (∀ x, (W.heap.size ≤ x ∧ x < W9.heap.size) → W'.heap[x]? = W9.heap[x]?) → (∀ x, (W.heap.size ≤ x ∧ x < W9.heap.size) → x < n') → Row8 n' W' (.slice va len vc) bs := fun W' n' h1 h2 => own_row8 oB hbb W' n' fun b hb => by
          have h3 := oB.lt b hb
          have h4 : W.heap.size ≤ b ∧ b < W9.heap.size := ⟨by omega, by omega⟩
          exact ⟨(h1 b h4).trans (k9 b (by omega)), h2 b h4⟩
        have hk9 : ∀ (W' : World) (n' : Nat), (∀ x, (W.heap.size ≤ x ∧ x < W9.heap.size) → W'.heap[x]? = W9.heap[x]?) → (∀ x, (W.heap.size ≤ x ∧ x < W9.heap.size) → x < n') → SlF n' W' vka j vkc k := fun W' n' h1 h2 => own_slF oK hR hFl W' n' fun x hx => by
          have h4 : V.heap.size ≤ x ∧ x < wr.heap.size := hx.elim (fun h => ⟨(hS x h).1, (hS x h).2.1⟩) (fun h => oK.lt x h)
          have h5 : W.heap.size ≤ x ∧ x < W9.heap.size := ⟨by omega, by omega⟩
          exact ⟨(h1 x h5).trans (k9 x (by omega)), h2 x h5⟩
        have hP : RelocS (fun x => W.heap.size ≤ x ∧ x < W9.heap.size) W9 (.cons t bs k .nil) [.int .i64 t, .slice va len vc, .slice vka j vkc] ∧ (∀ (W2 : World) (n' : Nat), (∀ x, W.heap.size ≤ x ∧ x < W9.heap.size → W2.heap[x]? = W9.heap[x]?) → (∀ x, W.heap.size ≤ x ∧ x < W9.heap.size → x < n') → Row8 n' W2 (.slice va len vc) bs ∧ SlF n' W2 vka j vkc k) ∧ Below W.heap.size W W9 :=
          ⟨RelocS.one ht1 ht2 (by omega) hb9 hk9, fun W2 n' h1 h2 => ⟨hb9 W2 n' h1 h2, hk9 W2 n' h1 h2⟩, b9⟩
        have HP := Lib.hid hP
        clear hP hb9 hk9 eB oB oK hR hS hvb bw y0 y1 y2 e2r
        clear z0 z1 z2
        go_wp2_with fail
        refine bodyPost_ret (results_cell_row rfl _ _ (W.heap.size + 1) 30 #[.int .i64 t, .slice va len vc, .slice vka j vkc] (0, 0) _ rfl e9 Try.underlying30 rfl infoT) rfl ?_
        exact ⟨_, _, _, _, _, _, rfl, HP⟩
theorem twin_any (k : Forest) : TwinOK k := Forest.all TwinOK twin_step k
end Go.Proofs.Ytdlhnipkhlihjaa
