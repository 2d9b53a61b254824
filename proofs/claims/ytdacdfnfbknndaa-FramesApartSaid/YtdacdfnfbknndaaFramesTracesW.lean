/- The walk of the law FramesTraces. -/
import Derived.Test.YtdacdfnfbknndaaFramesLeastW
namespace Go.Proofs.Ytdacdfnfbknndaa
open Go Go.RowKit
attribute [local go_sem] upV_value upV_skip upV_enter
set_option linter.unusedVariables false
set_option linter.unnecessarySimpa false
set_option linter.unusedSimpArgs false
def pN (x : Fr) : Bool := decide (x.n ≠ 0)
theorem usedTo_count (fs : List Fr) (j : Nat) (h : j ≤ fs.length) : (usedTo fs j).length = (fs.take j).countP pN := by
  induction j with
  | zero => rfl
  | succ j ih =>
    rw [usedTo_succ, List.take_succ_eq_append_getElem (by omega : j < fs.length), List.length_append, List.countP_append, ih (by omega), frAt_at (by omega : j < fs.length)]
    congr 1
    by_cases hn : fs[j].n = 0 <;> simp [hn, pN]
theorem usedF_count (fs : List Fr) : (usedF fs).length = fs.countP pN := by
  have := usedTo_count fs fs.length (Nat.le_refl _)
  rwa [List.take_length] at this
theorem usedF_more {fs : List Fr} {t : Nat} (ht : t < fs.length) (h0 : fs[t].n = 0) (x : Fr) (hx : x.n ≠ 0) : (usedF (fs.set t x)).length = (usedF fs).length + 1 := by
  rw [usedF_count, usedF_count, List.countP_set ht]
  have h1 : pN fs[t] = false := by simp [pN, h0]
  have h2 : pN x = true := by simpa [pN] using hx
  rw [h1, h2]
  simp
theorem Small.set {fs : List Fr} (h : Small fs) (t : Nat) (x : Fr) (h1 : 0 ≤ x.n) (h2 : x.n ≤ 1000000) : Small (fs.set t x) := fun y hy => by
  rcases List.mem_or_eq_of_mem_set hy with hy | rfl
  · exact h y hy
  · exact ⟨h1, h2⟩
theorem share_set {fs : List Fr} {t : Nat} (ht : t < fs.length) (B : List Int) (c : Int) (hc : c ≠ 0) : okF (fs.set t ⟨B, c⟩) t = true ∧ shareF (fs.set t ⟨B, c⟩) t = fs.set t ⟨B, c + 1⟩ := by
  have hl : t < (fs.set t (⟨B, c⟩ : Fr)).length := by rw [List.length_set]; exact ht
  have hk := okF_set ht (⟨B, c⟩ : Fr) hc
  refine ⟨hk, ?_⟩
  rw [shareF_at hl hk, List.getElem_set_self, List.set_set]
theorem drop_set {fs : List Fr} {t : Nat} (ht : t < fs.length) (B : List Int) (c : Int) (hc : c ≠ 0) : okF (fs.set t ⟨B, c⟩) t = true ∧ (frAt (fs.set t ⟨B, c⟩) t).n = c ∧ dropF (fs.set t ⟨B, c⟩) t = fs.set t (if c = 1 then ⟨zeros, 0⟩ else ⟨B, c - 1⟩) := by
  have hl : t < (fs.set t (⟨B, c⟩ : Fr)).length := by rw [List.length_set]; exact ht
  have hk := okF_set ht (⟨B, c⟩ : Fr) hc
  have hf : frAt (fs.set t (⟨B, c⟩ : Fr)) t = ⟨B, c⟩ := by rw [frAt_at hl, List.getElem_set_self]
  refine ⟨hk, by rw [hf], ?_⟩
  unfold dropF
  rw [if_pos hk, hf, Int.toNat_natCast, List.set_set]
theorem FrAt.other {W W' : World} {p g cap q g' c' : Nat} {fs gs : List Fr} (h : FrAt W q g' c' gs) (h1 : q ≠ g) (h2 : g' ≠ g) (hw : Wr (· = g) (· = g) W W') : FrAt W' q g' c' gs :=
  h.same (hw.block q h.ltp h1) (hw.block g' h.ltg h2)
/-- the count behind many drops -/
def cntF (B : List Int) (c : Nat) : Fr := if c = 0 then ⟨zeros, 0⟩ else ⟨B, c⟩
set_option maxRecDepth 100000 in
set_option maxHeartbeats 8000000 in
theorem framesTraces_any (W : World) (a : Option Addr) (len cap : Nat) (os : List OpM) (h : IsOps W.heap.size W a len cap os) (k : Int) (hk1 : 0 ≤ k) (hk2 : k ≤ 255) (ba : Option Addr) (bl bc : Nat) (bs : List Int) (hbs : Row8 W.heap.size W (.slice ba bl bc) bs) :
    Calls Try.prog 9 #[.slice a len cap, .int .u8 k, .slice ba bl bc] W fun e W' => e = .returned (.bool true) ∧ Below W.heap.size W W' := by
  obtain ⟨i0, hi0, hz0, hz1, hz2⟩ := info_parts info_u8
  go_enter Try.func9, Try.ntmps9
  go_wp2_with (go_at_call 10; refine held ?_)
  unfold Held
  refine (alive_any W).mono ?_
  rintro e w2 ⟨rfl, bW2⟩
  have h2 := (h.below bW2).mono bW2.size
  go_wp2_with (go_at_call 11; refine held ?_)
  unfold Held
  refine (great_any _ w2 a len cap os h2).mono ?_
  rintro e w3 ⟨rfl, ⟨rfl, hl1, hl2⟩ | rfl⟩
  rotate_left
  · go_wp2
    go_ret
    exact ⟨rfl, bW2⟩
  by_cases hb64 : (bl : Int) > 64
  · have t1 : decide ((bl : Int) > 64) = true := decide_eq_true hb64
    go_wp2
    go_ret
    exact ⟨rfl, bW2⟩
  have t1 : decide ((bl : Int) > 64) = false := decide_eq_false hb64
  have hbl : bs.length = bl := hbs.1.open.1
  have hol := h.1
  go_wp2_with (go_at_call 14; refine held ?_)
  unfold Held
  refine (new_any 12 w2 (by decide) (by decide)).mono ?_
  rintro e w3 ⟨p, g, rfl, h1, hp, hg, b1⟩
  go_wp2_with (go_at_call 15; refine held ?_)
  unfold Held
  refine (dnew_any 12 w3 (by decide) (by decide)).mono ?_
  rintro e w4 ⟨d, gr, cr, gb, cb, rfl, h3, hd, hgr, hgb, b2⟩
  have hs1 := b1.size
  have S2 : Sd w2.heap.size w4 p g 12 d gr cr gb cb (growF 12 (os.take 0)) (growF 12 (os.take 0)) := ⟨h1.below b2, h3, hg, by omega, by omega, Nat.le_trans hs1 b2.size⟩
  have b2' := b1.trans (b2.mono hs1)
  clear h1 h3 b1 b2
  go_wp2
  go_loopw [12, 46] (fun _ x wr => ∃ (j : Nat), x = .int .i64 (j : Int) ∧ j ≤ len ∧ Sd w2.heap.size wr p g 12 d gr cr gb cb (growF 12 (os.take j)) (growF 12 (os.take j)) ∧ Below w2.heap.size w2 wr) (fun _ x _ => len - (intOf x).toNat)
  case atStart => exact ⟨0, rfl, Nat.zero_le _, S2, b2'⟩
  case round =>
    clear S2 b2'
    obtain ⟨j, rfl, hj, hS, hb⟩ := hrel
    by_cases hlt : j < len
    · have t1 : decide ((j : Int) < (len : Int)) = true := by simp; omega
      obtain ⟨b, off, rfl, hlc, hcm, hj', c0, c1, c2, c3, c4, ho⟩ := h2.at hb j hlt
      simp only [maxLen] at hcm
      have hT := growF_take 12 os j hj'
      have hM := growF_mem 12 (os.take j)
      rw [List.length_take] at hM
      have hol' := hl2 _ (List.getElem_mem hj')
      obtain ⟨o, ho'⟩ : ∃ o, o = os[j] := ⟨_, rfl⟩
      rw [← ho'] at hT c0 c1 c2 c3 c4 ho hol'
      obtain ⟨fs, hfs⟩ : ∃ fs, fs = growF 12 (os.take j) := ⟨_, rfl⟩
      rw [← hfs] at hS hT hM
      have K := Lib.hid (do_any w2.heap.size wr p g 12 d gr cr gb cb fs o hS _ hM (by omega) ho hol')
      have HT := Lib.hid hT
      clear hT hM hfs ho' ho hS hl2 h h2 hbs
      go_wp2_with (go_at_call 16; refine held ?_)
      unfold Held
      refine Calls.mono K ?_
      rintro e w5 ⟨rfl, s3, b3⟩
      have b3' := hb.trans b3
      clear K b3 hb c0 c1 c2 c3 c4
      go_wp2_with fail
      go_roundw
      case rel => exact ⟨j + 1, by go_num, by omega, by rw [show growF 12 (os.take (j + 1)) = stepF fs o from HT]; exact s3, b3'⟩
      case measure => simp [intOf]; omega
    · have t1 : decide ((j : Int) < (len : Int)) = false := by simp; omega
      obtain rfl : j = len := by omega
      rw [← hol, List.take_length] at hS
      have hGl := growF_len 12 os
      have hGm := growF_mem 12 os
      obtain ⟨fs, hfs⟩ : ∃ fs, fs = growF 12 os := ⟨_, rfl⟩
      rw [← hfs] at hS hGl hGm
      have hF := hS.fr
      have hSm := hGm.small (by omega)
      have hzf := hGm.zf
      have bW := bW2.trans (hb.mono bW2.size)
      have h64 := hF.len
      have hgw : W.heap.size ≤ g := Nat.le_trans bW2.size hg
      obtain ⟨ct, rfl⟩ : ∃ ct : Nat, k = ct := ⟨k.toNat, by omega⟩
      have HBS := Lib.hid hbs
      have HSm := Lib.hid hSm
      have HG := Lib.hid hGm
      clear hS hfs h h2 hl2 hb hbs bW2 hGm hSm
      have K1 := Lib.hid (copy_any p g 12 fs wr hF)
      go_wp2_with (go_at_call 20; refine held ?_)
      unfold Held
      refine Calls.mono K1 ?_
      rintro e w5 ⟨q, g', c', rfl, hq, hg', C5, b5⟩
      have F5 := hF.below b5
      have B5 := bW.trans (b5.mono bW.size)
      have hqg : q ≠ g := by have := hF.ltg; omega
      have hgg : g' ≠ g := by have := hF.ltg; omega
      clear K1 b5 bW hq hg' hF
      have k2 := take_any p g 12 fs w5 F5
      cases ht : takeF fs with
      | none =>
        have hall : ∀ i (hi : i < fs.length), fs[i].n ≠ 0 := fun i hi h0 => by
          unfold takeF at ht
          rw [List.findIdx?_eq_none_iff] at ht
          simpa [h0] using ht _ (List.getElem_mem hi)
        have hul := usedF_full fs hall
        rw [show takeV fs = 0 by unfold takeV; rw [ht], show takeE fs = 40 by unfold takeE; rw [ht], show takeL fs = fs by unfold takeL; rw [ht]] at k2
        have K2 := Lib.hid k2
        have K3 := Lib.hid (fun (W' : World) (hf' : FrAt W' p g 12 fs) => by
          have := free_any p g 12 fs W' hf'
          rw [hul, hGl] at this
          exact this)
        clear k2 ht hall hul hzf
        go_wp2_with (go_at_call 23; refine held ?_)
        unfold Held
        refine Calls.mono K2 ?_
        rintro e w6 ⟨rfl, F6, hw6⟩
        have B6 := B5.trans (below_of_wr hw6 hgw B5.size)
        clear K2 hw6 B5 C5 F5
        go_wp2_with (go_at_call 22; refine held ?_)
        unfold Held
        refine Calls.mono ((show ∀ W' (hf : FrAt W' p g 12 fs), _ from K3) w6 F6) ?_
        rintro e w7 ⟨rfl, b7⟩
        have B7 := B6.trans (b7.mono B6.size)
        clear K3 F6 B6 b7
        go_wp2
        go_ret
        exact ⟨rfl, B7⟩
      | some t =>
        obtain ⟨htl, ht0, _⟩ := takeF_some ht
        have htz : fs[t] = ⟨zeros, 0⟩ := by
          have h1 := hzf _ (List.getElem_mem htl) ht0
          generalize fs[t] = X at h1 ht0 ⊢
          cases X
          simp only at h1 ht0
          rw [h1, ht0]
        have hback : fs.set t ⟨zeros, 0⟩ = fs := by rw [← htz]; exact List.set_getElem_self htl
        rw [show takeV fs = t by unfold takeV; rw [ht], show takeE fs = 0 by unfold takeE; rw [ht], show takeL fs = fs.set t ⟨zeros, 1⟩ by unfold takeL; rw [ht]; simp only; rw [frAt_at htl, htz]] at k2
        have hl1 : t < (fs.set t (⟨zeros, 1⟩ : Fr)).length := by rw [List.length_set]; exact htl
        have hn1 : (fs.set t (⟨zeros, 1⟩ : Fr))[t].n ≠ 0 := by rw [List.getElem_set_self]; simp
        have h641 : Len64 (fs.set t (⟨zeros, 1⟩ : Fr)) := h64.set t zeros_len
        have r1 := readE_of hl1 hn1 (show 0 + 64 ≤ 64 by omega)
        have r2 := readL_all h641 hl1 hn1
        rw [List.getElem_set_self] at r2
        have hum := usedF_more htl ht0 (⟨zeros, 1⟩ : Fr) (by simp)
        have hul := usedF_len fs
        have tU : (12 - (((usedF fs).length : Int) + 1) != IntKind.i64.wrap (12 - ((usedF fs).length : Int) - 1)) = false := by simp [IntKind.wrap_i64]; omega
        have w1' := writeF_of hl1 hn1 0 bs (by omega)
        rw [List.getElem_set_self, List.set_set] at w1'
        obtain ⟨B, hB⟩ : ∃ B, B = putB zeros 0 bs := ⟨_, rfl⟩
        have hB64 : B.length = 64 := by rw [hB]; exact putB_len zeros_len 0 bs (by omega)
        simp only [← hB] at w1'
        obtain ⟨f1, hf1⟩ : ∃ f1, f1 = fs.set t (⟨zeros, 1⟩ : Fr) := ⟨_, rfl⟩
        have hf1l : f1.length = 12 := by rw [hf1, List.length_set]; exact hGl
        have hwe : readE f1 t 0 bs.length = 0 := by rw [hf1]; exact readE_of hl1 hn1 (o := 0) (show 0 + bs.length ≤ 64 by omega)
        rw [← hf1] at k2 r1 r2 hum w1'
        have K2 := Lib.hid k2
        have K3 := Lib.hid (fun (W' : World) (hf' : FrAt W' p g 12 f1) => by
          have := read_any p g 12 f1 t 0 64 W' hf'
          rw [show readE f1 t 0 64 = 0 from r1, show readL f1 t 0 64 = zeros from r2] at this
          exact this)
        have K4 := Lib.hid (fun (W' : World) (hf' : FrAt W' p g 12 f1) => by
          have := free_any p g 12 f1 W' hf'
          rw [hum, hf1l] at this
          exact this)
        have K5 := Lib.hid (fun (W' : World) (hf' : FrAt W' q g' c' fs) => by
          have := free_any q g' c' fs W' hf'
          rw [hGl] at this
          exact this)
        have K6 := Lib.hid (fun (W' : World) (hf' : FrAt W' p g 12 f1) (hr : Row8 W'.heap.size W' (.slice ba bl bc) bs) => by
          have := write_any p g 12 f1 t 0 ba bl bc bs W'.heap.size W' hf' hr (by omega)
          rw [hwe, show writeF f1 t 0 bs = _ from w1'] at this
          exact this)
        have HK := Lib.hid hback
        have HHT := Lib.hid (And.intro htl htz)
        clear k2 ht ht0 hzf htz hback hl1 hn1 h641 r1 r2 hum w1' hB hf1 hf1l hwe hGl
        go_wp2_with (go_at_call 23; refine held ?_)
        unfold Held
        refine Calls.mono K2 ?_
        rintro e w6 ⟨rfl, F6, hw6⟩
        have B6 := B5.trans (below_of_wr hw6 hgw B5.size)
        have C6 := C5.other (p := p) (cap := 12) (fs := fs) hqg hgg hw6
        clear K2 hw6 B5 C5 F5
        go_wp2_with (go_at_call 13; refine held ?_)
        unfold Held
        refine Calls.mono ((show ∀ W' (hf : FrAt W' p g 12 f1), _ from K3) w6 F6) ?_
        rintro e w7 ⟨v7, rfl, o7, b7⟩
        have B7 := B6.trans (b7.mono B6.size)
        have C7 := C6.below b7
        have F7 := F6.below b7
        have ez : zeros.length = 64 := zeros_len
        rw [ez] at o7
        obtain ⟨a7, c7, rfl, _⟩ := own_open o7
        clear K3 B6 C6 F6 b7
        have cA := fun W' (hW : Grows w7 W') => OwnBytes.conv (zs := zeros) (row_below o7 hW)
        have HA := Lib.hid cA
        have HF7 := Lib.hid F7
        have HC7 := Lib.hid C7
        clear cA o7 F7 C7
        go_wp2_with fail
        refine wp_region_anyV Grows (by kernel_rfl) 17 rfl ?_
        first
          | (refine anyV_val 0 (Grows.pre) rfl (by kernel_rfl) (by kernel_rfl) (by kernel_rfl) (by rfl) (v := ?av1) (fun W hW => ?ay1) (fun K hK => ?ar1); case ay1 => (have q1 := (show ∀ W', Grows w7 W' → _ from HA) W (below_undrew hW); go_simp; first | done | rfl))
          | refine anyV_skip 0 (Grows.pre) rfl (by kernel_rfl) (by kernel_rfl) (by kernel_rfl) (by rfl) (fun K hK => ?_)
        go_simp
        refine hK _ ?_
        clear hK K
        first
          | (refine anyV_val 1 (Grows.pre) rfl (by kernel_rfl) (by kernel_rfl) (by kernel_rfl) (by rfl) (v := ?av2) (fun W hW => ?ay2) (fun K hK => ?ar2); case ay2 => (have q1 := (show ∀ W', Grows w7 W' → _ from HA) W (below_undrew hW); go_simp; first | done | rfl))
          | refine anyV_skip 1 (Grows.pre) rfl (by kernel_rfl) (by kernel_rfl) (by kernel_rfl) (by rfl) (fun K hK => ?_)
        go_simp
        refine hK _ ?_
        clear hK K
        first
          | (refine anyV_val 2 (Grows.pre) rfl (by kernel_rfl) (by kernel_rfl) (by kernel_rfl) (by rfl) (v := ?av3) (fun W hW => ?ay3) (fun K hK => ?ar3); case ay3 => (have q1 := (show ∀ W', Grows w7 W' → _ from HA) W (below_undrew hW); go_simp; first | done | rfl))
          | refine anyV_skip 2 (Grows.pre) rfl (by kernel_rfl) (by kernel_rfl) (by kernel_rfl) (by rfl) (fun K hK => ?_)
        go_simp
        refine hK _ ?_
        clear hK K
        first
          | (refine anyV_val 3 (Grows.pre) rfl (by kernel_rfl) (by kernel_rfl) (by kernel_rfl) (by rfl) (v := ?av4) (fun W hW => ?ay4) (fun K hK => ?ar4); case ay4 => (have q1 := (show ∀ W', Grows w7 W' → _ from HA) W (below_undrew hW); go_simp; first | done | rfl))
          | refine anyV_skip 3 (Grows.pre) rfl (by kernel_rfl) (by kernel_rfl) (by kernel_rfl) (by rfl) (fun K hK => ?_)
        go_simp
        refine hK _ ?_
        clear hK K
        first
          | (refine anyV_val 4 (Grows.pre) rfl (by kernel_rfl) (by kernel_rfl) (by kernel_rfl) (by rfl) (v := ?av5) (fun W hW => ?ay5) (fun K hK => ?ar5); case ay5 => (have q1 := (show ∀ W', Grows w7 W' → _ from HA) W (below_undrew hW); go_simp; first | done | rfl))
          | refine anyV_skip 4 (Grows.pre) rfl (by kernel_rfl) (by kernel_rfl) (by kernel_rfl) (by rfl) (fun K hK => ?_)
        go_simp
        refine hK _ ?_
        clear hK K
        refine anyV_only 5 rfl (by kernel_rfl) (by rfl) (fun K hK => ?_)
        refine upV_make64 23 5 (.const (.int .i64 64)) (.const (.int .i64 64)) rfl rfl rfl i0 Try.underlying23 hi0 hz0 hz1 hz2 ?_
        intro w8 o8 g8
        have b8 : Grows w7.drew w8 := (Below.refl _ w7.drew).grown g8 (Nat.le_refl _) (fun b h => by cases h)
        have o8' : w8.ownsRow w7.heap.size 5 1 (.slice (some ⟨w7.heap.size, 0, none⟩) 64 64) 64 (zeros.map (Value.int .u8)) := o8
        have cB := Lib.hid (fun W' (hW : Grows w8 W') => OwnBytes.conv (zs := zeros) (row_below o8' hW))
        have F8 := FrAt.below HF7 (below_undrew b8)
        have C8 := FrAt.below HC7 (below_undrew b8)
        have B8 := B7.trans ((below_undrew b8).mono B7.size)
        refine hK _ _ b8 ?_
        clear o8 o8' g8
        clear hK K
        refine anyV_frame (fun K hK => ?_)
        go_simp
        refine hK _ ?_
        clear hK K
        first
          | (refine anyV_val 6 (Grows.pre) rfl (by kernel_rfl) (by kernel_rfl) (by kernel_rfl) (by rfl) (v := ?av6) (fun W hW => ?ay6) (fun K hK => ?ar6); case ay6 => (have q2 := (show ∀ W', Grows w8 W' → _ from cB) W hW; go_simp; first | done | rfl))
          | refine anyV_skip 6 (Grows.pre) rfl (by kernel_rfl) (by kernel_rfl) (by kernel_rfl) (by rfl) (fun K hK => ?_)
        go_simp
        refine hK _ ?_
        clear hK K
        first
          | (refine anyV_val 7 (Grows.pre) rfl (by kernel_rfl) (by kernel_rfl) (by kernel_rfl) (by rfl) (v := ?av7) (fun W hW => ?ay7) (fun K hK => ?ar7); case ay7 => (have q2 := (show ∀ W', Grows w8 W' → _ from cB) W hW; go_simp; first | done | rfl))
          | refine anyV_skip 7 (Grows.pre) rfl (by kernel_rfl) (by kernel_rfl) (by kernel_rfl) (by rfl) (fun K hK => ?_)
        go_simp
        refine hK _ ?_
        clear hK K
        first
          | (refine anyV_val 8 (Grows.pre) rfl (by kernel_rfl) (by kernel_rfl) (by kernel_rfl) (by rfl) (v := ?av8) (fun W hW => ?ay8) (fun K hK => ?ar8); case ay8 => (have q2 := (show ∀ W', Grows w8 W' → _ from cB) W hW; go_simp; first | done | rfl))
          | refine anyV_skip 8 (Grows.pre) rfl (by kernel_rfl) (by kernel_rfl) (by kernel_rfl) (by rfl) (fun K hK => ?_)
        go_simp
        refine hK _ ?_
        clear hK K
        first
          | (refine anyV_val 9 (Grows.pre) rfl (by kernel_rfl) (by kernel_rfl) (by kernel_rfl) (by rfl) (v := ?av9) (fun W hW => ?ay9) (fun K hK => ?ar9); case ay9 => (have q2 := (show ∀ W', Grows w8 W' → _ from cB) W hW; go_simp; first | done | rfl))
          | refine anyV_skip 9 (Grows.pre) rfl (by kernel_rfl) (by kernel_rfl) (by kernel_rfl) (by rfl) (fun K hK => ?_)
        go_simp
        refine hK _ ?_
        clear hK K
        first
          | (refine anyV_val 10 (Grows.pre) rfl (by kernel_rfl) (by kernel_rfl) (by kernel_rfl) (by rfl) (v := ?av10) (fun W hW => ?ay10) (fun K hK => ?ar10); case ay10 => (have q2 := (show ∀ W', Grows w8 W' → _ from cB) W hW; go_simp; first | done | rfl))
          | refine anyV_skip 10 (Grows.pre) rfl (by kernel_rfl) (by kernel_rfl) (by kernel_rfl) (by rfl) (fun K hK => ?_)
        go_simp
        refine hK _ ?_
        clear hK K
        first
          | (refine anyV_val 12 (Grows.pre) rfl (by kernel_rfl) (by kernel_rfl) (by kernel_rfl) (by rfl) (v := ?av11) (fun W hW => ?ay11) (fun K hK => ?ar11); case ay11 => (have q2 := (show ∀ W', Grows w8 W' → _ from cB) W hW; go_simp; first | done | rfl))
          | refine anyV_skip 12 (Grows.pre) rfl (by kernel_rfl) (by kernel_rfl) (by kernel_rfl) (by rfl) (fun K hK => ?_)
        go_simp
        refine hK _ ?_
        clear hK K
        refine anyV_only 11 rfl (by kernel_rfl) (by rfl) (fun K hK => ?_)
        go_simp
        refine ((show ∀ W' (hf : FrAt W' p g 12 f1), _ from K4) w8 F8).mono ?_
        rintro e w9 ⟨rfl, b9⟩
        have F9 := F8.below b9
        have C9 := C8.below b9
        have B9 := B8.trans (b9.mono B8.size)
        refine ⟨_, rfl, hK _ _ b9 ?_⟩
        clear hK K
        refine anyV_frame (fun K hK => ?_)
        go_simp
        refine hK _ ?_
        clear hK K
        refine anyV_only 13 rfl (by kernel_rfl) (by rfl) (fun K hK => ?_)
        go_simp
        refine ((show ∀ W' (hf : FrAt W' q g' c' fs), _ from K5) w9 C9).mono ?_
        rintro e w10 ⟨rfl, b10⟩
        have F10 := F9.below b10
        have C10 := C9.below b10
        have B10 := B9.trans (b10.mono B9.size)
        refine ⟨_, rfl, hK _ _ b10 ?_⟩
        clear hK K
        refine anyV_frame (fun K hK => ?_)
        go_simp
        refine hK _ ?_
        clear hK K
        first
          | (refine anyV_val 14 (Grows.pre) rfl (by kernel_rfl) (by kernel_rfl) (by kernel_rfl) (by rfl) (v := ?av12) (fun W hW => ?ay12) (fun K hK => ?ar12); case ay12 => (go_simp; first | done | rfl))
          | refine anyV_skip 14 (Grows.pre) rfl (by kernel_rfl) (by kernel_rfl) (by kernel_rfl) (by rfl) (fun K hK => ?_)
        go_simp
        refine hK _ ?_
        clear hK K
        first
          | (refine anyV_val 15 (Grows.pre) rfl (by kernel_rfl) (by kernel_rfl) (by kernel_rfl) (by rfl) (v := ?av13) (fun W hW => ?ay13) (fun K hK => ?ar13); case ay13 => (go_simp; first | done | rfl))
          | refine anyV_skip 15 (Grows.pre) rfl (by kernel_rfl) (by kernel_rfl) (by kernel_rfl) (by rfl) (fun K hK => ?_)
        go_simp
        refine hK _ ?_
        clear hK K
        first
          | (refine anyV_val 16 (Grows.pre) rfl (by kernel_rfl) (by kernel_rfl) (by kernel_rfl) (by rfl) (v := ?av14) (fun W hW => ?ay14) (fun K hK => ?ar14); case ay14 => (go_simp; first | done | rfl))
          | refine anyV_skip 16 (Grows.pre) rfl (by kernel_rfl) (by kernel_rfl) (by kernel_rfl) (by rfl) (fun K hK => ?_)
        go_simp
        refine hK _ ?_
        clear hK K
        refine anyV_done (by kernel_rfl) ?_
        clear HA HF7 HC7 B7 B8 B9 F8 F9 C8 C9 b8 b9 b10 K4 K5 cB
        have K7 := Lib.hid ((show ∀ W' (hf : FrAt W' p g 12 f1), _ → _ from K6) w10 F10 ((Row8.below HBS B10).mono B10.size))
        clear K6 tU
        go_wp2_with (go_at_call 18; refine held ?_)
        unfold Held
        refine Calls.mono K7 ?_
        rintro e w11 ⟨rfl, F11, hw11⟩
        have B11 := B10.trans (below_of_wr hw11 hgw B10.size)
        have C11 := C10.other (p := p) (cap := 12) (fs := fs) hqg hgg hw11
        clear K7 hw11 B10 C10 F10 HBS
        obtain ⟨htl, htz⟩ := (show _ ∧ _ from HHT)
        have hct : ct ≤ 255 := by omega
        have HTZ := Lib.hid htz
        clear htz HHT
        go_wp2_with fail
        go_loopw [100] (fun x wr => ∃ (c : Nat), x = .int .u8 (c : Int) ∧ c ≤ ct ∧ FrAt wr p g 12 (fs.set t ⟨B, (c : Int) + 1⟩) ∧ FrAt wr q g' c' fs ∧ Below W.heap.size W wr) (fun x _ => ct - (intOf x).toNat)
        case atStart => exact ⟨0, rfl, Nat.zero_le _, F11, C11, B11⟩
        case round =>
          clear F11 C11 B11
          obtain ⟨c, rfl, hc, hF, hC, hb⟩ := hrel
          by_cases hlt : c < ct
          · have t6 : decide ((c : Int) < (ct : Int)) = true := by simp; omega
            obtain ⟨e1, e2⟩ := share_set htl B ((c : Int) + 1) (by omega)
            have k1 := share_any p g 12 _ t wr hF (Small.set HSm t ⟨B, (c : Int) + 1⟩ (by simp only; omega) (by simp only; omega))
            rw [e1, e2, if_pos rfl] at k1
            have hwc : IntKind.u8.wrap ((c : Int) + 1) = ((c + 1 : Nat) : Int) := by rw [IntKind.wrap_u8]; omega
            have K1 := Lib.hid k1
            have HC := Lib.hid hC
            have HW := Lib.hid hwc
            clear k1 e1 e2 hF hC hwc
            go_wp2_with (go_at_call 29; refine held ?_)
            unfold Held
            refine Calls.mono K1 ?_
            rintro e w12 ⟨rfl, F12, hw12⟩
            have C12 := FrAt.other (p := p) (cap := 12) (fs := fs) HC hqg hgg hw12
            have B12 := hb.trans (below_of_wr hw12 hgw hb.size)
            clear K1 hw12 hb HC
            go_wp2_with fail
            go_roundw
            case rel => exact ⟨c + 1, by go_num, by omega, by rw [show (((c + 1 : Nat) : Int) + 1) = (c : Int) + 1 + 1 by omega]; exact F12, C12, B12⟩
            case measure => simp [intOf]; omega
          · have t6 : decide ((c : Int) < (ct : Int)) = false := by simp; omega
            obtain rfl : c = ct := by omega
            have c0 : cntF B (c + 1) = ⟨B, (c : Int) + 1⟩ := by unfold cntF; rw [if_neg (by omega)]; simp
            rw [← c0] at hF
            clear c0
            go_wp2_with fail
            go_loopw [18, 19, 20] (fun x _ _ wr => ∃ (m : Nat), x = .int .i64 ((m : Int) - 1) ∧ m ≤ c + 1 ∧ FrAt wr p g 12 (fs.set t (cntF B m)) ∧ FrAt wr q g' c' fs ∧ Below W.heap.size W wr) (fun x _ _ _ => (intOf x + 1).toNat)
            case atStart => exact ⟨c + 1, by simp, Nat.le_refl _, hF, hC, hb⟩
            case round =>
              clear hF hC hb
              obtain ⟨m, rfl, hm, hF, hC, hb⟩ := hrel
              by_cases h0 : m = 0
              · subst h0
                have t7 : decide ((((0 : Nat) : Int) - 1) ≥ 0) = false := by decide
                have e0 : fs.set t (cntF B 0) = fs := HK
                rw [e0] at hF
                have K1 := Lib.hid (used_any p g 12 fs wr hF)
                have hul := usedF_len fs
                have hok : okF fs t = false := by rw [okF_at htl, show fs[t] = ⟨zeros, 0⟩ from HTZ]; rfl
                have K3 := Lib.hid (fun (W' : World) (hf' : FrAt W' p g 12 fs) => by
                  have := refs_any p g 12 fs t W' hf'
                  rw [hok, if_neg (by decide)] at this
                  exact this)
                have h64' := hF.sm
                clear e0 hok
                go_wp2_with (go_at_call 21; refine held ?_)
                unfold Held
                refine Calls.mono K1 ?_
                rintro e w12 ⟨v12, rfl, o12, b12⟩
                have F12 := hF.below b12
                have C12 := hC.below b12
                have B12 := hb.trans (b12.mono hb.size)
                obtain ⟨a12, c12, rfl⟩ := sl_own o12
                clear K1 hF hC hb b12
                have K2 := Lib.hid (used_any q g' c' fs w12 C12)
                go_wp2_with (go_at_call 21; refine held ?_)
                unfold Held
                refine Calls.mono K2 ?_
                rintro e w13 ⟨v13, rfl, o13, b13⟩
                have F13 := F12.below b13
                have B13 := B12.trans (b13.mono B12.size)
                have o12' := row_below o12 b13
                obtain ⟨a13, c13, rfl⟩ := sl_own o13
                have ra := (RowI.of_own o12').2
                have rb := (RowI.of_own o13).2
                have K4 := Lib.hid (same04_any a12 _ c12 (usedF fs) a13 _ c13 (usedF fs) w13.heap.size w13 (Nat.le_refl _) ra rb (by omega))
                clear K2 F12 C12 B12 b13 o12 o12' o13 ra rb
                go_wp2_with (go_at_call 25; refine held ?_)
                unfold Held
                refine Calls.mono K4 ?_
                rintro e w14 ⟨rfl, b14⟩
                simp only [decide_true]
                have F14 := F13.below b14
                have B14 := B13.trans (b14.mono B13.size)
                clear K4 F13 B13 b14
                go_wp2_with (go_at_call 19; refine held ?_)
                unfold Held
                refine Calls.mono ((show ∀ W' (hf : FrAt W' p g 12 fs), _ from K3) w14 F14) ?_
                rintro e w15 ⟨rfl, rfl⟩
                clear K3 F14
                go_wp2
                go_ret
                exact ⟨rfl, B14⟩
              · obtain ⟨y, rfl⟩ : ∃ y, m = y + 1 := ⟨m - 1, by omega⟩
                have t7 : decide ((y : Int) ≥ 0) = true := by simp
                have t8 : ((y : Int) != (y : Int)) = false := by simp
                have ec : cntF B (y + 1) = ⟨B, ((y + 1 : Nat) : Int)⟩ := by unfold cntF; rw [if_neg (by omega)]
                rw [ec] at hF
                obtain ⟨e1, e2, e3⟩ := drop_set htl B ((y + 1 : Nat) : Int) (by omega)
                have k1 := drop_any p g 12 _ t wr hF (Small.set HSm t ⟨B, ((y + 1 : Nat) : Int)⟩ (by simp only; omega) (by simp only; omega))
                have e4 : (if ((y + 1 : Nat) : Int) = 1 then (⟨zeros, 0⟩ : Fr) else ⟨B, ((y + 1 : Nat) : Int) - 1⟩) = cntF B y := by
                  unfold cntF
                  by_cases hy : y = 0
                  · rw [if_pos hy, if_pos (by omega)]
                  · rw [if_neg hy, if_neg (by omega), show ((y + 1 : Nat) : Int) - 1 = (y : Int) by omega]
                rw [e1, e2, e3, e4, if_pos rfl, if_pos rfl, show ((y + 1 : Nat) : Int) - 1 = (y : Int) by omega] at k1
                rw [show ((y + 1 : Nat) : Int) - 1 = (y : Int) by omega]
                have K1 := Lib.hid k1
                have HC := Lib.hid hC
                clear k1 e1 e2 e3 e4 ec hF hC h0
                go_wp2_with (go_at_call 24; refine held ?_)
                unfold Held
                refine Calls.mono K1 ?_
                rintro e w12 ⟨rfl, F12, hw12⟩
                have C12 := FrAt.other (p := p) (cap := 12) (fs := fs) HC hqg hgg hw12
                have B12 := hb.trans (below_of_wr hw12 hgw hb.size)
                clear K1 hw12 hb HC
                go_wp2_with fail
                go_roundw
                case rel => exact ⟨y, by go_num, by omega, F12, C12, B12⟩
                case measure => simp [intOf]
end Go.Proofs.Ytdacdfnfbknndaa
