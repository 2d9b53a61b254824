/- The document's memory: New. -/
import Derived.Test.YtdacdfnfbknndaaFrmDocC
namespace Go.Proofs.Ytdacdfnfbknndaa
open Go Go.RowKit
attribute [local go_sem] upV_value upV_skip upV_enter
set_option linter.unusedVariables false
set_option linter.unnecessarySimpa false
set_option linter.unusedSimpArgs false
theorem info_sl : (Try.prog.info? 23).map (fun i => (i.zero, i.size, i.bytes)) = some (some (.slice none 0 0), 1, 24) := by kernel_rfl
/-- the document's memory while it is made -/
structure Growing (W : World) (n d j : Nat) (vr vb : Value) : Prop where
  at_ : W.heap[d]? = some (.cells #[vr, vb] 56)
  refs : W.ownsRow n 3 1 vr j ((List.replicate j (0 : Int)).map (Value.int .i64))
  byts : ∃ bv : List Value, W.ownsRow n 23 1 vb j bv ∧ ∀ x ∈ bv, W.ownsRow 0 5 1 x 64 (zeros.map (Value.int .u8))
theorem Growing.done {W : World} {n d j : Nat} {vr vb : Value} (h : Growing W n d j vr vb) (h1 : 1 ≤ j) (h2 : j ≤ 256) : ∃ gr cr gb cb, DcAt W d gr cr gb cb (newL j) ∧ n ≤ gr ∧ n ≤ gb := by
  obtain ⟨h3, h4, bv, h5, h6⟩ := h
  have hl := newL_len j
  rcases h4.2 with ⟨_, h0⟩ | ⟨gr, cr, cur, rfl, hgr, _⟩
  · omega
  rcases h5.2 with ⟨_, h0⟩ | ⟨gb, cb, cur', rfl, hgb, _⟩
  · omega
  have hbl : bv.length = j := by have := h5.1; omega
  refine ⟨gr, cr, gb, cb, ⟨by rw [hl]; exact h3, ?_, ⟨bv, by rw [hl]; exact own_mono h5 (Nat.zero_le _) fun _ _ => rfl, ?_⟩, newL_64 j, ?_, by omega⟩, hgr, hgb⟩
  · rw [hl]
    have : (newL j).map (fun x => Value.int .i64 x.n) = (List.replicate j (0 : Int)).map (Value.int .i64) := by unfold newL; simp
    rw [this]
    exact own_mono h4 (Nat.zero_le _) fun _ _ => rfl
  · intro i hi h2 _
    have : (newL j)[i].b = zeros := by simp [newL]
    rw [this]
    exact h6 _ (List.getElem_mem h2)
  · intro x hx
    rw [(List.mem_replicate.1 hx).2]
    exact Int.le_refl _
set_option maxRecDepth 100000 in
set_option maxHeartbeats 1000000 in
theorem dnew_bad (n : Int) (W : World) (h : n < 1 ∨ n > 256) :
    Calls Try.prog 15 #[.int .i64 n] W fun e W' => e = .returned (.tuple #[.pointer none, .int .i64 2]) ∧ W' = W := by
  rcases h with h | h
  · have t1 : decide (n < 1) = true := decide_eq_true h
    go_enter Try.func15, Try.ntmps15
    go_wp2
    go_ret2
    exact ⟨rfl, rfl⟩
  · have t1 : decide (n < 1) = false := decide_eq_false (by omega)
    have t2 : decide (n > 256) = true := decide_eq_true h
    go_enter Try.func15, Try.ntmps15
    go_wp2
    go_ret2
    exact ⟨rfl, rfl⟩
set_option maxRecDepth 100000 in
set_option maxHeartbeats 4000000 in
theorem dnew_any (n : Nat) (W : World) (h1 : 1 ≤ n) (h2 : n ≤ 256) :
    Calls Try.prog 15 #[.int .i64 (n : Int)] W fun e W' => ∃ d gr cr gb cb, e = .returned (.tuple #[.pointer (some ⟨d, 0, none⟩), .int .i64 0]) ∧ DcAt W' d gr cr gb cb (newL n) ∧ W.heap.size ≤ d ∧ W.heap.size ≤ gr ∧ W.heap.size ≤ gb ∧ Below W.heap.size W W' := by
  obtain ⟨i0, hi0, hz0, hz1, hz2⟩ := info_parts info_u8
  obtain ⟨i1, hi1, hz10, hz11, hz12⟩ := info_parts info_i64
  obtain ⟨i2, hi2, hz20, hz21, hz22⟩ := info_parts info_sl
  have t1 : decide ((n : Int) < 1) = false := decide_eq_false (by omega)
  have t2 : decide ((n : Int) > 256) = false := decide_eq_false (by omega)
  have hb0 : Below W.heap.size W (W.alloc (.cells #[.slice none 0 0, .slice none 0 0] 56)) := (Below.refl _ W).alloc (Nat.le_refl _) _
  have hG0 : Growing (W.alloc (.cells #[.slice none 0 0, .slice none 0 0] 56)) W.heap.size W.heap.size 0 (.slice none 0 0) (.slice none 0 0) :=
    ⟨World.alloc_heap_new _ _, World.ownsRow_nil _ _ _ _, [], World.ownsRow_nil _ _ _ _, fun x hx => by cases hx⟩
  go_enter Try.func15, Try.ntmps15
  go_wp2
  go_loopw [5] (fun x wr => ∃ (j : Nat) (vr vb : Value), x = .int .i64 (j : Int) ∧ j ≤ n ∧ Growing wr W.heap.size W.heap.size j vr vb ∧ Below W.heap.size W wr) (fun x _ => n - (intOf x).toNat)
  case atStart => exact ⟨0, _, _, rfl, Nat.zero_le _, hG0, hb0⟩
  case round =>
    clear hG0 hb0
    obtain ⟨j, vr, vb, rfl, hj, hG, hb⟩ := hrel
    by_cases hlt : j < n
    rotate_left
    · have t3 : decide ((j : Int) < (n : Int)) = false := by simp; omega
      obtain rfl : j = n := by omega
      obtain ⟨gr, cr, gb, cb, hD, hgr, hgb⟩ := hG.done h1 h2
      clear hG
      go_wp2
      go_ret2
      exact ⟨_, gr, cr, gb, cb, rfl, hD, Nat.le_refl _, hgr, hgb, hb⟩
    have t3 : decide ((j : Int) < (n : Int)) = true := by simp; omega
    obtain ⟨hat, hrefs, bv, hbyt, heach⟩ := hG
    obtain ⟨d, hd⟩ : ∃ d, d = W.heap.size := ⟨_, rfl⟩
    rw [← hd] at hat hrefs hbyt
    have hbl : bv.length = j := by have := hbyt.1; omega
    have td : Tag wr d 56 := ⟨_, _, hat⟩
    have c0 : wr.cell? ⟨d, 0, none⟩ = some vr := by rw [cell_of_row _ _ 0 _ _ _ hat]; rfl
    try rw [← hd]
    have HD := Lib.hid hd
    obtain ⟨ar, cr, rfl⟩ := sl_own hrefs
    obtain ⟨ab, cb, rfl⟩ := sl_own hbyt
    have hds0 : d ≤ wr.heap.size := by have := hb.size; omega
    have hnj : j ≤ 256 := by omega
    clear hd
    go_wp2_with (at_builtin; refine held ?_)
    unfold Held
    obtain ⟨W2, hW2⟩ : ∃ W2, W2 = wr.alloc (.cells #[.int .i64 0] 3) := ⟨_, rfl⟩
    have bb : Below wr.heap.size wr W2 := by rw [hW2]; exact (Below.refl _ _).alloc (Nat.le_refl _) _
    have rr : RowI .i64 (wr.heap.size + 1) W2 (.slice (some ⟨wr.heap.size, 0, none⟩) 1 1) [0] := by rw [hW2]; exact RowI.lit1 wr 0
    have ho2 := own_keep hrefs fun b hb => bb.block b hb.lt
    have bb2 := hb.trans (bb.mono hb.size)
    rw [← hW2]
    have hs2 : wr.heap.size ≤ W2.heap.size := bb.size
    have hds : d ≤ W2.heap.size := by omega
    have hle : ∀ b, (Value.slice ar j cr).ownBlock = some b → d ≤ b := fun b hb => (hrefs.lt b hb).1
    refine wpList_append_int rfl _ _ 46 rfl d 3 i1 Try.underlying46 hi1 hz10 hz11 hz12 (.slice ar j cr) j (List.replicate j 0) rfl ho2 (some ⟨wr.heap.size, 0, none⟩) 1 1 _ [0] rfl rr (by omega) hds ?_
    intro v9 w9 o9 g9 hv9
    have b9 : Below W.heap.size W w9 := bb2.grown g9 bb2.size (by rw [← show d = W.heap.size from HD]; exact hle)
    have keep9 : ∀ b t, t ≠ 3 → Tag wr b t → w9.heap[b]? = wr.heap[b]? := fun b t ht hb => by
      refine (g9.block b (by have := hb.lt; omega) (fun e => ?_)).trans (bb.block b hb.lt)
      have := own_tag hrefs e.symm
      exact Tag.ne hb this ht rfl
    have z9 := (keep9 d _ (by decide) td).trans hat
    have k9 := own_keep hbyt fun b hb => keep9 b _ (by decide) hb
    have e9 : ∀ x ∈ bv, w9.ownsRow 0 5 1 x 64 (zeros.map (Value.int .u8)) := fun x hx => own_keep (heach x hx) fun b hb => keep9 b _ (by decide) hb
    have o9' : w9.ownsRow d 3 1 v9 (j + 1) ((List.replicate (j + 1) (0 : Int)).map (Value.int .i64)) := by rw [List.replicate_succ']; exact o9
    obtain ⟨a9, c9, rfl⟩ := sl_own o9
    have cc9 : w9.cell? ⟨d, 0, none⟩ = some (.slice ar j cr) := by rw [cell_of_row _ _ 0 _ _ _ z9]; rfl
    have ff9 : w9.frozen? ⟨d, 0, none⟩ = false := by simp only [World.frozen?, z9]; simp
    obtain ⟨W3, hW3⟩ : ∃ W3, W3 = w9.setCell ⟨d, 0, none⟩ (.slice a9 (j + 1) c9) := ⟨_, rfl⟩
    have td9 : Tag w9 d 56 := ⟨_, _, z9⟩
    have keep3 : ∀ b t, t ≠ 56 → Tag w9 b t → W3.heap[b]? = w9.heap[b]? := fun b t ht hb => by
      rw [hW3]; exact Below.heap_setCell _ _ _ _ (Tag.ne hb td9 ht)
    have z3 : W3.heap[d]? = some (.cells #[.slice a9 (j + 1) c9, .slice ab j cb] 56) := by
      rw [hW3]; exact heap_setCell_same _ _ _ _ _ _ z9
    have o3 := own_keep o9' fun b hb => keep3 b _ (by decide) hb
    have k3 := own_keep k9 fun b hb => keep3 b _ (by decide) hb
    have e3 : ∀ x ∈ bv, W3.ownsRow 0 5 1 x 64 (zeros.map (Value.int .u8)) := fun x hx => own_keep (e9 x hx) fun b hb => keep3 b _ (by decide) hb
    have b3 : Below W.heap.size W W3 := by
      rw [hW3]
      exact b9.setCell (by show W.heap.size ≤ d; rw [show d = W.heap.size from HD]; exact Nat.le_refl _) _
    clear c0 hat hrefs hbyt heach td ho2 rr bb bb2 hW2 hle o9 g9 hv9 o9' k9 e9 z9 keep9 td9 keep3 b9 hb
    go_wp2_with fail
    rw [← hW3]
    clear hW3 cc9 ff9
    obtain ⟨S, hS⟩ : ∃ S : Nat → Prop, S = fun b => (Value.slice ab j cb).ownBlock = some b := ⟨_, rfl⟩
    have td3 : Tag W3 d 56 := ⟨_, _, z3⟩
    have hSt : ∀ b, S b → Tag W3 b 23 := fun b hb => by rw [hS] at hb; exact own_tag k3 hb
    have hSd : ¬ S d := fun h => Tag.ne td3 (hSt d h) (by decide) rfl
    have cv : ∀ W', Wr S S W3 W' → W'.cell? ⟨d, 1, none⟩ = some (.slice ab j cb) := fun W' hw => by
      have y1 := (hw.block d td3.lt hSd).trans z3
      rw [cell_of_row _ _ 1 _ _ _ y1]; rfl
    have HCV := Lib.hid cv
    clear cv
    refine wp_region_anyZ (GrowsBut S) 8 3 (by kernel_rfl) rfl ?_
    first
      | (refine anyZ_val 0 (GrowsBut.pre S) (by kernel_rfl) (by decide) rfl (by kernel_rfl) (by kernel_rfl) (by kernel_rfl) (by rfl) (v := ?av1) (fun W hW => ?ay1) (fun K hK => ?ar1); case ay1 => (have q1 := (show ∀ W', Wr S S W3 W' → _ from HCV) W (Wr.undrew hW); go_simp; first | done | rfl))
      | refine anyZ_skip 0 (GrowsBut.pre S) (by kernel_rfl) (by decide) rfl (by kernel_rfl) (by kernel_rfl) (by kernel_rfl) (by rfl) (fun K hK => ?_)
    go_simp
    refine hK _ ?_
    clear hK K
    first
      | (refine anyZ_val 1 (GrowsBut.pre S) (by kernel_rfl) (by decide) rfl (by kernel_rfl) (by kernel_rfl) (by kernel_rfl) (by rfl) (v := ?av2) (fun W hW => ?ay2) (fun K hK => ?ar2); case ay2 => (have q1 := (show ∀ W', Wr S S W3 W' → _ from HCV) W (Wr.undrew hW); go_simp; first | done | rfl))
      | refine anyZ_skip 1 (GrowsBut.pre S) (by kernel_rfl) (by decide) rfl (by kernel_rfl) (by kernel_rfl) (by kernel_rfl) (by rfl) (fun K hK => ?_)
    go_simp
    refine hK _ ?_
    clear hK K
    first
      | (refine anyZ_val 2 (GrowsBut.pre S) (by kernel_rfl) (by decide) rfl (by kernel_rfl) (by kernel_rfl) (by kernel_rfl) (by rfl) (v := ?av3) (fun W hW => ?ay3) (fun K hK => ?ar3); case ay3 => (have q1 := (show ∀ W', Wr S S W3 W' → _ from HCV) W (Wr.undrew hW); go_simp; first | done | rfl))
      | refine anyZ_skip 2 (GrowsBut.pre S) (by kernel_rfl) (by decide) rfl (by kernel_rfl) (by kernel_rfl) (by kernel_rfl) (by rfl) (fun K hK => ?_)
    go_simp
    refine hK _ ?_
    clear hK K
    first
      | (refine anyZ_val 3 (GrowsBut.pre S) (by kernel_rfl) (by decide) rfl (by kernel_rfl) (by kernel_rfl) (by kernel_rfl) (by rfl) (v := ?av4) (fun W hW => ?ay4) (fun K hK => ?ar4); case ay4 => (have q1 := (show ∀ W', Wr S S W3 W' → _ from HCV) W (Wr.undrew hW); go_simp; first | done | rfl))
      | refine anyZ_skip 3 (GrowsBut.pre S) (by kernel_rfl) (by decide) rfl (by kernel_rfl) (by kernel_rfl) (by kernel_rfl) (by rfl) (fun K hK => ?_)
    go_simp
    refine hK _ ?_
    clear hK K
    first
      | (refine anyZ_val 4 (GrowsBut.pre S) (by kernel_rfl) (by decide) rfl (by kernel_rfl) (by kernel_rfl) (by kernel_rfl) (by rfl) (v := ?av5) (fun W hW => ?ay5) (fun K hK => ?ar5); case ay5 => (have q1 := (show ∀ W', Wr S S W3 W' → _ from HCV) W (Wr.undrew hW); go_simp; first | done | rfl))
      | refine anyZ_skip 4 (GrowsBut.pre S) (by kernel_rfl) (by decide) rfl (by kernel_rfl) (by kernel_rfl) (by kernel_rfl) (by rfl) (fun K hK => ?_)
    go_simp
    refine hK _ ?_
    clear hK K
    refine anyZ_only 5 rfl (by kernel_rfl) (by rfl) (fun K hK => ?_)
    refine upV_make64 23 5 (.const (.int .i64 64)) (.const (.int .i64 64)) rfl rfl rfl i0 Try.underlying23 hi0 hz0 hz1 hz2 ?_
    intro w4 o4 g4
    have b4 : Below W3.drew.heap.size W3.drew w4 := (Below.refl _ W3.drew).grown g4 (Nat.le_refl _) (fun b h => by cases h)
    have b4' : Below W3.heap.size W3 w4 := below_undrew b4
    refine hK _ _ (Wr.of_below b4) ?_
    clear hK K
    refine anyZ_frame (fun K hK => ?_)
    go_simp
    refine hK _ ?_
    clear hK K
    refine anyZ_only 6 rfl (by kernel_rfl) (by rfl) (fun K hK => ?_)
    go_simp
    obtain ⟨W5, hW5⟩ : ∃ W5, W5 = w4.alloc (Obj.cells #[.slice (some ⟨W3.heap.size, 0, none⟩) 64 64] 23) := ⟨_, rfl⟩
    have b5 : Below w4.heap.size w4 W5 := by rw [hW5]; exact (Below.refl _ w4).alloc (Nat.le_refl _) _
    have z5 : W5.cell? ⟨w4.heap.size, 0, none⟩ = some (.slice (some ⟨W3.heap.size, 0, none⟩) 64 64) := by rw [hW5, cell_of_row _ _ 0 _ _ _ (World.alloc_heap_new _ _)]; rfl
    have s4 : W3.heap.size ≤ w4.heap.size := b4'.size
    have b35 : Below W3.heap.size W3 W5 := b4'.trans (b5.mono s4)
    have k5 := own_keep k3 fun b hb => b35.block b hb.lt
    have hds5 : d ≤ W5.heap.size := by have := td3.lt; have := b35.size; omega
    rw [← hW5]
    refine hK _ _ (Wr.of_below b5) ?_
    clear hW5
    clear hK K
    refine anyZ_frame (fun K hK => ?_)
    go_simp
    refine hK _ ?_
    clear hK K
    refine anyZ_only 7 rfl (by kernel_rfl) (by rfl) (fun K hK => ?_)
    refine upV_append_vals (.tmp 32) (.tmp 34) 54 rfl d 23 i2 _ 1 24 Try.underlying54 hi2 hz20 hz21 hz22 rfl (by decide) (.slice ab j cb) j bv rfl k5 (some ⟨w4.heap.size, 0, none⟩) 1 1 [.slice (some ⟨W3.heap.size, 0, none⟩) 64 64] rfl rfl (by simp [Value.oneCell']) (.inr ⟨_, _, rfl, fun q u hq => by
      obtain rfl : q = 0 := by
        have := (List.getElem?_eq_some_iff.1 hq).1
        simp at this; exact this
      simp at hq; subst hq; exact z5⟩) (by omega) (by simp only [maxLen]; omega) hds5 ?_
    intro v6 w6 ho6 hg6 hv6
    have hg6' : Wr S S W5 w6 := by
      refine Wr.grown (Wr.refl S W5) hg6 fun b hb => .inl ?_
      rw [hS]; exact hb
    have w36 : Wr S S W3 w6 := (Wr.of_below b35).trans hg6'
    obtain ⟨a6, c6, rfl⟩ := sl_own ho6
    have y6 := (w36.block d td3.lt hSd).trans z3
    have cc6 : w6.cell? ⟨d, 1, none⟩ = some (.slice ab j cb) := by rw [cell_of_row _ _ 1 _ _ _ y6]; rfl
    have ff6 : w6.frozen? ⟨d, 1, none⟩ = false := by simp only [World.frozen?, y6]; simp
    refine hK _ _ hg6' ?_
    clear hK K
    refine anyZ_frame (fun K hK => ?_)
    go_simp
    refine hK _ ?_
    clear hK K
    refine anyZ_done (by kernel_rfl) ?_
    refine wpAny_only 8 rfl (by kernel_rfl) (by rfl) (fun K hK => ?_)
    go_simp
    refine hK _ _ ?_
    clear hK K
    refine wpAny_frame (fun K hK => ?_)
    go_simp
    refine hK _ ?_
    clear hK K
    refine wpAny_only 9 rfl (by kernel_rfl) (by rfl) (fun K hK => ?_)
    go_simp
    refine hK _ _ ?_
    clear hK K
    refine wpAny_frame (fun K hK => ?_)
    go_simp
    refine hK _ ?_
    clear hK K
    refine wpAny_only 10 rfl (by kernel_rfl) (by rfl) (fun K hK => ?_)
    go_simp
    refine hK _ _ ?_
    clear hK K
    refine wpAny_frame (fun K hK => ?_)
    go_simp
    refine hK _ ?_
    clear hK K
    refine wpAny_done (by kernel_rfl) ?_
    have keep6 : ∀ b t, t ≠ 23 → Tag W3 b t → w6.heap[b]? = W3.heap[b]? := fun b t ht hb => w36.block b hb.lt fun h => Tag.ne hb (hSt b h) ht rfl
    have td6 : Tag w6 d 56 := ⟨_, _, y6⟩
    obtain ⟨W7, hW7⟩ : ∃ W7, W7 = w6.setCell ⟨d, 1, none⟩ (.slice a6 (j + 1) c6) := ⟨_, rfl⟩
    rw [← hW7]
    have keep7 : ∀ b t, t ≠ 56 → Tag w6 b t → W7.heap[b]? = w6.heap[b]? := fun b t ht hb => by
      rw [hW7]; exact Below.heap_setCell _ _ _ _ (Tag.ne hb td6 ht)
    have z7 : W7.heap[d]? = some (.cells #[.slice a9 (j + 1) c9, .slice a6 (j + 1) c6] 56) := by
      rw [hW7]; exact heap_setCell_same _ _ _ _ _ _ y6
    have o6 := own_keep o3 fun b hb => keep6 b _ (by decide) hb
    have o7 := own_keep o6 fun b hb => keep7 b _ (by decide) hb
    have k7 := own_keep ho6 fun b hb => keep7 b _ (by decide) hb
    have n6 : w6.ownsRow 0 5 1 (.slice (some ⟨W3.heap.size, 0, none⟩) 64 64) 64 (zeros.map (Value.int .u8)) := own_mono o4 (Nat.zero_le _) fun b hb => by
      have hlb := (o4.lt b hb).2
      obtain rfl : W3.drew.heap.size = b := by simpa [Value.ownBlock] using hb
      have hns : ¬ S W3.drew.heap.size := fun h => Nat.lt_irrefl _ (hSt _ h).lt
      exact (hg6'.block _ (Nat.lt_of_lt_of_le hlb b5.size) hns).trans (b5.block _ hlb)
    have e7 : ∀ x ∈ bv ++ [.slice (some ⟨W3.heap.size, 0, none⟩) 64 64], W7.ownsRow 0 5 1 x 64 (zeros.map (Value.int .u8)) := fun x hx => by
      rcases List.mem_append.1 hx with hx | hx
      · have h6 := own_keep (e3 x hx) fun b hb => keep6 b _ (by decide) hb
        exact own_keep h6 fun b hb => keep7 b _ (by decide) hb
      · rw [List.mem_singleton] at hx
        subst hx
        exact own_keep n6 fun b hb => keep7 b _ (by decide) hb
    have b7 : Below W.heap.size W W7 := by
      have h6 : Below W.heap.size W w6 := b3.trans ⟨w36.os, w36.tape, w36.output, w36.size, fun b hb => w36.block b (by have := b3.size; omega) fun h => by
        have := (k3.lt b (by rw [hS] at h; exact h)).1
        have hd : d = W.heap.size := HD
        omega⟩
      rw [hW7]
      exact h6.setCell (by show W.heap.size ≤ d; rw [show d = W.heap.size from HD]; exact Nat.le_refl _) _
    have HGR := Lib.hid (show Growing W7 d d (j + 1) (.slice a9 (j + 1) c9) (.slice a6 (j + 1) c6) from ⟨z7, o7, _, k7, e7⟩)
    clear keep6 keep7 z7 o6 o7 k7 n6 e7 hW7 y6 cc6 ff6 ho6 hg6 hg6' w36 b4 b4' b5 z5 b35 k5 o4 g4 o3 k3 e3 HCV hSt hSd hS hv6 td3 td6 z3
    go_wp2_with fail
    go_roundw
    case rel => exact ⟨j + 1, _, _, by go_num, by omega, HGR, by rw [← show d = W.heap.size from HD] at b7; exact b7⟩
    case measure => simp [intOf]; omega
end Go.Proofs.Ytdacdfnfbknndaa
