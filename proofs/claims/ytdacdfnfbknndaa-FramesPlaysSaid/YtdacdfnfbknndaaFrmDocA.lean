/- The document's memory: its form; the walks of Is, Share, Drop, Used. -/
import Derived.Test.YtdacdfnfbknndaaFrmG
namespace Go.Proofs.Ytdacdfnfbknndaa
open Go Go.RowKit
attribute [local go_sem] upV_value upV_skip upV_enter
set_option linter.unusedVariables false
set_option linter.unnecessarySimpa false
set_option linter.unusedSimpArgs false
/-- block b holds cells of type t -/
def Tag (W : World) (b : Nat) (t : TypeId) : Prop := ∃ cur fr, W.heap[b]? = some (.cells cur t fr)
theorem Tag.lt {W : World} {b : Nat} {t : TypeId} (h : Tag W b t) : b < W.heap.size := by
  obtain ⟨_, _, h⟩ := h
  exact (Array.getElem?_eq_some_iff.1 h).1
theorem Tag.ne {W : World} {b c : Nat} {t u : TypeId} (h : Tag W b t) (k : Tag W c u) (hn : t ≠ u) : b ≠ c := by
  rintro rfl
  obtain ⟨_, _, h⟩ := h
  obtain ⟨_, _, k⟩ := k
  rw [h] at k
  injection k with k; injection k with _ k _
  exact hn k
theorem own_tag {W : World} {base : Nat} {e : TypeId} {size : Nat} {v : Value} {n : Nat} {xs : List Value} (h : W.ownsRow base e size v n xs) {b : Nat} (hb : v.ownBlock = some b) : Tag W b e := by
  rcases h.2 with ⟨rfl, _⟩ | ⟨g, cap, cur, rfl, _, hg, _⟩
  · simp [Value.ownBlock] at hb
  · obtain rfl : g = b := by simpa [Value.ownBlock] using hb
    exact ⟨_, _, hg⟩
theorem own_keep {A B : World} {base : Nat} {e : TypeId} {size : Nat} {v : Value} {n : Nat} {xs : List Value} (h : A.ownsRow base e size v n xs) (hs : ∀ b, Tag A b e → B.heap[b]? = A.heap[b]?) : B.ownsRow base e size v n xs :=
  ownsRow_same h fun b hb => hs b (own_tag h hb)
/-- the document's memory at d, that holds fs: counts in block gr, bytes' slices in block gb -/
structure DcAt (W : World) (d gr cr gb cb : Nat) (fs : List Fr) : Prop where
  at_ : W.heap[d]? = some (.cells #[.slice (some ⟨gr, 0, none⟩) fs.length cr, .slice (some ⟨gb, 0, none⟩) fs.length cb] 56)
  refs : W.ownsRow 0 3 1 (.slice (some ⟨gr, 0, none⟩) fs.length cr) fs.length (fs.map fun x => .int .i64 x.n)
  byts : ∃ bv : List Value, W.ownsRow 0 23 1 (.slice (some ⟨gb, 0, none⟩) fs.length cb) fs.length bv ∧ ∀ (i : Nat) (h : i < fs.length) (h2 : i < bv.length), fs[i].n ≠ 0 → W.ownsRow 0 5 1 bv[i] 64 (fs[i].b.map (Value.int .u8))
  len : Len64 fs
  nn : ∀ x ∈ fs, 0 ≤ x.n
  sm : fs.length ≤ 256
section
variable {W W' : World} {d gr cr gb cb : Nat} {fs : List Fr}
def docTag (t : TypeId) : Prop := t = 56 ∨ t = 3 ∨ t = 23 ∨ t = 5
theorem DcAt.tagD (h : DcAt W d gr cr gb cb fs) : Tag W d 56 := ⟨_, _, h.at_⟩
theorem DcAt.tagR (h : DcAt W d gr cr gb cb fs) : Tag W gr 3 := own_tag h.refs rfl
theorem DcAt.tagB (h : DcAt W d gr cr gb cb fs) : Tag W gb 23 := by
  obtain ⟨bv, h1, _⟩ := h.byts
  exact own_tag h1 rfl
theorem DcAt.keep (h : DcAt W d gr cr gb cb fs) (hs : ∀ b t, docTag t → Tag W b t → W'.heap[b]? = W.heap[b]?) : DcAt W' d gr cr gb cb fs := by
  obtain ⟨bv, h1, h2⟩ := h.byts
  exact ⟨(hs d _ (.inl rfl) h.tagD).trans h.at_, own_keep h.refs fun b hb => hs b _ (.inr (.inl rfl)) hb, ⟨bv, own_keep h1 fun b hb => hs b _ (.inr (.inr (.inl rfl))) hb, fun i h3 h4 hn => own_keep (h2 i h3 h4 hn) fun b hb => hs b _ (.inr (.inr (.inr rfl))) hb⟩, h.len, h.nn, h.sm⟩
theorem DcAt.below (h : DcAt W d gr cr gb cb fs) (hb : Below W.heap.size W W') : DcAt W' d gr cr gb cb fs := h.keep fun b t _ ht => hb.block b ht.lt
theorem DcAt.drew (h : DcAt W d gr cr gb cb fs) : DcAt W.drew d gr cr gb cb fs := h.keep fun _ _ _ _ => rfl
theorem FrAt.tagG {p g cap : Nat} (h : FrAt W p g cap fs) : Tag W g 67 := own_tag h.own rfl
theorem FrAt.tagP {p g cap : Nat} (h : FrAt W p g cap fs) : Tag W p 62 := ⟨_, _, h.at_⟩
/-- the program writes its own block alone -/
theorem DcAt.wrG (h : DcAt W d gr cr gb cb fs) {g : Nat} (hg : Tag W g 67) (hw : Wr (· = g) (· = g) W W') : DcAt W' d gr cr gb cb fs :=
  h.keep fun b t hd ht => hw.block b ht.lt fun e => by
    subst e
    rcases hd with rfl | rfl | rfl | rfl <;> exact absurd rfl (Tag.ne hg ht (by decide))
/-- what the document may write -/
def SDoc (gr gb : Nat) : Nat → Prop := fun b => b = gr ∨ b = gb
theorem FrAt.wrD {p g cap : Nat} (h : FrAt W p g cap fs) {fs' : List Fr} (k : DcAt W d gr cr gb cb fs') (hw : Wr (SDoc gr gb) (SDoc gr gb) W W') : FrAt W' p g cap fs := by
  refine h.same (hw.block p h.ltp ?_) (hw.block g h.ltg ?_)
  · rintro (e | e)
    · exact Tag.ne h.tagP k.tagR (by decide) e
    · exact Tag.ne h.tagP k.tagB (by decide) e
  · rintro (e | e)
    · exact Tag.ne h.tagG k.tagR (by decide) e
    · exact Tag.ne h.tagG k.tagB (by decide) e
theorem DcAt.c0 (h : DcAt W d gr cr gb cb fs) : W.cell? ⟨d, 0, none⟩ = some (.slice (some ⟨gr, 0, none⟩) fs.length cr) := by rw [cell_of_row _ _ 0 _ _ _ h.at_]; rfl
theorem DcAt.c1 (h : DcAt W d gr cr gb cb fs) : W.cell? ⟨d, 1, none⟩ = some (.slice (some ⟨gb, 0, none⟩) fs.length cb) := by rw [cell_of_row _ _ 1 _ _ _ h.at_]; rfl
theorem own_caps {W : World} {base : Nat} {e : TypeId} {size : Nat} {g n c : Nat} {xs : List Value} (h : W.ownsRow base e size (.slice (some ⟨g, 0, none⟩) n c) n xs) : n ≤ c ∧ c ≤ maxLen := by
  rcases h.2 with ⟨h1, _⟩ | ⟨g', cap', cur, h1, _, _, h4, h5, _⟩
  · cases h1
  · injection h1 with _ _ e; subst e; exact ⟨h4, h5⟩
theorem DcAt.capsR (h : DcAt W d gr cr gb cb fs) : fs.length ≤ cr ∧ cr ≤ maxLen := own_caps h.refs
theorem DcAt.capsB (h : DcAt W d gr cr gb cb fs) : fs.length ≤ cb ∧ cb ≤ maxLen := by
  obtain ⟨bv, h1, _⟩ := h.byts
  exact own_caps h1
theorem DcAt.count (h : DcAt W d gr cr gb cb fs) (i : Nat) (hi : i < fs.length) : W.cell? ⟨gr, i, none⟩ = some (.int .i64 fs[i].n) := by
  rw [h.refs.cellAt i (by omega), List.getElem?_map, List.getElem?_eq_getElem hi]; rfl
/-- a count is written -/
theorem DcAt.setN (h : DcAt W d gr cr gb cb fs) (i : Nat) (hi : i < fs.length) (x : Fr) (hx : x.b.length = 64) (hn : 0 ≤ x.n) (hb : x.n ≠ 0 → fs[i].n ≠ 0 ∧ x.b = fs[i].b) :
    DcAt (W.setCell ⟨gr, i, none⟩ (.int .i64 x.n)) d gr cr gb cb (fs.set i x) ∧ Wr (SDoc gr gb) (SDoc gr gb) W (W.setCell ⟨gr, i, none⟩ (.int .i64 x.n)) := by
  have hne : ∀ b t, t ≠ 3 → Tag W b t → (W.setCell ⟨gr, i, none⟩ (.int .i64 x.n)).heap[b]? = W.heap[b]? := fun b t ht hb => Below.heap_setCell _ _ _ _ (Tag.ne hb h.tagR ht)
  obtain ⟨bv, h1, h2⟩ := h.byts
  refine ⟨⟨?_, ?_, ⟨bv, ?_, ?_⟩, h.len.set i hx, ?_, by rw [List.length_set]; exact h.sm⟩, (Wr.refl (SDoc gr gb) W).setCell (.inl (.inl rfl)) _⟩
  · rw [hne d _ (by decide) h.tagD, List.length_set]; exact h.at_
  · rw [List.length_set, List.map_set]
    exact (h.refs.stored i _).1
  · rw [List.length_set]; exact own_keep h1 fun b hb => hne b _ (by decide) hb
  · intro j hj hj2 hjn
    rw [List.length_set] at hj
    rw [List.getElem_set] at hjn ⊢
    split at hjn
    · rename_i e; subst e
      rw [if_pos rfl]
      rw [(hb hjn).2]
      exact own_keep (h2 i hj hj2 (hb hjn).1) fun b hb => hne b _ (by decide) hb
    · rename_i e
      rw [if_neg e]
      exact own_keep (h2 j hj hj2 hjn) fun b hb => hne b _ (by decide) hb
  · intro y hy
    rcases List.mem_or_eq_of_mem_set hy with hy | rfl
    · exact h.nn y hy
    · exact hn
end
set_option maxRecDepth 100000 in
set_option maxHeartbeats 2000000 in
theorem is_any (d gr cr gb cb : Nat) (fs : List Fr) (k : Int) (W : World) (h : DcAt W d gr cr gb cb fs) :
    Calls Try.prog 28 #[.pointer (some ⟨d, 0, none⟩), .int .i64 k] W fun e W' => e = .returned (.bool (okF fs k)) ∧ W' = W := by
  have c0 := h.c0
  have hs := h.sm
  obtain ⟨hc, hm⟩ := h.capsR
  simp only [maxLen] at hm
  by_cases h1 : 0 ≤ k
  rotate_left
  · have t1 : decide (k ≥ 0) = false := decide_eq_false h1
    rw [okF_out (.inl (by omega))]
    clear h
    go_enter Try.func28, Try.ntmps28
    go_wp2
    go_ret
    exact ⟨rfl, rfl⟩
  have t1 : decide (k ≥ 0) = true := decide_eq_true h1
  by_cases h2 : k < (fs.length : Int)
  rotate_left
  · have t2 : decide (k < (fs.length : Int)) = false := decide_eq_false h2
    rw [okF_out (.inr (by omega))]
    clear h
    go_enter Try.func28, Try.ntmps28
    go_wp2
    go_ret
    exact ⟨rfl, rfl⟩
  have t2 : decide (k < (fs.length : Int)) = true := decide_eq_true h2
  obtain ⟨i, rfl⟩ : ∃ i : Nat, k = i := ⟨k.toNat, by omega⟩
  have hi : i < fs.length := by omega
  have c1 := h.count i hi
  have hnn := h.nn _ (List.getElem_mem hi)
  rw [okF_at hi]
  obtain ⟨N, hN⟩ : ∃ N, N = fs[i].n := ⟨_, rfl⟩
  rw [← hN] at c1 hnn ⊢
  have t3 : decide (N > 0) = decide (N ≠ 0) := decide_eq_decide.2 (by omega)
  obtain ⟨B, hB⟩ : ∃ B, B = decide (N ≠ 0) := ⟨_, rfl⟩
  rw [← hB] at t3 ⊢
  clear h hN h1 h2 hB
  go_enter Try.func28, Try.ntmps28
  go_wp2
  go_ret
  exact ⟨rfl, rfl⟩
set_option maxRecDepth 100000 in
set_option maxHeartbeats 2000000 in
theorem dshare_any (d gr cr gb cb : Nat) (fs : List Fr) (k : Int) (W : World) (h : DcAt W d gr cr gb cb fs) (hsm : Small fs) :
    Calls Try.prog 34 #[.pointer (some ⟨d, 0, none⟩), .int .i64 k] W fun e W' => e = .returned (.int .i64 (if okF fs k then 0 else 41)) ∧ DcAt W' d gr cr gb cb (shareF fs k) ∧ Wr (SDoc gr gb) (SDoc gr gb) W W' := by
  have c0 := h.c0
  have hs := h.sm
  obtain ⟨hc, hm⟩ := h.capsR
  simp only [maxLen] at hm
  have km := is_any d gr cr gb cb fs k W h
  cases hk : okF fs k with
  | false =>
    rw [hk] at km
    have K := Lib.hid km
    have hf : shareF fs k = fs := if_neg (by rw [hk]; exact Bool.false_ne_true)
    rw [hf]
    have HF := h
    clear km hk hf h
    go_enter Try.func34, Try.ntmps34
    go_wp2_with (go_at_call 28; refine held ?_)
    unfold Held
    refine Calls.mono K ?_
    rintro e w2 ⟨rfl, rfl⟩
    go_wp2
    go_ret
    exact ⟨rfl, HF, Wr.refl _ _⟩
  | true =>
    rw [hk] at km
    have K := Lib.hid km
    clear km
    obtain ⟨i, hi, rfl, hn⟩ := okF_true hk
    rw [shareF_at hi hk]
    have c1 := h.count i hi
    have hN := hsm.at hi
    have hfz := h.refs.frozenAt i
    have hT := Lib.hid (h.setN i hi ⟨fs[i].b, fs[i].n + 1⟩ (h.len.at hi) (by simp only; omega) (fun _ => ⟨hn, rfl⟩))
    obtain ⟨N, hN'⟩ : ∃ N, N = fs[i].n := ⟨_, rfl⟩
    rw [← hN'] at c1 hN hT
    rw [← hN']
    clear h hk hn hN'
    go_enter Try.func34, Try.ntmps34
    go_wp2_with (go_at_call 28; refine held ?_)
    unfold Held
    refine Calls.mono K ?_
    rintro e w2 ⟨rfl, rfl⟩
    go_wp2
    go_ret
    exact ⟨rfl, hT⟩
set_option maxRecDepth 100000 in
set_option maxHeartbeats 2000000 in
theorem ddrop_any (d gr cr gb cb : Nat) (fs : List Fr) (k : Int) (W : World) (h : DcAt W d gr cr gb cb fs) (hsm : Small fs) :
    Calls Try.prog 35 #[.pointer (some ⟨d, 0, none⟩), .int .i64 k] W fun e W' => e = .returned (.tuple #[.int .i64 (if okF fs k then (frAt fs k).n - 1 else 0), .int .i64 (if okF fs k then 0 else 41)]) ∧ DcAt W' d gr cr gb cb (dropF fs k) ∧ Wr (SDoc gr gb) (SDoc gr gb) W W' := by
  have c0 := h.c0
  have hs := h.sm
  obtain ⟨hc, hm⟩ := h.capsR
  simp only [maxLen] at hm
  have km := is_any d gr cr gb cb fs k W h
  cases hk : okF fs k with
  | false =>
    rw [hk] at km
    have K := Lib.hid km
    have hf : dropF fs k = fs := if_neg (by rw [hk]; exact Bool.false_ne_true)
    rw [hf]
    have HF := h
    clear km hk hf h
    go_enter Try.func35, Try.ntmps35
    go_wp2_with (go_at_call 28; refine held ?_)
    unfold Held
    refine Calls.mono K ?_
    rintro e w2 ⟨rfl, rfl⟩
    go_wp2
    go_ret2
    exact ⟨rfl, HF, Wr.refl _ _⟩
  | true =>
    rw [hk] at km
    have K := Lib.hid km
    clear km
    obtain ⟨i, hi, rfl, hn⟩ := okF_true hk
    have hdf : dropF fs i = fs.set i (if fs[i].n = 1 then ⟨zeros, 0⟩ else ⟨fs[i].b, fs[i].n - 1⟩) := by
      unfold dropF
      rw [if_pos hk, Int.toNat_natCast, frAt_at hi]
    rw [hdf, frAt_at hi]
    have c1 := h.count i hi
    have hN := hsm.at hi
    have hfz := h.refs.frozenAt i
    obtain ⟨hT1, hT2⟩ := h.setN i hi (if fs[i].n = 1 then ⟨zeros, 0⟩ else ⟨fs[i].b, fs[i].n - 1⟩) (by split; exact zeros_len; exact h.len.at hi) (by split; exact Int.le_refl _; simp only; omega) (by
      split
      · intro h; exact absurd rfl h
      · intro _; exact ⟨hn, rfl⟩)
    have hxn : (if fs[i].n = 1 then (⟨zeros, 0⟩ : Fr) else ⟨fs[i].b, fs[i].n - 1⟩).n = fs[i].n - 1 := by split; simp only; omega; rfl
    rw [hxn] at hT1 hT2
    have hi2 : i < (fs.set i (if fs[i].n = 1 then (⟨zeros, 0⟩ : Fr) else ⟨fs[i].b, fs[i].n - 1⟩)).length := by rw [List.length_set]; exact hi
    have c2 := hT1.count i hi2
    rw [List.getElem_set_self, hxn] at c2
    have c3 := hT1.c0
    rw [List.length_set] at c3
    have HT := Lib.hid (And.intro hT1 hT2)
    obtain ⟨R, hR⟩ : ∃ R, R = fs.set i (if fs[i].n = 1 then (⟨zeros, 0⟩ : Fr) else ⟨fs[i].b, fs[i].n - 1⟩) := ⟨_, rfl⟩
    rw [← hR] at HT ⊢
    obtain ⟨N, hN'⟩ : ∃ N, N = fs[i].n := ⟨_, rfl⟩
    rw [← hN'] at c1 hN HT c2 c3
    rw [← hN']
    clear h hk hn hN' hT1 hT2 hxn hi2 hR hdf
    go_enter Try.func35, Try.ntmps35
    go_wp2_with (go_at_call 28; refine held ?_)
    unfold Held
    refine Calls.mono K ?_
    rintro e w2 ⟨rfl, rfl⟩
    go_wp2
    go_ret2
    exact ⟨rfl, HT⟩
end Go.Proofs.Ytdacdfnfbknndaa
