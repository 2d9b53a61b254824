/- The memory and the document's, side by side; the walk of do. -/
import Derived.Test.YtdacdfnfbknndaaFrmStep
namespace Go.Proofs.Ytdacdfnfbknndaa
open Go Go.RowKit
attribute [local go_sem] upV_value upV_skip upV_enter
set_option linter.unusedVariables false
set_option linter.unnecessarySimpa false
set_option linter.unusedSimpArgs false
/-- the memory at p holds fs, the document's at d holds hs; what is written lies above n -/
structure Sd (n : Nat) (W : World) (p g cap d gr cr gb cb : Nat) (fs hs : List Fr) : Prop where
  fr : FrAt W p g cap fs
  doc : DcAt W d gr cr gb cb hs
  lg : n ≤ g
  lr : n ≤ gr
  lb : n ≤ gb
  hn : n ≤ W.heap.size
section
variable {n : Nat} {W W' : World} {p g cap d gr cr gb cb : Nat} {fs hs fs' hs' : List Fr}
theorem Sd.below (h : Sd n W p g cap d gr cr gb cb fs hs) (hb : Below W.heap.size W W') : Sd n W' p g cap d gr cr gb cb fs hs :=
  ⟨h.fr.below hb, h.doc.below hb, h.lg, h.lr, h.lb, Nat.le_trans h.hn hb.size⟩
theorem Sd.drew (h : Sd n W p g cap d gr cr gb cb fs hs) : Sd n W.drew p g cap d gr cr gb cb fs hs := ⟨h.fr.drew, h.doc.drew, h.lg, h.lr, h.lb, h.hn⟩
theorem Sd.frStep (h : Sd n W p g cap d gr cr gb cb fs hs) (hF : FrAt W' p g cap fs') (hw : Wr (· = g) (· = g) W W') : Sd n W' p g cap d gr cr gb cb fs' hs ∧ Below n W W' :=
  ⟨⟨hF, h.doc.wrG h.fr.tagG hw, h.lg, h.lr, h.lb, Nat.le_trans h.hn hw.size⟩, below_of_wr hw h.lg h.hn⟩
theorem Sd.docStep (h : Sd n W p g cap d gr cr gb cb fs hs) (hD : DcAt W' d gr cr gb cb hs') (hw : Wr (SDoc gr gb) (SDoc gr gb) W W') : Sd n W' p g cap d gr cr gb cb fs hs' ∧ Below n W W' :=
  ⟨⟨h.fr.wrD h.doc hw, hD, h.lg, h.lr, h.lb, Nat.le_trans h.hn hw.size⟩, ⟨hw.os, hw.tape, hw.output, hw.size, fun b hb => hw.block b (Nat.lt_of_lt_of_le hb h.hn) (fun e => by
    have := h.lr; have := h.lb
    rcases e with rfl | rfl <;> omega)⟩⟩
/-- a row that neither of them writes -/
theorem row_fr {base : Nat} {e : TypeId} {sz : Nat} {u : Value} {m : Nat} {xs : List Value} (ho : W.ownsRow base e sz u m xs) (h : FrAt W p g cap fs) (hw : Wr (· = g) (· = g) W W') (he : e ≠ 67) : W'.ownsRow base e sz u m xs :=
  ownsRow_same ho fun b hb => hw.block b (ho.lt b hb).2 fun e' => by subst e'; exact Tag.ne (own_tag ho hb) h.tagG he rfl
theorem row_doc {base : Nat} {e : TypeId} {sz : Nat} {u : Value} {m : Nat} {xs : List Value} (ho : W.ownsRow base e sz u m xs) (h : DcAt W d gr cr gb cb hs) (hw : Wr (SDoc gr gb) (SDoc gr gb) W W') (h1 : e ≠ 3) (h2 : e ≠ 23) : W'.ownsRow base e sz u m xs :=
  ownsRow_same ho fun b hb => hw.block b (ho.lt b hb).2 fun e' => by
    rcases e' with rfl | rfl
    · exact Tag.ne (own_tag ho hb) h.tagR h1 rfl
    · exact Tag.ne (own_tag ho hb) h.tagB h2 rfl
theorem row_below {base : Nat} {e : TypeId} {sz : Nat} {u : Value} {m : Nat} {xs : List Value} (ho : W.ownsRow base e sz u m xs) (hb : Below W.heap.size W W') : W'.ownsRow base e sz u m xs :=
  ownsRow_same ho fun b h => hb.block b (ho.lt b h).2
/-- one block is written that is none of theirs -/
theorem DcAt.away (h : DcAt W d gr cr gb cb hs) {x : Nat} (hx : Tag W x 5) (hv : ∀ (j : Nat) (hj : j < hs.length) (v : Value), hs[j].n ≠ 0 → W.cell? ⟨gb, j, none⟩ = some v → v.ownBlock ≠ some x) (hw : Wr (· = x) (· = x) W W') : DcAt W' d gr cr gb cb hs := by
  obtain ⟨bv, k1, k2⟩ := h.byts
  have hne : ∀ b t, t ≠ 5 → Tag W b t → W'.heap[b]? = W.heap[b]? := fun b t ht hb => hw.block b hb.lt (Tag.ne hb hx ht)
  refine ⟨(hne d _ (by decide) h.tagD).trans h.at_, own_keep h.refs fun b hb => hne b _ (by decide) hb, ⟨bv, own_keep k1 fun b hb => hne b _ (by decide) hb, fun i h3 h4 hn => ownsRow_same (k2 i h3 h4 hn) fun b hb => hw.block b ((k2 i h3 h4 hn).lt b hb).2 fun e => ?_⟩, h.len, h.nn, h.sm⟩
  subst e
  exact hv i h3 bv[i] hn (by rw [k1.cellAt i (by have := k1.1; omega), List.getElem?_eq_getElem h4]) hb
theorem FrAt.away (h : FrAt W p g cap fs) {x : Nat} (hx : Tag W x 5) (hw : Wr (· = x) (· = x) W W') : FrAt W' p g cap fs :=
  h.same (hw.block p h.ltp (Tag.ne h.tagP hx (by decide))) (hw.block g h.ltg (Tag.ne h.tagG hx (by decide)))
theorem DcAt.rowLt (h : DcAt W d gr cr gb cb hs) (i : Nat) (hi : i < hs.length) (hn : hs[i].n ≠ 0) (v : Value) (hc : W.cell? ⟨gb, i, none⟩ = some v) : ∀ b, v.ownBlock = some b → b < W.heap.size := fun b hb => by
  obtain ⟨bv, k1, k2⟩ := h.byts
  have hbl : bv.length = hs.length := by have := k1.1; omega
  rw [k1.cellAt i (by omega), List.getElem?_eq_getElem (by omega)] at hc
  injection hc with hc
  subst hc
  exact ((k2 i hi (by omega) hn).lt b hb).2
/-- a call, as a value -/
def opAgg (o : OpM) : Array Value := #[.int .i64 o.k, .int .i64 o.f, .int .i64 o.o, .int .i64 o.n, .slice o.a o.len o.cap]
/-- a call's own box -/
def BoxO (W : World) (x : Nat) (o : OpM) : Prop := W.heap[x]? = some (.cells (opAgg o) 25)
theorem BoxO.new (W : World) (o : OpM) : BoxO (W.alloc (.cells #[.int .i64 o.k, .int .i64 o.f, .int .i64 o.o, .int .i64 o.n, .slice o.a o.len o.cap] 25)) W.heap.size o := World.alloc_heap_new _ _
theorem BoxO.tag {x : Nat} {o : OpM} (h : BoxO W x o) : Tag W x 25 := ⟨_, _, h⟩
theorem BoxO.below {x : Nat} {o : OpM} (h : BoxO W x o) (hb : Below W.heap.size W W') : BoxO W' x o := (hb.block x h.tag.lt).trans h
theorem BoxO.fr {x : Nat} {o : OpM} (h : BoxO W x o) (k : FrAt W p g cap fs) (hw : Wr (· = g) (· = g) W W') : BoxO W' x o := (hw.block x h.tag.lt (Tag.ne h.tag k.tagG (by decide))).trans h
theorem BoxO.cells {x : Nat} {o : OpM} (h : BoxO W x o) : W.cell? ⟨x, 0, none⟩ = some (.int .i64 o.k) ∧ W.cell? ⟨x, 1, none⟩ = some (.int .i64 o.f) ∧ W.cell? ⟨x, 2, none⟩ = some (.int .i64 o.o) ∧ W.cell? ⟨x, 3, none⟩ = some (.int .i64 o.n) ∧ W.cell? ⟨x, 4, none⟩ = some (.slice o.a o.len o.cap) :=
  ⟨by rw [cell_of_row _ _ 0 _ _ _ h]; rfl, by rw [cell_of_row _ _ 1 _ _ _ h]; rfl, by rw [cell_of_row _ _ 2 _ _ _ h]; rfl, by rw [cell_of_row _ _ 3 _ _ _ h]; rfl, by rw [cell_of_row _ _ 4 _ _ _ h]; rfl⟩
/-- what a call owes -/
def DoPost (n : Nat) (W : World) (p g cap d gr cr gb cb : Nat) (fs : List Fr) (e : Ending) (W' : World) : Prop :=
  e = .returned (.bool true) ∧ Sd n W' p g cap d gr cr gb cb fs fs ∧ Below n W W'
end
section
variable (n : Nat) (W : World) (p g cap d gr cr gb cb : Nat) (fs : List Fr) (o : OpM)
set_option maxRecDepth 100000 in
set_option maxHeartbeats 4000000 in
theorem do0_any (h : Sd n W p g cap d gr cr gb cb fs fs) (hz : ZeroF fs) (hk : o.k = 0) :
    Calls Try.prog 16 #[.pointer (some ⟨p, 0, none⟩), .pointer (some ⟨d, 0, none⟩), .agg (opAgg o)] W (DoPost n W p g cap d gr cr gb cb (takeL fs)) := by
  obtain ⟨k, f, off, m, oa, len, oc, bs⟩ := o
  obtain rfl : k = 0 := hk
  have hB := BoxO.new W ⟨0, f, off, m, oa, len, oc, bs⟩
  obtain ⟨V, hV⟩ : ∃ V, V = W.alloc (.cells #[.int .i64 0, .int .i64 f, .int .i64 off, .int .i64 m, .slice oa len oc] 25) := ⟨_, rfl⟩
  rw [← hV] at hB
  obtain ⟨bV, hS⟩ : Below W.heap.size W V ∧ Sd n V p g cap d gr cr gb cb fs fs := by
    have : Below W.heap.size W V := by rw [hV]; exact (Below.refl _ W).alloc (Nat.le_refl _) _
    exact ⟨this, h.below this⟩
  have b0 : Below n W V := bV.mono h.hn
  obtain ⟨c0, c1, c2, c3, c4⟩ := hB.cells
  have K1 := Lib.hid (take_any p g cap fs V hS.fr)
  have K2 := Lib.hid (fun (W' : World) (h : DcAt W' d gr cr gb cb fs) => dtake_any d gr cr gb cb fs W' h hz)
  obtain ⟨L, hL⟩ : ∃ L, L = takeL fs := ⟨_, rfl⟩
  obtain ⟨G0, hG0⟩ : ∃ G, G = takeV fs := ⟨_, rfl⟩
  obtain ⟨G1, hG1⟩ : ∃ G, G = takeE fs := ⟨_, rfl⟩
  rw [← hL, ← hG0, ← hG1] at K1
  rw [← hL, ← hG0, ← hG1] at K2
  try simp only
  rw [← hL]
  have HS := Lib.hid hS
  have HB := Lib.hid hB
  clear h hS hB hL bV hG0 hG1 hz
  rw [show opAgg ⟨0, f, off, m, oa, len, oc, bs⟩ = #[.int .i64 0, .int .i64 f, .int .i64 off, .int .i64 m, .slice oa len oc] from rfl]
  go_enter Try.func16, Try.ntmps16
  go_wp2_with (go_at_call 23; refine held ?_)
  unfold Held
  rw [← hV]
  clear hV
  refine Calls.mono K1 ?_
  rintro e w2 ⟨rfl, h2, hw2⟩
  obtain ⟨s2, b2⟩ := Sd.frStep HS h2 hw2
  have b2' := b0.trans b2
  have x2 := BoxO.fr HB (Sd.fr HS) hw2
  clear K1 h2 hw2 HS HB b2 b0 c0 c1 c2 c3 c4
  obtain ⟨c0, c1, c2, c3, c4⟩ := x2.cells
  clear x2
  go_wp2_with (go_at_call 33; refine held ?_)
  unfold Held
  refine Calls.mono ((show ∀ W', DcAt W' d gr cr gb cb fs → _ from K2) w2 s2.doc) ?_
  rintro e w3 ⟨rfl, h3, hw3⟩
  obtain ⟨s3, b3⟩ := s2.docStep h3 hw3
  have b3' := b2'.trans b3
  clear K2 h3 hw3 s2 b3 b2'
  go_wp2
  go_ret
  exact ⟨rfl, s3, b3'⟩
set_option maxRecDepth 100000 in
set_option maxHeartbeats 4000000 in
theorem do1_any (h : Sd n W p g cap d gr cr gb cb fs fs) (hm : Small fs) (hk : o.k = 1) :
    Calls Try.prog 16 #[.pointer (some ⟨p, 0, none⟩), .pointer (some ⟨d, 0, none⟩), .agg (opAgg o)] W (DoPost n W p g cap d gr cr gb cb (shareF fs o.f)) := by
  obtain ⟨k, f, off, m, oa, len, oc, bs⟩ := o
  obtain rfl : k = 1 := hk
  have hB := BoxO.new W ⟨1, f, off, m, oa, len, oc, bs⟩
  obtain ⟨V, hV⟩ : ∃ V, V = W.alloc (.cells #[.int .i64 1, .int .i64 f, .int .i64 off, .int .i64 m, .slice oa len oc] 25) := ⟨_, rfl⟩
  rw [← hV] at hB
  obtain ⟨bV, hS⟩ : Below W.heap.size W V ∧ Sd n V p g cap d gr cr gb cb fs fs := by
    have : Below W.heap.size W V := by rw [hV]; exact (Below.refl _ W).alloc (Nat.le_refl _) _
    exact ⟨this, h.below this⟩
  have b0 : Below n W V := bV.mono h.hn
  obtain ⟨c0, c1, c2, c3, c4⟩ := hB.cells
  have K1 := Lib.hid (share_any p g cap fs f V hS.fr hm)
  have K2 := Lib.hid (fun (W' : World) (h : DcAt W' d gr cr gb cb fs) => dshare_any d gr cr gb cb fs f W' h hm)
  obtain ⟨L, hL⟩ : ∃ L, L = shareF fs f := ⟨_, rfl⟩
  obtain ⟨G0, hG0⟩ : ∃ G, G = (if okF fs f then (0 : Int) else 41) := ⟨_, rfl⟩
  rw [← hL, ← hG0] at K1
  rw [← hL, ← hG0] at K2
  try simp only
  rw [← hL]
  have HS := Lib.hid hS
  have HB := Lib.hid hB
  clear h hS hB hL bV hG0 hm
  rw [show opAgg ⟨1, f, off, m, oa, len, oc, bs⟩ = #[.int .i64 1, .int .i64 f, .int .i64 off, .int .i64 m, .slice oa len oc] from rfl]
  go_enter Try.func16, Try.ntmps16
  go_wp2_with (go_at_call 29; refine held ?_)
  unfold Held
  rw [← hV]
  clear hV
  refine Calls.mono K1 ?_
  rintro e w2 ⟨rfl, h2, hw2⟩
  obtain ⟨s2, b2⟩ := Sd.frStep HS h2 hw2
  have b2' := b0.trans b2
  have x2 := BoxO.fr HB (Sd.fr HS) hw2
  clear K1 h2 hw2 HS HB b2 b0 c0 c1 c2 c3 c4
  obtain ⟨c0, c1, c2, c3, c4⟩ := x2.cells
  clear x2
  go_wp2_with (go_at_call 34; refine held ?_)
  unfold Held
  refine Calls.mono ((show ∀ W', DcAt W' d gr cr gb cb fs → _ from K2) w2 s2.doc) ?_
  rintro e w3 ⟨rfl, h3, hw3⟩
  obtain ⟨s3, b3⟩ := s2.docStep h3 hw3
  have b3' := b2'.trans b3
  clear K2 h3 hw3 s2 b3 b2'
  go_wp2
  go_ret
  exact ⟨rfl, s3, b3'⟩
set_option maxRecDepth 100000 in
set_option maxHeartbeats 4000000 in
theorem do2_any (h : Sd n W p g cap d gr cr gb cb fs fs) (hm : Small fs) (hk : o.k = 2) :
    Calls Try.prog 16 #[.pointer (some ⟨p, 0, none⟩), .pointer (some ⟨d, 0, none⟩), .agg (opAgg o)] W (DoPost n W p g cap d gr cr gb cb (dropF fs o.f)) := by
  obtain ⟨k, f, off, m, oa, len, oc, bs⟩ := o
  obtain rfl : k = 2 := hk
  have hB := BoxO.new W ⟨2, f, off, m, oa, len, oc, bs⟩
  obtain ⟨V, hV⟩ : ∃ V, V = W.alloc (.cells #[.int .i64 2, .int .i64 f, .int .i64 off, .int .i64 m, .slice oa len oc] 25) := ⟨_, rfl⟩
  rw [← hV] at hB
  obtain ⟨bV, hS⟩ : Below W.heap.size W V ∧ Sd n V p g cap d gr cr gb cb fs fs := by
    have : Below W.heap.size W V := by rw [hV]; exact (Below.refl _ W).alloc (Nat.le_refl _) _
    exact ⟨this, h.below this⟩
  have b0 : Below n W V := bV.mono h.hn
  obtain ⟨c0, c1, c2, c3, c4⟩ := hB.cells
  have K1 := Lib.hid (drop_any p g cap fs f V hS.fr hm)
  have K2 := Lib.hid (fun (W' : World) (h : DcAt W' d gr cr gb cb fs) => ddrop_any d gr cr gb cb fs f W' h hm)
  obtain ⟨L, hL⟩ : ∃ L, L = dropF fs f := ⟨_, rfl⟩
  obtain ⟨G0, hG0⟩ : ∃ G, G = (if okF fs f then (frAt fs f).n - 1 else 0) := ⟨_, rfl⟩
  obtain ⟨G1, hG1⟩ : ∃ G, G = (if okF fs f then (0 : Int) else 41) := ⟨_, rfl⟩
  rw [← hL, ← hG0, ← hG1] at K1
  rw [← hL, ← hG0, ← hG1] at K2
  try simp only
  rw [← hL]
  have HS := Lib.hid hS
  have HB := Lib.hid hB
  clear h hS hB hL bV hG0 hG1 hm
  rw [show opAgg ⟨2, f, off, m, oa, len, oc, bs⟩ = #[.int .i64 2, .int .i64 f, .int .i64 off, .int .i64 m, .slice oa len oc] from rfl]
  go_enter Try.func16, Try.ntmps16
  go_wp2_with (go_at_call 24; refine held ?_)
  unfold Held
  rw [← hV]
  clear hV
  refine Calls.mono K1 ?_
  rintro e w2 ⟨rfl, h2, hw2⟩
  obtain ⟨s2, b2⟩ := Sd.frStep HS h2 hw2
  have b2' := b0.trans b2
  have x2 := BoxO.fr HB (Sd.fr HS) hw2
  clear K1 h2 hw2 HS HB b2 b0 c0 c1 c2 c3 c4
  obtain ⟨c0, c1, c2, c3, c4⟩ := x2.cells
  clear x2
  go_wp2_with (go_at_call 35; refine held ?_)
  unfold Held
  refine Calls.mono ((show ∀ W', DcAt W' d gr cr gb cb fs → _ from K2) w2 s2.doc) ?_
  rintro e w3 ⟨rfl, h3, hw3⟩
  obtain ⟨s3, b3⟩ := s2.docStep h3 hw3
  have b3' := b2'.trans b3
  clear K2 h3 hw3 s2 b3 b2'
  go_wp2
  go_ret
  exact ⟨rfl, s3, b3'⟩
set_option maxRecDepth 100000 in
set_option maxHeartbeats 4000000 in
theorem do5_any (h : Sd n W p g cap d gr cr gb cb fs fs) (hz : ZeroF fs) (hk : o.k = 5) :
    Calls Try.prog 16 #[.pointer (some ⟨p, 0, none⟩), .pointer (some ⟨d, 0, none⟩), .agg (opAgg o)] W (DoPost n W p g cap d gr cr gb cb (dblL fs o.f)) := by
  obtain ⟨k, f, off, m, oa, len, oc, bs⟩ := o
  obtain rfl : k = 5 := hk
  have hB := BoxO.new W ⟨5, f, off, m, oa, len, oc, bs⟩
  obtain ⟨V, hV⟩ : ∃ V, V = W.alloc (.cells #[.int .i64 5, .int .i64 f, .int .i64 off, .int .i64 m, .slice oa len oc] 25) := ⟨_, rfl⟩
  rw [← hV] at hB
  obtain ⟨bV, hS⟩ : Below W.heap.size W V ∧ Sd n V p g cap d gr cr gb cb fs fs := by
    have : Below W.heap.size W V := by rw [hV]; exact (Below.refl _ W).alloc (Nat.le_refl _) _
    exact ⟨this, h.below this⟩
  have b0 : Below n W V := bV.mono h.hn
  obtain ⟨c0, c1, c2, c3, c4⟩ := hB.cells
  have K1 := Lib.hid (double_any p g cap fs f V hS.fr)
  have K2 := Lib.hid (fun (W' : World) (h : DcAt W' d gr cr gb cb fs) => ddouble_any d gr cr gb cb fs f W' h hz)
  obtain ⟨L, hL⟩ : ∃ L, L = dblL fs f := ⟨_, rfl⟩
  obtain ⟨G0, hG0⟩ : ∃ G, G = dblV fs f := ⟨_, rfl⟩
  obtain ⟨G1, hG1⟩ : ∃ G, G = dblE fs f := ⟨_, rfl⟩
  rw [← hL, ← hG0, ← hG1] at K1
  rw [← hL, ← hG0, ← hG1] at K2
  try simp only
  rw [← hL]
  have HS := Lib.hid hS
  have HB := Lib.hid hB
  clear h hS hB hL bV hG0 hG1 hz
  rw [show opAgg ⟨5, f, off, m, oa, len, oc, bs⟩ = #[.int .i64 5, .int .i64 f, .int .i64 off, .int .i64 m, .slice oa len oc] from rfl]
  go_enter Try.func16, Try.ntmps16
  go_wp2_with (go_at_call 17; refine held ?_)
  unfold Held
  rw [← hV]
  clear hV
  refine Calls.mono K1 ?_
  rintro e w2 ⟨rfl, h2, hw2⟩
  obtain ⟨s2, b2⟩ := Sd.frStep HS h2 hw2
  have b2' := b0.trans b2
  have x2 := BoxO.fr HB (Sd.fr HS) hw2
  clear K1 h2 hw2 HS HB b2 b0 c0 c1 c2 c3 c4
  obtain ⟨c0, c1, c2, c3, c4⟩ := x2.cells
  clear x2
  go_wp2_with (go_at_call 38; refine held ?_)
  unfold Held
  refine Calls.mono ((show ∀ W', DcAt W' d gr cr gb cb fs → _ from K2) w2 s2.doc) ?_
  rintro e w3 ⟨rfl, h3, hw3⟩
  obtain ⟨s3, b3⟩ := s2.docStep h3 hw3
  have b3' := b2'.trans b3
  clear K2 h3 hw3 s2 b3 b2'
  go_wp2
  go_ret
  exact ⟨rfl, s3, b3'⟩
set_option maxRecDepth 100000 in
set_option maxHeartbeats 4000000 in
theorem dox_any (h : Sd n W p g cap d gr cr gb cb fs fs) (h0 : o.k ≠ 0) (h1 : o.k ≠ 1) (h2 : o.k ≠ 2) (h3 : o.k ≠ 3) (h4 : o.k ≠ 4) (h5 : o.k ≠ 5) :
    Calls Try.prog 16 #[.pointer (some ⟨p, 0, none⟩), .pointer (some ⟨d, 0, none⟩), .agg (opAgg o)] W (DoPost n W p g cap d gr cr gb cb (fs)) := by
  obtain ⟨k, f, off, m, oa, len, oc, bs⟩ := o
  have hB := BoxO.new W ⟨k, f, off, m, oa, len, oc, bs⟩
  obtain ⟨V, hV⟩ : ∃ V, V = W.alloc (.cells #[.int .i64 k, .int .i64 f, .int .i64 off, .int .i64 m, .slice oa len oc] 25) := ⟨_, rfl⟩
  rw [← hV] at hB
  obtain ⟨bV, hS⟩ : Below W.heap.size W V ∧ Sd n V p g cap d gr cr gb cb fs fs := by
    have : Below W.heap.size W V := by rw [hV]; exact (Below.refl _ W).alloc (Nat.le_refl _) _
    exact ⟨this, h.below this⟩
  have b0 : Below n W V := bV.mono h.hn
  obtain ⟨c0, c1, c2, c3, c4⟩ := hB.cells
  have t0 : (k == 0) = false := by simpa using h0
  have t1 : (k == 1) = false := by simpa using h1
  have t2 : (k == 2) = false := by simpa using h2
  have t3 : (k == 3) = false := by simpa using h3
  have t4 : (k == 4) = false := by simpa using h4
  have t5 : (k == 5) = false := by simpa using h5
  have HS := Lib.hid hS
  clear h0 h1 h2 h3 h4 h5 hS hB bV h
  rw [show opAgg ⟨k, f, off, m, oa, len, oc, bs⟩ = #[.int .i64 k, .int .i64 f, .int .i64 off, .int .i64 m, .slice oa len oc] from rfl]
  go_enter Try.func16, Try.ntmps16
  go_wp2_with fail
  rw [← hV]
  clear hV
  go_ret
  exact ⟨rfl, HS, b0⟩
end
end Go.Proofs.Ytdacdfnfbknndaa
