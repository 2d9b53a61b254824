/- The walk of do at a Read, and at a Write. -/
import Derived.Test.YtdacdfnfbknndaaFrmDo
namespace Go.Proofs.Ytdacdfnfbknndaa
open Go Go.RowKit
attribute [local go_sem] upV_value upV_skip upV_enter
set_option linter.unusedVariables false
set_option linter.unnecessarySimpa false
set_option linter.unusedSimpArgs false
theorem own_bytes_set {W : World} {base b c m : Nat} {xs : List Int} (h : W.ownsRow base 5 1 (.slice (some ⟨b, 0, none⟩) m c) m (xs.map (Value.int .u8))) (j : Nat) (z : Int) :
    (W.setCell ⟨b, j, none⟩ (.int .u8 z)).ownsRow base 5 1 (.slice (some ⟨b, 0, none⟩) m c) m ((xs.set j z).map (Value.int .u8)) := by
  rw [List.map_set]
  exact (h.stored j _).1
theorem own_bytes_len {W : World} {base m : Nat} {v : Value} {xs : List Int} (h : W.ownsRow base 5 1 v m (xs.map (Value.int .u8))) : xs.length = m := by
  have := h.1; rw [List.length_map] at this; omega
theorem own_bytes_at {W : World} {base b c m : Nat} {xs : List Int} (h : W.ownsRow base 5 1 (.slice (some ⟨b, 0, none⟩) m c) m (xs.map (Value.int .u8))) (j : Nat) (hj : j < m) : ∃ x, W.cell? ⟨b, j, none⟩ = some (.int .u8 x) := by
  have hl := own_bytes_len h
  exact ⟨xs[j]'(by omega), by rw [h.cellAt j (by omega), List.getElem?_map, List.getElem?_eq_getElem (by omega)]; rfl⟩
theorem own_open {W : World} {base m : Nat} {e : TypeId} {sz : Nat} {v : Value} {xs : List Value} (h : W.ownsRow base e sz v m xs) : ∃ a c, v = .slice a m c ∧ (0 < m → ∃ b, a = some ⟨b, 0, none⟩ ∧ base ≤ b ∧ m ≤ c ∧ c ≤ maxLen) := by
  rcases h.2 with ⟨h1, h2⟩ | ⟨g, cap, cur, h1, h2, _, h4, h5, _⟩
  · exact ⟨none, 0, by rw [h1, h2], fun h => by omega⟩
  · exact ⟨_, cap, h1, fun _ => ⟨g, rfl, h2, h4, h5⟩⟩
section
variable (n : Nat) (W : World) (p g cap d gr cr gb cb : Nat) (fs : List Fr) (o : OpM)
set_option maxRecDepth 100000 in
set_option maxHeartbeats 4000000 in
theorem do3_any (h : Sd n W p g cap d gr cr gb cb fs fs) (hk : o.k = 3) :
    Calls Try.prog 16 #[.pointer (some ⟨p, 0, none⟩), .pointer (some ⟨d, 0, none⟩), .agg (opAgg o)] W (DoPost n W p g cap d gr cr gb cb fs) := by
  obtain ⟨k, f, off, m, oa, len, oc, bs⟩ := o
  obtain rfl : k = 3 := hk
  have hB := BoxO.new W ⟨3, f, off, m, oa, len, oc, bs⟩
  obtain ⟨V, hV⟩ : ∃ V, V = W.alloc (.cells #[.int .i64 3, .int .i64 f, .int .i64 off, .int .i64 m, .slice oa len oc] 25) := ⟨_, rfl⟩
  rw [← hV] at hB
  obtain ⟨bV, hS⟩ : Below W.heap.size W V ∧ Sd n V p g cap d gr cr gb cb fs fs := by
    have : Below W.heap.size W V := by rw [hV]; exact (Below.refl _ W).alloc (Nat.le_refl _) _
    exact ⟨this, h.below this⟩
  have b0 : Below n W V := bV.mono h.hn
  obtain ⟨c0, c1, c2, c3, c4⟩ := hB.cells
  have K1 := Lib.hid (read_any p g cap fs f off m V hS.fr)
  have K2 := Lib.hid (fun (W' : World) (h : DcAt W' d gr cr gb cb fs) => dread_any d gr cr gb cb fs f off m W' h)
  have hLl : (readL fs f off m).length ≤ 64 := by
    unfold readL
    split
    · rename_i he
      have hk : okF fs f = true := by
        unfold readE at he
        split at he
        · assumption
        · cases he
      obtain ⟨i, hi, rfl, _⟩ := okF_true hk
      rw [frAt_at hi]
      have := h.fr.len.at hi
      rw [List.length_take, List.length_drop]; omega
    · simp
  obtain ⟨L, hL⟩ : ∃ L, L = readL fs f off m := ⟨_, rfl⟩
  obtain ⟨E, hE⟩ : ∃ E, E = readE fs f off m := ⟨_, rfl⟩
  rw [← hL, ← hE] at K1
  rw [← hL, ← hE] at K2
  rw [← hL] at hLl
  have HS := Lib.hid hS
  have HB := Lib.hid hB
  clear h hS hB hL hE bV
  rw [show opAgg ⟨3, f, off, m, oa, len, oc, bs⟩ = #[.int .i64 3, .int .i64 f, .int .i64 off, .int .i64 m, .slice oa len oc] from rfl]
  go_enter Try.func16, Try.ntmps16
  go_wp2_with (go_at_call 13; refine held ?_)
  unfold Held
  rw [← hV]
  clear hV
  refine Calls.mono K1 ?_
  rintro e w2 ⟨v2, rfl, o2, b2⟩
  have s2 := Sd.below HS b2
  have x2 := BoxO.below HB b2
  clear K1 HB c0 c1 c2 c3 c4
  obtain ⟨c0, c1, c2, c3, c4⟩ := x2.cells
  clear x2
  obtain ⟨a2, k2, rfl, hop⟩ := own_open o2
  go_wp2_with (go_at_call 36; refine held ?_)
  unfold Held
  refine Calls.mono ((show ∀ W', DcAt W' d gr cr gb cb fs → _ from K2) w2 s2.doc) ?_
  rintro e w3 ⟨v3, rfl, o3, b3⟩
  have o2' := row_below o2 b3
  have b3' := b2.trans (b3.mono b2.size)
  clear K2 s2 b3 b2 o2
  obtain ⟨a3, k3, rfl, _⟩ := own_open o3
  have cv2 := OwnBytes.conv o2'
  have cv3 := OwnBytes.conv o3
  have O2 := Lib.hid o2'
  clear o2' o3
  obtain ⟨N, hN⟩ : ∃ N, N = L.length := ⟨_, rfl⟩
  rw [← hN] at hLl hop cv2 cv3 O2
  rw [← hN]
  have HL := Lib.hid hN
  have hVs : n ≤ V.heap.size := Sd.hn HS
  clear hN
  go_wp2
  clear cv2 cv3
  go_loopw [21, 124] (fun _ x wr => ∃ (j : Nat) (xs : List Int), x = .int .i64 (j : Int) ∧ j ≤ N ∧ wr.ownsRow V.heap.size 5 1 (.slice a2 N k2) N (xs.map (Value.int .u8)) ∧ Below V.heap.size V wr) (fun _ x _ => N - (intOf x).toNat)
  case atStart => exact ⟨0, L, rfl, Nat.zero_le _, O2, b3'⟩
  case round =>
    clear O2 b3'
    obtain ⟨j, xs, rfl, hj, ho, hb⟩ := hrel
    by_cases hlt : j < N
    · have t6 : decide ((j : Int) < (N : Int)) = true := by simp; omega
      obtain ⟨B, rfl, hB1, hB2, hB3⟩ := hop (by omega)
      simp only [maxLen] at hB3
      obtain ⟨x, cx⟩ := own_bytes_at ho j hlt
      have fx := ho.frozenAt j
      have HO := Lib.hid (fun z => own_bytes_set ho j z)
      have HBt := Lib.hid (fun (z : Value) => hb.setCell (p := ⟨B, j, none⟩) (show V.heap.size ≤ B from hB1) z)
      clear ho hb hop
      go_wp2_with fail
      go_roundw
      case rel => exact ⟨j + 1, _, by go_num, by omega, (show ∀ z, _ from HO) _, (show ∀ z : Value, _ from HBt) _⟩
      case measure => simp [intOf]; omega
    · have t6 : decide ((j : Int) < (N : Int)) = false := by simp; omega
      clear ho hop
      go_wp2
      go_ret
      exact ⟨rfl, Sd.below HS hb, b0.trans (hb.mono hVs)⟩
theorem writeF_n (fs : List Fr) (k off : Int) (zs : List Int) (i : Nat) (h1 : i < fs.length) (h2 : i < (writeF fs k off zs).length) : (writeF fs k off zs)[i].n = fs[i].n := by
  unfold writeF at h2 ⊢
  split
  · rename_i he
    have hk : okF fs k = true := by
      unfold readE at he
      split at he
      · assumption
      · cases he
    obtain ⟨q, hq, rfl, _⟩ := okF_true hk
    simp only [Int.toNat_natCast]
    rw [List.getElem_set]
    split
    · rename_i e; subst e; rw [frAt_at hq]
    · rfl
  · rfl
set_option maxRecDepth 100000 in
set_option maxHeartbeats 4000000 in
theorem do4_any (h : Sd n W p g cap d gr cr gb cb fs fs) (hr : Row8 n W (.slice o.a o.len o.cap) o.bs) (hl : o.len ≤ 100) (hk : o.k = 4) :
    Calls Try.prog 16 #[.pointer (some ⟨p, 0, none⟩), .pointer (some ⟨d, 0, none⟩), .agg (opAgg o)] W (DoPost n W p g cap d gr cr gb cb (writeF fs o.f o.o o.bs)) := by
  obtain ⟨i0, hi0, hz0, hz1, hz2⟩ := info_parts info_u8
  obtain ⟨k, f, off, m, oa, len, oc, bs⟩ := o
  obtain rfl : k = 4 := hk
  simp only at hr hl
  have hB := BoxO.new W ⟨4, f, off, m, oa, len, oc, bs⟩
  obtain ⟨V, hV⟩ : ∃ V, V = W.alloc (.cells #[.int .i64 4, .int .i64 f, .int .i64 off, .int .i64 m, .slice oa len oc] 25) := ⟨_, rfl⟩
  rw [← hV] at hB
  have sV : V.heap.size = W.heap.size + 1 := by rw [hV]; simp
  obtain ⟨bV, hS⟩ : Below W.heap.size W V ∧ Sd n V p g cap d gr cr gb cb fs fs := by
    have : Below W.heap.size W V := by rw [hV]; exact (Below.refl _ W).alloc (Nat.le_refl _) _
    exact ⟨this, h.below this⟩
  have b0 : Below n W V := bV.mono h.hn
  have hrV := hr.below b0
  have hbl : bs.length = len := hr.1.open.1
  have hbb := hr.2
  obtain ⟨c0, c1, c2, c3, c4⟩ := hB.cells
  simp only
  have hwl := writeF_len fs f off bs
  have K1 := Lib.hid (fun (W' : World) (a : Option Addr) (c : Nat) (h : FrAt W' p g cap fs) (hz : Row8 W'.heap.size W' (.slice a len c) bs) => write_any p g cap fs f off a len c bs W'.heap.size W' h hz (by omega))
  have K2 := Lib.hid (fun (W' : World) (h : DcAt W' d gr cr gb cb fs) (hz : Row8 W'.heap.size W' (.slice oa len oc) bs) => dwrite_any d gr cr gb cb fs f off oa len oc bs W' h hz (by omega))
  obtain ⟨L, hL⟩ : ∃ L, L = writeF fs f off bs := ⟨_, rfl⟩
  obtain ⟨E, hE⟩ : ∃ E, E = readE fs f off bs.length := ⟨_, rfl⟩
  rw [← hL, ← hE] at K1
  rw [← hL, ← hE] at K2
  have hwn : ∀ i (h1 : i < fs.length) (h2 : i < L.length), L[i].n = fs[i].n := by rw [hL]; exact writeF_n fs f off bs
  rw [← hL] at hwl ⊢
  have HN := Lib.hid hwn
  have HS := Lib.hid hS
  have HB := Lib.hid hB
  have HR := Lib.hid hrV
  clear h hS hB hL hE bV hr hwn hrV
  have HZ := Lib.hid hbb
  clear hbb
  rw [show opAgg ⟨4, f, off, m, oa, len, oc, bs⟩ = #[.int .i64 4, .int .i64 f, .int .i64 off, .int .i64 m, .slice oa len oc] from rfl]
  go_enter Try.func16, Try.ntmps16
  go_wp2_with (at_builtin; refine held ?_)
  unfold Held
  rw [← hV]
  try rw [← sV]
  clear hV sV
  have hl0 := World.ownsRow_lit (base := V.heap.size) (e := 5) (size := 1) V #[] 0 (Nat.le_refl _) (by decide) rfl
  obtain ⟨W2, hW2⟩ : ∃ W2, W2 = V.alloc (.cells #[] 5) := ⟨_, rfl⟩
  have bb : Below V.heap.size V W2 := by rw [hW2]; exact (Below.refl _ V).alloc (Nat.le_refl _) _
  rw [← hW2] at hl0 ⊢
  have hr2 : Row8 V.heap.size W2 (.slice oa len oc) bs := (Row8.mono HR (Sd.hn HS)).below bb
  refine wpList_append_vals rfl _ _ 23 rfl V.heap.size 5 i0 _ 1 1 Try.underlying23 hi0 hz0 hz1 hz2 rfl (by decide) (.slice (some ⟨V.heap.size, 0, none⟩) 0 0) 0 [] rfl hl0 oa len oc (bs.map (Value.int .u8)) rfl (by rw [List.length_map, hbl, Nat.mul_one]) (u8_one bs) (Row8.vals hr2) (by omega) (by simp only [maxLen]; omega) bb.size ?_
  intro v3 w3 o3 g3 hv3
  have b3 : Below V.heap.size V w3 := bb.grown g3 bb.size (fun b h => by simp [Value.ownBlock] at h; omega)
  rw [Nat.zero_add, List.nil_append] at o3
  have s3 := Sd.below HS b3
  have x3 := BoxO.below HB b3
  clear hl0 hW2 bb g3 hv3 HB c0 c1 c2 c3 c4 hr2
  obtain ⟨a3, k3, rfl, hop⟩ := own_open o3
  obtain ⟨c0, c1, c2, c3, c4⟩ := x3.cells
  go_wp2_with (go_at_call 18; refine held ?_)
  unfold Held
  refine Calls.mono ((show ∀ W' a c, FrAt W' p g cap fs → _ → _ from K1) w3 a3 k3 s3.fr ⟨(RowI.of_own o3).2, HZ⟩) ?_
  rintro e w4 ⟨rfl, h4, hw4⟩
  obtain ⟨s4, b4⟩ := s3.frStep h4 hw4
  have o4 := row_fr o3 s3.fr hw4 (by decide)
  have x4 := x3.fr s3.fr hw4
  have g4 : ∀ j v, w4.cell? ⟨gb, j, none⟩ = some v → V.cell? ⟨gb, j, none⟩ = some v := fun j v hc => by
    have lb : gb < V.heap.size := (Sd.doc HS).tagB.lt
    have e1 := b3.block gb lb
    have e2 := hw4.block gb (Nat.lt_of_lt_of_le lb b3.size) (Tag.ne s3.doc.tagB s3.fr.tagG (by decide))
    rw [World.cell?_of_block (a := ⟨gb, j, none⟩) (e2.trans e1)] at hc
    exact hc
  have b4' := (b0.trans (b3.mono (Sd.hn HS))).trans b4
  have hsz : V.heap.size ≤ w4.heap.size := Nat.le_trans b3.size hw4.size
  have hr4 := (Row8.below HR ((b3.mono (Sd.hn HS)).trans b4)).mono s4.hn
  have hlt3 := o3.lt
  have hs34 := hw4.size
  clear K1 h4 hw4 s3 b3 o3 x3 b4 c0 c1 c2 c3 c4 b0
  obtain ⟨c0, c1, c2, c3, c4⟩ := x4.cells
  go_wp2_with (go_at_call 37; refine held ?_)
  unfold Held
  refine Calls.mono ((show ∀ W', DcAt W' d gr cr gb cb fs → _ → _ from K2) w4 s4.doc hr4) ?_
  rintro e w5 ⟨rfl, h5, hw5, hrn⟩
  obtain ⟨s5, b5⟩ := s4.docStep h5 hw5
  have o5 := row_doc o4 s4.doc hw5 (by decide) (by decide)
  have b5' := b4'.trans b5
  have hvs : ∀ B, a3 = some ⟨B, 0, none⟩ → V.heap.size ≤ B → B < w4.heap.size → ∀ (j : Nat) (hj : j < L.length) (v : Value), L[j].n ≠ 0 → w5.cell? ⟨gb, j, none⟩ = some v → v.ownBlock ≠ some B := fun B hB h1 h2 j hj v hn hc hv => by
    rcases hrn j v hc with h | h
    · have hjf : j < fs.length := by omega
      have hnf : fs[j].n ≠ 0 := by rw [← (show ∀ i (h1 : i < fs.length) (h2 : i < L.length), L[i].n = fs[i].n from HN) j hjf hj]; exact hn
      have := (Sd.doc HS).rowLt j hjf hnf v (g4 j v h) B hv
      omega
    · have := h B hv
      omega
  clear K2 h5 hw5 hrn s4 b4' o4 x4 b5 g4 c0 c1 c2 c3 c4 hr4 HN HR
  obtain ⟨B, hB⟩ : ∃ B, 0 < len → a3 = some ⟨B, 0, none⟩ ∧ V.heap.size ≤ B ∧ len ≤ k3 ∧ k3 ≤ maxLen := by
    by_cases h0 : 0 < len
    · obtain ⟨B, h⟩ := hop h0
      exact ⟨B, fun _ => h⟩
    · exact ⟨0, fun h => absurd h h0⟩
  have HV := Lib.hid hvs
  have HO := Lib.hid o5
  have H5 := Lib.hid s5
  have HL3 := Lib.hid hlt3
  clear hop hvs o5 hlt3
  go_wp2
  go_loopw [25, 160] (fun _ x wr => ∃ (j : Nat) (xs : List Int), x = .int .i64 (j : Int) ∧ j ≤ len ∧ wr.ownsRow V.heap.size 5 1 (.slice a3 len k3) len (xs.map (Value.int .u8)) ∧ Wr (· = B) (· = B) w5 wr ∧ (len = 0 → wr = w5)) (fun _ x _ => len - (intOf x).toNat)
  case atStart => exact ⟨0, bs, rfl, Nat.zero_le _, HO, Wr.refl _ _, fun _ => rfl⟩
  case round =>
    obtain ⟨j, xs, rfl, hj, ho, hw, hw0⟩ := hrel
    by_cases hlt : j < len
    · have t6 : decide ((j : Int) < (len : Int)) = true := by simp; omega
      obtain ⟨rfl, hB1, hB2, hB3⟩ := hB (by omega)
      simp only [maxLen] at hB3
      obtain ⟨x, cx⟩ := own_bytes_at ho j hlt
      have fx := ho.frozenAt j
      have HO := Lib.hid (fun z => own_bytes_set ho j z)
      have HBt := Lib.hid (fun (z : Value) => hw.setCell (p := ⟨B, j, none⟩) (.inl rfl) z)
      clear ho hw hB hw0
      go_wp2_with fail
      go_roundw
      case rel => exact ⟨j + 1, _, by go_num, by omega, (show ∀ z, _ from HO) _, (show ∀ z : Value, _ from HBt) _, fun h => by omega⟩
      case measure => simp [intOf]; omega
    · have t6 : decide ((j : Int) < (len : Int)) = false := by simp; omega
      clear ho
      go_wp2
      go_ret
      refine ⟨rfl, ?_⟩
      by_cases h0 : len = 0
      · rw [hw0 h0]
        exact ⟨s5, b5'⟩
      · obtain ⟨rfl, hB1, hB2, hB3⟩ := hB (by omega)
        have hT : Tag w5 B 5 := own_tag HO rfl
        have hB4 : B < w4.heap.size := Nat.lt_of_lt_of_le ((show ∀ b, (Value.slice (some ⟨B, 0, none⟩) len k3).ownBlock = some b → _ ∧ _ from HL3) B rfl).2 hs34
        refine ⟨⟨s5.fr.away hT hw, s5.doc.away hT ((show ∀ B, _ from HV) B rfl hB1 hB4) hw, s5.lg, s5.lr, s5.lb, Nat.le_trans s5.hn hw.size⟩, b5'.trans (below_of_wr hw ?_ s5.hn)⟩
        exact Nat.le_trans (Sd.hn HS) hB1
theorem do_any (h : Sd n W p g cap d gr cr gb cb fs fs) (B : Int) (hm : Mem B fs) (hB : B ≤ 1000000) (hr : IsOp n W o) (hl : o.len ≤ 100) :
    Calls Try.prog 16 #[.pointer (some ⟨p, 0, none⟩), .pointer (some ⟨d, 0, none⟩), .agg (opAgg o)] W (DoPost n W p g cap d gr cr gb cb (stepF fs o)) := by
  unfold stepF
  split
  · rename_i h0; exact do0_any n W p g cap d gr cr gb cb fs o h hm.zf h0
  rename_i h0
  split
  · rename_i h1; exact do1_any n W p g cap d gr cr gb cb fs o h (hm.small hB) h1
  rename_i h1
  split
  · rename_i h2; exact do2_any n W p g cap d gr cr gb cb fs o h (hm.small hB) h2
  rename_i h2
  split
  · rename_i h4; exact do4_any n W p g cap d gr cr gb cb fs o h hr.row hl h4
  rename_i h4
  split
  · rename_i h5; exact do5_any n W p g cap d gr cr gb cb fs o h hm.zf h5
  rename_i h5
  by_cases h3 : o.k = 3
  · exact do3_any n W p g cap d gr cr gb cb fs o h h3
  · exact dox_any n W p g cap d gr cr gb cb fs o h h0 h1 h2 h3 h4 h5
end
end Go.Proofs.Ytdacdfnfbknndaa
