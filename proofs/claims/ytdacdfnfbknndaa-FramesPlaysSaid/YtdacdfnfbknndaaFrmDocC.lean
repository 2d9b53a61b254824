/- The document's memory: Read, Write. -/
import Derived.Test.YtdacdfnfbknndaaFrmDocB
namespace Go.Proofs.Ytdacdfnfbknndaa
open Go Go.RowKit
attribute [local go_sem] upV_value upV_skip upV_enter
set_option linter.unusedVariables false
set_option linter.unnecessarySimpa false
set_option linter.unusedSimpArgs false
theorem DcAt.row {W : World} {d gr cr gb cb : Nat} {fs : List Fr} (h : DcAt W d gr cr gb cb fs) (i : Nat) (hi : i < fs.length) (hn : fs[i].n ≠ 0) : ∃ lb c, W.cell? ⟨gb, i, none⟩ = some (.slice (some ⟨lb, 0, none⟩) 64 c) ∧ W.ownsRow 0 5 1 (.slice (some ⟨lb, 0, none⟩) 64 c) 64 (fs[i].b.map (Value.int .u8)) := by
  obtain ⟨bv, k1, k2⟩ := h.byts
  have hbl : bv.length = fs.length := by have := k1.1; omega
  have hr := k2 i hi (by omega) hn
  rcases hr.2 with ⟨_, h0⟩ | ⟨g, c, cur, e, _⟩
  · omega
  · refine ⟨g, c, ?_, by rw [← e]; exact hr⟩
    rw [k1.cellAt i (by omega), List.getElem?_eq_getElem (by omega), e]
theorem DcAt.byte {W : World} {base lb c : Nat} {b : List Int} (h : W.ownsRow base 5 1 (.slice (some ⟨lb, 0, none⟩) 64 c) 64 (b.map (Value.int .u8))) (j : Nat) (hj : j < b.length) : W.cell? ⟨lb, j, none⟩ = some (.int .u8 b[j]) := by
  have hl : b.length = 64 := by have := h.1; rw [List.length_map] at this; omega
  rw [h.cellAt j (by omega), List.getElem?_map, List.getElem?_eq_getElem hj]; rfl
set_option maxRecDepth 100000 in
set_option maxHeartbeats 4000000 in
theorem dread_any (d gr cr gb cb : Nat) (fs : List Fr) (k off n : Int) (W : World) (h : DcAt W d gr cr gb cb fs) :
    Calls Try.prog 36 #[.pointer (some ⟨d, 0, none⟩), .int .i64 k, .int .i64 off, .int .i64 n] W fun e W' => ∃ v, e = .returned (.tuple #[v, .int .i64 (readE fs k off n)]) ∧ W'.ownsRow W.heap.size 5 1 v (readL fs k off n).length ((readL fs k off n).map (Value.int .u8)) ∧ Below W.heap.size W W' := by
  obtain ⟨i0, hi0, hz0, hz1, hz2⟩ := info_parts info_u8
  have hs := h.sm
  have km := is_any d gr cr gb cb fs k W h
  cases hk : okF fs k with
  | false =>
    rw [hk] at km
    have K := Lib.hid km
    have e1 : readE fs k off n = 41 := by unfold readE; rw [hk]; rfl
    have e2 : readL fs k off n = [] := by unfold readL; rw [e1]; rfl
    rw [e1, e2]
    clear km hk e1 e2 h
    go_enter Try.func36, Try.ntmps36
    go_wp2_with (go_at_call 28; refine held ?_)
    unfold Held
    refine Calls.mono K ?_
    rintro e w2 ⟨rfl, rfl⟩
    go_wp2
    go_ret2
    exact ⟨_, rfl, World.ownsRow_nil _ _ _ _, Below.refl _ _⟩
  | true =>
    rw [hk] at km
    have K := Lib.hid km
    clear km
    have hbad : inF off n = false → readE fs k off n = 2 ∧ readL fs k off n = [] := fun hin => by
      have e1 : readE fs k off n = 2 := by unfold readE; rw [hk, hin]; rfl
      exact ⟨e1, by unfold readL; rw [e1]; rfl⟩
    by_cases h1 : off < 0
    · have t1 : decide (off < 0) = true := decide_eq_true h1
      obtain ⟨e1, e2⟩ := hbad (decide_eq_false fun h => by omega)
      rw [e1, e2]
      clear hk e1 e2 h hbad
      go_enter Try.func36, Try.ntmps36
      go_wp2_with (go_at_call 28; refine held ?_)
      unfold Held
      refine Calls.mono K ?_
      rintro e w2 ⟨rfl, rfl⟩
      go_wp2
      go_ret2
      exact ⟨_, rfl, World.ownsRow_nil _ _ _ _, Below.refl _ _⟩
    have t1 : decide (off < 0) = false := decide_eq_false h1
    by_cases h2 : n < 0
    · have t2 : decide (n < 0) = true := decide_eq_true h2
      obtain ⟨e1, e2⟩ := hbad (decide_eq_false fun h => by omega)
      rw [e1, e2]
      clear hk e1 e2 h hbad
      go_enter Try.func36, Try.ntmps36
      go_wp2_with (go_at_call 28; refine held ?_)
      unfold Held
      refine Calls.mono K ?_
      rintro e w2 ⟨rfl, rfl⟩
      go_wp2
      go_ret2
      exact ⟨_, rfl, World.ownsRow_nil _ _ _ _, Below.refl _ _⟩
    have t2 : decide (n < 0) = false := decide_eq_false h2
    by_cases h3 : off > 64
    · have t3 : decide (off > 64) = true := decide_eq_true h3
      obtain ⟨e1, e2⟩ := hbad (decide_eq_false fun h => by omega)
      rw [e1, e2]
      clear hk e1 e2 h hbad
      go_enter Try.func36, Try.ntmps36
      go_wp2_with (go_at_call 28; refine held ?_)
      unfold Held
      refine Calls.mono K ?_
      rintro e w2 ⟨rfl, rfl⟩
      go_wp2
      go_ret2
      exact ⟨_, rfl, World.ownsRow_nil _ _ _ _, Below.refl _ _⟩
    have t3 : decide (off > 64) = false := decide_eq_false h3
    by_cases h4 : n > 64
    · have t4 : decide (n > 64) = true := decide_eq_true h4
      obtain ⟨e1, e2⟩ := hbad (decide_eq_false fun h => by omega)
      rw [e1, e2]
      clear hk e1 e2 h hbad
      go_enter Try.func36, Try.ntmps36
      go_wp2_with (go_at_call 28; refine held ?_)
      unfold Held
      refine Calls.mono K ?_
      rintro e w2 ⟨rfl, rfl⟩
      go_wp2
      go_ret2
      exact ⟨_, rfl, World.ownsRow_nil _ _ _ _, Below.refl _ _⟩
    have t4 : decide (n > 64) = false := decide_eq_false h4
    obtain ⟨o, rfl⟩ : ∃ o : Nat, off = o := ⟨off.toNat, by omega⟩
    obtain ⟨m, rfl⟩ : ∃ m : Nat, n = m := ⟨n.toNat, by omega⟩
    by_cases h5 : (o : Int) + (m : Int) > 64
    · have t5 : decide ((o : Int) + (m : Int) > 64) = true := decide_eq_true h5
      obtain ⟨e1, e2⟩ := hbad (decide_eq_false fun h => by omega)
      rw [e1, e2]
      clear hk e1 e2 h hbad
      go_enter Try.func36, Try.ntmps36
      go_wp2_with (go_at_call 28; refine held ?_)
      unfold Held
      refine Calls.mono K ?_
      rintro e w2 ⟨rfl, rfl⟩
      go_wp2
      go_ret2
      exact ⟨_, rfl, World.ownsRow_nil _ _ _ _, Below.refl _ _⟩
    have t5 : decide ((o : Int) + (m : Int) > 64) = false := decide_eq_false h5
    obtain ⟨i, hi, rfl, hn⟩ := okF_true hk
    have hin : inF o m = true := decide_eq_true ⟨by omega, by omega, by omega, by omega⟩
    have e1 : readE fs i o m = 0 := by unfold readE; rw [hk, hin]; rfl
    have e2 : readL fs i o m = (fs[i].b.drop o).take m := by unfold readL; rw [e1, if_pos rfl, frAt_at hi]; simp
    have h64 := h.len.at hi
    have hlen : ((fs[i].b.drop o).take m).length = m := by
      rw [List.length_take, List.length_drop]; omega
    rw [e1, e2]
    obtain ⟨L, hL⟩ : ∃ L, L = (fs[i].b.drop o).take m := ⟨_, rfl⟩
    have hLj : ∀ j (hj : j < L.length) (hj2 : o + j < fs[i].b.length), L[j] = fs[i].b[o + j] := fun j hj hj2 => by
      simp only [hL, List.getElem_take, List.getElem_drop]
    rw [← hL] at hlen ⊢
    obtain ⟨hcl, hcm⟩ := h.capsB
    simp only [maxLen] at hcm
    have HLJ := Lib.hid hLj
    have tn := hn
    have HN := Lib.hid hn
    clear hk hbad e1 e2 hL hin hLj hn tn h1 h2 h3 h4
    go_enter Try.func36, Try.ntmps36
    go_wp2_with (go_at_call 28; refine held ?_)
    unfold Held
    refine Calls.mono K ?_
    rintro e w2 ⟨rfl, rfl⟩
    clear K
    go_wp2
    go_loopw [11, 12] (fun r x wr => ∃ j : Nat, x = .int .i64 (j : Int) ∧ j ≤ m ∧ wr.ownsRow w2.heap.size 5 1 r (L.take j).length ((L.take j).map (Value.int .u8)) ∧ Below w2.heap.size w2 wr) (fun _ x _ => m - (intOf x).toNat)
    case atStart => exact ⟨0, rfl, Nat.zero_le _, World.ownsRow_nil _ _ _ _, Below.refl _ _⟩
    case round =>
      obtain ⟨j, rfl, hj, ho, hb⟩ := hrel
      by_cases hlt : j < m
      · have t6 : decide ((j : Int) < (m : Int)) = true := by simp; omega
        have hW := h.below hb
        have c1 := hW.c1
        obtain ⟨lb, lc, c2, hrow⟩ := hW.row i hi HN
        have hlc := own_caps hrow
        simp only [maxLen] at hlc
        obtain ⟨hlc1, hlc2⟩ := hlc
        have c3 := DcAt.byte hrow (o + j) (by omega)
        have hjl : j < L.length := by omega
        have hLx := (show ∀ j (hj : j < L.length) (hj2 : o + j < fs[i].b.length), L[j] = fs[i].b[o + j] from HLJ) j hjl (by omega)
        rw [← hLx] at c3
        obtain ⟨x, hx⟩ : ∃ x, x = L[j] := ⟨_, rfl⟩
        have hst : L.take (j + 1) = L.take j ++ [x] := by rw [hx]; exact List.take_succ_eq_append_getElem hjl
        rw [← hx] at c3
        have hpl : (L.take j).length = j := by rw [List.length_take]; omega
        obtain ⟨pl, hpl'⟩ : ∃ pl, pl = L.take j := ⟨_, rfl⟩
        rw [← hpl'] at ho hst hpl
        have hle : ∀ b, u11.ownBlock = some b → w2.heap.size ≤ b := fun b hb => (ho.lt b hb).1
        have HS := Lib.hid hst
        clear hx hst hpl' hLx hrow hW
        go_wp2_with (at_builtin; refine held ?_)
        unfold Held
        obtain ⟨W2, hW2⟩ : ∃ W2, W2 = wr.alloc (.cells #[.int .u8 x] 5) := ⟨_, rfl⟩
        have bb : Below wr.heap.size wr W2 := by rw [hW2]; exact (Below.refl _ _).alloc (Nat.le_refl _) _
        have zz : W2.cell? ⟨wr.heap.size, 0, none⟩ = some (.int .u8 x) := by rw [hW2, cell_of_row _ _ _ _ _ _ (World.alloc_heap_new _ _)]; rfl
        have ho2 := ownsRow_same ho fun b hb => bb.block b (ho.lt b hb).2
        have bb2 := hb.trans (bb.mono hb.size)
        rw [← hW2]
        refine wpList_append_vals rfl _ _ 23 rfl w2.heap.size 5 i0 _ 1 1 Try.underlying23 hi0 hz0 hz1 hz2 rfl (by decide) u11 pl.length (pl.map (Value.int .u8)) rfl ho2 (some ⟨wr.heap.size, 0, none⟩) 1 1 [.int .u8 x] rfl rfl (by simp [Value.oneCell']) (.inr ⟨_, _, rfl, fun q u hq => by
          obtain rfl : q = 0 := by
            have := (List.getElem?_eq_some_iff.1 hq).1
            simp at this; exact this
          simp at hq; subst hq; exact zz⟩) (by omega) (by simp only [maxLen]; omega) bb2.size ?_
        intro v9 w9 o9 g9 hv9
        have b9 : Below w2.heap.size w2 w9 := bb2.grown g9 bb2.size hle
        have O9 := Lib.hid o9
        clear o9 g9 hv9 ho ho2 hle bb zz hW2 bb2 c1 c2 c3
        go_wp2
        go_roundw
        case rel => exact ⟨j + 1, by go_num, by omega, by rw [show L.take (j + 1) = pl ++ [x] from HS, List.length_append, List.map_append]; exact O9, b9⟩
        case measure => simp [intOf]; omega
      · have t6 : decide ((j : Int) < (m : Int)) = false := by simp; omega
        obtain rfl : j = m := by omega
        rw [List.take_of_length_le (by omega)] at ho
        have HO := Lib.hid ho
        clear ho
        go_wp2
        go_ret2
        exact ⟨_, rfl, HO, hb⟩
theorem putB_step {b zs : List Int} (hb : b.length = 64) (o j : Nat) (h : o + zs.length ≤ 64) (hj : j < zs.length) : (putB b o (zs.take j)).set (o + j) zs[j] = putB b o (zs.take (j + 1)) := by
  have h1 : (zs.take j).length = j := by rw [List.length_take]; omega
  have h2 : (zs.take (j + 1)).length = j + 1 := by rw [List.length_take]; omega
  have h3 : (b.take o ++ zs.take j).length = o + j := by rw [List.length_append, List.length_take, h1]; omega
  unfold putB
  rw [h1, h2, List.set_append_right _ _ (by omega), h3, Nat.sub_self, ← List.getElem_cons_drop (by omega : o + j < b.length), List.set_cons_zero, List.take_succ_eq_append_getElem hj]
  simp only [List.append_assoc, List.singleton_append, Nat.add_assoc]
theorem putB_nil (b : List Int) (o : Nat) : putB b o [] = b := by
  unfold putB; simp
/-- the rows of gb are old ones, or new -/
def RowsNew (gb : Nat) (W W' : World) : Prop := ∀ (j : Nat) (v : Value), W'.cell? ⟨gb, j, none⟩ = some v → W.cell? ⟨gb, j, none⟩ = some v ∨ ∀ b, v.ownBlock = some b → W.heap.size ≤ b
theorem RowsNew.of_below {gb : Nat} {W W' : World} (h : Below W.heap.size W W') (hg : gb < W.heap.size) : RowsNew gb W W' := fun j v hv => .inl (by
  rw [← World.cell?_of_block (a := ⟨gb, j, none⟩) (h.block gb hg)]; exact hv)
theorem RowsNew.set {gb : Nat} {W W' : World} (h : Below W.heap.size W W') (hg : gb < W.heap.size) (i : Nat) (x u : Value) (hc : W'.cell? ⟨gb, i, none⟩ = some u) (hx : ∀ b, x.ownBlock = some b → W.heap.size ≤ b) : RowsNew gb W (W'.setCell ⟨gb, i, none⟩ x) := fun j v hv => by
  by_cases e : j = i
  · subst e
    rw [World.cell?_setCell_same _ _ _ hc] at hv
    injection hv with hv; subst hv
    exact .inr hx
  · have hne : (⟨gb, i, none⟩ : Addr) ≠ ⟨gb, j, none⟩ := fun h => e (by injection h with _ h _; exact h.symm)
    rw [World.cell?_setCell_other _ _ _ _ hne] at hv
    exact RowsNew.of_below h hg j v hv
set_option maxRecDepth 100000 in
set_option maxHeartbeats 4000000 in
theorem dwrite_any (d gr cr gb cb : Nat) (fs : List Fr) (k off : Int) (sa : Option Addr) (sl sc : Nat) (zs : List Int) (W : World) (h : DcAt W d gr cr gb cb fs) (hz : Row8 W.heap.size W (.slice sa sl sc) zs) (hsl : sl ≤ 1000000) :
    Calls Try.prog 37 #[.pointer (some ⟨d, 0, none⟩), .int .i64 k, .int .i64 off, .slice sa sl sc] W fun e W' => e = .returned (.int .i64 (readE fs k off zs.length)) ∧ DcAt W' d gr cr gb cb (writeF fs k off zs) ∧ Wr (SDoc gr gb) (SDoc gr gb) W W' ∧ RowsNew gb W W' := by
  obtain ⟨i0, hi0, hz0, hz1, hz2⟩ := info_parts info_u8
  have hsm := h.sm
  have hzl := hz.len
  have kr := dread_any d gr cr gb cb fs k off (sl : Int) W h
  rw [show (sl : Int) = (zs.length : Int) by omega] at kr
  obtain ⟨E, hE⟩ : ∃ E, E = readE fs k off zs.length := ⟨_, rfl⟩
  rw [← hE] at kr ⊢
  obtain ⟨L, hL⟩ : ∃ L, L = readL fs k off zs.length := ⟨_, rfl⟩
  rw [← hL, show (zs.length : Int) = (sl : Int) by omega] at kr
  have K := Lib.hid kr
  clear kr hL
  by_cases hE0 : E = 0
  rotate_left
  · have t1 : (E != 0) = true := by simpa using hE0
    have hf : writeF fs k off zs = fs := if_neg (by rw [← hE]; exact hE0)
    rw [hf]
    have HF := Lib.hid h
    clear h hf hE hE0 hz
    go_enter Try.func37, Try.ntmps37
    go_wp2_with (go_at_call 36; refine held ?_)
    unfold Held
    refine Calls.mono K ?_
    rintro e w2 ⟨v, rfl, ho, hb⟩
    clear ho K
    go_wp2
    go_ret
    exact ⟨rfl, DcAt.below HF hb, Wr.of_below hb, RowsNew.of_below hb (DcAt.tagB HF).lt⟩
  subst hE0
  have hok : okF fs k = true ∧ inF off zs.length = true := by
    unfold readE at hE
    split at hE
    · rename_i h1
      split at hE
      · rename_i h2; exact ⟨h1, h2⟩
      · cases hE
    · cases hE
  obtain ⟨i, hi, rfl, hn⟩ := okF_true hok.1
  obtain ⟨o, m, rfl, hm2, hom⟩ := inF_true hok.2
  obtain rfl : sl = m := by omega
  have hwf : writeF fs i o zs = fs.set i ⟨putB fs[i].b o zs, fs[i].n⟩ := by unfold writeF; rw [if_pos hE.symm, frAt_at hi]; simp
  rw [hwf]
  have h64 := h.len.at hi
  have hnn := h.nn _ (List.getElem_mem hi)
  have HN := Lib.hid hn
  obtain ⟨hcl, hcm⟩ := h.capsB
  simp only [maxLen] at hcm
  clear hwf hok hE hn hm2
  go_enter Try.func37, Try.ntmps37
  go_wp2_with (go_at_call 36; refine held ?_)
  unfold Held
  refine Calls.mono K ?_
  rintro e w2 ⟨v, rfl, ho, hb2⟩
  have h2 := h.below hb2
  have c1 := h2.c1
  obtain ⟨lb, lc, c2, hrow⟩ := h2.row i hi HN
  obtain ⟨hlc1, hlc2⟩ := own_caps hrow
  simp only [maxLen] at hlc2
  clear ho K
  go_wp2_with (at_builtin; refine held ?_)
  unfold Held
  refine wpList_append_vals rfl _ _ 23 rfl w2.heap.size 5 i0 _ 1 1 Try.underlying23 hi0 hz0 hz1 hz2 rfl (by decide) (.slice none 0 0) 0 [] rfl (World.ownsRow_nil _ _ _ _) (some ⟨lb, 0, none⟩) 64 lc (fs[i].b.map (Value.int .u8)) rfl (by rw [List.length_map, h64]) (u8_one _) (.inr ⟨_, _, rfl, fun q u hq => by
    have hq2 := (List.getElem?_eq_some_iff.1 hq).1
    rw [List.length_map] at hq2
    rw [Nat.zero_add, hrow.cellAt q (by omega), hq]⟩) (by decide) (by decide) (Nat.le_refl _) ?_
  intro v3 w3 o3 g3 hv3
  rw [Nat.zero_add, List.nil_append] at o3
  have b3 : Below w2.heap.size w2 w3 := (Below.refl _ w2).grown g3 (Nat.le_refl _) (fun b h => by simp [Value.ownBlock] at h)
  have b3' := hb2.trans (b3.mono hb2.size)
  have h3 := h.below b3'
  obtain ⟨lb3, lc3, hv3e, hlo3⟩ : ∃ lb c, v3 = .slice (some ⟨lb, 0, none⟩) 64 c ∧ w2.heap.size ≤ lb := by
    rcases o3.2 with ⟨_, h0⟩ | ⟨g, c, cur, e, hg, _⟩
    · omega
    · exact ⟨g, c, e, hg⟩
  subst hv3e
  have hs2 := hb2.size
  have hcap3 := own_caps o3
  simp only [maxLen] at hcap3
  obtain ⟨hcp1, hcp2⟩ := hcap3
  have hzr := hz
  clear g3 hv3 hrow c1 c2 h2 b3 hlc1 hlc2
  go_wp2
  go_loopw [12] (fun x wr => ∃ j : Nat, x = .int .i64 (j : Int) ∧ j ≤ sl ∧ wr.ownsRow w2.heap.size 5 1 (.slice (some ⟨lb3, 0, none⟩) 64 lc3) 64 ((putB fs[i].b o (zs.take j)).map (Value.int .u8)) ∧ Below W.heap.size W wr) (fun x _ => sl - (intOf x).toNat)
  case atStart => exact ⟨0, rfl, Nat.zero_le _, by rw [List.take_zero, putB_nil]; exact o3, b3'⟩
  case round =>
    clear o3 b3' h3
    obtain ⟨j, rfl, hj, hr, hb⟩ := hrel
    by_cases hlt : j < sl
    · have t6 : decide ((j : Int) < (sl : Int)) = true := by simp; omega
      obtain ⟨hzo, zb, zo, hz1', hzc⟩ := (hz.below hb).1.open
      obtain ⟨rfl, hzb1, hzb2, hzb3⟩ := hz1' (by omega)
      have c1 := hzc j hlt
      rw [getD_at _ _ (by omega)] at c1
      simp only [maxLen] at hzb3
      have hpl := putB_len h64 o (zs.take j) (by rw [List.length_take]; omega)
      have c2 : wr.cell? ⟨lb3, o + j, none⟩ = some (.int .u8 ((putB fs[i].b o (zs.take j))[o + j]'(by omega))) := DcAt.byte hr (o + j) (by omega)
      have f2 := hr.frozenAt (o + j)
      have hst := (hr.stored (o + j) (.int .u8 (zs[j]'(by omega)))).1
      rw [← List.map_set, putB_step h64 o j (by omega) (by omega)] at hst
      have hbt := hb.setCell (p := ⟨lb3, o + j, none⟩) (show W.heap.size ≤ lb3 by omega) (.int .u8 (zs[j]'(by omega)))
      obtain ⟨x, hx⟩ : ∃ x, x = zs[j]'(by omega) := ⟨_, rfl⟩
      obtain ⟨y, hy⟩ : ∃ y, y = (putB fs[i].b o (zs.take j))[o + j]'(by omega) := ⟨_, rfl⟩
      rw [← hx] at c1 hst hbt
      rw [← hy] at c2
      have HS := Lib.hid hst
      clear hx hy hst hr hz hpl h hzc hz1'
      go_wp2
      go_roundw
      case rel => exact ⟨j + 1, by go_num, by omega, HS, hbt⟩
      case measure => simp [intOf]; omega
    · have t6 : decide ((j : Int) < (sl : Int)) = false := by simp; omega
      obtain rfl : j = sl := by omega
      rw [List.take_of_length_le (by omega)] at hr
      have h5 := h.below hb
      have c1 := h5.c1
      obtain ⟨bv, k1, k2⟩ := h5.byts
      have hbl : bv.length = fs.length := by have := k1.1; omega
      have cb5 : wr.cell? ⟨gb, i, none⟩ = some (bv[i]'(by omega)) := by rw [k1.cellAt i (by omega), List.getElem?_eq_getElem (by omega)]
      have fb5 := k1.frozenAt i
      have hP := h5.put (W3 := wr) i hi ⟨putB fs[i].b o zs, fs[i].n⟩ (putB_len h64 o zs (by omega)) hnn (.slice (some ⟨lb3, 0, none⟩) 64 lc3) (fun _ _ _ _ _ => rfl) (by
        rw [map_set_same (fun x : Fr => Value.int .i64 x.n) fs i hi ⟨putB fs[i].b o zs, fs[i].n⟩ rfl]; exact h5.refs) (fun _ => own_mono hr (Nat.zero_le _) fun _ _ => rfl)
      have hwT : Wr (SDoc gr gb) (SDoc gr gb) W (wr.setCell ⟨gb, i, none⟩ (.slice (some ⟨lb3, 0, none⟩) 64 lc3)) := (Wr.of_below hb).setCell (.inl (.inr rfl)) _
      have hRN := RowsNew.set hb h.tagB.lt i (.slice (some ⟨lb3, 0, none⟩) 64 lc3) _ cb5 (fun b hb => by
        obtain rfl : lb3 = b := by simpa [Value.ownBlock] using hb
        omega)
      have HT := Lib.hid (And.intro hP (And.intro hwT hRN))
      obtain ⟨Bi, hBi⟩ : ∃ Bi, Bi = bv[i]'(by omega) := ⟨_, rfl⟩
      rw [← hBi] at cb5
      clear hP hwT hRN k1 k2 h5 h hr hz hBi hbl
      go_wp2
      go_ret
      exact ⟨rfl, HT⟩
end Go.Proofs.Ytdacdfnfbknndaa
