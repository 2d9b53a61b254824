/- The document's memory: Used, Take, Double. -/
import Derived.Test.YtdacdfnfbknndaaFrmDocA
namespace Go.Proofs.Ytdacdfnfbknndaa
open Go Go.RowKit
attribute [local go_sem] upV_value upV_skip upV_enter
set_option linter.unusedVariables false
set_option linter.unnecessarySimpa false
set_option linter.unusedSimpArgs false
theorem RowI.lit1 (W : World) (x : Int) : RowI .i64 (W.heap.size + 1) (W.alloc (.cells #[.int .i64 x] 3)) (.slice (some ⟨W.heap.size, 0, none⟩) 1 1) [x] := by
  refine .inr ⟨W.heap.size, 0, 1, rfl, by omega, Nat.le_refl _, by decide, fun j hj => ?_⟩
  obtain rfl : j = 0 := by simp at hj; omega
  rw [cell_of_row _ _ _ _ _ _ (World.alloc_heap_new _ _)]
  rfl
set_option maxRecDepth 100000 in
set_option maxHeartbeats 4000000 in
theorem dused_any (d gr cr gb cb : Nat) (fs : List Fr) (W : World) (h : DcAt W d gr cr gb cb fs) :
    Calls Try.prog 26 #[.pointer (some ⟨d, 0, none⟩)] W fun e W' => ∃ v, e = .returned v ∧ W'.ownsRow W.heap.size 3 1 v (usedF fs).length ((usedF fs).map (Value.int .i64)) ∧ Below W.heap.size W W' := by
  obtain ⟨i1, hi1, hz10, hz11, hz12⟩ := info_parts info_i64
  have hsm := h.sm
  obtain ⟨hc, hm⟩ := h.capsR
  simp only [maxLen] at hm
  obtain ⟨U, hU⟩ : ∃ U, U = usedF fs := ⟨_, rfl⟩
  rw [← hU]
  have HU := Lib.hid hU
  clear hU
  go_enter Try.func26, Try.ntmps26
  go_wp2
  go_loopw [3, 4] (fun o i wr => ∃ j : Nat, i = .int .i64 (j : Int) ∧ j ≤ fs.length ∧ wr.ownsRow W.heap.size 3 1 o (usedTo fs j).length ((usedTo fs j).map (Value.int .i64)) ∧ Below W.heap.size W wr) (fun _ i _ => fs.length - (intOf i).toNat)
  case atStart => exact ⟨0, rfl, Nat.zero_le _, World.ownsRow_nil _ _ _ _, Below.refl _ _⟩
  case round =>
    obtain ⟨j, rfl, hj, ho, hb⟩ := hrel
    have hW := h.below hb
    have c0 := hW.c0
    by_cases hlt : j < fs.length
    · have t3 : decide ((j : Int) < ((fs.length : Nat) : Int)) = true := by simp; omega
      have c1 := hW.count j hlt
      have hnn := h.nn _ (List.getElem_mem hlt)
      have hst := usedTo_succ fs j
      rw [frAt_at hlt] at hst
      obtain ⟨N, hN⟩ : ∃ N, N = fs[j].n := ⟨_, rfl⟩
      rw [← hN] at c1 hnn hst
      clear hN hW
      have hul := usedTo_len fs j
      obtain ⟨vl, hvl⟩ : ∃ vl, vl = usedTo fs j := ⟨_, rfl⟩
      rw [← hvl] at ho hst hul
      clear hvl
      by_cases hx : N = 0
      · have t4 : decide (N > 0) = false := decide_eq_false (by omega)
        rw [if_neg (fun h => h hx), List.append_nil] at hst
        have HF := Lib.hid hst
        have HO := Lib.hid ho
        clear hx hst ho
        go_wp2
        go_roundw
        case rel => exact ⟨j + 1, by go_num, by omega, by rw [show usedTo fs (j + 1) = vl from HF]; exact HO, hb⟩
        case measure => simp [intOf]; omega
      · have t4 : decide (N > 0) = true := decide_eq_true (by omega)
        rw [if_pos hx] at hst
        have HF := Lib.hid hst
        have hle : ∀ b, u3.ownBlock = some b → W.heap.size ≤ b := fun b hb => (ho.lt b hb).1
        clear hx hst
        go_wp2_with (at_builtin; refine held ?_)
        unfold Held
        obtain ⟨W2, hW2⟩ : ∃ W2, W2 = wr.alloc (.cells #[.int .i64 (j : Int)] 3) := ⟨_, rfl⟩
        have bb : Below wr.heap.size wr W2 := by rw [hW2]; exact (Below.refl _ _).alloc (Nat.le_refl _) _
        have rr : RowI .i64 (wr.heap.size + 1) W2 (.slice (some ⟨wr.heap.size, 0, none⟩) 1 1) [(j : Int)] := by rw [hW2]; exact RowI.lit1 wr j
        have ho2 := ownsRow_same ho fun b hb => bb.block b (ho.lt b hb).2
        have bb2 := hb.trans (bb.mono hb.size)
        rw [← hW2]
        refine wpList_append_int rfl _ _ 46 rfl W.heap.size 3 i1 Try.underlying46 hi1 hz10 hz11 hz12 u3 vl.length vl rfl ho2 (some ⟨wr.heap.size, 0, none⟩) 1 1 _ [(j : Int)] rfl rr (by omega) bb2.size ?_
        intro v9 w9 o9 g9 hv9
        have b9 : Below W.heap.size W w9 := bb2.grown g9 bb2.size hle
        have O9 := Lib.hid o9
        clear o9 g9 hv9 ho ho2 hle bb rr hW2 bb2 c0 c1
        go_wp2
        go_roundw
        case rel => exact ⟨j + 1, by go_num, by omega, by rw [show usedTo fs (j + 1) = vl ++ [(j : Int)] from HF, List.length_append]; exact O9, b9⟩
        case measure => simp [intOf]; omega
    · have t3 : decide ((j : Int) < ((fs.length : Nat) : Int)) = false := by simp; omega
      obtain rfl : j = fs.length := by omega
      have HO := Lib.hid ho
      clear ho hW
      go_wp2
      go_ret
      rw [show U = usedTo fs fs.length from HU]
      exact ⟨_, rfl, HO, hb⟩
section
variable {P : Program} {o : Oper} {a : Act} {w : World}
theorem upV_make64 {K : Value → World → Prop} (t e : TypeId) (l c : Operand) (ho : o.op = .makeSlice t l c) (hl : a.eval l = .int .i64 64) (hc : a.eval c = .int .i64 64)
    (i : TypeInfo) (ht : P.underlying t = some (.slice e)) (hi : P.info? e = some i) (hz : i.zero = some (.int .u8 0)) (hs : i.size = 1) (hby : i.bytes = 1)
    (h : ∀ w', w'.ownsRow w.heap.size e 1 (.slice (some ⟨w.heap.size, 0, none⟩) 64 64) 64 (zeros.map (Value.int .u8)) → w.grownBy w' none → K (.slice (some ⟨w.heap.size, 0, none⟩) 64 64) w') : upV P K ((execOp a.eval o).run P w) := by
  obtain ⟨w', hrun, r1, r2⟩ := run_make_full (P := P) w w.heap.size t e i (.int .u8 0) 1 ht hi hz hs .i64 .i64 64 (by rw [hby]; decide) (by decide) (Nat.le_refl _)
  have hrun' : (Instr.makeSlice t (.int .i64 64) (.int .i64 64)).run P w = .ok (.slice (some ⟨w.heap.size, 0, none⟩) 64 64) w' := hrun
  unfold execOp
  simp only [ho, hl, hc, Sem.run_bind, hrun', Result.andThen_ok, Sem.run_pure]
  refine h w' ?_ r2
  have e1 : (madeCells (Value.int .u8 0).cells (64 * 1)).toList = zeros.map (Value.int .u8) := by
    show (madeCells #[Value.int .u8 0] 64).toList = _
    rw [toList_madeCells_one]; rfl
  rw [e1] at r1
  exact r1
end
section
variable {W W' W3 : World} {d gr cr gb cb : Nat} {fs : List Fr}
/-- a frame's bytes are another row -/
theorem DcAt.put (h : DcAt W d gr cr gb cb fs) (i : Nat) (hi : i < fs.length) (x : Fr) (hx : x.b.length = 64) (hn : 0 ≤ x.n) (v : Value) (hs : ∀ b t, docTag t → Tag W b t → b ≠ gr → W3.heap[b]? = W.heap[b]?)
    (hr : W3.ownsRow 0 3 1 (.slice (some ⟨gr, 0, none⟩) fs.length cr) fs.length ((fs.set i x).map fun x => .int .i64 x.n)) (hv : x.n ≠ 0 → W3.ownsRow 0 5 1 v 64 (x.b.map (Value.int .u8))) :
    DcAt (W3.setCell ⟨gb, i, none⟩ v) d gr cr gb cb (fs.set i x) := by
  obtain ⟨bv, h1, h2⟩ := h.byts
  have hbl : bv.length = fs.length := by have := h1.1; omega
  have tR : ∀ b t, t ≠ 3 → Tag W b t → b ≠ gr := fun b t ht hb => Tag.ne hb h.tagR ht
  have k1 : W3.ownsRow 0 23 1 (.slice (some ⟨gb, 0, none⟩) fs.length cb) fs.length bv := own_keep h1 fun b hb => hs b _ (.inr (.inr (.inl rfl))) hb (tR b _ (by decide) hb)
  have tB : Tag W3 gb 23 := own_tag k1 rfl
  have hne : ∀ b t, t ≠ 23 → Tag W3 b t → (W3.setCell ⟨gb, i, none⟩ v).heap[b]? = W3.heap[b]? := fun b t ht hb => Below.heap_setCell _ _ _ _ (Tag.ne hb tB ht)
  have k0 : W3.heap[d]? = W.heap[d]? := hs d _ (.inl rfl) h.tagD (tR d _ (by decide) h.tagD)
  refine ⟨?_, ?_, ⟨bv.set i v, ?_, ?_⟩, h.len.set i hx, ?_, by rw [List.length_set]; exact h.sm⟩
  · rw [hne d 56 (by decide) ⟨_, _, k0.trans h.at_⟩, k0, List.length_set]; exact h.at_
  · rw [List.length_set]; exact own_keep hr fun b hb => hne b _ (by decide) hb
  · rw [List.length_set]; exact (k1.stored i v).1
  · intro j hj hj2 hjn
    rw [List.length_set] at hj
    rw [List.getElem_set] at hjn
    rw [List.getElem_set, List.getElem_set]
    split
    · rename_i e; subst e
      rw [if_pos rfl] at hjn
      exact own_keep (hv hjn) fun b hb => hne b _ (by decide) hb
    · rename_i e
      rw [if_neg e] at hjn
      have k2 := own_keep (h2 j hj (by omega) hjn) fun b hb => hs b _ (.inr (.inr (.inr rfl))) hb (tR b _ (by decide) hb)
      exact own_keep k2 fun b hb => hne b _ (by decide) hb
  · intro y hy
    rcases List.mem_or_eq_of_mem_set hy with hy | rfl
    · exact h.nn y hy
    · exact hn
end
/-- what is free holds noughts -/
def ZeroF (fs : List Fr) : Prop := ∀ x ∈ fs, x.n = 0 → x.b = zeros
set_option maxRecDepth 100000 in
set_option maxHeartbeats 4000000 in
theorem dtake_any (d gr cr gb cb : Nat) (fs : List Fr) (W : World) (h : DcAt W d gr cr gb cb fs) (hzf : ZeroF fs) :
    Calls Try.prog 33 #[.pointer (some ⟨d, 0, none⟩)] W fun e W' => e = .returned (.tuple #[.int .i64 (takeV fs), .int .i64 (takeE fs)]) ∧ DcAt W' d gr cr gb cb (takeL fs) ∧ Wr (SDoc gr gb) (SDoc gr gb) W W' := by
  obtain ⟨i0, hi0, hz0, hz1, hz2⟩ := info_parts info_u8
  have hsm := h.sm
  have c0 := h.c0
  obtain ⟨hc, hm⟩ := h.capsR
  obtain ⟨hcB, hmB⟩ := h.capsB
  simp only [maxLen] at hm hmB
  have HZF := Lib.hid hzf
  clear hzf
  go_enter Try.func33, Try.ntmps33
  go_wp2
  go_loopw [4] (fun i wr => ∃ j : Nat, i = .int .i64 (j : Int) ∧ j ≤ fs.length ∧ wr = W ∧ Hid (∀ i (h : i < fs.length), i < j → fs[i].n ≠ 0)) (fun i _ => fs.length - (intOf i).toNat)
  case atStart => exact ⟨0, rfl, Nat.zero_le _, rfl, fun i h hj => absurd hj (Nat.not_lt_zero _)⟩
  case round =>
    obtain ⟨j, rfl, hj, rfl, hT⟩ := hrel
    by_cases hlt : j < fs.length
    · have t3 : decide ((j : Int) < ((fs.length : Nat) : Int)) = true := by simp; omega
      have c1 := h.count j hlt
      have hfz := h.refs.frozenAt j
      obtain ⟨N, hN⟩ : ∃ N, N = fs[j].n := ⟨_, rfl⟩
      rw [← hN] at c1
      have HN := Lib.hid hN
      clear hN
      by_cases hx : N = 0
      · have t4 : (N == 0) = true := by simpa using hx
        have hn0 : fs[j].n = 0 := by rw [← show N = fs[j].n from HN]; exact hx
        have htk : takeF fs = some j := by
          unfold takeF
          rw [List.findIdx?_eq_some_iff_getElem]
          exact ⟨hlt, by simpa using hn0, fun i hi => by simpa using (show ∀ i (h : i < fs.length), i < j → fs[i].n ≠ 0 from hT) i (by omega) hi⟩
        have hbz : fs[j].b = zeros := (show ∀ x ∈ fs, x.n = 0 → x.b = zeros from HZF) _ (List.getElem_mem hlt) hn0
        have e1 : takeV fs = j ∧ takeE fs = 0 ∧ takeL fs = fs.set j ⟨zeros, 1⟩ := by
          unfold takeV takeE takeL
          rw [htk]
          exact ⟨rfl, rfl, by simp only; rw [frAt_at hlt, hbz]⟩
        have HE := Lib.hid e1
        clear e1 htk hbz hn0 hx hT
        obtain ⟨W2, hW2⟩ : ∃ W2, W2 = wr.setCell ⟨gr, j, none⟩ (.int .i64 1) := ⟨_, rfl⟩
        have hw2 : Wr (SDoc gr gb) (SDoc gr gb) wr W2 := by rw [hW2]; exact (Wr.refl (SDoc gr gb) wr).setCell (.inl (.inl rfl)) _
        have hs2 : ∀ b, b ≠ gr → W2.heap[b]? = wr.heap[b]? := fun b hb => by rw [hW2]; exact Below.heap_setCell _ _ _ _ hb
        have hr2 : W2.ownsRow 0 3 1 (.slice (some ⟨gr, 0, none⟩) fs.length cr) fs.length ((fs.set j ⟨zeros, 1⟩).map fun x => .int .i64 x.n) := by
          rw [hW2, List.map_set]
          exact (h.refs.stored j _).1
        go_wp2_with fail
        rw [← hW2]
        have nd : d ≠ gr := Tag.ne h.tagD h.tagR (by decide)
        have nb : gb ≠ gr := Tag.ne h.tagB h.tagR (by decide)
        have hgl := h.tagB.lt
        have hdl := h.tagD.lt
        have hsz2 : W2.heap.size = wr.heap.size := by rw [hW2]; show (wr.heap.modify _ _).size = _; rw [Array.size_modify]
        have cv : ∀ W', Grows W2 W' → W'.cell? ⟨d, 1, none⟩ = some (.slice (some ⟨gb, 0, none⟩) fs.length cb) := fun W' hW => by
          have z := (hW.block d (by omega)).trans ((hs2 d nd).trans h.at_)
          rw [cell_of_row _ _ 1 _ _ _ z]; rfl
        have HCV := Lib.hid cv
        clear cv hW2 c0 c1 hfz
        refine wp_region_anyZ Grows 6 2 (by kernel_rfl) rfl ?_
        first
          | (refine anyZ_val 0 (Grows.pre) (by kernel_rfl) (by decide) rfl (by kernel_rfl) (by kernel_rfl) (by kernel_rfl) (by rfl) (v := ?av1) (fun W hW => ?ay1) (fun K hK => ?ar1); case ay1 => (have q1 := (show ∀ W', Grows W2 W' → _ from HCV) W (below_undrew hW); go_simp; first | done | rfl))
          | refine anyZ_skip 0 (Grows.pre) (by kernel_rfl) (by decide) rfl (by kernel_rfl) (by kernel_rfl) (by kernel_rfl) (by rfl) (fun K hK => ?_)
        go_simp
        refine hK _ ?_
        clear hK K
        first
          | (refine anyZ_val 1 (Grows.pre) (by kernel_rfl) (by decide) rfl (by kernel_rfl) (by kernel_rfl) (by kernel_rfl) (by rfl) (v := ?av2) (fun W hW => ?ay2) (fun K hK => ?ar2); case ay2 => (have q1 := (show ∀ W', Grows W2 W' → _ from HCV) W (below_undrew hW); go_simp; first | done | rfl))
          | refine anyZ_skip 1 (Grows.pre) (by kernel_rfl) (by decide) rfl (by kernel_rfl) (by kernel_rfl) (by kernel_rfl) (by rfl) (fun K hK => ?_)
        go_simp
        refine hK _ ?_
        clear hK K
        first
          | (refine anyZ_val 2 (Grows.pre) (by kernel_rfl) (by decide) rfl (by kernel_rfl) (by kernel_rfl) (by kernel_rfl) (by rfl) (v := ?av3) (fun W hW => ?ay3) (fun K hK => ?ar3); case ay3 => (have q1 := (show ∀ W', Grows W2 W' → _ from HCV) W (below_undrew hW); go_simp; first | done | rfl))
          | refine anyZ_skip 2 (Grows.pre) (by kernel_rfl) (by decide) rfl (by kernel_rfl) (by kernel_rfl) (by kernel_rfl) (by rfl) (fun K hK => ?_)
        go_simp
        refine hK _ ?_
        clear hK K
        first
          | (refine anyZ_val 3 (Grows.pre) (by kernel_rfl) (by decide) rfl (by kernel_rfl) (by kernel_rfl) (by kernel_rfl) (by rfl) (v := ?av4) (fun W hW => ?ay4) (fun K hK => ?ar4); case ay4 => (have q1 := (show ∀ W', Grows W2 W' → _ from HCV) W (below_undrew hW); go_simp; first | done | rfl))
          | refine anyZ_skip 3 (Grows.pre) (by kernel_rfl) (by decide) rfl (by kernel_rfl) (by kernel_rfl) (by kernel_rfl) (by rfl) (fun K hK => ?_)
        go_simp
        refine hK _ ?_
        clear hK K
        first
          | (refine anyZ_val 4 (Grows.pre) (by kernel_rfl) (by decide) rfl (by kernel_rfl) (by kernel_rfl) (by kernel_rfl) (by rfl) (v := ?av5) (fun W hW => ?ay5) (fun K hK => ?ar5); case ay5 => (have q1 := (show ∀ W', Grows W2 W' → _ from HCV) W (below_undrew hW); go_simp; first | done | rfl))
          | refine anyZ_skip 4 (Grows.pre) (by kernel_rfl) (by decide) rfl (by kernel_rfl) (by kernel_rfl) (by kernel_rfl) (by rfl) (fun K hK => ?_)
        go_simp
        refine hK _ ?_
        clear hK K
        refine anyZ_only 5 rfl (by kernel_rfl) (by rfl) (fun K hK => ?_)
        refine upV_make64 23 5 (.const (.int .i64 64)) (.const (.int .i64 64)) rfl rfl rfl i0 Try.underlying23 hi0 hz0 hz1 hz2 ?_
        intro w4 o4 g4
        have b4 : Below W2.drew.heap.size W2.drew w4 := (Below.refl _ W2.drew).grown g4 (Nat.le_refl _) (fun b h => by cases h)
        have b4' : Below W2.heap.size W2 w4 := below_undrew b4
        have hs4 : ∀ b t, docTag t → Tag wr b t → b ≠ gr → w4.heap[b]? = wr.heap[b]? := fun b t _ ht hb => (b4'.block b (by have := ht.lt; omega)).trans (hs2 b hb)
        have hr4 := ownsRow_same hr2 fun b hb => b4'.block b (by
          obtain rfl : gr = b := by simpa [Value.ownBlock] using hb
          have := h.tagR.lt; omega)
        have hP := h.put j hlt ⟨zeros, 1⟩ zeros_len (by decide) (.slice (some ⟨W2.drew.heap.size, 0, none⟩) 64 64) hs4 hr4 (fun _ => own_mono o4 (Nat.zero_le _) fun _ _ => rfl)
        obtain ⟨bv, k1, _⟩ := h.byts
        have k4 := own_keep k1 fun b hb => hs4 b _ (.inr (.inr (.inl rfl))) hb (Tag.ne hb h.tagR (by decide))
        have hbl : bv.length = fs.length := by have := k1.1; omega
        have cb4 : w4.cell? ⟨gb, j, none⟩ = some (bv[j]'(by omega)) := by rw [k4.cellAt j (by omega), List.getElem?_eq_getElem (by omega)]
        have fb4 := k4.frozenAt j
        have hwT : Wr (SDoc gr gb) (SDoc gr gb) wr (w4.setCell ⟨gb, j, none⟩ (.slice (some ⟨W2.drew.heap.size, 0, none⟩) 64 64)) := (hw2.trans (Wr.of_below b4')).setCell (.inl (.inr rfl)) _
        rw [show W2.drew.heap.size = wr.heap.size from hsz2] at hP hwT
        have HT := Lib.hid (And.intro hP hwT)
        obtain ⟨Bj, hBj⟩ : ∃ Bj, Bj = bv[j]'(by omega) := ⟨_, rfl⟩
        rw [← hBj] at cb4
        refine hK _ _ b4 ?_
        clear hP hwT k1 k4 hr4 hs4 b4' g4 o4 hr2 hs2 hw2 h HZF hBj
        clear hK K
        refine anyZ_frame (fun K hK => ?_)
        go_simp
        refine hK _ ?_
        clear hK K
        refine anyZ_done (by kernel_rfl) ?_
        refine wpAny_only 6 rfl (by kernel_rfl) (by rfl) (fun K hK => ?_)
        go_simp
        refine hK _ _ ?_
        clear hK K
        refine wpAny_frame (fun K hK => ?_)
        go_simp
        refine hK _ ?_
        clear hK K
        refine wpAny_only 7 rfl (by kernel_rfl) (by rfl) (fun K hK => ?_)
        go_simp
        refine hK _ _ ?_
        clear hK K
        refine wpAny_frame (fun K hK => ?_)
        go_simp
        refine hK _ ?_
        clear hK K
        refine wpAny_done (by kernel_rfl) ?_
        clear HCV cb4 fb4 b4
        go_wp2
        go_ret2
        obtain ⟨e1, e2, e3⟩ := (show _ ∧ _ ∧ _ from HE)
        rw [e1, e2, e3]
        exact ⟨rfl, HT⟩
      · have t4 : (N == 0) = false := by simpa using hx
        have HX := Lib.hid hx
        clear hx
        go_wp2
        go_roundw
        case rel =>
          refine ⟨j + 1, by go_num, by omega, by trivial, fun i h hij => ?_⟩
          rcases (by omega : i < j ∨ i = j) with h' | rfl
          · exact (show ∀ i (h : i < fs.length), i < j → fs[i].n ≠ 0 from hT) i h h'
          · rw [← show N = fs[i].n from HN]; exact HX
        case measure => simp [intOf]; omega
    · have t3 : decide ((j : Int) < ((fs.length : Nat) : Int)) = false := by simp; omega
      obtain rfl : j = fs.length := by omega
      have e1 : takeV fs = 0 ∧ takeE fs = 40 ∧ takeL fs = fs := by
        have htk : takeF fs = none := by
          unfold takeF
          rw [List.findIdx?_eq_none_iff]
          intro x hx
          obtain ⟨i, hi, rfl⟩ := List.mem_iff_getElem.1 hx
          simpa using (show ∀ i (h : i < fs.length), i < fs.length → fs[i].n ≠ 0 from hT) i hi hi
        unfold takeV takeE takeL
        rw [htk]
        exact ⟨rfl, rfl, rfl⟩
      have HE := Lib.hid e1
      have HH := Lib.hid h
      clear e1 h hT HZF
      go_wp2
      go_ret2
      obtain ⟨e1, e2, e3⟩ := (show _ ∧ _ ∧ _ from HE)
      rw [e1, e2, e3]
      exact ⟨rfl, HH, Wr.refl _ _⟩
theorem map_set_same {α β : Type} (f : α → β) (l : List α) (i : Nat) (hi : i < l.length) (x : α) (h : f x = f l[i]) : (l.set i x).map f = l.map f := by
  rw [List.map_set, h]
  apply List.ext_getElem?
  intro j
  rw [List.getElem?_set]
  split
  · rename_i e; subst e
    rw [if_pos (by rw [List.length_map]; exact hi), List.getElem?_map, List.getElem?_eq_getElem hi]; rfl
  · rfl
set_option maxRecDepth 100000 in
set_option maxHeartbeats 4000000 in
theorem ddouble_any (d gr cr gb cb : Nat) (fs : List Fr) (k : Int) (W : World) (h : DcAt W d gr cr gb cb fs) (hzf : ZeroF fs) :
    Calls Try.prog 38 #[.pointer (some ⟨d, 0, none⟩), .int .i64 k] W fun e W' => e = .returned (.tuple #[.int .i64 (dblV fs k), .int .i64 (dblE fs k)]) ∧ DcAt W' d gr cr gb cb (dblL fs k) ∧ Wr (SDoc gr gb) (SDoc gr gb) W W' := by
  have km := is_any d gr cr gb cb fs k W h
  cases hk : okF fs k with
  | false =>
    rw [hk] at km
    have K := Lib.hid km
    have e1 : dblV fs k = 0 ∧ dblE fs k = 41 ∧ dblL fs k = fs := by unfold dblV dblE dblL; rw [hk]; exact ⟨rfl, rfl, rfl⟩
    rw [e1.1, e1.2.1, e1.2.2]
    have HF := h
    clear km hk e1 h
    go_enter Try.func38, Try.ntmps38
    go_wp2_with (go_at_call 28; refine held ?_)
    unfold Held
    refine Calls.mono K ?_
    rintro e w2 ⟨rfl, rfl⟩
    go_wp2
    go_ret2
    exact ⟨rfl, HF, Wr.refl _ _⟩
  | true =>
    rw [hk] at km
    have K := Lib.hid km
    clear km
    have kt := dtake_any d gr cr gb cb fs W h hzf
    obtain ⟨i, hi, rfl, hn⟩ := okF_true hk
    cases ht : takeF fs with
    | none =>
      have e1 : dblV fs i = 0 ∧ dblE fs i = 40 ∧ dblL fs i = fs ∧ takeV fs = 0 ∧ takeE fs = 40 ∧ takeL fs = fs := by unfold dblV dblE dblL takeV takeE takeL; rw [hk, ht]; exact ⟨rfl, rfl, rfl, rfl, rfl, rfl⟩
      rw [e1.1, e1.2.1, e1.2.2.1]
      rw [e1.2.2.2.1, e1.2.2.2.2.1, e1.2.2.2.2.2] at kt
      have KT := Lib.hid kt
      clear hk e1 h kt ht
      go_enter Try.func38, Try.ntmps38
      go_wp2_with (go_at_call 28; refine held ?_)
      unfold Held
      refine Calls.mono K ?_
      rintro e w2 ⟨rfl, rfl⟩
      go_wp2_with (go_at_call 33; refine held ?_)
      unfold Held
      refine Calls.mono KT ?_
      rintro e w3 ⟨rfl, hT⟩
      have HT := Lib.hid hT
      clear hT KT K
      go_wp2
      go_ret2
      exact ⟨rfl, HT⟩
    | some n =>
      obtain ⟨hnl, hn0, _⟩ := takeF_some ht
      have e1 : dblV fs i = n ∧ dblE fs i = 0 ∧ dblL fs i = fs.set n ⟨fs[i].b, 1⟩ ∧ takeV fs = n ∧ takeE fs = 0 ∧ takeL fs = fs.set n ⟨fs[n].b, 1⟩ := by
        unfold dblV dblE dblL takeV takeE takeL
        rw [hk, ht]
        simp only [if_true]
        rw [frAt_at hi, frAt_at hnl]
        simp
      rw [e1.1, e1.2.1, e1.2.2.1]
      rw [e1.2.2.2.1, e1.2.2.2.2.1, e1.2.2.2.2.2] at kt
      have KT := Lib.hid kt
      have hni : n ≠ i := fun e => by subst e; exact hn hn0
      have h64i := h.len.at hi
      obtain ⟨fs1, hfs1⟩ : ∃ fs1, fs1 = fs.set n (⟨fs[n].b, 1⟩ : Fr) := ⟨_, rfl⟩
      have hl1 : fs1.length = fs.length := by rw [hfs1, List.length_set]
      have hi1 : i < fs1.length := by rw [hl1]; exact hi
      have hn1 : n < fs1.length := by rw [hl1]; exact hnl
      have hgi : fs1[i] = fs[i] := by simp only [hfs1]; exact List.getElem_set_ne hni (by simpa using hi)
      have hgn : fs1[n] = ⟨fs[n].b, 1⟩ := by simp only [hfs1]; exact List.getElem_set_self (by simpa using hnl)
      have hss : fs1.set n (⟨fs[i].b, 1⟩ : Fr) = fs.set n ⟨fs[i].b, 1⟩ := by rw [hfs1, List.set_set]
      rw [← hfs1] at KT
      clear hk e1 h kt ht hfs1
      go_enter Try.func38, Try.ntmps38
      go_wp2_with (go_at_call 28; refine held ?_)
      unfold Held
      refine Calls.mono K ?_
      rintro e w2 ⟨rfl, rfl⟩
      go_wp2_with (go_at_call 33; refine held ?_)
      unfold Held
      refine Calls.mono KT ?_
      rintro e w3 ⟨rfl, h3, hw3⟩
      have hsm := h3.sm
      obtain ⟨hcl, hcm⟩ := h3.capsB
      simp only [maxLen] at hcm
      obtain ⟨bv, k1, k2⟩ := h3.byts
      have hbl : bv.length = fs1.length := by have := k1.1; omega
      have hbi : i < bv.length := by omega
      have hP := h3.drew.put (W3 := w3.drew) n hn1 ⟨fs[i].b, 1⟩ h64i (by simp) bv[i] (fun _ _ _ _ _ => rfl) (by
        rw [map_set_same (fun x : Fr => Value.int .i64 x.n) fs1 n hn1 _ (by rw [hgn])]; exact h3.drew.refs) (fun _ => by
        have := k2 i hi1 hbi (by rw [hgi]; exact hn)
        rw [hgi] at this; exact this)
      rw [hss] at hP
      have hwT : Wr (SDoc gr gb) (SDoc gr gb) w2 (w3.drew.setCell ⟨gb, n, none⟩ bv[i]) := (hw3.drew).setCell (.inl (.inr rfl)) _
      obtain ⟨ai, ci, ei⟩ := sl_own (k2 i hi1 hbi (by rw [hgi]; exact hn))
      rw [ei] at hP hwT
      have HT := Lib.hid (And.intro hP hwT)
      have cv : ∀ W', Grows w3 W' → W'.cell? ⟨d, 1, none⟩ = some (.slice (some ⟨gb, 0, none⟩) fs.length cb) ∧ W'.cell? ⟨gb, i, none⟩ = some (.slice ai 64 ci) := fun W' hW => by
        refine ⟨by rw [← hl1]; exact (h3.below hW).c1, ?_⟩
        have k3 := own_keep k1 fun b hb => hW.block b hb.lt
        rw [k3.cellAt i (by omega), List.getElem?_eq_getElem hbi, ei]
      have cn : w3.drew.cell? ⟨gb, n, none⟩ = some (bv[n]'(by omega)) := by
        have : w3.cell? ⟨gb, n, none⟩ = some (bv[n]'(by omega)) := by rw [k1.cellAt n (by omega), List.getElem?_eq_getElem (by omega)]
        exact this
      have fn : w3.drew.frozen? ⟨gb, n, none⟩ = false := k1.frozenAt n
      have HCV := Lib.hid cv
      obtain ⟨Bn, hBn⟩ : ∃ Bn, Bn = bv[n]'(by omega) := ⟨_, rfl⟩
      rw [← hBn] at cn
      rw [hl1] at hi1 hn1 hsm hcl
      clear hP hwT cv k1 k2 h3 hw3 ei hBn K KT hgi hgn hss hn hn0 hbi hbl
      go_wp2_with fail
      refine wp_region_anyZ Grows 12 2 (by kernel_rfl) rfl ?_
      first
        | (refine anyZ_val 0 (Grows.pre) (by kernel_rfl) (by decide) rfl (by kernel_rfl) (by kernel_rfl) (by kernel_rfl) (by rfl) (v := ?av6) (fun W hW => ?ay6) (fun K hK => ?ar6); case ay6 => (obtain ⟨q1, q2⟩ := (show ∀ W', Grows w3 W' → _ from HCV) W (below_undrew hW); go_simp; first | done | rfl))
        | refine anyZ_skip 0 (Grows.pre) (by kernel_rfl) (by decide) rfl (by kernel_rfl) (by kernel_rfl) (by kernel_rfl) (by rfl) (fun K hK => ?_)
      go_simp
      refine hK _ ?_
      clear hK K
      first
        | (refine anyZ_val 1 (Grows.pre) (by kernel_rfl) (by decide) rfl (by kernel_rfl) (by kernel_rfl) (by kernel_rfl) (by rfl) (v := ?av7) (fun W hW => ?ay7) (fun K hK => ?ar7); case ay7 => (obtain ⟨q1, q2⟩ := (show ∀ W', Grows w3 W' → _ from HCV) W (below_undrew hW); go_simp; first | done | rfl))
        | refine anyZ_skip 1 (Grows.pre) (by kernel_rfl) (by decide) rfl (by kernel_rfl) (by kernel_rfl) (by kernel_rfl) (by rfl) (fun K hK => ?_)
      go_simp
      refine hK _ ?_
      clear hK K
      first
        | (refine anyZ_val 2 (Grows.pre) (by kernel_rfl) (by decide) rfl (by kernel_rfl) (by kernel_rfl) (by kernel_rfl) (by rfl) (v := ?av8) (fun W hW => ?ay8) (fun K hK => ?ar8); case ay8 => (obtain ⟨q1, q2⟩ := (show ∀ W', Grows w3 W' → _ from HCV) W (below_undrew hW); go_simp; first | done | rfl))
        | refine anyZ_skip 2 (Grows.pre) (by kernel_rfl) (by decide) rfl (by kernel_rfl) (by kernel_rfl) (by kernel_rfl) (by rfl) (fun K hK => ?_)
      go_simp
      refine hK _ ?_
      clear hK K
      first
        | (refine anyZ_val 3 (Grows.pre) (by kernel_rfl) (by decide) rfl (by kernel_rfl) (by kernel_rfl) (by kernel_rfl) (by rfl) (v := ?av9) (fun W hW => ?ay9) (fun K hK => ?ar9); case ay9 => (obtain ⟨q1, q2⟩ := (show ∀ W', Grows w3 W' → _ from HCV) W (below_undrew hW); go_simp; first | done | rfl))
        | refine anyZ_skip 3 (Grows.pre) (by kernel_rfl) (by decide) rfl (by kernel_rfl) (by kernel_rfl) (by kernel_rfl) (by rfl) (fun K hK => ?_)
      go_simp
      refine hK _ ?_
      clear hK K
      first
        | (refine anyZ_val 4 (Grows.pre) (by kernel_rfl) (by decide) rfl (by kernel_rfl) (by kernel_rfl) (by kernel_rfl) (by rfl) (v := ?av10) (fun W hW => ?ay10) (fun K hK => ?ar10); case ay10 => (obtain ⟨q1, q2⟩ := (show ∀ W', Grows w3 W' → _ from HCV) W (below_undrew hW); go_simp; first | done | rfl))
        | refine anyZ_skip 4 (Grows.pre) (by kernel_rfl) (by decide) rfl (by kernel_rfl) (by kernel_rfl) (by kernel_rfl) (by rfl) (fun K hK => ?_)
      go_simp
      refine hK _ ?_
      clear hK K
      first
        | (refine anyZ_val 5 (Grows.pre) (by kernel_rfl) (by decide) rfl (by kernel_rfl) (by kernel_rfl) (by kernel_rfl) (by rfl) (v := ?av11) (fun W hW => ?ay11) (fun K hK => ?ar11); case ay11 => (obtain ⟨q1, q2⟩ := (show ∀ W', Grows w3 W' → _ from HCV) W (below_undrew hW); go_simp; first | done | rfl))
        | refine anyZ_skip 5 (Grows.pre) (by kernel_rfl) (by decide) rfl (by kernel_rfl) (by kernel_rfl) (by kernel_rfl) (by rfl) (fun K hK => ?_)
      go_simp
      refine hK _ ?_
      clear hK K
      first
        | (refine anyZ_val 6 (Grows.pre) (by kernel_rfl) (by decide) rfl (by kernel_rfl) (by kernel_rfl) (by kernel_rfl) (by rfl) (v := ?av12) (fun W hW => ?ay12) (fun K hK => ?ar12); case ay12 => (obtain ⟨q1, q2⟩ := (show ∀ W', Grows w3 W' → _ from HCV) W (below_undrew hW); go_simp; first | done | rfl))
        | refine anyZ_skip 6 (Grows.pre) (by kernel_rfl) (by decide) rfl (by kernel_rfl) (by kernel_rfl) (by kernel_rfl) (by rfl) (fun K hK => ?_)
      go_simp
      refine hK _ ?_
      clear hK K
      first
        | (refine anyZ_val 7 (Grows.pre) (by kernel_rfl) (by decide) rfl (by kernel_rfl) (by kernel_rfl) (by kernel_rfl) (by rfl) (v := ?av13) (fun W hW => ?ay13) (fun K hK => ?ar13); case ay13 => (obtain ⟨q1, q2⟩ := (show ∀ W', Grows w3 W' → _ from HCV) W (below_undrew hW); go_simp; first | done | rfl))
        | refine anyZ_skip 7 (Grows.pre) (by kernel_rfl) (by decide) rfl (by kernel_rfl) (by kernel_rfl) (by kernel_rfl) (by rfl) (fun K hK => ?_)
      go_simp
      refine hK _ ?_
      clear hK K
      first
        | (refine anyZ_val 8 (Grows.pre) (by kernel_rfl) (by decide) rfl (by kernel_rfl) (by kernel_rfl) (by kernel_rfl) (by rfl) (v := ?av14) (fun W hW => ?ay14) (fun K hK => ?ar14); case ay14 => (obtain ⟨q1, q2⟩ := (show ∀ W', Grows w3 W' → _ from HCV) W (below_undrew hW); go_simp; first | done | rfl))
        | refine anyZ_skip 8 (Grows.pre) (by kernel_rfl) (by decide) rfl (by kernel_rfl) (by kernel_rfl) (by kernel_rfl) (by rfl) (fun K hK => ?_)
      go_simp
      refine hK _ ?_
      clear hK K
      first
        | (refine anyZ_val 9 (Grows.pre) (by kernel_rfl) (by decide) rfl (by kernel_rfl) (by kernel_rfl) (by kernel_rfl) (by rfl) (v := ?av15) (fun W hW => ?ay15) (fun K hK => ?ar15); case ay15 => (obtain ⟨q1, q2⟩ := (show ∀ W', Grows w3 W' → _ from HCV) W (below_undrew hW); go_simp; first | done | rfl))
        | refine anyZ_skip 9 (Grows.pre) (by kernel_rfl) (by decide) rfl (by kernel_rfl) (by kernel_rfl) (by kernel_rfl) (by rfl) (fun K hK => ?_)
      go_simp
      refine hK _ ?_
      clear hK K
      first
        | (refine anyZ_val 10 (Grows.pre) (by kernel_rfl) (by decide) rfl (by kernel_rfl) (by kernel_rfl) (by kernel_rfl) (by rfl) (v := ?av16) (fun W hW => ?ay16) (fun K hK => ?ar16); case ay16 => (obtain ⟨q1, q2⟩ := (show ∀ W', Grows w3 W' → _ from HCV) W (below_undrew hW); go_simp; first | done | rfl))
        | refine anyZ_skip 10 (Grows.pre) (by kernel_rfl) (by decide) rfl (by kernel_rfl) (by kernel_rfl) (by kernel_rfl) (by rfl) (fun K hK => ?_)
      go_simp
      refine hK _ ?_
      clear hK K
      first
        | (refine anyZ_val 11 (Grows.pre) (by kernel_rfl) (by decide) rfl (by kernel_rfl) (by kernel_rfl) (by kernel_rfl) (by rfl) (v := ?av17) (fun W hW => ?ay17) (fun K hK => ?ar17); case ay17 => (obtain ⟨q1, q2⟩ := (show ∀ W', Grows w3 W' → _ from HCV) W (below_undrew hW); go_simp; first | done | rfl))
        | refine anyZ_skip 11 (Grows.pre) (by kernel_rfl) (by decide) rfl (by kernel_rfl) (by kernel_rfl) (by kernel_rfl) (by rfl) (fun K hK => ?_)
      go_simp
      refine hK _ ?_
      clear hK K
      refine anyZ_done (by kernel_rfl) ?_
      refine wpAny_only 12 rfl (by kernel_rfl) (by rfl) (fun K hK => ?_)
      go_simp
      refine hK _ _ ?_
      clear hK K
      refine wpAny_frame (fun K hK => ?_)
      go_simp
      refine hK _ ?_
      clear hK K
      refine wpAny_only 13 rfl (by kernel_rfl) (by rfl) (fun K hK => ?_)
      go_simp
      refine hK _ _ ?_
      clear hK K
      refine wpAny_frame (fun K hK => ?_)
      go_simp
      refine hK _ ?_
      clear hK K
      refine wpAny_done (by kernel_rfl) ?_
      clear HCV cn fn
      go_wp2
      go_ret2
      exact ⟨rfl, HT⟩
end Go.Proofs.Ytdacdfnfbknndaa
