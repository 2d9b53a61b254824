/- What is written within a frame; the walks of Share, Drop. -/
import Derived.Test.YtdacdfnfbknndaaFrmA
import Derived.Test.YtdacdfnfbknndaaAppendUp
namespace Go.Proofs.Ytdacdfnfbknndaa
open Go Go.RowKit
attribute [local go_sem] upV_value upV_skip upV_enter
set_option linter.unusedVariables false
set_option linter.unnecessarySimpa false
set_option linter.unusedSimpArgs false
/-- some cells into a block, at once -/
theorem wp_store_at {P : Program} {o : Oper} {a : Act} {w : World} {K : Act → World → Prop} {Q : Exit → Act → World → Prop} (ty : TypeId) (x y : Operand) (ho : o.op = .store ty x y)
    (g off : Nat) (cells : Array Value) (hx : a.eval x = .pointer (some ⟨g, off, none⟩)) (hy : a.eval y = .agg cells)
    (t : TypeId) (cur : Array Value) (hg : w.heap[g]? = some (.cells cur t (0, 0))) (hi : (P.info? ty).map (·.size) = some cells.size)
    (hfit : off + cells.size ≤ cur.size) (h1 : cells.all (·.oneCell') = true)
    (h : K (a.put o.dst undef) (w.setRow g (cur.toList.take off ++ cells.toList ++ cur.toList.drop (off + cells.size)).toArray)) : o.wp P a w K Q := by
  have hs := run_storeCells_at (P := P) g off t cells.toList 0 cur w hg (by simpa using hfit) (fun v hv => (Array.all_eq_true_iff_forall_mem.1 h1) v (by simpa using hv))
  have hv : (storeVar ty ⟨g, off, none⟩ (.agg cells)).run P w = .ok () (w.setRow g (cur.toList.take off ++ cells.toList ++ cur.toList.drop (off + cells.size)).toArray) := by
    cases hq : P.info? ty with
    | none => simp [hq] at hi
    | some i =>
      have hs2 : cells.size = i.size := by simp [hq] at hi; omega
      simp only [Nat.add_zero, Array.length_toList] at hs
      simp [storeVar, sizeOf, typeInfo, hq, Value.cells, hs2]
      rw [hs2] at hs
      simpa using hs
  unfold Oper.wp execOp
  simp only [ho, hx, hy, Instr.storeAt, Instr.sureAddr, Sem.run_bind, Sem.run_pure, Result.andThen_ok, hv]
  exact h
theorem wpList_store_at {P : Program} {ops : Array Oper} {rest : List Oper} {o : Oper} {a : Act} {w : World} {Q : Exit → Act → World → Prop} (hgd : o.guard = none) (ty : TypeId) (x y : Operand) (ho : o.op = .store ty x y)
    (g off : Nat) (cells : Array Value) (hx : a.eval x = .pointer (some ⟨g, off, none⟩)) (hy : a.eval y = .agg cells)
    (t : TypeId) (cur : Array Value) (hg : w.heap[g]? = some (.cells cur t (0, 0))) (hi : (P.info? ty).map (·.size) = some cells.size)
    (hfit : off + cells.size ≤ cur.size) (h1 : cells.all (·.oneCell') = true)
    (h : wpList P ops Q rest (a.put o.dst undef) (w.setRow g (cur.toList.take off ++ cells.toList ++ cur.toList.drop (off + cells.size)).toArray)) : wpList P ops Q (o :: rest) a w :=
  wpList_plain hgd fun _ hK => wp_store_at ty x y ho g off cells hx hy t cur hg hi hfit h1 (hK _ _ h)
theorem at_store {P : Program} {ops : Array Oper} {rest : List Oper} {o : Oper} {a : Act} {w : World} {Q : Exit → Act → World → Prop} {t : TypeId} {x y : Operand} (ho : o.op = .store t x y) (h : Held (wpList P ops Q (o :: rest) a w)) : wpList P ops Q (o :: rest) a w := h
section
variable {W W' : World} {p g cap : Nat} {fs : List Fr}
/-- the block's own cells -/
theorem FrAt.cur (h : FrAt W p g cap fs) : ∃ cur : Array Value, W.heap[g]? = some (.cells cur 67 (0, 0)) ∧ cur.size = cap * 65 ∧ cur.toList.take (fs.length * 65) = flatFr fs := by
  rcases h.own.2 with ⟨h1, _⟩ | ⟨g', cap', cur, h1, _, h3, _, _, h6, h7⟩
  · cases h1
  · injection h1 with e1 _ e2; injection e1 with e1; injection e1 with e1 _ _
    subst e1 e2
    exact ⟨cur, h3, h6, h7⟩
/-- what is written within a frame -/
theorem FrAt.write (h : FrAt W p g cap fs) (i : Nat) (hi : i < fs.length) (s : Nat) (vs : List Value) (hs : s + vs.length ≤ 65) (x : Fr) (hx64 : x.b.length = 64)
    (hx : (encF fs[i]).take s ++ vs ++ (encF fs[i]).drop (s + vs.length) = encF x) (cur : Array Value) (hc : W.heap[g]? = some (.cells cur 67 (0, 0))) :
    FrAt (W.setRow g (cur.toList.take (i * 65 + s) ++ vs ++ cur.toList.drop (i * 65 + s + vs.length)).toArray) p g cap (fs.set i x) ∧ Wr (· = g) (· = g) W (W.setRow g (cur.toList.take (i * 65 + s) ++ vs ++ cur.toList.drop (i * 65 + s + vs.length)).toArray) ∧ i * 65 + s + vs.length ≤ cur.size := by
  obtain ⟨c2, hc2, hsz, htk⟩ := h.cur
  rw [hc] at hc2
  injection hc2 with hc2; injection hc2 with hc2 _ _
  subst hc2
  obtain ⟨hl, hm⟩ := h.caps
  have hfl := flatFr_len h.len
  have hcl : cur.toList.length = cap * 65 := by rw [Array.length_toList, hsz]
  have hle : i * 65 + s + vs.length ≤ fs.length * 65 := by omega
  refine ⟨⟨?_, ⟨?_, .inr ⟨g, cap, _, ?_, Nat.zero_le _, setRow_heap _ _ _ _ _ _ hc, ?_, hm, ?_, ?_⟩⟩, h.len.set i hx64, by rw [List.length_set]; exact h.pos, by rw [List.length_set]; exact h.sm⟩, (Wr.refl (· = g) W).setRow (.inl rfl) _, by rw [hsz]; omega⟩
  · rw [setRow_other _ _ _ _ h.ne, List.length_set]; exact h.at_
  · rw [flatFr_len (h.len.set i hx64)]
  · rfl
  · rw [List.length_set]; exact hl
  · simp only [List.size_toArray, List.length_append, List.length_take, List.length_drop, hcl]; omega
  · rw [← flatFr_write h.len i hi s vs hs x hx, ← htk, List.length_set]
    rw [List.take_take, Nat.min_eq_left (by omega), List.drop_take]
    show List.take _ (_ ++ _ ++ _) = _
    rw [List.take_append, List.take_of_length_le (by simp only [List.length_append, List.length_take, hcl]; omega)]
    congr 2
    simp only [List.length_append, List.length_take, hcl]; omega
/-- a count -/
theorem FrAt.setN (h : FrAt W p g cap fs) (i : Nat) (hi : i < fs.length) (n : Int) :
    FrAt (W.setCell ⟨g, i * 65 + 64, none⟩ (.int .i64 n)) p g cap (fs.set i ⟨fs[i].b, n⟩) ∧ Wr (· = g) (· = g) W (W.setCell ⟨g, i * 65 + 64, none⟩ (.int .i64 n)) := by
  refine ⟨⟨?_, ?_, h.len.set i (h.len.at hi), by rw [List.length_set]; exact h.pos, by rw [List.length_set]; exact h.sm⟩, (Wr.refl (· = g) W).setCell (.inl rfl) _⟩
  · rw [Below.heap_setCell _ _ _ _ h.ne, List.length_set]; exact h.at_
  · rw [← flatFr_setCell h.len i hi, List.length_set]
    exact (h.own.stored _ _).1
end
theorem encF_one (x : Fr) : (encF x).toArray.all (·.oneCell') = true := by
  rw [Array.all_eq_true_iff_forall_mem]
  intro v hv
  simp only [List.mem_toArray, encF, List.mem_append, List.mem_map, List.mem_singleton] at hv
  rcases hv with ⟨z, _, rfl⟩ | rfl <;> rfl
/-- counts are small -/
def Small (fs : List Fr) : Prop := ∀ x ∈ fs, 0 ≤ x.n ∧ x.n ≤ 1000000
theorem Small.at {fs : List Fr} (h : Small fs) {i : Nat} (hi : i < fs.length) : 0 ≤ fs[i].n ∧ fs[i].n ≤ 1000000 := h _ (List.getElem_mem hi)
def shareF (fs : List Fr) (k : Int) : List Fr := if okF fs k then fs.set k.toNat ⟨(frAt fs k).b, (frAt fs k).n + 1⟩ else fs
theorem shareF_at {fs : List Fr} {i : Nat} (hi : i < fs.length) (h : okF fs i = true) : shareF fs i = fs.set i ⟨fs[i].b, fs[i].n + 1⟩ := by
  unfold shareF
  rw [if_pos h, Int.toNat_natCast, frAt_at hi]
set_option maxRecDepth 100000 in
set_option maxHeartbeats 4000000 in
theorem share_any (p g cap : Nat) (fs : List Fr) (k : Int) (W : World) (h : FrAt W p g cap fs) (hs : Small fs) :
    Calls Try.prog 29 #[.pointer (some ⟨p, 0, none⟩), .int .i64 k] W fun e W' => e = .returned (.int .i64 (if okF fs k then 0 else 41)) ∧ FrAt W' p g cap (shareF fs k) ∧ Wr (· = g) (· = g) W W' := by
  have c0 := h.c0
  have hsm := h.sm
  obtain ⟨hc, hm⟩ := h.caps
  simp only [maxLen] at hm
  have km := may_any p g cap fs k W h
  cases hk : okF fs k with
  | false =>
    rw [hk] at km
    have K := Lib.hid km
    have hf : shareF fs k = fs := if_neg (by rw [hk]; exact Bool.false_ne_true)
    rw [hf]
    have HF := h
    clear km hk hf h
    go_enter Try.func29, Try.ntmps29
    go_wp2_with (go_at_call 30; refine held ?_)
    unfold Held
    refine Calls.mono K ?_
    rintro e w2 ⟨rfl, rfl⟩
    simp only [Bool.false_eq_true, if_false]
    go_wp2
    go_ret
    exact ⟨rfl, HF, Wr.refl _ _⟩
  | true =>
    rw [hk] at km
    have K := Lib.hid km
    clear km
    obtain ⟨i, hi, rfl, hn⟩ := okF_true hk
    rw [shareF_at hi hk]
    have c1 := h.count i hi
    have hN := hs.at hi
    have hfz := h.own.frozenAt (i * 65 + 64)
    have hT := Lib.hid (h.setN i hi (fs[i].n + 1))
    obtain ⟨N, hN'⟩ : ∃ N, N = fs[i].n := ⟨_, rfl⟩
    rw [← hN'] at c1 hN hT
    clear h hk hn hs
    rw [← hN']
    clear hN'
    go_enter Try.func29, Try.ntmps29
    go_wp2_with (go_at_call 30; refine held ?_)
    unfold Held
    refine Calls.mono K ?_
    rintro e w2 ⟨rfl, rfl⟩
    simp only [if_true]
    go_wp2
    go_ret
    exact ⟨rfl, hT⟩
def zeros : List Int := List.replicate 64 0
theorem zeroFr (w : World) : (zeroValue 67).run Try.prog w = .ok (.agg (encF ⟨zeros, 0⟩).toArray) w := by kernel_rfl
def dropF (fs : List Fr) (k : Int) : List Fr := if okF fs k then fs.set k.toNat (if (frAt fs k).n = 1 then ⟨zeros, 0⟩ else ⟨(frAt fs k).b, (frAt fs k).n - 1⟩) else fs
set_option maxRecDepth 100000 in
set_option maxHeartbeats 4000000 in
theorem drop_any (p g cap : Nat) (fs : List Fr) (k : Int) (W : World) (h : FrAt W p g cap fs) (hs : Small fs) :
    Calls Try.prog 24 #[.pointer (some ⟨p, 0, none⟩), .int .i64 k] W fun e W' => e = .returned (.tuple #[.int .i64 (if okF fs k then (frAt fs k).n - 1 else 0), .int .i64 (if okF fs k then 0 else 41)]) ∧ FrAt W' p g cap (dropF fs k) ∧ Wr (· = g) (· = g) W W' := by
  have c0 := h.c0
  have hsm := h.sm
  obtain ⟨hc, hm⟩ := h.caps
  simp only [maxLen] at hm
  have km := may_any p g cap fs k W h
  cases hk : okF fs k with
  | false =>
    rw [hk] at km
    have K := Lib.hid km
    have hf : dropF fs k = fs := if_neg (by rw [hk]; exact Bool.false_ne_true)
    rw [hf]
    have HF := h
    clear km hk hf h
    go_enter Try.func24, Try.ntmps24
    go_wp2_with (go_at_call 30; refine held ?_)
    unfold Held
    refine Calls.mono K ?_
    rintro e w2 ⟨rfl, rfl⟩
    simp only [Bool.false_eq_true, if_false]
    go_wp2
    go_ret2
    exact ⟨rfl, HF, Wr.refl _ _⟩
  | true =>
    rw [hk] at km
    have K := Lib.hid km
    clear km
    obtain ⟨i, hi, rfl, hn⟩ := okF_true hk
    have hdf : dropF fs i = fs.set i (if fs[i].n = 1 then ⟨zeros, 0⟩ else ⟨fs[i].b, fs[i].n - 1⟩) := by
      unfold dropF
      rw [if_pos hk, Int.toNat_natCast, frAt_at hi]
    rw [hdf, frAt_at hi]
    have c1 := h.count i hi
    have hN := hs.at hi
    have hfz := h.own.frozenAt (i * 65 + 64)
    obtain ⟨hT1, hT2⟩ := h.setN i hi (fs[i].n - 1)
    have hi2 : i < (fs.set i (⟨fs[i].b, fs[i].n - 1⟩ : Fr)).length := by rw [List.length_set]; exact hi
    have c2 := hT1.count i hi2
    rw [List.getElem_set_self] at c2
    obtain ⟨cur, hcur, _⟩ := hT1.cur
    have hT3 := hT1.write i hi2 0 (encF ⟨zeros, 0⟩) (by decide) ⟨zeros, 0⟩ rfl (by
      rw [List.take_zero, List.nil_append, List.drop_eq_nil_of_le (by rw [encF_len (hT1.len.at hi2)]; decide), List.append_nil]) cur hcur
    rw [List.set_set] at hT3
    obtain ⟨N, hN'⟩ : ∃ N, N = fs[i].n := ⟨_, rfl⟩
    rw [← hN'] at c1 hN hT1 hT2 hcur hT3 c2 hn
    obtain ⟨W2, hW2⟩ : ∃ W2, W2 = W.setCell ⟨g, i * 65 + 64, none⟩ (.int .i64 (N - 1)) := ⟨_, rfl⟩
    rw [← hW2] at hT1 hT2 hT3 hcur
    simp only at c2
    rw [← hN']
    obtain ⟨B, hB⟩ : ∃ B, B = fs[i].b := ⟨_, rfl⟩
    rw [← hB] at hT1 ⊢
    clear h hk hs hN' hdf hB
    by_cases hN1 : N = 1
    · have t1 : (N - 1 == 0) = true := by simp; omega
      rw [if_pos hN1, if_pos rfl, if_pos rfl, show N - 1 = 0 by omega]
      obtain ⟨W3, hW3⟩ : ∃ W3, W3 = W2.setRow g (cur.toList.take (i * 65 + 0) ++ encF ⟨zeros, 0⟩ ++ cur.toList.drop (i * 65 + 0 + (encF ⟨zeros, 0⟩).length)).toArray := ⟨_, rfl⟩
      rw [← hW3] at hT3
      obtain ⟨hT3, hT4, hfit⟩ := hT3
      have hi3 : i < (fs.set i (⟨zeros, 0⟩ : Fr)).length := by rw [List.length_set]; exact hi
      have c3 := hT3.count i hi3
      rw [List.getElem_set_self] at c3
      simp only at c3
      have HT := Lib.hid (show FrAt W3 p g cap (fs.set i ⟨zeros, 0⟩) ∧ Wr (· = g) (· = g) W W3 from ⟨hT3, hT2.trans hT4⟩)
      have HW := Lib.hid hW2
      have HV := Lib.hid hW3
      rw [hW2] at hcur
      clear hT3 hT1 hT4 hT2 hN1 hi3 hi2 hW2 hW3 hn
      have hz := zeroFr
      obtain ⟨Z, hZ⟩ : ∃ Z, Z = (encF ⟨zeros, 0⟩).toArray := ⟨_, rfl⟩
      rw [← hZ] at hz
      have HZ := Lib.hid hZ
      clear hZ
      go_enter Try.func24, Try.ntmps24
      go_wp2_with (go_at_call 30; refine held ?_)
      unfold Held
      refine Calls.mono K ?_
      rintro e w2 ⟨rfl, rfl⟩
      simp only [if_true]
      clear K
      go_wp2_with ((fail_if_success (unfold Held)); refine at_store (t := 67) rfl ?_)
      unfold Held
      refine wpList_store_at rfl 67 (.tmp 34) (.tmp 33) rfl g (i * 65) Z rfl rfl 67 cur hcur (by rw [show Z = _ from HZ]; kernel_rfl) (by rw [show Z = _ from HZ]; exact hfit) (by rw [show Z = _ from HZ]; exact encF_one _) ?_
      rw [show Z = _ from HZ]
      rw [← show W2 = _ from HW]
      rw [show W2.setRow g (cur.toList.take (i * 65) ++ (encF ⟨zeros, 0⟩).toArray.toList ++ cur.toList.drop (i * 65 + (encF ⟨zeros, 0⟩).toArray.size)).toArray = W3 from (show W3 = _ from HV).symm]
      clear HW HV hcur hfit c2 c1 c0 hfz hz HZ
      go_wp2
      go_ret2
      exact ⟨rfl, HT⟩
    · have t1 : (N - 1 == 0) = false := by simp; omega
      rw [if_neg hN1, if_pos rfl, if_pos rfl]
      rw [hW2] at hT1 hT2
      have HT := Lib.hid (And.intro hT1 hT2)
      clear hT3 hcur hT1 hT2 hN1 hi2 hW2 hn
      go_enter Try.func24, Try.ntmps24
      go_wp2_with (go_at_call 30; refine held ?_)
      unfold Held
      refine Calls.mono K ?_
      rintro e w2 ⟨rfl, rfl⟩
      simp only [if_true]
      clear K
      go_wp2
      go_ret2
      exact ⟨rfl, HT⟩
end Go.Proofs.Ytdacdfnfbknndaa
