/- The walks of may, Len, Refs, Share, in. -/
import Derived.Test.YtdacdfnfbknndaaFrmMath
import Derived.Test.YtdacdfnfbknndaaAppendVals
import Derived.Test.YtdacdfnfbknndaaAnyV
import Derived.Test.YtdacdfnfbknndaaIter
import Derived.Test.YtdacdfnfbknndaaRows
import Derived.WalkKit
import Derived.ProofKit
import Derived.OpenShut
import Derived.Outline
import Derived.Deep.QuietTactic
import Derived.BigQuiet
import Derived.Lib.Hide
import Derived.WalkSpells
import Derived.WalkLawsBesides
import Derived.Laws.Tables
import Derived.Laws.StructEq
import Derived.Laws.OwnMore
import Derived.Laws.CopyRow
import Derived.BigRegion
import Derived.Deep.Cut
import Derived.Deep.CutRange
import Derived.Deep.CutBlock
import Derived.Deep.RegionWith
namespace Go.Proofs.Ytdacdfnfbknndaa
open Go Go.RowKit
attribute [local go_sem] upV_value upV_skip upV_enter
set_option linter.unusedVariables false
set_option linter.unnecessarySimpa false
set_option linter.unusedSimpArgs false
/-- some cells from within a block, at once -/
theorem wp_load_at {P : Program} {o : Oper} {a : Act} {w : World} {K : Act → World → Prop} {Q : Exit → Act → World → Prop} (ty : TypeId) (x : Operand) (ho : o.op = .load ty x)
    (g off : Nat) (hx : a.eval x = .pointer (some ⟨g, off, none⟩)) (cs : List Value) (d : TypeDesc) (hc : ∀ j v, cs[j]? = some v → w.cell? ⟨g, off + j, none⟩ = some v)
    (hu : P.underlying ty = some d) (hd : (match d with | .struct _ | .array _ _ => true | _ => false) = true) (hi : (P.info? ty).map (·.size) = some cs.length)
    (h : K (a.put o.dst (.agg cs.toArray)) w) : o.wp P a w K Q := by
  have hl : (loadCells ⟨g, off, none⟩ cs.length).run P w = .ok cs.toArray w :=
    run_loadCells_list (P := P) w ⟨g, off, none⟩ cs (fun j v hv => by
      have hadd : (⟨g, off, none⟩ : Addr).add j = ⟨g, off + j, none⟩ := by unfold Addr.add; split <;> simp_all
      rw [hadd]; exact hc j v hv)
  have hv : (loadVar ty ⟨g, off, none⟩).run P w = .ok (.agg cs.toArray) w := by
    cases hq : P.info? ty with
    | none => simp [hq] at hi
    | some i =>
      have hs : i.size = cs.length := by simpa [hq] using hi
      have hagg : (isAgg ty).run P w = .ok true w := by
        unfold isAgg
        rw [Sem.run_bind, run_underlying hu w]
        cases d <;> simp_all
      simp [loadVar, Sem.run_bind, hagg, sizeOf, typeInfo, hq, hs, hl]
  unfold Oper.wp execOp
  simp only [ho, hx, Instr.loadAt, Instr.sureAddr, Sem.run_bind, Sem.run_pure, Result.andThen_ok, hv]
  exact h
theorem wpList_load_at {P : Program} {ops : Array Oper} {rest : List Oper} {o : Oper} {a : Act} {w : World} {Q : Exit → Act → World → Prop} (hgd : o.guard = none) (ty : TypeId) (x : Operand) (ho : o.op = .load ty x)
    (g off : Nat) (hx : a.eval x = .pointer (some ⟨g, off, none⟩)) (cs : List Value) (d : TypeDesc) (hc : ∀ j v, cs[j]? = some v → w.cell? ⟨g, off + j, none⟩ = some v)
    (hu : P.underlying ty = some d) (hd : (match d with | .struct _ | .array _ _ => true | _ => false) = true) (hi : (P.info? ty).map (·.size) = some cs.length)
    (h : wpList P ops Q rest (a.put o.dst (.agg cs.toArray)) w) : wpList P ops Q (o :: rest) a w :=
  wpList_plain hgd fun _ hK => wp_load_at ty x ho g off hx cs d hc hu hd hi (hK _ _ h)
/-- a memory at p, its frames in block g -/
structure FrAt (W : World) (p g cap : Nat) (fs : List Fr) : Prop where
  at_ : W.heap[p]? = some (.cells #[.slice (some ⟨g, 0, none⟩) fs.length cap] 62)
  own : W.ownsRow 0 67 65 (.slice (some ⟨g, 0, none⟩) fs.length cap) fs.length (flatFr fs)
  len : Len64 fs
  pos : 0 < fs.length
  sm : fs.length ≤ 256
section
variable {W W' : World} {p g cap : Nat} {fs : List Fr}
theorem FrAt.ltp (h : FrAt W p g cap fs) : p < W.heap.size := (Array.getElem?_eq_some_iff.1 h.at_).1
theorem FrAt.ltg (h : FrAt W p g cap fs) : g < W.heap.size := (h.own.lt g rfl).2
theorem FrAt.same (h : FrAt W p g cap fs) (h1 : W'.heap[p]? = W.heap[p]?) (h2 : W'.heap[g]? = W.heap[g]?) : FrAt W' p g cap fs :=
  ⟨h1.trans h.at_, ownsRow_same h.own (fun b hb => by obtain rfl : g = b := by simpa [Value.ownBlock] using hb
                                                      exact h2), h.len, h.pos, h.sm⟩
theorem FrAt.below (h : FrAt W p g cap fs) (hb : Below W.heap.size W W') : FrAt W' p g cap fs := h.same (hb.block p h.ltp) (hb.block g h.ltg)
theorem FrAt.drew (h : FrAt W p g cap fs) : FrAt W.drew p g cap fs := h.same rfl rfl
theorem FrAt.c0 (h : FrAt W p g cap fs) : W.cell? ⟨p, 0, none⟩ = some (.slice (some ⟨g, 0, none⟩) fs.length cap) := by rw [cell_of_row _ _ 0 _ _ _ h.at_]; rfl
theorem FrAt.caps (h : FrAt W p g cap fs) : fs.length ≤ cap ∧ cap ≤ maxLen := by
  rcases h.own.2 with ⟨h1, _⟩ | ⟨g', cap', cur, h1, _, _, h4, h5, _⟩
  · cases h1
  · injection h1 with _ _ e; subst e; exact ⟨h4, h5⟩
theorem FrAt.ne (h : FrAt W p g cap fs) : p ≠ g := by
  rintro rfl
  rcases h.own.2 with ⟨h1, _⟩ | ⟨g', cap', cur, h1, _, h3, _⟩
  · cases h1
  · injection h1 with e _ _; injection e with e; injection e with e _ _
    subst e
    rw [h.at_] at h3
    injection h3 with h3; injection h3 with _ e1 _
    exact absurd e1 (by decide)
theorem FrAt.cells (h : FrAt W p g cap fs) (i : Nat) (hi : i < fs.length) : ∀ j v, (encF fs[i])[j]? = some v → W.cell? ⟨g, i * 65 + j, none⟩ = some v := fun j v hv => by
  have hj : j < 65 := by
    have := (List.getElem?_eq_some_iff.1 hv).1
    rwa [encF_len (h.len.at hi)] at this
  rw [h.own.cellAt _ (by omega), flatFr_get h.len i hi j hj, hv]
theorem FrAt.count (h : FrAt W p g cap fs) (i : Nat) (hi : i < fs.length) : W.cell? ⟨g, i * 65 + 64, none⟩ = some (.int .i64 fs[i].n) := h.cells i hi 64 _ (encF_count (h.len.at hi))
end
/-- is frame k there, and taken? -/
def okF (fs : List Fr) (k : Int) : Bool := decide (0 ≤ k) && (fs[k.toNat]?).any (fun x => decide (x.n ≠ 0))
theorem okF_at {fs : List Fr} {i : Nat} (hi : i < fs.length) : okF fs i = decide (fs[i].n ≠ 0) := by
  unfold okF
  rw [Int.toNat_natCast, List.getElem?_eq_getElem hi, decide_eq_true (by omega)]
  simp
theorem okF_out {fs : List Fr} {k : Int} (h : k < 0 ∨ (fs.length : Int) ≤ k) : okF fs k = false := by
  unfold okF
  rcases h with h | h
  · rw [decide_eq_false (by omega)]; rfl
  · rw [List.getElem?_eq_none (by omega)]; simp
theorem okF_true {fs : List Fr} {k : Int} (h : okF fs k = true) : ∃ (i : Nat) (hi : i < fs.length), k = i ∧ fs[i].n ≠ 0 := by
  by_cases hk : k < 0 ∨ (fs.length : Int) ≤ k
  · rw [okF_out hk] at h; cases h
  · have hi : k.toNat < fs.length := by omega
    refine ⟨k.toNat, hi, by omega, ?_⟩
    rw [show k = ((k.toNat : Nat) : Int) by omega, okF_at hi] at h
    simpa using h
def frAt (fs : List Fr) (k : Int) : Fr := (fs[k.toNat]?).getD ⟨[], 0⟩
theorem frAt_at {fs : List Fr} {i : Nat} (hi : i < fs.length) : frAt fs i = fs[i] := by unfold frAt; rw [Int.toNat_natCast, List.getElem?_eq_getElem hi]; rfl
set_option maxRecDepth 100000 in
set_option maxHeartbeats 4000000 in
theorem may_any (p g cap : Nat) (fs : List Fr) (k : Int) (W : World) (h : FrAt W p g cap fs) :
    Calls Try.prog 30 #[.pointer (some ⟨p, 0, none⟩), .int .i64 k] W fun e W' => e = .returned (.int .i64 (if okF fs k then 0 else 41)) ∧ W' = W := by
  have c0 := h.c0
  have hp := h.pos
  have hs := h.sm
  obtain ⟨hc, hm⟩ := h.caps
  have z0 : (((fs.length : Nat) : Int) == 0) = false := beq_eq_false_iff_ne.2 (by omega)
  by_cases h1 : k < 0
  · have t1 : decide (k < 0) = true := decide_eq_true h1
    rw [okF_out (.inl h1)]
    clear h
    go_enter Try.func30, Try.ntmps30
    go_wp2
    go_ret
    exact ⟨rfl, rfl⟩
  have t1 : decide (k < 0) = false := decide_eq_false h1
  by_cases h2 : (fs.length : Int) ≤ k
  · have t2 : decide (k ≥ (fs.length : Int)) = true := decide_eq_true h2
    rw [okF_out (.inr h2)]
    clear h
    go_enter Try.func30, Try.ntmps30
    go_wp2
    go_ret
    exact ⟨rfl, rfl⟩
  have t2 : decide (k ≥ (fs.length : Int)) = false := decide_eq_false h2
  obtain ⟨i, rfl⟩ : ∃ i : Nat, k = i := ⟨k.toNat, by omega⟩
  have hi : i < fs.length := by omega
  have c1 := h.count i hi
  rw [okF_at hi]
  obtain ⟨N, hN⟩ : ∃ N, N = fs[i].n := ⟨_, rfl⟩
  rw [← hN] at c1 ⊢
  clear h hN h1 h2
  simp only [maxLen] at hm
  by_cases h3 : N = 0
  · subst h3
    go_enter Try.func30, Try.ntmps30
    go_wp2
    go_ret
    exact ⟨rfl, rfl⟩
  · have t3 : (N == 0) = false := by simpa using h3
    rw [decide_eq_true h3]
    clear h3
    go_enter Try.func30, Try.ntmps30
    go_wp2
    go_ret
    exact ⟨rfl, rfl⟩
set_option maxHeartbeats 1000000 in
theorem len_any (p g cap : Nat) (fs : List Fr) (W : World) (h : FrAt W p g cap fs) :
    Calls Try.prog 27 #[.pointer (some ⟨p, 0, none⟩)] W fun e W' => e = .returned (.int .i64 (fs.length : Int)) ∧ W' = W := by
  have c0 := h.c0
  go_enter Try.func27, Try.ntmps27
  go_wp2
  go_ret
  exact ⟨rfl, rfl⟩
set_option maxHeartbeats 1000000 in
theorem refs_any (p g cap : Nat) (fs : List Fr) (k : Int) (W : World) (h : FrAt W p g cap fs) :
    Calls Try.prog 19 #[.pointer (some ⟨p, 0, none⟩), .int .i64 k] W fun e W' => e = .returned (.int .i64 (if okF fs k then (frAt fs k).n else 0)) ∧ W' = W := by
  have c0 := h.c0
  have hs := h.sm
  obtain ⟨hc, hm⟩ := h.caps
  simp only [maxLen] at hm
  have km := may_any p g cap fs k W h
  cases hk : okF fs k with
  | false =>
    rw [hk] at km
    have K := Lib.hid km
    clear km h hk
    go_enter Try.func19, Try.ntmps19
    go_wp2_with (go_at_call 30; refine held ?_)
    unfold Held
    refine Calls.mono K ?_
    rintro e w2 ⟨rfl, rfl⟩
    simp only [Bool.false_eq_true, if_false]
    go_wp2
    go_ret
    exact ⟨rfl, rfl⟩
  | true =>
    rw [hk] at km
    have K := Lib.hid km
    clear km
    obtain ⟨i, hi, rfl, hn⟩ := okF_true hk
    have c1 := h.count i hi
    rw [frAt_at hi]
    obtain ⟨N, hN⟩ : ∃ N, N = fs[i].n := ⟨_, rfl⟩
    simp only [if_true]
    rw [← hN] at c1 ⊢
    clear h hk hN hn
    go_enter Try.func19, Try.ntmps19
    go_wp2_with (go_at_call 30; refine held ?_)
    unfold Held
    refine Calls.mono K ?_
    rintro e w2 ⟨rfl, rfl⟩
    simp only [if_true]
    go_wp2
    go_ret
    exact ⟨rfl, rfl⟩
/-- do n bytes lie within a frame, from off? -/
def inF (off n : Int) : Bool := decide (0 ≤ off ∧ 0 ≤ n ∧ off ≤ 64 ∧ n ≤ 64 - off)
set_option maxHeartbeats 2000000 in
theorem in_any (off n : Int) (W : World) :
    Calls Try.prog 31 #[.int .i64 off, .int .i64 n] W fun e W' => e = .returned (.bool (inF off n)) ∧ W' = W := by
  obtain ⟨R, hR⟩ : ∃ R, R = inF off n := ⟨_, rfl⟩
  rw [← hR]
  by_cases h1 : 0 ≤ off
  · have t1 : decide (off ≥ 0) = true := decide_eq_true h1
    by_cases h2 : 0 ≤ n
    · have t2 : decide (n ≥ 0) = true := decide_eq_true h2
      by_cases h3 : off ≤ 64
      · have t3 : decide (off ≤ 64) = true := decide_eq_true h3
        have t4 : decide (n ≤ 64 - off) = R := by rw [hR]; unfold inF; exact decide_eq_decide.2 ⟨fun h => ⟨h1, h2, h3, h⟩, fun h => h.2.2.2⟩
        clear hR
        go_enter Try.func31, Try.ntmps31
        go_wp2
        go_ret
        exact ⟨rfl, rfl⟩
      · have t3 : decide (off ≤ 64) = false := decide_eq_false h3
        obtain rfl : R = false := by rw [hR]; exact decide_eq_false fun h => h3 h.2.2.1
        clear hR
        go_enter Try.func31, Try.ntmps31
        go_wp2
        go_ret
        exact ⟨rfl, rfl⟩
    · have t2 : decide (n ≥ 0) = false := decide_eq_false h2
      obtain rfl : R = false := by rw [hR]; exact decide_eq_false fun h => h2 h.2.1
      clear hR
      go_enter Try.func31, Try.ntmps31
      go_wp2
      go_ret
      exact ⟨rfl, rfl⟩
  · have t1 : decide (off ≥ 0) = false := decide_eq_false h1
    obtain rfl : R = false := by rw [hR]; exact decide_eq_false fun h => h1 h.1
    clear hR
    go_enter Try.func31, Try.ntmps31
    go_wp2
    go_ret
    exact ⟨rfl, rfl⟩
end Go.Proofs.Ytdacdfnfbknndaa
