/- A part of a slice of integers. -/
import Derived.Test.YtdlhnipkhlihjaaRow
import Derived.Laws.Slices
import Derived.BigFrame
namespace Go.Proofs.Ytdlhnipkhlihjaa
open Go Go.RowKit
set_option linter.unusedVariables false
/-- the cells of a part -/
theorem RowI.sub {k : IntKind} {n₀ : Nat} {W : World} {a : Option Addr} {len cap : Nat} {zs : List Int} (h : RowI k n₀ W (.slice a len cap) zs) (l m : Nat) (h1 : l ≤ m) (h2 : m ≤ len) :
    RowI k n₀ W (sliced a l m cap 1) ((zs.drop l).take (m - l)) ∧ ∀ b, blockOf (sliced a l m cap 1) b → blockOf (.slice a len cap) b := by
  rcases h with ⟨a', c, h, rfl⟩ | ⟨b, off, c, h, hb, h3, h4, hc⟩
  · injection h with e1 e2 e3; subst e1 e2 e3
    obtain rfl : m = 0 := by omega
    obtain rfl : l = 0 := by omega
    refine ⟨.inl ⟨_, _, rfl, by simp⟩, fun b hb => ?_⟩
    unfold sliced at hb
    split at hb
    · exact hb
    · cases a <;> simp [blockOf] at hb
  · injection h with e1 e2 e3; subst e1 e2 e3
    by_cases hm : m = l
    · subst hm
      refine ⟨.inl ⟨_, _, by unfold sliced; rw [Nat.sub_self], by simp⟩, fun b' hb' => ?_⟩
      unfold sliced at hb'
      rw [Nat.sub_self] at hb'
      split at hb' <;> simp [blockOf] at hb'
    · have e : sliced (some ⟨b, off, none⟩) l m cap 1 = .slice (some ⟨b, off + l, none⟩) (m - l) (cap - l) := by
        unfold sliced
        rw [if_neg (by omega)]
        simp [Addr.add_lit]
      have el : ((zs.drop l).take (m - l)).length = m - l := by rw [List.length_take, List.length_drop]; omega
      rw [e]
      refine ⟨.inr ⟨b, off + l, cap - l, by rw [el], hb, by rw [el]; omega, by omega, fun j hj => ?_⟩, ?_⟩
      · rw [el] at hj
        rw [Nat.add_assoc, hc (l + j) (by omega)]
        congr 2
        rw [getD_at _ _ (by omega), getD_at _ _ (by rw [el]; exact hj)]
        simp
      · rintro b' ⟨h5, rfl⟩
        exact ⟨by omega, rfl⟩
theorem Row8.sub {n₀ : Nat} {W : World} {a : Option Addr} {len cap : Nat} {zs : List Int} (h : Row8 n₀ W (.slice a len cap) zs) (l m : Nat) (h1 : l ≤ m) (h2 : m ≤ len) :
    Row8 n₀ W (sliced a l m cap 1) ((zs.drop l).take (m - l)) ∧ ∀ b, blockOf (sliced a l m cap 1) b → blockOf (.slice a len cap) b :=
  ⟨⟨(h.1.sub l m h1 h2).1, fun z hz => h.2 z (List.mem_of_mem_drop (List.mem_of_mem_take hz))⟩, (h.1.sub l m h1 h2).2⟩
theorem RowI.cap {k : IntKind} {n₀ : Nat} {W : World} {a : Option Addr} {len cap : Nat} {zs : List Int} (h : RowI k n₀ W (.slice a len cap) zs) : len ≤ cap := by
  rcases h with ⟨a', c, h, rfl⟩ | ⟨b, off, c, h, hb, h3, h4, hc⟩
  · injection h with e1 e2 e3; omega
  · injection h with e1 e2 e3; omega
theorem strOfNums_append (a b : List Int) : strOfNums (a ++ b) = strOfNums a ++ strOfNums b := by
  apply ByteArray.ext
  apply Array.ext'
  rw [ByteArray.data_append, Array.toList_append, strOfNums_data, strOfNums_data, strOfNums_data, List.map_append]
theorem strAdd {P : Program} (a b : List Int) (h : a.length + b.length ≤ maxLen) (W : World) : (Op.stringOp .add (strOfNums a) (strOfNums b)).run P W = .ok (.string (strOfNums (a ++ b))) W := by
  rw [strOfNums_append]
  exact run_string_add_sum W _ _ (by rw [strOfNums_size, strOfNums_size]; exact h)
section
variable {P : Program} {ops : Array Oper} {rest : List Oper} {o : Oper} {a : Act} {w : World} {Q : Exit → Act → World → Prop}
/-- the operation x[l:m], at any slice -/
theorem exec_slice (T : TypeId) (x : Operand) (lo hi : Option Operand) (ho : o.op = .slice T x lo hi none) (p : Option Addr) (len cap l m : Nat)
    (hx : a.eval x = .slice p len cap) (hlo : (lo = none ∧ l = 0) ∨ ∃ t, lo = some t ∧ a.eval t = .int .i64 (l : Int)) (hhi : (hi = none ∧ m = len) ∨ ∃ t, hi = some t ∧ a.eval t = .int .i64 (m : Int))
    (hu : P.underlying T = some (.slice (P.elem T))) (hs : (P.info? (P.elem T)).map (·.size) = some 1) (h0 : l ≤ m) (h1 : m ≤ len) (h2 : len ≤ cap) (q : Value) (hq : sliced p l m cap 1 = q) :
    (execOp a.eval o).run P w = .ok (.value q) w := by
  have hsz : (sizeOf (P.elem T)).run P w = .ok 1 w := by
    cases hq : P.info? (P.elem T) with
    | none => simp [hq] at hs
    | some i => simp [sizeOf, typeInfo, hq]; simpa [hq] using hs
  have hr : (Instr.sliceAt T (.slice p len cap) (lo.map a.eval) (hi.map a.eval) none).run P w = .ok (sliced p l m cap 1) w := by
    rw [run_sliceAt_slice _ T _ _ _ _ hu]
    rcases hlo with ⟨rfl, rfl⟩ | ⟨t1, rfl, e1⟩ <;> rcases hhi with ⟨rfl, rfl⟩ | ⟨t2, rfl, e2⟩
    · simp only [Option.map_none]
      rw [run_slice_all _ T p m cap hu, hsz]; rfl
    · simp only [Option.map_none, Option.map_some, e2]
      rw [run_slice_h _ T p len cap hu _ _ (by omega) (by omega), hsz]; rfl
    · simp only [Option.map_none, Option.map_some, e1]
      rw [run_slice_l _ T p m cap hu _ _ (by omega) (by omega), hsz]; rfl
    · simp only [Option.map_some, e1, e2]
      rw [run_slice_lh _ T p len cap hu _ _ _ _ (by omega) (by omega) (by omega), hsz]; rfl
  unfold execOp
  simp only [ho, hx, Option.map_none]
  rw [Sem.run_bind, hr, ← hq]
  rfl
theorem wpList_slice (hw : Region.wanted o (yielded ops a.tmps) = true) (T : TypeId) (x : Operand) (lo hi : Option Operand) (ho : o.op = .slice T x lo hi none) (p : Option Addr) (len cap l m : Nat)
    (hx : a.eval x = .slice p len cap) (hlo : (lo = none ∧ l = 0) ∨ ∃ t, lo = some t ∧ a.eval t = .int .i64 (l : Int)) (hhi : (hi = none ∧ m = len) ∨ ∃ t, hi = some t ∧ a.eval t = .int .i64 (m : Int))
    (hu : P.underlying T = some (.slice (P.elem T))) (hs : (P.info? (P.elem T)).map (·.size) = some 1) (h0 : l ≤ m) (h1 : m ≤ len) (h2 : len ≤ cap)
    (h : ∀ q, sliced p l m cap 1 = .slice q (m - l) (cap - l) → wpList P ops Q rest (a.put o.dst (.slice q (m - l) (cap - l))) w) : wpList P ops Q (o :: rest) a w := by
  refine BigFrame.wpList_want hw fun K hK => ?_
  have hr := exec_slice (P := P) (o := o) (a := a) (w := w) T x lo hi ho p len cap l m hx hlo hhi hu hs h0 h1 h2 _ rfl
  unfold Oper.wp
  rw [hr]
  exact hK _ _ (h _ rfl)
end
end Go.Proofs.Ytdlhnipkhlihjaa
