/- Slices of integers: those that came in, those of the call's own. -/
import Derived.Test.YtdlhnipkhlihjaaIter
import Derived.Laws.BytesArg
import Derived.WalkKit
import Derived.ProofKit
import Derived.OpenShut
namespace Go.Proofs.Ytdlhnipkhlihjaa
open Go Go.RowKit
set_option linter.unusedVariables false
/-- the block of a slice's cells, if it has some -/
def blockOf : Value → Nat → Prop
  | .slice (some a) len _, b => 0 < len ∧ b = a.block
  | _, _ => False
/-- A SLICE OF INTEGERS zs of kind k; its cells lie below n₀ -/
def RowI (k : IntKind) (n₀ : Nat) (W : World) (sv : Value) (zs : List Int) : Prop :=
  (∃ a cap, sv = .slice a 0 cap ∧ zs = []) ∨ ∃ b off cap, sv = .slice (some ⟨b, off, none⟩) zs.length cap ∧ b < n₀ ∧ zs.length ≤ cap ∧ cap ≤ maxLen ∧ ∀ j, j < zs.length → W.cell? ⟨b, off + j, none⟩ = some (.int k (zs.getD j 0))
theorem cell_same {A B : World} {p : Addr} {v : Value} (h : B.heap[p.block]? = A.heap[p.block]?) (hc : A.cell? p = some v) : B.cell? p = some v := (World.cell?_of_block h).trans hc
theorem RowI.same {k : IntKind} {n₀ : Nat} {A B : World} {sv : Value} {zs : List Int} (h : RowI k n₀ A sv zs) (hs : ∀ b, blockOf sv b → B.heap[b]? = A.heap[b]?) : RowI k n₀ B sv zs := by
  rcases h with h | ⟨b, off, cap, rfl, hb, h1, h2, hc⟩
  · exact .inl h
  · exact .inr ⟨b, off, cap, rfl, hb, h1, h2, fun j hj => cell_same (p := ⟨b, off + j, none⟩) (hs b ⟨by omega, rfl⟩) (hc j hj)⟩
theorem RowI.lt {k : IntKind} {n₀ : Nat} {W : World} {sv : Value} {zs : List Int} (h : RowI k n₀ W sv zs) : ∀ b, blockOf sv b → b < n₀ := by
  rcases h with ⟨a, cap, rfl, rfl⟩ | ⟨b, off, cap, rfl, hb, _⟩
  · intro b hb
    cases a <;> simp [blockOf] at hb
  · rintro _ ⟨_, rfl⟩; exact hb
theorem RowI.mono {k : IntKind} {n m : Nat} {W : World} {sv : Value} {zs : List Int} (h : RowI k n W sv zs) (hm : n ≤ m) : RowI k m W sv zs := by
  rcases h with h | ⟨b, off, cap, h1, hb, h2⟩
  · exact .inl h
  · exact .inr ⟨b, off, cap, h1, by omega, h2⟩
theorem RowI.below {k : IntKind} {n : Nat} {A B : World} {sv : Value} {zs : List Int} (h : RowI k n A sv zs) (hb : Below n A B) : RowI k n B sv zs := h.same fun b hx => hb.block b (h.lt b hx)
theorem RowI.slice {k : IntKind} {n₀ : Nat} {W : World} {sv : Value} {zs : List Int} (h : RowI k n₀ W sv zs) : ∃ a cap, sv = .slice a zs.length cap := by
  rcases h with ⟨a, cap, rfl, rfl⟩ | ⟨b, off, cap, rfl, _⟩
  · exact ⟨_, _, rfl⟩
  · exact ⟨_, _, rfl⟩
/-- the cells, behind a length that is not none -/
theorem RowI.open {k : IntKind} {n₀ : Nat} {W : World} {a : Option Addr} {len cap : Nat} {zs : List Int} (h : RowI k n₀ W (.slice a len cap) zs) :
    zs.length = len ∧ ∃ b off, (0 < len → a = some ⟨b, off, none⟩ ∧ b < n₀ ∧ len ≤ cap ∧ cap ≤ maxLen) ∧ ∀ j, j < len → W.cell? ⟨b, off + j, none⟩ = some (.int k (zs.getD j 0)) := by
  rcases h with ⟨a, c, h, rfl⟩ | ⟨b, off, c, h, hb, h1, h2, hc⟩
  · injection h with e1 e2 e3; subst e1 e2 e3
    exact ⟨rfl, 0, 0, fun h => by omega, fun j h => by omega⟩
  · injection h with e1 e2 e3; subst e1 e2 e3
    exact ⟨rfl, b, off, fun _ => ⟨rfl, hb, h1, h2⟩, hc⟩
theorem getD_at (zs : List Int) (j : Nat) (h : j < zs.length) : zs.getD j 0 = zs[j] := by simp [List.getD, List.getElem?_eq_getElem h]
theorem RowI.of_own {k : IntKind} {base : Nat} {e : TypeId} {W : World} {v : Value} {n : Nat} {zs : List Int} (h : W.ownsRow base e 1 v n (zs.map (Value.int k))) : zs.length = n ∧ RowI k W.heap.size W v zs := by
  have hn : zs.length = n := by have := h.1; simpa using this
  refine ⟨hn, ?_⟩
  subst hn
  have hlt := h.lt
  have hc := fun g => h.cells (g := g)
  rcases h.2 with ⟨rfl, h0⟩ | ⟨g, cap, cur, rfl, h1, h2, h3, h4, _⟩
  · exact .inl ⟨_, _, rfl, List.eq_nil_of_length_eq_zero h0⟩
  · refine .inr ⟨g, 0, cap, rfl, (hlt g rfl).2, h3, h4, fun j hj => ?_⟩
    have := hc g rfl j (.int k (zs.getD j 0)) (by rw [List.getElem?_map, getD_at _ _ hj, List.getElem?_eq_getElem hj]; rfl)
    simpa [Addr.add_lit] using this
/-- WHAT THE WALK IS TOLD OF A SLICE OF INTEGERS THAT CAME IN -/
def IsRow (k : IntKind) (w : World) (a : Option Addr) (len cap : Nat) (zs : List Int) : Prop :=
  (a = none ∧ len = 0 ∧ cap = 0 ∧ zs = []) ∨
  ∃ x, a = some x ∧ len ≤ cap ∧ cap ≤ maxLen ∧ zs.length = cap ∧ (∀ i, i < zs.length → w.cell? (x.add i) = some (.int k (zs.getD i 0))) ∧ ∀ n ∈ zs, (Lit.int k n).wf = true
theorem IsRow.row {k : IntKind} {w : World} {a : Option Addr} {len cap : Nat} {zs : List Int} (h : IsRow k w a len cap zs) : (zs.take len).length = len ∧ RowI k w.heap.size w (.slice a len cap) (zs.take len) ∧ ∀ z ∈ zs.take len, (Lit.int k z).wf = true := by
  rcases h with ⟨rfl, rfl, rfl, rfl⟩ | ⟨x, rfl, hl, hm, hz, hc, hw⟩
  · exact ⟨rfl, .inl ⟨_, _, rfl, rfl⟩, by simp⟩
  · have e : (zs.take len).length = len := by rw [List.length_take]; omega
    refine ⟨e, ?_, fun z h => hw z (List.mem_of_mem_take h)⟩
    by_cases h0 : len = 0
    · subst h0
      exact .inl ⟨_, _, rfl, by simp⟩
    · obtain ⟨b, off, spot⟩ := x
      have hspot : spot = none := by
        have := World.cell?_spot (hc 0 (by omega))
        simpa [Addr.add] using this
      subst hspot
      have c : ∀ i, i < len → w.cell? ⟨b, off + i, none⟩ = some (.int k (zs.getD i 0)) := fun i hi => by
        have := hc i (by omega)
        rwa [show (⟨b, off, none⟩ : Addr).add i = ⟨b, off + i, none⟩ from by unfold Addr.add; split <;> simp_all] at this
      refine .inr ⟨b, off, cap, by rw [e], World.block_lt_of_cell? w _ (c 0 (by omega)), by omega, hm, fun j hj => ?_⟩
      rw [e] at hj
      rw [c j hj]
      simp [List.getD, hj]
theorem wf_u8 {z : Int} (h : (Lit.int .u8 z).wf = true) : 0 ≤ z ∧ z ≤ 255 := bounds_u8 h
/-- A SLICE OF BYTES -/
def Row8 (n₀ : Nat) (W : World) (sv : Value) (zs : List Int) : Prop := RowI .u8 n₀ W sv zs ∧ ∀ z ∈ zs, 0 ≤ z ∧ z ≤ 255
theorem Row8.same {n₀ : Nat} {A B : World} {sv : Value} {zs : List Int} (h : Row8 n₀ A sv zs) (hs : ∀ b, blockOf sv b → B.heap[b]? = A.heap[b]?) : Row8 n₀ B sv zs := ⟨h.1.same hs, h.2⟩
theorem Row8.lt {n₀ : Nat} {W : World} {sv : Value} {zs : List Int} (h : Row8 n₀ W sv zs) : ∀ b, blockOf sv b → b < n₀ := h.1.lt
theorem Row8.mono {n m : Nat} {W : World} {sv : Value} {zs : List Int} (h : Row8 n W sv zs) (hm : n ≤ m) : Row8 m W sv zs := ⟨h.1.mono hm, h.2⟩
theorem Row8.below {n : Nat} {A B : World} {sv : Value} {zs : List Int} (h : Row8 n A sv zs) (hb : Below n A B) : Row8 n B sv zs := ⟨h.1.below hb, h.2⟩
theorem Row8.slice {n₀ : Nat} {W : World} {sv : Value} {zs : List Int} (h : Row8 n₀ W sv zs) : ∃ a cap, sv = .slice a zs.length cap := h.1.slice
theorem IsRow.row8 {w : World} {a : Option Addr} {len cap : Nat} {zs : List Int} (h : IsRow .u8 w a len cap zs) : Row8 w.heap.size w (.slice a len cap) (zs.take len) := ⟨h.row.2.1, fun z hz => bounds_u8 (h.row.2.2 z hz)⟩
/-- string(b) -/
theorem convRow {P : Program} {n₀ : Nat} {W : World} {sv : Value} {zs : List Int} (h : RowI .u8 n₀ W sv zs) (src e dst : TypeId) (hs : P.underlying src = some (.slice e)) (he : P.underlying e = some (.int .u8)) (hd : P.underlying dst = some .string) :
    (convert src dst sv).run P W = .ok (.string (strOfNums zs)) W := by
  rcases h with ⟨a, cap, rfl, rfl⟩ | ⟨b, off, cap, rfl, hb, h1, h2, hc⟩
  · cases a with
    | none => exact run_convert_bytes_nil W src e hs he 0 cap dst hd
    | some a =>
      have hl : (loadCells a 0).run P W = .ok #[] W := run_loadCells_list (P := P) W a [] (fun j v hj => by simp at hj)
      rw [run_convert_bytes_string W src dst e _ 0 cap hs he hd, run_bytesToString W _ 0 cap [] hl]
      rfl
  · exact run_convert_bytes_arg W src e hs he b off zs.length cap zs rfl hc dst hd
end Go.Proofs.Ytdlhnipkhlihjaa
