/- Those who wait: lists, and how they lie in memory. -/
import Derived.Test.YtdnhaappglbooaaRow
import Derived.Laws.AppendOwn
import Derived.Laws.OwnMore
import Derived.Shelf.SlicesQ.Load
namespace Go.Proofs.Ytdnhaappglbooaa
open Go Go.RowKit
set_option linter.unusedVariables false
structure Ky where
  p : Int
  f : Int
  o : Int
deriving DecidableEq, Inhabited
structure Wt where
  pid : Int
  k : Ky
deriving DecidableEq, Inhabited
def encK (k : Ky) : List Value := [.int .i64 k.p, .int .i64 k.f, .int .i64 k.o]
def encW (x : Wt) : List Value := .int .i64 x.pid :: encK x.k
def flatW : List Wt → List Value
  | [] => []
  | x :: r => encW x ++ flatW r
theorem encW_len (x : Wt) : (encW x).length = 4 := rfl
theorem flatW_len : ∀ ws : List Wt, (flatW ws).length = ws.length * 4
  | [] => rfl
  | x :: r => by simp only [flatW, List.length_append, encW_len, flatW_len r, List.length_cons]; omega
theorem flatW_append : ∀ a b : List Wt, flatW (a ++ b) = flatW a ++ flatW b
  | [], b => rfl
  | x :: r, b => by simp only [List.cons_append, flatW, flatW_append r b, List.append_assoc]
theorem flatW_get : ∀ (ws : List Wt) (j : Nat) (h : j < ws.length) (i : Nat), i < 4 → (flatW ws)[j * 4 + i]? = (encW ws[j])[i]?
  | [], j, h, i, hi => by simp at h
  | x :: r, 0, h, i, hi => by
    simp only [flatW, Nat.zero_mul, Nat.zero_add, List.getElem_cons_zero]
    rw [List.getElem?_append_left (by rw [encW_len]; exact hi)]
  | x :: r, j + 1, h, i, hi => by
    simp only [flatW, List.getElem_cons_succ]
    rw [List.getElem?_append_right (by rw [encW_len]; omega), encW_len, show (j + 1) * 4 + i - 4 = j * 4 + i by omega]
    exact flatW_get r j (by simpa using h) i hi
theorem flatW_take (ws : List Wt) (m : Nat) : flatW (ws.take m) = (flatW ws).take (m * 4) := by
  induction ws generalizing m with
  | nil => simp [flatW]
  | cons x r ih =>
    cases m with
    | zero => simp [flatW]
    | succ m =>
      simp only [List.take_succ_cons, flatW, ih]
      rw [List.take_append, encW_len, List.take_of_length_le (l := encW x) (by rw [encW_len]; omega), show (m + 1) * 4 - 4 = m * 4 by omega]
theorem flatW_drop (ws : List Wt) (m : Nat) : flatW (ws.drop m) = (flatW ws).drop (m * 4) := by
  induction ws generalizing m with
  | nil => simp [flatW]
  | cons x r ih =>
    cases m with
    | zero => simp [flatW]
    | succ m =>
      simp only [List.drop_succ_cons, flatW, ih]
      rw [List.drop_append, encW_len, List.drop_of_length_le (l := encW x) (by rw [encW_len]; omega), show (m + 1) * 4 - 4 = m * 4 by omega, List.nil_append]
theorem flatW_one : ∀ (ws : List Wt) (u : Value), u ∈ flatW ws → u.oneCell' = true
  | [], u, h => by simp [flatW] at h
  | x :: r, u, h => by
    simp only [flatW, List.mem_append] at h
    rcases h with h | h
    · simp only [encW, encK, List.mem_cons, List.not_mem_nil, or_false] at h
      rcases h with rfl | rfl | rfl | rfl <;> rfl
    · exact flatW_one r u h
/-- a slice of those who wait; its cells lie below n -/
def RowW (n : Nat) (W : World) (a : Option Addr) (len cap : Nat) (ws : List Wt) : Prop :=
  ws.length = len ∧ ((len = 0) ∨ ∃ b off, a = some ⟨b, off, none⟩ ∧ b < n ∧ len ≤ cap ∧ cap ≤ maxLen ∧ ∀ j u, (flatW ws)[j]? = some u → W.cell? ⟨b, off + j, none⟩ = some u)
theorem RowW.below {n : Nat} {A B : World} {a : Option Addr} {len cap : Nat} {ws : List Wt} (h : RowW n A a len cap ws) (hb : Below n A B) : RowW n B a len cap ws := by
  refine ⟨h.1, ?_⟩
  rcases h.2 with h0 | ⟨b, off, rfl, hn, h1, h2, hc⟩
  · exact .inl h0
  · exact .inr ⟨b, off, rfl, hn, h1, h2, fun j u hj => (hb.cell (p := ⟨b, off + j, none⟩) hn).trans (hc j u hj)⟩
theorem RowW.mono {n m : Nat} {A : World} {a : Option Addr} {len cap : Nat} {ws : List Wt} (h : RowW n A a len cap ws) (hm : n ≤ m) : RowW m A a len cap ws := by
  refine ⟨h.1, ?_⟩
  rcases h.2 with h0 | ⟨b, off, rfl, hn, h⟩
  · exact .inl h0
  · exact .inr ⟨b, off, rfl, Nat.lt_of_lt_of_le hn hm, h⟩
/-- one of them, whole -/
theorem RowW.load {P : Program} {n : Nat} {A : World} {b off len cap : Nat} {ws : List Wt} (h : RowW n A (some ⟨b, off, none⟩) len cap ws) (j : Nat) (hj : j < ws.length) :
    (loadCellsFrom ⟨b, off + j * 4, none⟩ 0 4 #[]).run P A = .ok (encW ws[j]).toArray A := by
  rcases h.2 with h0 | ⟨b', off', he, hn, h1, h2, hc⟩
  · have := h.1; omega
  · injection he with he; injection he with e1 e2; subst e1 e2
    refine run_loadCellsFrom_list P _ _ (encW ws[j]) 4 rfl (fun i v hi => ?_)
    have hi4 : i < 4 := by
      have := (List.getElem?_eq_some_iff.1 hi).1
      rwa [encW_len] at this
    rw [Addr.add_lit, Nat.add_assoc]
    exact hc _ _ ((flatW_get ws j hj i hi4).trans hi)
theorem RowW.cell {n : Nat} {A : World} {b off len cap : Nat} {ws : List Wt} (h : RowW n A (some ⟨b, off, none⟩) len cap ws) (j : Nat) (hj : j < ws.length) (i : Nat) (v : Value) (hi : (encW ws[j])[i]? = some v) : A.cell? ⟨b, off + (j * 4 + i), none⟩ = some v := by
  rcases h.2 with h0 | ⟨b', off', he, hn, h1, h2, hc⟩
  · have := h.1; omega
  · injection he with he; injection he with e1 e2; subst e1 e2
    have hi4 : i < 4 := by
      have := (List.getElem?_eq_some_iff.1 hi).1
      rwa [encW_len] at this
    exact hc _ _ ((flatW_get ws j hj i hi4).trans hi)
theorem RowW.nilAddr {n : Nat} {A : World} {len cap : Nat} {ws : List Wt} (h : RowW n A none len cap ws) : len = 0 ∧ ws = [] := by
  rcases h.2 with h0 | ⟨b', off', he, _⟩
  · exact ⟨h0, List.eq_nil_of_length_eq_zero (h.1.trans h0)⟩
  · cases he
theorem RowW.of_own {base : Nat} {e : TypeId} {W : World} {a : Option Addr} {len cap n : Nat} {ws : List Wt} (h : W.ownsRow base e 4 (.slice a len cap) n (flatW ws)) : n = len ∧ RowW W.heap.size W a len cap ws := by
  have hl : ws.length = n := by have := h.1; rw [flatW_len] at this; omega
  have hc := fun g => h.cells (g := g)
  have hlt := h.lt
  rcases h.2 with ⟨h1, h0⟩ | ⟨g, cap', cur, h1, h2, h3, h4, h5, _⟩
  · injection h1 with e1 e2 e3
    exact ⟨by omega, by omega, .inl e2⟩
  · injection h1 with e1 e2 e3; subst e1 e2 e3
    refine ⟨rfl, by omega, .inr ⟨g, 0, rfl, (hlt g rfl).2, h4, h5, fun j u hj => ?_⟩⟩
    have := hc g rfl j u hj
    rwa [Addr.add_lit] at this
end Go.Proofs.Ytdnhaappglbooaa
