/- Fields in memory. -/
import Derived.Test.YtdlhnipkhlihjaaRows
import Derived.Test.YtdlhnipkhlihjaaRow
import Derived.Test.YtdlhnipkhlihjaaTlvMath
import Derived.Below
namespace Go.Proofs.Ytdlhnipkhlihjaa
open Go Go.RowKit
set_option linter.unusedVariables false
/-- THE CELLS OF FIELDS, from one on -/
def RowF (n₀ : Nat) (W : World) : Forest → Nat → Nat → Prop
  | .nil, _, _ => True
  | .cons t bs k r, b, off => ∃ (a : Option Addr) (len cap : Nat) (ka : Option Addr) (kl kc : Nat),
      W.cell? ⟨b, off, none⟩ = some (.int .i64 t) ∧ W.cell? ⟨b, off + 1, none⟩ = some (.slice a len cap) ∧ W.cell? ⟨b, off + 2, none⟩ = some (.slice ka kl kc) ∧
      -9223372036854775808 ≤ t ∧ t ≤ 9223372036854775807 ∧ (Row8 n₀ W (.slice a len cap) bs ∧ bs.length ≤ 140737488351232) ∧
      k.length = kl ∧ (kl = 0 ∨ ∃ b2 o2, ka = some ⟨b2, o2, none⟩ ∧ b2 < n₀ ∧ kl ≤ kc ∧ kc ≤ maxLen ∧ RowF n₀ W k b2 o2) ∧ RowF n₀ W r b (off + 3)
/-- A SLICE OF FIELDS -/
def SlF (n₀ : Nat) (W : World) (a : Option Addr) (len cap : Nat) (f : Forest) : Prop :=
  f.length = len ∧ (len = 0 ∨ ∃ b off, a = some ⟨b, off, none⟩ ∧ b < n₀ ∧ len ≤ cap ∧ cap ≤ maxLen ∧ RowF n₀ W f b off)
theorem RowF.below {n : Nat} {A B : World} (hb : Below n A B) : ∀ (f : Forest) (b off : Nat), b < n → RowF n A f b off → RowF n B f b off
  | .nil, _, _, _, _ => trivial
  | .cons t bs k r, b, off, hbn, h => by
    obtain ⟨a, len, cap, ka, kl, kc, h1, h2, h3, h4, h5, h6, h7, h8, h9⟩ := h
    refine ⟨a, len, cap, ka, kl, kc, (hb.cell (p := ⟨b, off, none⟩) hbn).trans h1, (hb.cell (p := ⟨b, off + 1, none⟩) hbn).trans h2, (hb.cell (p := ⟨b, off + 2, none⟩) hbn).trans h3, h4, h5, ⟨h6.1.below hb, h6.2⟩, h7, ?_, RowF.below hb r b (off + 3) hbn h9⟩
    rcases h8 with h8 | ⟨b2, o2, g1, g2, g3, g4, g5⟩
    · exact .inl h8
    · exact .inr ⟨b2, o2, g1, g2, g3, g4, RowF.below hb k b2 o2 g2 g5⟩
theorem RowF.mono {n m : Nat} {A : World} (hm : n ≤ m) : ∀ (f : Forest) (b off : Nat), RowF n A f b off → RowF m A f b off
  | .nil, _, _, _ => trivial
  | .cons t bs k r, b, off, h => by
    obtain ⟨a, len, cap, ka, kl, kc, h1, h2, h3, h4, h5, h6, h7, h8, h9⟩ := h
    refine ⟨a, len, cap, ka, kl, kc, h1, h2, h3, h4, h5, ⟨h6.1.mono hm, h6.2⟩, h7, ?_, RowF.mono hm r b (off + 3) h9⟩
    rcases h8 with h8 | ⟨b2, o2, g1, g2, g3, g4, g5⟩
    · exact .inl h8
    · exact .inr ⟨b2, o2, g1, Nat.lt_of_lt_of_le g2 hm, g3, g4, RowF.mono hm k b2 o2 g5⟩
theorem SlF.below {n : Nat} {A B : World} {a : Option Addr} {len cap : Nat} {f : Forest} (h : SlF n A a len cap f) (hb : Below n A B) : SlF n B a len cap f := by
  obtain ⟨h1, h2 | ⟨b, off, g1, g2, g3, g4, g5⟩⟩ := h
  · exact ⟨h1, .inl h2⟩
  · exact ⟨h1, .inr ⟨b, off, g1, g2, g3, g4, RowF.below hb f b off g2 g5⟩⟩
theorem SlF.mono {n m : Nat} {A : World} {a : Option Addr} {len cap : Nat} {f : Forest} (h : SlF n A a len cap f) (hm : n ≤ m) : SlF m A a len cap f := by
  obtain ⟨h1, h2 | ⟨b, off, g1, g2, g3, g4, g5⟩⟩ := h
  · exact ⟨h1, .inl h2⟩
  · exact ⟨h1, .inr ⟨b, off, g1, Nat.lt_of_lt_of_le g2 hm, g3, g4, RowF.mono hm f b off g5⟩⟩
/-- the first of fields, opened -/
theorem RowF.open {n : Nat} {W : World} {f : Forest} {b off : Nat} (h : RowF n W f b off) (hl : 0 < f.length) : ∃ t bs k r a len cap ka kl kc, f = .cons t bs k r ∧
    W.cell? ⟨b, off, none⟩ = some (.int .i64 t) ∧ W.cell? ⟨b, off + 1, none⟩ = some (.slice a len cap) ∧ W.cell? ⟨b, off + 2, none⟩ = some (.slice ka kl kc) ∧
    -9223372036854775808 ≤ t ∧ t ≤ 9223372036854775807 ∧ (Row8 n W (.slice a len cap) bs ∧ bs.length ≤ 140737488351232) ∧ SlF n W ka kl kc k ∧ RowF n W r b (off + 3) := by
  cases f with
  | nil => simp [Forest.length] at hl
  | cons t bs k r =>
    obtain ⟨a, len, cap, ka, kl, kc, h1, h2, h3, h4, h5, h6, h7, h8, h9⟩ := h
    exact ⟨t, bs, k, r, a, len, cap, ka, kl, kc, rfl, h1, h2, h3, h4, h5, h6, ⟨h7, h8⟩, h9⟩
theorem SlF.small {n : Nat} {A : World} {a : Option Addr} {len cap : Nat} {f : Forest} (h : SlF n A a len cap f) : len ≤ 9223372036854775807 := by
  obtain ⟨hl, h | ⟨b, off, h1, h2, h3, h4, hc⟩⟩ := h
  · omega
  · simp only [maxLen] at h4; omega
end Go.Proofs.Ytdlhnipkhlihjaa
