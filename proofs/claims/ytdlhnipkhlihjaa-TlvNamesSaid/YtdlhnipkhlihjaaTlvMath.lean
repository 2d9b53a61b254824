/- Fields within fields: how many bytes they have, which these are, how many there are. -/
import Derived.WalkKit
namespace Go.Proofs.Ytdlhnipkhlihjaa
set_option linter.unusedVariables false
/-- fields, one behind the other: a tag, bytes, the fields within; the others -/
inductive Forest
  | nil
  | cons (tag : Int) (bs : List Int) (kids : Forest) (rest : Forest)
namespace Forest
def length : Forest → Nat
  | nil => 0
  | cons _ _ _ r => r.length + 1
def app : Forest → Forest → Forest
  | nil, g => g
  | cons t b k r, g => cons t b k (app r g)
theorem length_app : ∀ f g : Forest, (app f g).length = f.length + g.length
  | nil, g => by simp [app, length]
  | cons _ _ _ r, g => by rw [app, length, length_app r g, length]; omega
theorem app_nil : ∀ f : Forest, app f nil = f
  | nil => rfl
  | cons t b k r => by rw [app, app_nil r]
/-- what holds of the fields within each -/
def AllKids (P : Forest → Prop) : Forest → Prop
  | nil => True
  | cons _ _ k r => P k ∧ AllKids P r
theorem all (P : Forest → Prop) (h : ∀ f, AllKids P f → P f) : ∀ f, P f := by
  have : ∀ f, AllKids P f ∧ P f := by
    intro f
    induction f with
    | nil => exact ⟨trivial, h _ trivial⟩
    | cons t b k r ihk ihr => exact ⟨⟨ihk.2, ihr.1⟩, h _ ⟨ihk.2, ihr.1⟩⟩
  exact fun f => (this f).2
/-- how many fields and bytes -/
def cnt : Forest → Nat
  | nil => 0
  | cons _ b k r => 1 + b.length + cnt k + cnt r
/-- one field may not be, or has so many bytes within -/
def innerOf (tag : Int) (b : List Int) (kl : Nat) (deep : Nat) (ks : Int) : Int :=
  if 128 ≤ tag then (if deep < 8 then ks else 0) else b.length
def bad (tag : Int) (b : List Int) (kl : Nat) (deep : Nat) (ks : Int) : Prop :=
  (128 ≤ tag ∧ ¬ deep < 8 ∧ 0 < kl) ∨ tag < 1 ∨ 255 < tag ∨ (128 ≤ tag ∧ 0 < b.length) ∨ (¬ 128 ≤ tag ∧ 0 < kl) ∨ innerOf tag b kl deep ks < 0
instance (tag : Int) (b : List Int) (kl deep : Nat) (ks : Int) : Decidable (bad tag b kl deep ks) := by unfold bad; infer_instance
/-- how many bytes fields have, that stand so deep, behind so many; -1: they may not be -/
def sizeL : Forest → Nat → Int → Int
  | nil, _, n => n
  | cons t b k r, d, n =>
    let ks := sizeL k (d + 1) 0
    if bad t b k.length d ks then -1
    else if 1048576 < n + (5 + innerOf t b k.length d ks) then -1
    else sizeL r d (n + (5 + innerOf t b k.length d ks))
/-- fields' bytes -/
def layF : Forest → List Int
  | nil => []
  | cons t b k r =>
    let v := if 128 ≤ t then layF k else b
    [t % 256] ++ [(v.length : Int) % 256, (v.length : Int) / 256 % 256, (v.length : Int) / 65536 % 256, (v.length : Int) / 16777216 % 256] ++ v ++ layF r
theorem layF_app : ∀ f g : Forest, layF (app f g) = layF f ++ layF g
  | nil, g => rfl
  | cons t b k r, g => by
    rw [app, layF, layF, layF_app r g]
    simp only [List.append_assoc]
theorem sizeL_ge : ∀ (f : Forest) (d : Nat) (n : Int), 0 ≤ n → sizeL f d n = -1 ∨ n ≤ sizeL f d n
  | nil, d, n, h => .inr (Int.le_refl _)
  | cons t b k r, d, n, h => by
    rw [sizeL]
    by_cases h1 : bad t b k.length d (sizeL k (d + 1) 0)
    · left; rw [if_pos h1]
    · rw [if_neg h1]
      split
      · exact .inl rfl
      · have h2 : 0 ≤ innerOf t b k.length d (sizeL k (d + 1) 0) := by unfold bad at h1; omega
        rcases sizeL_ge r d (n + (5 + innerOf t b k.length d (sizeL k (d + 1) 0))) (by omega) with h3 | h3
        · exact .inl h3
        · exact .inr (by omega)
theorem sizeL_bad {t : Int} {b : List Int} {k r : Forest} {d : Nat} {n : Int} (h : bad t b k.length d (sizeL k (d + 1) 0)) : sizeL (cons t b k r) d n = -1 := by rw [sizeL, if_pos h]
theorem sizeL_big {t : Int} {b : List Int} {k r : Forest} {d : Nat} {n I : Int} (h : ¬ bad t b k.length d (sizeL k (d + 1) 0)) (hI : innerOf t b k.length d (sizeL k (d + 1) 0) = I) (h2 : 1048576 < n + (5 + I)) : sizeL (cons t b k r) d n = -1 := by rw [sizeL, if_neg h, hI, if_pos h2]
theorem sizeL_next {t : Int} {b : List Int} {k r : Forest} {d : Nat} {n I : Int} (h : ¬ bad t b k.length d (sizeL k (d + 1) 0)) (hI : innerOf t b k.length d (sizeL k (d + 1) 0) = I) (h2 : ¬ 1048576 < n + (5 + I)) : sizeL (cons t b k r) d n = sizeL r d (n + (5 + I)) := by rw [sizeL, if_neg h, hI, if_neg h2]
theorem inner_ge {t : Int} {b : List Int} {kl d : Nat} {ks : Int} (h : ¬ bad t b kl d ks) : 0 ≤ innerOf t b kl d ks := by unfold bad at h; omega
theorem sizeL_app : ∀ (f g : Forest) (d : Nat) (n : Int), 0 ≤ n → sizeL (app f g) d n = if sizeL f d n < 0 then -1 else sizeL g d (sizeL f d n)
  | nil, g, d, n, h => by rw [app, sizeL, if_neg (by omega)]
  | cons t b k r, g, d, n, h => by
    rw [app, sizeL, sizeL]
    by_cases h1 : bad t b k.length d (sizeL k (d + 1) 0)
    · simp [h1]
    · have h2 := inner_ge h1
      by_cases h3 : 1048576 < n + (5 + innerOf t b k.length d (sizeL k (d + 1) 0))
      · simp [h1, h3]
      · simp only [h1, h3, ↓reduceIte]
        exact sizeL_app r g d _ (by omega)
theorem sizeL_shift : ∀ (g : Forest) (d : Nat) (n m : Int), 0 ≤ m → m ≤ n → (sizeL g d m < 0 → sizeL g d n < 0) ∧ (0 ≤ sizeL g d m → n + (sizeL g d m - m) ≤ 1048576 → sizeL g d n = n + (sizeL g d m - m))
  | nil, d, n, m, h, h2 => by simp only [sizeL]; omega
  | cons t b k r, d, n, m, h, h2 => by
    rw [sizeL, sizeL]
    by_cases h1 : bad t b k.length d (sizeL k (d + 1) 0)
    · simp [h1]
    · have h3 := inner_ge h1
      simp only [h1, ↓reduceIte]
      generalize innerOf t b k.length d (sizeL k (d + 1) 0) = x at h3 ⊢
      by_cases h4 : 1048576 < m + (5 + x)
      · have h5 : 1048576 < n + (5 + x) := by omega
        simp [h4, h5]
      · rw [if_neg h4]
        have ih := sizeL_shift r d (n + (5 + x)) (m + (5 + x)) (by omega) (by omega)
        have hg := sizeL_ge r d (m + (5 + x)) (by omega)
        by_cases h5 : 1048576 < n + (5 + x)
        · rw [if_pos h5]
          exact ⟨fun _ => by omega, fun h6 h7 => by omega⟩
        · rw [if_neg h5]
          exact ⟨ih.1, fun h6 h7 => by rw [ih.2 h6 (by omega)]; omega⟩
theorem sizeL_le : ∀ (g : Forest) (d : Nat) (n : Int), 0 ≤ n → sizeL g d n ≤ n + 5 * (cnt g : Int)
  | nil, d, n, h => by simp only [sizeL, cnt]; omega
  | cons t b k r, d, n, h => by
    rw [sizeL, cnt]
    by_cases h1 : bad t b k.length d (sizeL k (d + 1) 0)
    · simp only [h1, ↓reduceIte]; omega
    · have h3 := inner_ge h1
      have h4 := sizeL_le k (d + 1) 0 (by omega)
      have h5 : innerOf t b k.length d (sizeL k (d + 1) 0) ≤ b.length + 5 * (cnt k : Int) := by unfold innerOf at h3 ⊢; split <;> (try split) <;> omega
      simp only [h1, ↓reduceIte]
      generalize innerOf t b k.length d (sizeL k (d + 1) 0) = x at h3 h5 ⊢
      split
      · omega
      · have := sizeL_le r d (n + (5 + x)) (by omega)
        omega
/-- the law's sum -/
theorem sizeL_both (f g : Forest) (d : Nat) (hf : cnt f ≤ 10000) (hg : cnt g ≤ 10000) : 0 ≤ sizeL (app f g) d 0 ↔ 0 ≤ sizeL f d 0 ∧ 0 ≤ sizeL g d 0 := by
  rw [sizeL_app f g d 0 (Int.le_refl _)]
  have h1 := sizeL_le f d 0 (Int.le_refl _)
  have h2 := sizeL_le g d 0 (Int.le_refl _)
  by_cases h : sizeL f d 0 < 0
  · rw [if_pos h]; omega
  · rw [if_neg h]
    have h3 := sizeL_shift g d (sizeL f d 0) 0 (Int.le_refl _) (by omega)
    by_cases h4 : sizeL g d 0 < 0
    · have := h3.1 h4; omega
    · have := h3.2 (by omega) (by omega); omega
theorem layF_le : ∀ f : Forest, (layF f).length ≤ 5 * cnt f
  | nil => Nat.le_refl _
  | cons t b k r => by
    have h1 := layF_le k
    have h2 := layF_le r
    rw [layF, cnt]
    simp only [List.length_append, List.length_cons, List.length_nil]
    split <;> omega
theorem cnt_kids {t : Int} {b : List Int} {k r : Forest} {N : Nat} (h : cnt (cons t b k r) ≤ N) : cnt k ≤ N ∧ cnt r ≤ N ∧ b.length ≤ N := by rw [cnt] at h; omega
theorem length_le_cnt : ∀ f : Forest, f.length ≤ cnt f
  | nil => Nat.le_refl _
  | cons t b k r => by have := length_le_cnt r; rw [length, cnt]; omega
end Forest
end Go.Proofs.Ytdlhnipkhlihjaa
