/- What is laid reads back. -/
import Derived.Test.YtdlhnipkhlihjaaTlvReadM
namespace Go.Proofs.Ytdlhnipkhlihjaa
open Go
set_option linter.unusedVariables false
theorem Forest.len_nil {k : Forest} (h : ¬ 0 < k.length) : k = .nil := by
  cases k with
  | nil => rfl
  | cons _ _ _ _ => simp [Forest.length] at h
theorem inner_len (t : Int) (b : List Int) (k : Forest) (d : Nat) (h1 : ¬ Forest.bad t b k.length d (k.sizeL (d + 1) 0)) (ih : 0 ≤ k.sizeL (d + 1) 0 → k.sizeL (d + 1) 0 = 0 + (k.layF.length : Int)) :
    Forest.innerOf t b k.length d (k.sizeL (d + 1) 0) = ((if 128 ≤ t then k.layF else b).length : Int) := by
  have h3 := Forest.inner_ge h1
  unfold Forest.innerOf at h3 ⊢
  by_cases ht : 128 ≤ t
  · rw [if_pos ht] at h3
    rw [if_pos ht, if_pos ht]
    by_cases hd : d < 8
    · rw [if_pos hd] at h3
      rw [if_pos hd]
      have := ih h3
      omega
    · rw [if_neg hd]
      have hk : ¬ 0 < k.length := fun hk => h1 (.inl ⟨ht, hd, hk⟩)
      rw [Forest.len_nil hk, Forest.layF]; rfl
  · rw [if_neg ht, if_neg ht]
theorem layF_len : ∀ (f : Forest) (d : Nat) (n : Int), 0 ≤ n → 0 ≤ f.sizeL d n → f.sizeL d n = n + (f.layF.length : Int)
  | .nil, d, n, hn, h => by simp [Forest.sizeL, Forest.layF]
  | .cons t b k r, d, n, hn, h => by
    rw [Forest.sizeL] at h ⊢
    by_cases h1 : Forest.bad t b k.length d (k.sizeL (d + 1) 0)
    · simp [h1] at h
    · simp only [h1, ↓reduceIte] at h ⊢
      have hi := inner_len t b k d h1 (layF_len k (d + 1) 0 (Int.le_refl _))
      have h3 := Forest.inner_ge h1
      by_cases h2 : 1048576 < n + (5 + Forest.innerOf t b k.length d (k.sizeL (d + 1) 0))
      · rw [if_pos h2] at h; omega
      · rw [if_neg h2] at h
        rw [if_neg h2, layF_len r d _ (by omega) h, hi, Forest.layF]
        simp only [List.length_append, List.length_cons, List.length_nil]
        omega
theorem lenH_bytes (n : Nat) (h : n < 4294967296) : lenH ((n : Int) % 256) ((n : Int) / 256 % 256) ((n : Int) / 65536 % 256) ((n : Int) / 16777216 % 256) = n := by
  unfold lenH; omega
/-- what is laid reads back -/
theorem read_lay : ∀ (f : Forest) (d : Nat) (n : Int), d ≤ 8 → 0 ≤ n → 0 ≤ f.sizeL d n → readL d f.layF = some f
  | .nil, d, n, hd, hn, h => by rw [Forest.layF, readL_nil]
  | .cons t b k r, d, n, hd, hn, h => by
    rw [Forest.sizeL] at h
    by_cases h1 : Forest.bad t b k.length d (k.sizeL (d + 1) 0)
    · simp [h1] at h
    · simp only [h1, ↓reduceIte] at h
      have hi := inner_len t b k d h1 (layF_len k (d + 1) 0 (Int.le_refl _))
      have h3 := Forest.inner_ge h1
      by_cases h2 : 1048576 < n + (5 + Forest.innerOf t b k.length d (k.sizeL (d + 1) 0))
      · rw [if_pos h2] at h; omega
      · rw [if_neg h2] at h
        have ihr := read_lay r d _ hd (by omega) h
        have ihk : 128 ≤ t → readL (d + 1) k.layF = some k := fun ht => by
          by_cases hd8 : d < 8
          · refine read_lay k (d + 1) 0 (by omega) (Int.le_refl _) ?_
            unfold Forest.innerOf at h3
            rw [if_pos ht, if_pos hd8] at h3
            exact h3
          · have hk : ¬ 0 < k.length := fun hk => h1 (.inl ⟨ht, hd8, hk⟩)
            rw [Forest.len_nil hk, Forest.layF, readL_nil]
        have hb : 1 ≤ t ∧ t ≤ 255 ∧ (128 ≤ t → b = []) ∧ (¬ 128 ≤ t → k = .nil) := by
          refine ⟨Decidable.byContradiction fun hc => h1 (.inr (.inl (by omega))), Decidable.byContradiction fun hc => h1 (.inr (.inr (.inl (by omega)))), fun ht => ?_, fun ht => ?_⟩
          · exact Decidable.byContradiction fun hc => h1 (.inr (.inr (.inr (.inl ⟨ht, List.length_pos_iff.2 hc⟩))))
          · exact Forest.len_nil fun hc => h1 (.inr (.inr (.inr (.inr (.inl ⟨ht, hc⟩)))))
        obtain ⟨g1, g2, g3, g4⟩ := hb
        obtain ⟨v, hv⟩ : ∃ v, v = if 128 ≤ t then k.layF else b := ⟨_, rfl⟩
        rw [← hv] at hi
        rw [Forest.layF, ← hv]
        have hvl : v.length < 4294967296 := by omega
        simp only [List.cons_append, List.nil_append]
        rw [readL_cons, lenH_bytes _ hvl, show t % 256 = t by omega, if_neg (by simp only [List.length_append]; omega), List.take_left' rfl, List.drop_left' rfl, ihr]
        by_cases ht : 128 ≤ t
        · rw [if_pos ht]
          rw [if_pos ht] at hv
          rw [hv, ihk ht, g3 ht]; rfl
        · rw [if_neg ht]
          rw [if_neg ht] at hv
          rw [hv, g4 ht]; rfl
end Go.Proofs.Ytdlhnipkhlihjaa
