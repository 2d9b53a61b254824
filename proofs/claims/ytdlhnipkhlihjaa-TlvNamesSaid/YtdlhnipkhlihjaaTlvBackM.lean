/- What is cut short is refused; what is laid is bytes. -/
import Derived.Test.YtdlhnipkhlihjaaTlvReadT
namespace Go.Proofs.Ytdlhnipkhlihjaa
open Go Go.RowKit
set_option linter.unusedVariables false
theorem RowF.bytes {n : Nat} {W : World} : ∀ (f : Forest) (b off : Nat), RowF n W f b off → ∀ z ∈ f.layF, 0 ≤ z ∧ z ≤ 255
  | .nil, b, off, h => by intro z hz; rw [Forest.layF] at hz; cases hz
  | .cons t bs k r, b, off, h => by
    obtain ⟨a, len, cap, ka, kl, kc, h1, h2, h3, h4, h5, h6, h7, h8, h9⟩ := h
    intro z hz
    rw [Forest.layF] at hz
    have hv : ∀ z ∈ (if 128 ≤ t then k.layF else bs), 0 ≤ z ∧ z ≤ 255 := by
      by_cases ht : 128 ≤ t
      · rw [if_pos ht]
        rcases h8 with h8 | ⟨b2, o2, _, _, _, _, g5⟩
        · have hk : k = .nil := Forest.len_nil (by omega)
          rw [hk, Forest.layF]
          intro z hz; cases hz
        · exact RowF.bytes k b2 o2 g5
      · rw [if_neg ht]; exact h6.1.2
    obtain ⟨v, hv2⟩ : ∃ v, v = if 128 ≤ t then k.layF else bs := ⟨_, rfl⟩
    rw [← hv2] at hv
    simp only [← hv2] at hz
    rcases List.mem_append.1 hz with hz | hz
    · rcases List.mem_append.1 hz with hz | hz
      · rcases List.mem_append.1 hz with hz | hz
        · simp only [List.mem_cons, List.not_mem_nil, or_false] at hz; omega
        · simp only [List.mem_cons, List.not_mem_nil, or_false] at hz; omega
      · exact hv z hz
    · exact RowF.bytes r b (off + 3) h9 z hz
theorem SlF.bytes {n : Nat} {W : World} {a : Option Addr} {len cap : Nat} {f : Forest} (h : SlF n W a len cap f) : ∀ z ∈ f.layF, 0 ≤ z ∧ z ≤ 255 := by
  obtain ⟨h1, h2 | ⟨b, off, _, _, _, _, g⟩⟩ := h
  · have hk : f = .nil := Forest.len_nil (by omega)
    rw [hk, Forest.layF]
    intro z hz; cases hz
  · exact RowF.bytes f b off g
/-- one field's bytes, cut short -/
theorem read_cut (t : Int) (b : List Int) (k : Forest) (h : 0 ≤ (Forest.cons t b k .nil).sizeL 1 0) (j : Nat) (h0 : 0 < j) (hj : j < (Forest.cons t b k .nil).layF.length) : readL 1 ((Forest.cons t b k .nil).layF.take j) = none := by
  have hl := layF_len _ 1 0 (Int.le_refl _) h
  have hs := Forest.sizeL_le (Forest.cons t b k .nil) 1 0 (Int.le_refl _)
  have hm : (Forest.cons t b k .nil).sizeL 1 0 ≤ 1048576 := by
    rw [Forest.sizeL] at h ⊢
    by_cases h1 : Forest.bad t b k.length 1 (k.sizeL (1 + 1) 0)
    · simp [h1] at h
    · simp only [h1, ↓reduceIte] at h ⊢
      by_cases h2 : 1048576 < 0 + (5 + Forest.innerOf t b k.length 1 (k.sizeL (1 + 1) 0))
      · rw [if_pos h2] at h; omega
      · rw [if_neg h2]; rw [Forest.sizeL]; omega
  rw [Forest.layF, Forest.layF] at hj hl ⊢
  obtain ⟨v, hv⟩ : ∃ v, v = if 128 ≤ t then k.layF else b := ⟨_, rfl⟩
  simp only [← hv, List.append_nil, List.cons_append, List.nil_append, List.length_cons] at hj hl ⊢
  by_cases h5 : j < 5
  · refine readL_short _ _ ?_ ?_
    · rw [List.length_take]; simp only [List.length_cons]; omega
    · rw [List.length_take]; omega
  · obtain ⟨i, rfl⟩ : ∃ i, j = i + 5 := ⟨j - 5, by omega⟩
    simp only [List.take_succ_cons]
    rw [readL_cons, lenH_bytes _ (by omega), if_pos]
    right; right
    rw [List.length_take]
    omega
end Go.Proofs.Ytdlhnipkhlihjaa
