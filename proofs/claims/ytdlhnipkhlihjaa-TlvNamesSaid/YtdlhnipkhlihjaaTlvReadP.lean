/- What bytes read as has as many bytes. -/
import Derived.Test.YtdlhnipkhlihjaaTlvReadO
namespace Go.Proofs.Ytdlhnipkhlihjaa
open Go
set_option linter.unusedVariables false
theorem read_deep {d : Nat} {bs : List Int} {k : Forest} (hd : 8 < d) (h : readL d bs = some k) : bs = [] ∧ k = .nil := by
  match bs, h with
  | [], h => rw [readL_nil] at h; injection h with h; exact ⟨rfl, h.symm⟩
  | [_], h => rw [readL_short _ _ (by simp) (by simp)] at h; cases h
  | [_, _], h => rw [readL_short _ _ (by simp) (by simp)] at h; cases h
  | [_, _, _], h => rw [readL_short _ _ (by simp) (by simp)] at h; cases h
  | [_, _, _, _], h => rw [readL_short _ _ (by simp) (by simp)] at h; cases h
  | _ :: _ :: _ :: _ :: _ :: _, h => rw [readL_cons, if_pos (.inl hd)] at h; cases h
theorem size_read : ∀ (m d : Nat) (bs : List Int) (f : Forest) (n : Int), bs.length ≤ m → 0 ≤ n → n + bs.length ≤ 1048576 → (∀ z ∈ bs, 0 ≤ z ∧ z ≤ 255) → readL d bs = some f → f.sizeL d n = n + bs.length
  | m, d, [], f, n, hm, hn, hs, hb, h => by
    rw [readL_nil] at h
    injection h with h
    rw [← h, Forest.sizeL]; simp
  | 0, d, b :: r, f, n, hm, hn, hs, hb, h => by simp at hm
  | m + 1, d, [b0], f, n, hm, hn, hs, hb, h => by rw [readL_short _ _ (by simp) (by simp)] at h; cases h
  | m + 1, d, [b0, b1], f, n, hm, hn, hs, hb, h => by rw [readL_short _ _ (by simp) (by simp)] at h; cases h
  | m + 1, d, [b0, b1, b2], f, n, hm, hn, hs, hb, h => by rw [readL_short _ _ (by simp) (by simp)] at h; cases h
  | m + 1, d, [b0, b1, b2, b3], f, n, hm, hn, hs, hb, h => by rw [readL_short _ _ (by simp) (by simp)] at h; cases h
  | m + 1, d, b0 :: b1 :: b2 :: b3 :: b4 :: rest, f, n, hm, hn, hs, hb, h => by
    rw [readL_cons] at h
    simp only [List.mem_cons, forall_eq_or_imp] at hb
    obtain ⟨g0, g1, g2, g3, g4, gr⟩ := hb
    obtain ⟨L, hL⟩ : ∃ L, L = lenH b1 b2 b3 b4 := ⟨_, rfl⟩
    rw [← hL] at h
    simp only [List.length_cons] at hm hs ⊢
    by_cases hc : 8 < d ∨ b0 = 0 ∨ rest.length < L
    · rw [if_pos hc] at h; cases h
    · rw [if_neg hc] at h
      have htl : (rest.take L).length = L := by rw [List.length_take]; omega
      have hdl : (rest.drop L).length = rest.length - L := by rw [List.length_drop]
      have i1 := fun (k : Forest) => size_read m (d + 1) (rest.take L) k 0 (by omega) (Int.le_refl _) (by omega) (fun z hz => gr z (List.mem_of_mem_take hz))
      have i2 := fun (r : Forest) => size_read m d (rest.drop L) r (n + (5 + (L : Int))) (by omega) (by omega) (by omega) (fun z hz => gr z (List.mem_of_mem_drop hz))
      rw [htl] at i1
      by_cases ht : 128 ≤ b0
      · rw [if_pos ht] at h
        cases hk : readL (d + 1) (rest.take L) with
        | none => rw [hk] at h; cases h
        | some k =>
          cases hr : readL d (rest.drop L) with
          | none => rw [hk, hr] at h; cases h
          | some r =>
            rw [hk, hr] at h
            injection h with h
            have hK := i1 k hk
            have h8 : ¬ d < 8 → L = 0 ∧ ¬ 0 < k.length := fun hd => by
              obtain ⟨e1, e2⟩ := read_deep (by omega) hk
              rw [e1] at htl
              rw [e2]
              exact ⟨htl.symm, by simp [Forest.length]⟩
            have hI : Forest.innerOf b0 [] k.length d (k.sizeL (d + 1) 0) = L := by
              unfold Forest.innerOf
              rw [if_pos ht]
              split
              · omega
              · next hd => have := (h8 hd).1; omega
            have hnb : ¬ Forest.bad b0 [] k.length d (k.sizeL (d + 1) 0) := by
              unfold Forest.bad
              rw [hI]
              have h9 := fun hd => (h8 hd).2
              simp only [List.length_nil]
              by_cases hd : d < 8
              · omega
              · have := h9 hd
                omega
            rw [← h, Forest.sizeL_next hnb hI (by omega), i2 r hr, hdl]
            omega
      · rw [if_neg ht] at h
        cases hr : readL d (rest.drop L) with
        | none => rw [hr] at h; cases h
        | some r =>
          rw [hr] at h
          injection h with h
          have hI : Forest.innerOf b0 (rest.take L) Forest.nil.length d (Forest.nil.sizeL (d + 1) 0) = L := by
            unfold Forest.innerOf
            rw [if_neg ht, htl]
          have hnb : ¬ Forest.bad b0 (rest.take L) Forest.nil.length d (Forest.nil.sizeL (d + 1) 0) := by
            unfold Forest.bad
            rw [hI]
            simp only [Forest.length]
            omega
          rw [← h, Forest.sizeL_next hnb hI (by omega), i2 r hr, hdl]
          omega
end Go.Proofs.Ytdlhnipkhlihjaa
