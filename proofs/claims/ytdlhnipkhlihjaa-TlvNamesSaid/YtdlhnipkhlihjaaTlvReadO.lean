/- What bytes read as lays these bytes. -/
import Derived.Test.YtdlhnipkhlihjaaTlvReadN
namespace Go.Proofs.Ytdlhnipkhlihjaa
open Go
set_option linter.unusedVariables false
theorem lenH_digits {b1 b2 b3 b4 : Int} (h1 : 0 ≤ b1 ∧ b1 ≤ 255) (h2 : 0 ≤ b2 ∧ b2 ≤ 255) (h3 : 0 ≤ b3 ∧ b3 ≤ 255) (h4 : 0 ≤ b4 ∧ b4 ≤ 255) :
    (lenH b1 b2 b3 b4 : Int) % 256 = b1 ∧ (lenH b1 b2 b3 b4 : Int) / 256 % 256 = b2 ∧ (lenH b1 b2 b3 b4 : Int) / 65536 % 256 = b3 ∧ (lenH b1 b2 b3 b4 : Int) / 16777216 % 256 = b4 := by
  unfold lenH; omega
theorem lay_read : ∀ (n d : Nat) (bs : List Int) (f : Forest), bs.length ≤ n → (∀ z ∈ bs, 0 ≤ z ∧ z ≤ 255) → readL d bs = some f → f.layF = bs
  | n, d, [], f, hn, hb, h => by
    rw [readL_nil] at h
    injection h with h
    rw [← h, Forest.layF]
  | 0, d, b :: r, f, hn, hb, h => by simp at hn
  | n + 1, d, [b0], f, hn, hb, h => by rw [readL_short _ _ (by simp) (by simp)] at h; cases h
  | n + 1, d, [b0, b1], f, hn, hb, h => by rw [readL_short _ _ (by simp) (by simp)] at h; cases h
  | n + 1, d, [b0, b1, b2], f, hn, hb, h => by rw [readL_short _ _ (by simp) (by simp)] at h; cases h
  | n + 1, d, [b0, b1, b2, b3], f, hn, hb, h => by rw [readL_short _ _ (by simp) (by simp)] at h; cases h
  | n + 1, d, b0 :: b1 :: b2 :: b3 :: b4 :: rest, f, hn, hb, h => by
    rw [readL_cons] at h
    simp only [List.mem_cons, forall_eq_or_imp] at hb
    obtain ⟨g0, g1, g2, g3, g4, gr⟩ := hb
    obtain ⟨e1, e2, e3, e4⟩ := lenH_digits g1 g2 g3 g4
    obtain ⟨L, hL⟩ : ∃ L, L = lenH b1 b2 b3 b4 := ⟨_, rfl⟩
    rw [← hL] at h e1 e2 e3 e4
    simp only [List.length_cons] at hn
    by_cases hc : 8 < d ∨ b0 = 0 ∨ rest.length < L
    · rw [if_pos hc] at h; cases h
    · rw [if_neg hc] at h
      have htl : (rest.take L).length = L := by rw [List.length_take]; omega
      have i1 := fun (d' : Nat) (k : Forest) => lay_read n d' (rest.take L) k (by omega) (fun z hz => gr z (List.mem_of_mem_take hz))
      have i2 := fun (r : Forest) => lay_read n d (rest.drop L) r (by rw [List.length_drop]; omega) (fun z hz => gr z (List.mem_of_mem_drop hz))
      have hfin : ∀ (v : List Int) (r : Forest), v = rest.take L → readL d (rest.drop L) = some r → [b0 % 256] ++ [(v.length : Int) % 256, (v.length : Int) / 256 % 256, (v.length : Int) / 65536 % 256, (v.length : Int) / 16777216 % 256] ++ v ++ r.layF = b0 :: b1 :: b2 :: b3 :: b4 :: rest := by
        intro v r hv hr
        rw [i2 r hr, hv, htl, e1, e2, e3, e4, show b0 % 256 = b0 by omega]
        simp
      by_cases ht : 128 ≤ b0
      · rw [if_pos ht] at h
        cases hk : readL (d + 1) (rest.take L) with
        | none => rw [hk] at h; cases h
        | some k =>
          cases hr : readL d (rest.drop L) with
          | none => rw [hk, hr] at h; cases h
          | some r =>
            rw [hk, hr] at h
            injection h with h
            rw [← h, Forest.layF, if_pos ht]
            exact hfin _ r (i1 _ k hk) hr
      · rw [if_neg ht] at h
        cases hr : readL d (rest.drop L) with
        | none => rw [hr] at h; cases h
        | some r =>
          rw [hr] at h
          injection h with h
          rw [← h, Forest.layF, if_neg ht]
          exact hfin _ r rfl hr
end Go.Proofs.Ytdlhnipkhlihjaa
