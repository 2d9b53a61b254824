/- Words of bytes of words, and back. -/
import Derived.Test.YtkagconllphdiaaWordRead
namespace Go.Proofs.Ytkagconllphdiaa
open Go Go.RowKit
set_option linter.unusedVariables false
theorem leW_append (p q : List Int) (b n : Nat) : leW (p ++ q) (p.length + b) n = leW q b n := by
  induction n with
  | zero => rfl
  | succ n ih =>
    simp only [leW, ih]
    have : (p ++ q).getD (p.length + b + n) 0 = q.getD (b + n) 0 := by
      simp only [List.getD]
      rw [List.getElem?_append_right (by omega), show p.length + b + n - p.length = b + n from by omega]
    rw [this]
theorem wordsV_cons (a b c d : Int) (q : List Int) (n : Nat) : wordsV (a :: b :: c :: d :: q) (n + 1) = ((leW [a, b, c, d] 0 4 : Nat) : Int) :: wordsV q n := by
  have e : ∀ i, leW (a :: b :: c :: d :: q) (4 * (i + 1)) 4 = leW q (4 * i) 4 := fun i => by
    have := leW_append [a, b, c, d] q (4 * i) 4
    rw [show 4 * (i + 1) = [a, b, c, d].length + 4 * i from by simp; omega]
    exact this
  unfold wordsV
  rw [List.range_succ_eq_map, List.map_cons, List.map_map]
  exact congrArg (List.cons _) (List.map_congr_left fun i _ => by simp only [Function.comp, Nat.succ_eq_add_one, e])
theorem leW_bytes (x : Nat) (hx : x < 4294967296) : leW (bytesL x) 0 4 = x := by
  have h1 : ((x : Int) % 256).toNat = x % 256 := by omega
  have h2 : ((x : Int) / 256 % 256).toNat = x / 256 % 256 := by omega
  have h3 : ((x : Int) / 65536 % 256).toNat = x / 65536 % 256 := by omega
  have h4 : ((x : Int) / 16777216).toNat = x / 16777216 := by omega
  simp [leW, bytesL, List.getD, h1, h2, h3, h4]
  omega
theorem readV_bytes (x : Nat) (hx : x < 4294967296) : readV (bytesL x) = x ∧ readE (bytesL x) = 0 := by
  have : (bytesL x).length = 4 := rfl
  simp only [readV, readE, this, if_true, leW_bytes x hx]
  exact ⟨trivial, trivial⟩
theorem words_bytes (ls : List Int) (h : ∀ z ∈ ls, 0 ≤ z ∧ z < 4294967296) : wordsV (bytesLL ls) ls.length = ls := by
  induction ls with
  | nil => rfl
  | cons z ls ih =>
    have hz := h z List.mem_cons_self
    have e : bytesLL (z :: ls) = (z.toNat : Int) % 256 :: (z.toNat : Int) / 256 % 256 :: (z.toNat : Int) / 65536 % 256 :: (z.toNat : Int) / 16777216 :: bytesLL ls := by simp [bytesLL, bytesL]
    rw [e, List.length_cons, wordsV_cons, ih fun y hy => h y (List.mem_cons_of_mem _ hy)]
    have := leW_bytes z.toNat (by omega)
    rw [show [(z.toNat : Int) % 256, (z.toNat : Int) / 256 % 256, (z.toNat : Int) / 65536 % 256, (z.toNat : Int) / 16777216] = bytesL z.toNat from rfl, this]
    congr 1; omega
theorem bytes_words : ∀ (n : Nat) (zs : List Int), zs.length = 4 * n → (∀ z ∈ zs, 0 ≤ z ∧ z ≤ 255) → bytesLL (wordsV zs n) = zs
  | 0, zs, h, _ => by
    have : zs = [] := List.eq_nil_of_length_eq_zero (by omega)
    subst this; rfl
  | n + 1, a :: b :: c :: d :: q, h, hz => by
    rw [wordsV_cons]
    have ih := bytes_words n q (by simp at h; omega) fun z hzq => hz z (by simp [hzq])
    have ha := hz a (by simp)
    have hb := hz b (by simp)
    have hc := hz c (by simp)
    have hd := hz d (by simp)
    have e : bytesLL (((leW [a, b, c, d] 0 4 : Nat) : Int) :: wordsV q n) = bytesL (leW [a, b, c, d] 0 4) ++ bytesLL (wordsV q n) := by simp [bytesLL]
    rw [e, ih]
    have hv : ((leW [a, b, c, d] 0 4 : Nat) : Int) = a + 256 * b + 65536 * c + 16777216 * d := by
      simp [leW, List.getD]; omega
    simp only [bytesL, hv]
    simp only [List.cons_append, List.nil_append]
    congr 1
    · omega
    congr 1
    · omega
    congr 1
    · omega
    congr 1
    · omega
  | n + 1, [], h, _ => by simp at h
  | n + 1, [_], h, _ => by simp at h; omega
  | n + 1, [_, _], h, _ => by simp at h; omega
  | n + 1, [_, _, _], h, _ => by simp at h; omega
end Go.Proofs.Ytkagconllphdiaa
