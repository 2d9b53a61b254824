/- Long division, digit by digit: what a list of digits is worth, and what a step turns. -/
import Derived.Test.YtcclakklaimiiaaCrcFitM
namespace Go.Proofs.Ytcclakklaimiiaa
set_option linter.unusedVariables false
/-- x to a power -/
def xpN (k : Nat) : Nat := crcTs k oneN
theorem xpN_lt (k : Nat) : xpN k < 4294967296 := crcTs_lt k (by decide)
theorem xpN_add (k m : Nat) : crcTs m (xpN k) = xpN (k + m) := by unfold xpN; rw [crcTs_add]
theorem xpN_low (k : Nat) (h : k ≤ 31) : xpN k = 2 ^ (31 - k) := crcTs_pow k 31 h
/-- what digits are worth, the first one the highest -/
def valW : List Nat → Nat
  | [] => 0
  | c :: r => (if c = 1 then xpN r.length else 0) ^^^ valW r
theorem valW_lt : ∀ l : List Nat, valW l < 4294967296
  | [] => by decide
  | c :: r => Nat.xor_lt_two_pow (n := 32) (by split; exact xpN_lt _; decide) (valW_lt r)
theorem valW_zeros : ∀ m, valW (List.replicate m 0) = 0
  | 0 => rfl
  | m + 1 => by rw [List.replicate_succ, valW, if_neg (by decide), Nat.zero_xor, valW_zeros m]
theorem valW_set : ∀ (l : List Nat) (j b : Nat), j < l.length → (l.getD j 0 = 0 ∨ l.getD j 0 = 1) → (b = 0 ∨ b = 1) →
    valW (l.set j ((l.getD j 0 + b) % 2)) = valW l ^^^ (if b = 1 then xpN (l.length - 1 - j) else 0)
  | [], j, b, h, _, _ => by simp at h
  | c :: r, 0, b, h, hc, hb => by
    simp only [List.getD_cons_zero] at hc ⊢
    rw [List.set_cons_zero, valW, valW, List.length_cons, show r.length + 1 - 1 - 0 = r.length by omega]
    have e : ∀ x y z : Nat, x ^^^ y ^^^ z = x ^^^ z ^^^ y := fun x y z => by rw [Nat.xor_assoc, Nat.xor_comm y, ← Nat.xor_assoc]
    rcases hc with rfl | rfl <;> rcases hb with rfl | rfl
    · simp
    · simp [Nat.xor_comm]
    · simp
    · simp only [Nat.reduceAdd, Nat.mod_self, Nat.zero_ne_one, ↓reduceIte, Nat.zero_xor]
      rw [e, Nat.xor_self, Nat.zero_xor]
  | c :: r, j + 1, b, h, hc, hb => by
    simp only [List.getD_cons_succ] at hc ⊢
    simp only [List.length_cons] at h
    rw [List.set_cons_succ, valW, valW, valW_set r j b (by omega) hc hb, List.length_set, ← Nat.xor_assoc, List.length_cons, show r.length + 1 - 1 - (j + 1) = r.length - 1 - j by omega]
/-- the divisor's digits -/
def byL : List Nat := [1, 0, 0, 0, 0, 0, 1, 0, 0, 1, 1, 0, 0, 0, 0, 0, 1, 0, 0, 0, 1, 1, 1, 0, 1, 1, 0, 1, 1, 0, 1, 1, 1]
theorem byL_bit (k : Nat) (h : k < 33) : byL.getD k 0 = 0 ∨ byL.getD k 0 = 1 := by
  have : ∀ k : Fin 33, byL.getD k.val 0 = 0 ∨ byL.getD k.val 0 = 1 := by decide
  exact this ⟨k, h⟩
/-- what so many digits of a list add, the first of them x to the power of M+N -/
def addG (l : List Nat) (top : Nat) : Nat → Nat
  | 0 => 0
  | k + 1 => addG l top k ^^^ (if l.getD k 0 = 1 then xpN (top - k) else 0)
theorem addG_shift (l : List Nat) (top M : Nat) : ∀ k, k ≤ top + 1 → addG l (top + M) k = crcTs M (addG l top k)
  | 0, _ => (crcTs_zero M).symm
  | k + 1, h => by
    rw [addG, addG, addG_shift l top M k (by omega), crcTs_xor]
    congr 1
    split
    · rw [xpN_add, show top + M - k = top - k + M by omega]
    · exact (crcTs_zero M).symm
theorem addG_by (M : Nat) : addG byL (32 + M) 33 = 0 := by
  rw [addG_shift byL 32 M 33 (by decide), show addG byL 32 33 = 0 by kernel_rfl, crcTs_zero]
/-- the word whose digits these are, the first one the lowest -/
def wordL : List Nat → Nat
  | [] => 0
  | c :: r => c + 2 * wordL r
def isDig (l : List Nat) : Prop := ∀ c ∈ l, c = 0 ∨ c = 1
theorem wordL_lt : ∀ l : List Nat, isDig l → wordL l < 2 ^ l.length
  | [], _ => by decide
  | c :: r, h => by
    have h1 := wordL_lt r (fun x hx => h x (List.mem_cons_of_mem _ hx))
    have h2 := h c (List.mem_cons_self ..)
    rw [wordL, List.length_cons, Nat.pow_succ]
    omega
theorem pow_odd (e v : Nat) : 2 ^ e ^^^ 2 * 2 ^ e * v = 2 ^ e * (1 + 2 * v) := by
  rw [show 2 * 2 ^ e * v = 2 ^ (e + 1) * v by rw [Nat.pow_succ, Nat.mul_comm 2]]
  refine Nat.eq_of_testBit_eq fun i => ?_
  rw [Nat.testBit_xor, Nat.testBit_two_pow, Nat.testBit_two_pow_mul, Nat.testBit_two_pow_mul]
  by_cases h1 : i < e
  · have a1 : ¬ e = i := by omega
    have a2 : ¬ e + 1 ≤ i := by omega
    have a3 : ¬ e ≤ i := by omega
    simp [a1, a2, a3]
  · by_cases h2 : e = i
    · subst h2
      have a2 : ¬ e + 1 ≤ e := by omega
      simp [a2]
    · obtain ⟨m, rfl⟩ : ∃ m, i = e + 1 + m := ⟨i - e - 1, by omega⟩
      have a2 : e + 1 ≤ e + 1 + m := by omega
      have a3 : e ≤ e + 1 + m := by omega
      rw [show e + 1 + m - (e + 1) = m by omega, show e + 1 + m - e = m + 1 by omega, Nat.testBit_succ, show (1 + 2 * v) / 2 = v by omega]
      simp [h2, a2, a3]
theorem valW_word : ∀ l : List Nat, isDig l → l.length ≤ 32 → valW l = 2 ^ (32 - l.length) * wordL l
  | [], _, _ => by simp [valW, wordL]
  | c :: r, h, hl => by
    simp only [List.length_cons] at hl
    have h1 := valW_word r (fun x hx => h x (List.mem_cons_of_mem _ hx)) (by omega)
    have h2 := h c (List.mem_cons_self ..)
    have e1 : 2 ^ (32 - r.length) = 2 * 2 ^ (32 - (r.length + 1)) := by rw [show 32 - r.length = 32 - (r.length + 1) + 1 by omega, Nat.pow_succ, Nat.mul_comm]
    have e2 : xpN r.length = 2 ^ (32 - (r.length + 1)) := by rw [xpN_low _ (by omega), show 31 - r.length = 32 - (r.length + 1) by omega]
    rw [valW, wordL, h1, List.length_cons, e1, e2]
    generalize 32 - (r.length + 1) = P
    generalize hPe : wordL r = v
    rcases h2 with rfl | rfl
    · rw [if_neg (by decide), Nat.zero_xor, Nat.zero_add, ← Nat.mul_assoc, Nat.mul_comm (2 ^ P) 2]
    · rw [if_pos rfl, pow_odd]
theorem valW_app : ∀ (p l : List Nat), valW (p ++ l) = crcTs l.length (valW p) ^^^ valW l
  | [], l => by rw [List.nil_append, valW, crcTs_zero, Nat.zero_xor]
  | c :: r, l => by
    rw [List.cons_append, valW, valW_app r l, valW, crcTs_xor, List.length_append, Nat.xor_assoc]
    congr 1
    split
    · exact (xpN_add _ _).symm
    · exact (crcTs_zero _).symm
/-- so many digits of a word, the lowest first -/
def bitsL (n : Nat) : Nat → List Nat
  | 0 => []
  | m + 1 => n % 2 :: bitsL (n / 2) m
theorem bitsL_length : ∀ m n, (bitsL n m).length = m
  | 0, _ => rfl
  | m + 1, n => by rw [bitsL, List.length_cons, bitsL_length m]
theorem bitsL_dig : ∀ m n, isDig (bitsL n m)
  | 0, _ => fun c h => by simp [bitsL] at h
  | m + 1, n => fun c h => by
    rcases List.mem_cons.1 h with rfl | h
    · omega
    · exact bitsL_dig m _ c h
theorem bitsL_word : ∀ m n, wordL (bitsL n m) = n % 2 ^ m
  | 0, n => by rw [bitsL, wordL, Nat.pow_zero, Nat.mod_one]
  | m + 1, n => by
    rw [bitsL, wordL, bitsL_word m, Nat.pow_succ, Nat.mul_comm (2 ^ m) 2, Nat.mod_mul]
theorem bitsL_snoc : ∀ m n, bitsL n (m + 1) = bitsL n m ++ [n / 2 ^ m % 2]
  | 0, n => by simp [bitsL]
  | m + 1, n => by
    rw [bitsL, bitsL_snoc m (n / 2)]
    rw [show bitsL n (m + 1) = n % 2 :: bitsL (n / 2) m from rfl, List.cons_append, Nat.div_div_eq_div_mul, Nat.pow_succ, Nat.mul_comm (2 ^ m) 2]
/-- the digits of bytes -/
def digL (b : List Nat) : List Nat := b.flatMap fun c => bitsL c 8
theorem digL_length (b : List Nat) : (digL b).length = 8 * b.length := by
  induction b with
  | nil => rfl
  | cons c r ih => rw [show digL (c :: r) = bitsL c 8 ++ digL r from rfl, List.length_append, bitsL_length, ih, List.length_cons]; omega
theorem digL_dig (b : List Nat) : isDig (digL b) := by
  intro c h
  obtain ⟨x, _, hx⟩ := List.mem_flatMap.1 h
  exact bitsL_dig 8 x c hx
theorem valW_bits8 (c : Nat) (h : c < 256) : valW (bitsL c 8) = 2 ^ 24 * c := by
  rw [valW_word _ (bitsL_dig 8 c) (by rw [bitsL_length]; decide), bitsL_length, bitsL_word, Nat.mod_eq_of_lt h]
theorem crcF_dig : ∀ (b : List Nat), (∀ x ∈ b, x < 256) → ∀ s, crcF s b = crcTs (8 * b.length) s ^^^ valW (digL b ++ List.replicate 32 0)
  | [], _, s => by rw [show digL [] ++ List.replicate 32 0 = List.replicate 32 0 from rfl, valW_zeros, Nat.xor_zero]; rfl
  | c :: r, hb, s => by
    have hc := hb c (List.mem_cons_self ..)
    rw [crcF, crcF_dig r (fun x hx => hb x (List.mem_cons_of_mem _ hx)), show digL (c :: r) ++ List.replicate 32 0 = bitsL c 8 ++ (digL r ++ List.replicate 32 0) by rw [← List.append_assoc]; rfl,
      valW_app (bitsL c 8), valW_bits8 c hc, ← Nat.xor_assoc, List.length_append, List.length_replicate, digL_length,
      show 8 * r.length + 32 = 24 + (8 + 8 * r.length) by omega, crcTs_add 24, crcTs_even, crcTs_add 8, List.length_cons, show 8 * (r.length + 1) = 8 + 8 * r.length by omega, crcTs_add 8 (8 * r.length) s, crcTs_xor 8 s c, crcTs_xor]
/-- digits turned -/
def turnL (l : List Nat) : List Nat := l.map fun c => 1 - c
theorem wordL_turn : ∀ l : List Nat, isDig l → wordL (turnL l) + wordL l + 1 = 2 ^ l.length
  | [], _ => rfl
  | c :: r, h => by
    have h1 := wordL_turn r (fun x hx => h x (List.mem_cons_of_mem _ hx))
    have h2 := h c (List.mem_cons_self ..)
    rw [show turnL (c :: r) = (1 - c) :: turnL r from rfl, wordL, wordL, List.length_cons, Nat.pow_succ]
    omega
theorem turnL_dig (l : List Nat) : isDig (turnL l) := by
  intro c h
  obtain ⟨x, _, rfl⟩ := List.mem_map.1 h
  omega
theorem ones_sub (n : Nat) (h : n < 4294967296) : n ^^^ onesN = 4294967295 - n := by
  refine Nat.eq_of_testBit_eq fun i => ?_
  rw [show 4294967295 - n = 2 ^ 32 - (n + 1) by omega, Nat.testBit_two_pow_sub_succ (by omega), Nat.testBit_xor, onesN, Nat.testBit_two_pow_sub_one]
  by_cases hi : i < 32
  · simp [hi]
  · rw [Nat.testBit_lt_two_pow (Nat.lt_of_lt_of_le h (show 2 ^ 32 ≤ 2 ^ i from Nat.pow_le_pow_right (by decide) (by omega)))]
    simp [hi]
theorem addG_cons (c : Nat) (r : List Nat) (top : Nat) : ∀ k, k ≤ top → addG (c :: r) top (k + 1) = (if c = 1 then xpN top else 0) ^^^ addG r (top - 1) k
  | 0, _ => by simp [addG]
  | k + 1, h => by
    rw [addG, addG_cons c r top k (by omega), addG, Nat.xor_assoc, List.getD_cons_succ, show top - (k + 1) = top - 1 - k by omega]
theorem addG_val : ∀ l : List Nat, addG l (l.length - 1) l.length = valW l
  | [] => rfl
  | c :: r => by
    rw [List.length_cons, Nat.add_sub_cancel, addG_cons c r r.length r.length (Nat.le_refl _), valW, addG_val r]
/-- the digits of a sum, as the document writes it -/
def writeL (n : Nat) : List Nat := turnL (bitsL n 32)
theorem writeL_length (n : Nat) : (writeL n).length = 32 := by rw [writeL, turnL, List.length_map, bitsL_length]
theorem writeL_val (n : Nat) (h : n < 4294967296) (q : Nat) : addG (writeL n) (q + 31) 32 = crcTs q (n ^^^ onesN) := by
  have h1 := addG_val (writeL n)
  rw [writeL_length] at h1
  rw [Nat.add_comm q 31, addG_shift (writeL n) 31 q 32 (by decide), h1, show valW (writeL n) = _ from valW_word (writeL n) (turnL_dig _) (by rw [writeL_length]; decide), writeL_length]
  have h2 := wordL_turn (bitsL n 32) (bitsL_dig 32 n)
  rw [bitsL_length, bitsL_word, Nat.mod_eq_of_lt h] at h2
  have h3 : wordL (writeL n) = 4294967295 - n := by
    rw [show wordL (writeL n) = wordL (turnL (bitsL n 32)) from rfl]
    generalize wordL (turnL (bitsL n 32)) = v at h2 ⊢
    omega
  rw [ones_sub n h, Nat.sub_self, Nat.pow_zero, Nat.one_mul, h3]
/-- what the document reads of the digits that are left -/
theorem read_val (ys : List Nat) (m : Nat) (hl : ys.length = m + 32) (hd : isDig ys) (h0 : ∀ j, j < m → ys.getD j 0 = 0) : wordL (turnL (ys.drop m)) = valW ys ^^^ onesN := by
  have hz : valW (ys.take m) = 0 := by
    have : ys.take m = List.replicate m 0 := by
      refine List.eq_replicate_iff.2 ⟨by rw [List.length_take]; omega, fun b hb => ?_⟩
      obtain ⟨j, hj, rfl⟩ := List.mem_iff_getElem.1 hb
      rw [List.length_take] at hj
      have := h0 j (by omega)
      rw [List.getElem_take]
      simpa [List.getD, List.getElem?_eq_getElem (show j < ys.length by omega)] using this
    rw [this, valW_zeros]
  have hv : valW ys = valW (ys.drop m) := by
    conv => lhs; rw [← List.take_append_drop m ys, valW_app, hz, crcTs_zero, Nat.zero_xor]
  have hd2 : isDig (ys.drop m) := fun c h => hd c (List.mem_of_mem_drop h)
  have hl2 : (ys.drop m).length = 32 := by rw [List.length_drop]; omega
  have h1 := wordL_turn (ys.drop m) hd2
  have h2 := valW_word (ys.drop m) hd2 (by omega)
  have h3 := wordL_lt (ys.drop m) hd2
  rw [hl2] at h1 h2 h3
  rw [Nat.sub_self, Nat.pow_zero, Nat.one_mul] at h2
  rw [hv, h2, ones_sub _ h3]
  omega
end Go.Proofs.Ytcclakklaimiiaa
