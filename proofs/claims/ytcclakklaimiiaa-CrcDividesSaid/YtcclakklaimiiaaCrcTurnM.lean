/- Bits turned in bytes; bytes that are sealed. -/
import Derived.Test.YtcclakklaimiiaaCrcSealW
namespace Go.Proofs.Ytcclakklaimiiaa
open Go Go.RowKit
set_option linter.unusedVariables false
/-- one bit turned -/
def flipN : List Nat → Nat → List Nat
  | [], _ => []
  | c :: r, p => if p < 8 then (c ^^^ 2 ^ p) :: r else c :: flipN r (p - 8)
theorem flipN_set : ∀ (cs : List Nat) (p : Nat), p < 8 * cs.length → flipN cs p = cs.set (p / 8) ((cs.getD (p / 8) 0) ^^^ 2 ^ (p % 8))
  | [], p, h => by simp at h
  | c :: r, p, h => by
    unfold flipN
    by_cases hp : p < 8
    · rw [if_pos hp, show p / 8 = 0 by omega, show p % 8 = p by omega]; rfl
    · rw [if_neg hp, flipN_set r (p - 8) (by simp only [List.length_cons] at h; omega), show p / 8 = (p - 8) / 8 + 1 by omega, show (p - 8) % 8 = p % 8 by omega]
      rfl
theorem crcTs_bit (j k : Nat) (h : j ≤ k) : crcTs k (2 ^ j) = crcTs (k - j) 1 := by
  have : k = j + (k - j) := by omega
  conv => lhs; rw [this, crcTs_add, crcTs_pow j j (Nat.le_refl _), Nat.sub_self]
theorem crcF_flip : ∀ (cs : List Nat) (s p : Nat), p < 8 * cs.length → crcF s (flipN cs p) = crcF s cs ^^^ crcTs (8 * cs.length - p) 1
  | [], s, p, h => by simp at h
  | c :: r, s, p, h => by
    unfold flipN
    by_cases hp : p < 8
    · rw [if_pos hp, crcF, crcF, ← Nat.xor_assoc, crcTs_xor, crcF_xor, ← crcTs_add, List.length_cons, crcTs_bit _ _ (by omega), show 8 + 8 * r.length - p = 8 * (r.length + 1) - p by omega]
    · rw [if_neg hp, crcF, crcF, crcF_flip r _ (p - 8) (by simp only [List.length_cons] at h; omega), List.length_cons, show 8 * r.length - (p - 8) = 8 * (r.length + 1) - p by omega]
theorem turn_step (T : Nat) (turn k : Nat) (h : k ≤ T) : crcTs T (turn % 2 ^ (k + 1)) = crcTs T (turn % 2 ^ k) ^^^ (if turn.testBit k then crcTs (T - k) 1 else 0) := by
  have e : turn % 2 ^ (k + 1) = turn % 2 ^ k ^^^ (if turn.testBit k then 2 ^ k else 0) := by
    have := bit_split (turn % 2 ^ (k + 1)) k (Nat.mod_lt _ (Nat.two_pow_pos _))
    rw [Nat.mod_mod_of_dvd _ (Nat.pow_dvd_pow 2 (Nat.le_succ k)), Nat.testBit_mod_two_pow, decide_eq_true (Nat.lt_succ_self k), Bool.true_and] at this
    exact this
  rw [e, crcTs_xor]
  congr 1
  split
  · exact crcTs_bit k T h
  · exact crcTs_zero T
/-- the word of four bytes -/
theorem leW4 (b0 b1 b2 b3 : Int) : leW [b0, b1, b2, b3] 0 4 = b0.toNat + 256 * b1.toNat + 65536 * b2.toNat + 16777216 * b3.toNat := by
  simp [leW]
theorem leW_bytes (x : Nat) (h : x < 4294967296) : leW (bytesL x) 0 4 = x := by
  unfold bytesL
  rw [leW4]
  omega
theorem four_of {zs : List Int} (h : zs.length = 4) : ∃ a b c d, zs = [a, b, c, d] := by
  match zs, h with
  | [a, b, c, d], _ => exact ⟨a, b, c, d, rfl⟩
theorem wbytes_le {zs : List Int} (h : zs.length = 4) (hz : ∀ z ∈ zs, 0 ≤ z ∧ z ≤ 255) : zs.map Int.toNat = wbytes (leW zs 0 4) ∧ leW zs 0 4 < 4294967296 := by
  obtain ⟨a, b, c, d, rfl⟩ := four_of h
  have ha := hz a (by simp)
  have hb := hz b (by simp)
  have hc := hz c (by simp)
  have hd := hz d (by simp)
  rw [leW4]
  refine ⟨?_, by omega⟩
  simp only [wbytes, List.map_cons, List.map_nil]
  congr 1
  · omega
  · congr 1
    · omega
    · congr 1
      · omega
      · congr 1
        omega
theorem opens_iff (zs : List Int) (hz : ∀ z ∈ zs, 0 ≤ z ∧ z ≤ 255) (h4 : 4 ≤ zs.length) : opens zs ↔ crcF onesN (zs.map Int.toNat) = crcTs 32 onesN := by
  have hsplit : zs.map Int.toNat = (zs.take (zs.length - 4)).map Int.toNat ++ (zs.drop (zs.length - 4)).map Int.toNat := by
    rw [← List.map_append, List.take_append_drop]
  obtain ⟨hw, hwl⟩ := wbytes_le (zs := zs.drop (zs.length - 4)) (by rw [List.length_drop]; omega) (fun z h => hz z (List.mem_of_mem_drop h))
  have hs := sumL_lt (zs.take (zs.length - 4)) (fun z h => hz z (List.mem_of_mem_take h))
  have hF : crcF onesN ((zs.take (zs.length - 4)).map Int.toNat) = sumL (zs.take (zs.length - 4)) ^^^ onesN := by
    show _ = crcF (0 ^^^ onesN) _ ^^^ onesN ^^^ onesN
    rw [xor_back, Nat.zero_xor]
  unfold opens
  rw [hsplit, hw, crcF_append, crcF_word, hF]
  obtain ⟨L, hL⟩ : ∃ L, L = leW (zs.drop (zs.length - 4)) 0 4 := ⟨_, rfl⟩
  obtain ⟨S, hS⟩ : ∃ S, S = sumL (zs.take (zs.length - 4)) := ⟨_, rfl⟩
  rw [← hL] at hwl ⊢
  rw [← hS] at hs ⊢
  constructor
  · rintro ⟨_, rfl⟩
    rw [Nat.xor_comm L, xor_back]
  · intro h
    refine ⟨h4, ?_⟩
    have h1 := crcTs_inj 32 (Nat.xor_lt_two_pow (n := 32) (ones_lt hs) hwl) (by decide) h
    have h2 : S ^^^ L = 0 := by
      have h3 := congrArg (· ^^^ onesN) h1
      simp only [Nat.xor_self] at h3
      rw [← h3, Nat.xor_assoc S, Nat.xor_comm onesN L, ← Nat.xor_assoc S, xor_back]
    exact (xor_zero_of h2).symm
theorem opens_sealed (zs : List Int) (hz : ∀ z ∈ zs, 0 ≤ z ∧ z ≤ 255) : opens (zs ++ bytesL (sumL zs)) := by
  have e : (zs ++ bytesL (sumL zs)).length - 4 = zs.length := by simp [bytesL]
  unfold opens
  rw [e, List.drop_left, List.take_left, leW_bytes _ (sumL_lt zs hz)]
  exact ⟨by simp [bytesL], rfl⟩
theorem flip_step (A : Nat) (ys : List Int) (L R k turn C j r : Nat) (hys : ys.length = L) (hj : j = (R + k) / 8) (hr : r = (R + k) % 8) (h : R + 31 < 8 * L) (hk : k < 32) (hC : ys.getD j 0 = (C : Int)) (hbit : turn.testBit k = true)
    (hF : crcF onesN (ys.map Int.toNat) = A ^^^ crcTs (8 * L - R) (turn % 2 ^ k)) :
    crcF onesN ((ys.set j ((C ^^^ 2 ^ r : Nat) : Int)).map Int.toNat) = A ^^^ crcTs (8 * L - R) (turn % 2 ^ (k + 1)) := by
  have hjL : j < ys.length := by omega
  have e1 : (ys.map Int.toNat).getD ((R + k) / 8) 0 = C := by
    rw [getD_at ys j hjL] at hC
    rw [← hj, List.getD_eq_getElem?_getD, List.getElem?_map, List.getElem?_eq_getElem hjL]
    simp only [Option.map_some, Option.getD_some, hC, Int.toNat_natCast]
  have e2 := flipN_set (ys.map Int.toNat) (R + k) (by rw [List.length_map]; omega)
  rw [e1, ← hj, ← hr] at e2
  rw [List.map_set, Int.toNat_natCast, ← e2, crcF_flip _ _ _ (by rw [List.length_map]; omega), hF, turn_step _ _ _ (by omega), if_pos hbit, List.length_map, hys, ← Nat.xor_assoc, show 8 * L - (R + k) = 8 * L - R - k by omega]
theorem skip_step (A : Nat) (F L R k turn : Nat) (h : R + 31 < 8 * L) (hk : k < 32) (hbit : ¬ turn.testBit k = true) (hF : F = A ^^^ crcTs (8 * L - R) (turn % 2 ^ k)) : F = A ^^^ crcTs (8 * L - R) (turn % 2 ^ (k + 1)) := by
  rw [hF, turn_step _ _ _ (by omega), if_neg hbit, Nat.xor_zero]
theorem b8_nat (a : Nat) (ha : a < 256) : (BitVec.ofInt 8 (a : Int)).toNat = a := by
  rw [BitVec.ofInt_natCast, BitVec.toNat_ofNat]; exact Nat.mod_eq_of_lt (by omega)
theorem xor_u8 (a b : Nat) (ha : a < 256) (hb : b < 256) : bits .xor .u8 a b = ((a ^^^ b : Nat) : Int) := by
  have h : a ^^^ b < 2 ^ 8 := Nat.xor_lt_two_pow (by omega) (by omega)
  show IntKind.u8.wrap ((BitVec.ofInt 8 (a : Int) ^^^ BitVec.ofInt 8 (b : Int)).toNat : Int) = _
  rw [BitVec.toNat_xor, b8_nat a ha, b8_nat b hb, IntKind.wrap_u8]
  omega
theorem xor_bit (C r : Nat) (hC : C ≤ 255) (hr : r < 8) : bits .xor .u8 (C : Int) ((2 : Int) ^ r % 256) = ((C ^^^ 2 ^ r : Nat) : Int) ∧ C ^^^ 2 ^ r ≤ 255 := by
  have h1 : 2 ^ r < 2 ^ 8 := Nat.pow_lt_pow_right (by decide) hr
  have e : (2 : Int) ^ r = ((2 ^ r : Nat) : Int) := by simp
  rw [e]
  generalize 2 ^ r = B at h1 ⊢
  have h2 : C ^^^ B < 2 ^ 8 := Nat.xor_lt_two_pow (by omega) h1
  rw [show ((B : Nat) : Int) % 256 = (B : Int) by omega]
  exact ⟨xor_u8 C B (by omega) (by omega), by omega⟩
theorem bit_of (turn k : Nat) : bits .and .u32 ((turn : Int) / 2 ^ k) 1 = ((turn.testBit k).toNat : Int) := by
  rw [and1_u32, Nat.toNat_testBit]
  simp
theorem turned_iff (cs ys : List Int) (L R turn : Nat) (hys : ys.length = L) (hyb : ∀ y ∈ ys, 0 ≤ y ∧ y ≤ 255) (h4 : 4 ≤ L) (ht : turn < 4294967296) (hcs : crcF onesN (cs.map Int.toNat) = crcTs 32 onesN)
    (hF : crcF onesN (ys.map Int.toNat) = crcF onesN (cs.map Int.toNat) ^^^ crcTs (8 * L - R) (turn % 2 ^ 32)) : opens ys ↔ turn = 0 := by
  rw [opens_iff ys hyb (by omega), hF, hcs, Nat.mod_eq_of_lt ht]
  constructor
  · intro h
    have h2 : crcTs (8 * L - R) turn = 0 := by
      have h3 := congrArg (crcTs 32 onesN ^^^ ·) h
      simp only [← Nat.xor_assoc, Nat.xor_self, Nat.zero_xor] at h3
      exact h3
    exact crcTs_inj _ ht (by decide) (by rw [h2, crcTs_zero])
  · rintro rfl
    rw [crcTs_zero, Nat.xor_zero]
end Go.Proofs.Ytcclakklaimiiaa
