/- The walks of both Reads. -/
import Derived.Test.YtdlhnipkhlihjaaTlvRead
import Derived.Test.YtdlhnipkhlihjaaTlvRefBytes
import Derived.Test.YtdlhnipkhlihjaaTlvSize
namespace Go.Proofs.Ytdlhnipkhlihjaa
open Go Go.RowKit
set_option linter.unusedVariables false
set_option linter.unnecessarySimpa false
/-- what Read answers -/
def RPost (bs : List Int) (W : World) (e : Ending) (W' : World) : Prop :=
  Below W.heap.size W W' ∧ ∃ ra rl rc E, e = .returned (.tuple #[.slice ra rl rc, .int .i64 E]) ∧ ((readL 1 bs = none ∧ E = 220 ∧ ra = none ∧ rl = 0 ∧ rc = 0) ∨ ∃ f, readL 1 bs = some f ∧ E = 0 ∧ SlF W'.heap.size W' ra rl rc f)
set_option maxHeartbeats 1000000 in
theorem tRead_any (bs : List Int) (W : World) (a : Option Addr) (len cap : Nat) (hr : Row8 W.heap.size W (.slice a len cap) bs) (hb : bs.length ≤ 1048576) :
    Calls Try.prog 21 #[.slice a len cap] W (RPost bs W) := by
  have kr := tread_any bs.length 1 bs W a len cap (Nat.le_refl _) (.inl (by decide)) hb hr
  have hl := hr.1.open.1
  have t1 : decide ((1048576 : Int) < (len : Int)) = false := by simp; omega
  clear hr
  go_enter Try.func21, Try.ntmps21
  go_wp2_with (go_at_call 34; refine held ?_)
  unfold Held
  refine kr.mono ?_
  rintro e w1 ⟨b1, ra, rl, rc, ok, rfl, hno, hs⟩
  try dsimp only
  cases ok with
  | false =>
    have H := Lib.hid (hno rfl)
    clear hno hs kr
    go_wp2
    go_ret2
    exact ⟨b1, _, _, _, _, rfl, .inl ⟨H, rfl, rfl, rfl, rfl⟩⟩
  | true =>
    have H := Lib.hid (hs rfl)
    clear hno hs kr
    go_wp2
    go_ret2
    obtain ⟨f, hf, hS⟩ := (show ∃ f, readL 1 bs = some f ∧ ∀ (W2 : World) (n' : Nat), _ from H)
    exact ⟨b1, _, _, _, _, rfl, .inr ⟨f, hf, rfl, hS w1 w1.heap.size fun x hx => ⟨rfl, by omega⟩⟩⟩
set_option maxHeartbeats 1000000 in
theorem rRead_any (bs : List Int) (W : World) (a : Option Addr) (len cap : Nat) (hr : Row8 W.heap.size W (.slice a len cap) bs) (hb : bs.length ≤ 1048576) :
    Calls Try.prog 23 #[.slice a len cap] W (RPost bs W) := by
  have kr := rread_any bs.length W.heap.size 1 bs W a len cap (Nat.le_refl _) (Nat.le_refl _) (by decide) hb hr
  have hl := hr.1.open.1
  have t1 : decide ((1048576 : Int) < (len : Int)) = false := by simp; omega
  clear hr
  go_enter Try.func23, Try.ntmps23
  go_wp2_with (go_at_call 37; refine held ?_)
  unfold Held
  refine kr.mono ?_
  rintro e w1 ⟨b1, ra, rl, rc, ok, rfl, hno, hs⟩
  try dsimp only
  cases ok with
  | false =>
    have H := Lib.hid (hno rfl)
    clear hno hs kr
    go_wp2
    go_ret2
    exact ⟨b1, _, _, _, _, rfl, .inl ⟨H, rfl, rfl, rfl, rfl⟩⟩
  | true =>
    have H := Lib.hid (hs rfl)
    clear hno hs kr
    go_wp2
    go_ret2
    obtain ⟨f, hf, hS⟩ := (show ∃ f, readL 1 bs = some f ∧ ∀ (W2 : World) (n' : Nat), _ from H)
    have hs1 := b1.size
    exact ⟨b1, _, _, _, _, rfl, .inr ⟨f, hf, rfl, hS w1 w1.heap.size fun x hx => ⟨rfl, by omega⟩⟩⟩
/-- how many there are of what was read -/
theorem cnt_read : ∀ (m d : Nat) (bs : List Int) (f : Forest), bs.length ≤ m → readL d bs = some f → f.cnt ≤ bs.length
  | m, d, [], f, hm, h => by
    rw [readL_nil] at h
    injection h with h
    rw [← h]; exact Nat.le_refl _
  | 0, d, b :: r, f, hm, h => by simp at hm
  | m + 1, d, [b0], f, hm, h => by rw [readL_short _ _ (by simp) (by simp)] at h; cases h
  | m + 1, d, [b0, b1], f, hm, h => by rw [readL_short _ _ (by simp) (by simp)] at h; cases h
  | m + 1, d, [b0, b1, b2], f, hm, h => by rw [readL_short _ _ (by simp) (by simp)] at h; cases h
  | m + 1, d, [b0, b1, b2, b3], f, hm, h => by rw [readL_short _ _ (by simp) (by simp)] at h; cases h
  | m + 1, d, b0 :: b1 :: b2 :: b3 :: b4 :: rest, f, hm, h => by
    rw [readL_cons] at h
    obtain ⟨L, hL⟩ : ∃ L, L = lenH b1 b2 b3 b4 := ⟨_, rfl⟩
    rw [← hL] at h
    simp only [List.length_cons] at hm ⊢
    by_cases hc : 8 < d ∨ b0 = 0 ∨ rest.length < L
    · rw [if_pos hc] at h; cases h
    · rw [if_neg hc] at h
      have htl : (rest.take L).length = L := by rw [List.length_take]; omega
      have hdl : (rest.drop L).length = rest.length - L := by rw [List.length_drop]
      have i1 := fun (k : Forest) => cnt_read m (d + 1) (rest.take L) k (by omega)
      have i2 := fun (r : Forest) => cnt_read m d (rest.drop L) r (by omega)
      by_cases ht : 128 ≤ b0
      · rw [if_pos ht] at h
        cases hk : readL (d + 1) (rest.take L) with
        | none => rw [hk] at h; cases h
        | some k =>
          cases hr : readL d (rest.drop L) with
          | none => rw [hk, hr] at h; cases h
          | some r =>
            rw [hk, hr] at h
            injection h with h
            have h1 := i1 k hk
            have h2 := i2 r hr
            rw [← h, Forest.cnt]
            simp only [List.length_nil]
            omega
      · rw [if_neg ht] at h
        cases hr : readL d (rest.drop L) with
        | none => rw [hr] at h; cases h
        | some r =>
          rw [hr] at h
          injection h with h
          have h2 := i2 r hr
          rw [← h, Forest.cnt, htl]
          simp only [Forest.cnt]
          omega
theorem sizeR_out (f : Forest) : sizeR f = ((outB f).length : Int) := by
  unfold sizeR outB
  by_cases h : f.sizeL 1 0 < 0
  · rw [if_pos h, if_pos h]; rfl
  · rw [if_neg h, if_neg h]
    have := layF_len f 1 0 (Int.le_refl _) (by omega)
    omega
end Go.Proofs.Ytdlhnipkhlihjaa
