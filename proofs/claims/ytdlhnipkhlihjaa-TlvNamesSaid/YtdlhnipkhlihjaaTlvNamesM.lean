/- The walk of the law's deep; the examples of the chapter, reckoned. -/
import Derived.Test.YtdlhnipkhlihjaaTlvReadT
import Derived.Test.YtdlhnipkhlihjaaTlvFindsW
import Derived.Test.YtdlhnipkhlihjaaTlvBackM
namespace Go.Proofs.Ytdlhnipkhlihjaa
open Go Go.RowKit
set_option linter.unusedVariables false
set_option linter.unnecessarySimpa false
/-- fields that stand so deep -/
def deepF : Nat → Forest
  | 0 => .cons 1 [] .nil .nil
  | n + 1 => .cons 128 [] (deepF n) .nil
theorem deepF_cnt : ∀ n, (deepF n).cnt = n + 1
  | 0 => rfl
  | n + 1 => by rw [deepF, Forest.cnt, deepF_cnt n]; simp [Forest.cnt]; omega
set_option maxHeartbeats 1000000 in
theorem deep_any (n : Nat) (h1 : 1 ≤ n) (h2 : n ≤ 1000) (W : World) :
    Calls Try.prog 26 #[.int .i64 (n : Int)] W fun e W' => ∃ x, e = .returned (.slice (some ⟨x, 0, none⟩) 1 1) ∧ SlF W'.heap.size W' (some ⟨x, 0, none⟩) 1 1 (deepF (n - 1)) ∧ Below W.heap.size W W' := by
  go_enter Try.func26, Try.ntmps26
  go_wp2
  go_loopw [3, 4] (fun l i wr => ∃ k x, l = .slice (some ⟨x, 0, none⟩) 1 1 ∧ i = .int .i64 ((k + 1 : Nat) : Int) ∧ k + 1 ≤ n ∧ SlF wr.heap.size wr (some ⟨x, 0, none⟩) 1 1 (deepF k) ∧ Below W.heap.size W wr) (fun _ i _ => n - (intOf i).toNat)
  case atStart =>
    have F0 : Fld W 1 [] .nil none 0 0 none 0 0 := ⟨row8_none _ _, slF_none _ _, by decide, by decide, by decide⟩
    obtain ⟨b, s⟩ := one_lit F0 _ (.inl rfl)
    exact ⟨0, W.heap.size, rfl, rfl, h1, s, b⟩
  case round =>
    obtain ⟨k, x, rfl, rfl, hk, hs, hb⟩ := hrel
    by_cases hlt : k + 1 < n
    · have t1 : decide ((((k + 1 : Nat) : Int)) < (n : Int)) = true := by simp; omega
      have F0 : Fld wr 128 [] (deepF k) none 0 0 (some ⟨x, 0, none⟩) 1 1 := ⟨row8_none _ _, hs, by decide, by decide, by rw [deepF_cnt]; simp; omega⟩
      have HF := Lib.hid F0
      clear hs F0
      go_wp2
      go_roundw
      case rel =>
        obtain ⟨b, s⟩ := one_lit (show Fld wr 128 [] (deepF k) none 0 0 (some ⟨x, 0, none⟩) 1 1 from HF) _ (.inl rfl)
        exact ⟨k + 1, wr.heap.size, rfl, by go_num, by omega, s, hb.trans (b.mono hb.size)⟩
      case measure => simp [intOf]; omega
    · have t1 : decide ((((k + 1 : Nat) : Int)) < (n : Int)) = false := by simp; omega
      obtain rfl : k = n - 1 := by omega
      have HS := Lib.hid hs
      clear hs
      go_wp2
      go_ret
      exact ⟨x, rfl, HS, hb⟩
theorem ex1 : readL 1 [1, 3, 0, 0, 0, 97, 98] = none := by rw [readL_cons, if_pos (by decide)]
theorem ex2 : readL 1 [0, 0, 0, 0, 0] = none := by rw [readL_cons, if_pos (by decide)]
theorem ex4 : tlvE (.cons 0 [] .nil .nil) = 220 := by decide
theorem ex5 : tlvE (.cons 256 [] .nil .nil) = 220 := by decide
theorem ex6 : tlvE (.cons 128 [1] .nil .nil) = 220 := by decide
theorem ex7 : tlvE (.cons 127 [] (.cons 1 [] .nil .nil) .nil) = 220 := by decide
theorem ex8 : tlvE (deepF 7) = 0 ∧ outB (deepF 7) = (deepF 7).layF ∧ (deepF 7).layF.length = 40 ∧ readL 1 (deepF 7).layF = some (deepF 7) := by
  refine ⟨by decide, by decide, by decide, ?_⟩
  exact read_lay (deepF 7) 1 0 (by decide) (by decide) (by decide)
theorem ex9 : tlvE (deepF 8) = 220 := by decide
theorem deepF_len : ∀ n, (deepF n).layF.length = 5 * (n + 1)
  | 0 => rfl
  | n + 1 => by
    rw [deepF, Forest.layF, Forest.layF, if_pos (by decide)]
    simp only [List.length_append, List.length_cons, List.length_nil, deepF_len n]
    omega
theorem too_deep : ∀ (n d : Nat), n ≤ 1000 → 8 < d + n → readL d (deepF n).layF = none
  | n, d, hn, h => by
    by_cases hd : 8 < d
    · cases hr : readL d (deepF n).layF with
      | none => rfl
      | some k =>
        have h1 := (read_deep hd hr).1
        have h2 := deepF_len n
        rw [h1] at h2
        simp at h2
    · match n, hn, h with
      | 0, _, h => omega
      | n + 1, hn, h =>
        have ih := too_deep n (d + 1) (by omega) (by omega)
        have hl := deepF_len n
        rw [deepF, Forest.layF, Forest.layF, if_pos (by decide)]
        obtain ⟨v, hv⟩ : ∃ v, v = (deepF n).layF := ⟨_, rfl⟩
        rw [← hv] at ih hl ⊢
        simp only [List.append_nil, List.cons_append, List.nil_append]
        rw [readL_cons, lenH_bytes _ (by omega), if_neg (by omega), if_pos (by decide), List.take_of_length_le (Nat.le_refl _), ih]
        rfl
theorem ex11 : readL 1 ([128, 40, 0, 0, 0] ++ (deepF 7).layF) = none := by
  rw [show ([128, 40, 0, 0, 0] ++ (deepF 7).layF) = (deepF 8).layF by decide]
  exact too_deep 8 1 (by decide) (by decide)
theorem ex12 (bs : List Int) (h : bs.length = 1048572) : (Forest.cons 1 bs .nil .nil).sizeL 1 0 < 0 ∧ (Forest.cons 1 bs .nil .nil).cnt ≤ 2000000 := by
  have hI : Forest.innerOf 1 bs Forest.nil.length 1 (Forest.nil.sizeL (1 + 1) 0) = 1048572 := by
    unfold Forest.innerOf
    rw [if_neg (by decide), h]; rfl
  have hb : ¬ Forest.bad 1 bs Forest.nil.length 1 (Forest.nil.sizeL (1 + 1) 0) := by
    unfold Forest.bad
    rw [hI]
    simp only [Forest.length]
    omega
  refine ⟨?_, by simp only [Forest.cnt]; omega⟩
  rw [Forest.sizeL_big hb hI (by omega)]
  decide
end Go.Proofs.Ytdlhnipkhlihjaa
