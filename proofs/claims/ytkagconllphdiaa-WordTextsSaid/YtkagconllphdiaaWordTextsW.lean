/- The walk of the law WordTexts. -/
import Derived.Test.YtkagconllphdiaaWordRefParse
namespace Go.Proofs.Ytkagconllphdiaa
open Go.ChangeShapes Go.WideShapes Go.ChangeAt Go.RowKit
set_option maxHeartbeats 1000000 in
theorem wordTexts_nat (x : Nat) (s : ByteArray) (w : World) (hx : x < 4294967296) (hs : s.size ≤ maxLen) :
    Calls Try.prog 3 #[.int .u32 x, .string s] w fun e w' => e = .returned (.bool true) ∧ Below w.heap.size w w' := by
  by_cases h : 100 < s.size
  · have h1 : (100 : Int) < (s.size : Int) := by omega
    go_enter Try.func3, Try.ntmps3
    go_wp2_with fail
    go_ret
    exact ⟨rfl, Below.refl _ _⟩
  · have h1 : ¬ (100 : Int) < (s.size : Int) := by omega
    have hb := Below.refl w.heap.size w
    go_enter Try.func3, Try.ntmps3
    go_wp2_with (first
      | (go_at_call 12; refine (parse_any _ _ hs).mono ?_; rintro e w1 ⟨rfl, hb1⟩; replace hb := Below.step hb hb1; clear hb1)
      | (go_at_call 13; refine (rparse_any _ _).mono ?_; rintro e w1 ⟨rfl, hb1⟩; replace hb := Below.step hb hb1; clear hb1)
      | (go_at_call 14; refine (text_any _ _).mono ?_; rintro e w1 ⟨rfl, hb1⟩; replace hb := Below.step hb hb1; clear hb1)
      | (go_at_call 15; refine (rtext_any _ _ hx).mono ?_; rintro e w1 ⟨rfl, hb1⟩; replace hb := Below.step hb hb1; clear hb1))
    go_ret
    exact ⟨rfl, hb⟩
theorem wordTexts_any (x : Int) (s : ByteArray) (w : World) (hx0 : 0 ≤ x) (hx : x ≤ 4294967295) (hs : s.size ≤ maxLen) :
    Calls Try.prog 3 #[.int .u32 x, .string s] w fun e w' => e = .returned (.bool true) ∧ Below w.heap.size w w' := by
  obtain ⟨x, rfl⟩ := Int.eq_ofNat_of_zero_le hx0
  exact wordTexts_nat x s w (by omega) hs
end Go.Proofs.Ytkagconllphdiaa
