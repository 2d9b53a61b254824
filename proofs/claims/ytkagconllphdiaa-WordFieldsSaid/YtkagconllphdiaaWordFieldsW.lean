/- The walk of the law WordFields. -/
import Derived.Test.YtkagconllphdiaaWordRefA
namespace Go.Proofs.Ytkagconllphdiaa
open Go.ChangeShapes Go.WideShapes Go.ChangeAt Go.RowKit
theorem Grown.drewN {W w' : World} (h : Grown W w') (k : Nat) : Grown W (w'.drewN k) := h
set_option maxHeartbeats 1000000 in
theorem wordFields_yes (x v f n : Nat) (w : World) (hx : x < 4294967296) (hv2 : v < 4294967296) (h2 : 1 ≤ n) (h3 : f + n ≤ 32) :
    Calls Try.prog 4 #[.int .u32 x, .int .u32 v, .int .i64 f, .int .i64 n] w fun e w' => e = .returned (.bool true) ∧ Grown w w' := by
  by_cases hv : v < 2 ^ n
  · go_enter Try.func4, Try.ntmps4
    go_wp2_with (first
      | (go_at_call 16; refine (field_yes _ _ _ _ hx h2 h3).mono ?_; rintro e w' ⟨rfl, rfl⟩)
      | (go_at_call 17; refine (rfield_yes _ _ _ _ hx h2 h3).mono ?_; rintro e w' ⟨rfl, k, rfl⟩)
      | (go_at_call 18; refine (put_yes _ _ _ _ _ hx h2 h3 hv).mono ?_; rintro e w' ⟨rfl, rfl⟩)
      | (go_at_call 19; refine (rput_yes _ _ _ _ _ hx h2 h3 hv).mono ?_; rintro e w' ⟨rfl, k, rfl⟩)
      | (go_at_call 20; refine (sign_yes _ _ _ h2 (by omega)).mono ?_; rintro e w' ⟨rfl, rfl⟩)
      | (go_at_call 21; refine (rsign_yes _ _ _ hx h2 (by omega)).mono ?_; rintro e w' ⟨rfl, k, rfl⟩))
    go_ret
    exact ⟨rfl, by repeat (first | exact Grown.refl _ | apply Grown.drewN)⟩
  · go_enter Try.func4, Try.ntmps4
    go_wp2_with (first
      | (go_at_call 16; refine (field_yes _ _ _ _ hx h2 h3).mono ?_; rintro e w' ⟨rfl, rfl⟩)
      | (go_at_call 17; refine (rfield_yes _ _ _ _ hx h2 h3).mono ?_; rintro e w' ⟨rfl, k, rfl⟩)
      | (go_at_call 18; refine (put_big _ _ _ _ _ h2 h3 (by omega)).mono ?_; rintro e w' ⟨rfl, rfl⟩)
      | (go_at_call 19; refine (rput_big _ _ _ _ _ h2 h3 (by unfold pow2; omega) hv2).mono ?_; rintro e w' ⟨rfl, rfl⟩)
      | (go_at_call 20; refine (sign_yes _ _ _ h2 (by omega)).mono ?_; rintro e w' ⟨rfl, rfl⟩)
      | (go_at_call 21; refine (rsign_yes _ _ _ hx h2 (by omega)).mono ?_; rintro e w' ⟨rfl, k, rfl⟩))
    go_ret
    exact ⟨rfl, by repeat (first | exact Grown.refl _ | apply Grown.drewN)⟩
set_option maxHeartbeats 1000000 in
theorem wordFields_no (x v : Nat) (f n : Int) (w : World) (hx : x < 4294967296) (h : NoField f n) :
    Calls Try.prog 4 #[.int .u32 x, .int .u32 v, .int .i64 f, .int .i64 n] w fun e w' => e = .returned (.bool true) ∧ Grown w w' := by
  by_cases hs : NoField 0 n
  · go_enter Try.func4, Try.ntmps4
    go_wp2_with (first
      | (go_at_call 16; refine (field_no _ _ _ _ h).mono ?_; rintro e w' ⟨rfl, rfl⟩)
      | (go_at_call 17; refine (rfield_no _ _ _ _ h).mono ?_; rintro e w' ⟨rfl, rfl⟩)
      | (go_at_call 18; refine (put_no _ _ _ _ _ h).mono ?_; rintro e w' ⟨rfl, rfl⟩)
      | (go_at_call 19; refine (rput_no _ _ _ _ _ h).mono ?_; rintro e w' ⟨rfl, rfl⟩)
      | (go_at_call 20; refine (sign_no _ _ _ hs).mono ?_; rintro e w' ⟨rfl, rfl⟩)
      | (go_at_call 21; refine (rsign_no _ _ _ hs).mono ?_; rintro e w' ⟨rfl, rfl⟩))
    go_ret
    exact ⟨rfl, by repeat (first | exact Grown.refl _ | apply Grown.drewN)⟩
  · obtain ⟨_, m, _, rfl, h2, h3⟩ := NoField.not hs
    go_enter Try.func4, Try.ntmps4
    go_wp2_with (first
      | (go_at_call 16; refine (field_no _ _ _ _ h).mono ?_; rintro e w' ⟨rfl, rfl⟩)
      | (go_at_call 17; refine (rfield_no _ _ _ _ h).mono ?_; rintro e w' ⟨rfl, rfl⟩)
      | (go_at_call 18; refine (put_no _ _ _ _ _ h).mono ?_; rintro e w' ⟨rfl, rfl⟩)
      | (go_at_call 19; refine (rput_no _ _ _ _ _ h).mono ?_; rintro e w' ⟨rfl, rfl⟩)
      | (go_at_call 20; refine (sign_yes _ _ _ h2 (by omega)).mono ?_; rintro e w' ⟨rfl, rfl⟩)
      | (go_at_call 21; refine (rsign_yes _ _ _ hx h2 (by omega)).mono ?_; rintro e w' ⟨rfl, k, rfl⟩))
    go_ret
    exact ⟨rfl, by repeat (first | exact Grown.refl _ | apply Grown.drewN)⟩
theorem wordFields_any (x v f n : Int) (w : World) (hx0 : 0 ≤ x) (hx : x < 4294967296) (hv0 : 0 ≤ v) (hv2 : v < 4294967296) :
    Calls Try.prog 4 #[.int .u32 x, .int .u32 v, .int .i64 f, .int .i64 n] w fun e w' => e = .returned (.bool true) ∧ Grown w w' := by
  obtain ⟨x, rfl⟩ := Int.eq_ofNat_of_zero_le hx0
  obtain ⟨v, rfl⟩ := Int.eq_ofNat_of_zero_le hv0
  by_cases h : NoField f n
  · exact wordFields_no x v f n w (by omega) h
  · obtain ⟨a, b, rfl, rfl, h2, h3⟩ := NoField.not h
    exact wordFields_yes x v a b w (by omega) (by omega) h2 h3
end Go.Proofs.Ytkagconllphdiaa
