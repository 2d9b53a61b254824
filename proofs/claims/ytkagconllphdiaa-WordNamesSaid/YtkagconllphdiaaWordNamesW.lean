/- The law WordNames: the examples. -/
import Derived.Test.YtkagconllphdiaaWordBytesL
import Derived.Test.YtkagconllphdiaaWordSignsW
import Derived.Test.YtkagconllphdiaaWordParse
namespace Go.Proofs.Ytkagconllphdiaa
open Go Go.RowKit
set_option linter.unusedVariables false
theorem nm_put1 (w : World) : Calls Try.prog 18 #[.int .u32 0, .int .i64 4, .int .i64 4, .int .u32 15] w fun e w' => e = .returned (.tuple #[.int .u32 240, .int .i64 0]) ∧ w = w' := by
  have e : ((putN 0 4 4 15 : Nat) : Int) = 240 := by decide
  rw [← e]; exact put_yes 0 4 4 15 w (by omega) (by omega) (by omega) (by decide)
theorem nm_put2 (w : World) : Calls Try.prog 18 #[.int .u32 0, .int .i64 4, .int .i64 4, .int .u32 16] w fun e w' => e = .returned (.tuple #[.int .u32 0, .int .i64 10]) ∧ w = w' :=
  put_big 0 4 4 16 w (by omega) (by omega) (by decide)
theorem nm_sign1 (w : World) : Calls Try.prog 20 #[.int .u32 65535, .int .i64 16] w fun e w' => e = .returned (.tuple #[.int .i32 (-1), .int .i64 0]) ∧ w = w' := by
  have e : signN 65535 16 = -1 := by decide
  rw [← e]; exact sign_yes 65535 16 w (by omega) (by omega)
theorem nm_sign2 (w : World) : Calls Try.prog 20 #[.int .u32 32767, .int .i64 16] w fun e w' => e = .returned (.tuple #[.int .i32 32767, .int .i64 0]) ∧ w = w' := by
  have e : signN 32767 16 = 32767 := by decide
  have := sign_yes 32767 16 w (by omega) (by omega)
  rw [e] at this; exact this
theorem nm_sign3 (w : World) : Calls Try.prog 20 #[.int .u32 1, .int .i64 0] w fun e w' => e = .returned (.tuple #[.int .i32 0, .int .i64 2]) ∧ w = w' :=
  sign_no 1 0 w (by unfold NoField; omega)
theorem nm_field1 (w : World) : Calls Try.prog 16 #[.int .u32 1, .int .i64 31, .int .i64 2] w fun e w' => e = .returned (.tuple #[.int .u32 0, .int .i64 2]) ∧ w = w' :=
  field_no 1 31 2 w (by unfold NoField; omega)
theorem nm_field2 (w : World) : Calls Try.prog 16 #[.int .u32 1, .int .i64 (-1), .int .i64 2] w fun e w' => e = .returned (.tuple #[.int .u32 0, .int .i64 2]) ∧ w = w' :=
  field_no 1 (-1) 2 w (by unfold NoField; omega)
theorem nm_field3 (w : World) : Calls Try.prog 16 #[.int .u32 4294967295, .int .i64 0, .int .i64 32] w fun e w' => e = .returned (.tuple #[.int .u32 4294967295, .int .i64 0]) ∧ w = w' := by
  have e : fieldN 4294967295 0 32 = 4294967295 := by decide
  have := field_yes 4294967295 0 32 w (by omega) (by omega) (by omega)
  rw [e] at this; exact this
theorem nm_parse1 (w : World) : Calls Try.prog 12 #[.string { data := #[48, 48, 48, 48, 48, 49, 48, 71] }] w fun e w' => e = .returned (.tuple #[.int .u32 0, .int .i64 10]) ∧ Below w.heap.size w w' := by
  obtain ⟨h1, h2⟩ := parse_bad { data := #[48, 48, 48, 48, 48, 49, 48, 71] } 7 (by decide) (by decide +kernel)
  have := parse_any { data := #[48, 48, 48, 48, 48, 49, 48, 71] } w (by decide)
  rw [h1, h2] at this; exact this
theorem nm_parse2 (w : World) : Calls Try.prog 12 #[.string { data := #[48, 48, 48, 48, 48, 49, 48] }] w fun e w' => e = .returned (.tuple #[.int .u32 0, .int .i64 10]) ∧ Below w.heap.size w w' := by
  obtain ⟨h1, h2⟩ := parse_short { data := #[48, 48, 48, 48, 48, 49, 48] } (by decide)
  have := parse_any { data := #[48, 48, 48, 48, 48, 49, 48] } w (by decide)
  rw [h1, h2] at this; exact this
theorem nm_words (w : World) : Calls Try.prog 24 #[.slice none 0 0] w fun e w' => ∃ b c, e = .returned (.tuple #[.slice b 0 c, .int .i64 0]) ∧ Below w.heap.size w w' := by
  refine (words_in 0 none 0 0 [] w ⟨.inl ⟨_, _, rfl, rfl⟩, by simp⟩ (by simp)).mono fun e w' h => ?_
  obtain ⟨hb, b, c, h, _⟩ := h.yes (by simp)
  exact ⟨b, c, h, hb⟩
theorem nm_read (w : World) (e : TypeId) : Calls Try.prog 23 #[.slice (some ⟨w.heap.size, 0, none⟩) 3 3] (w.alloc (.cells #[.int .u8 1, .int .u8 2, .int .u8 3] e)) fun e' w' => e' = .returned (.tuple #[.int .u32 0, .int .i64 10]) ∧ Below w.heap.size w w' := by
  refine (read_any _ 3 3 [1, 2, 3] _ ⟨.inr ⟨_, 0, 3, rfl, by simp, Nat.le_refl 3, by decide, fun j hj => ?_⟩, by decide⟩ (by decide)).mono fun e' w' h => ⟨h.1, ((Below.refl _ w).alloc (Nat.le_refl _) _).trans (h.2.mono (by simp))⟩
  rw [Nat.zero_add, World.cell?_alloc_mark]
  match j, hj with
  | 0, _ => rfl
  | 1, _ => rfl
  | 2, _ => rfl
set_option maxRecDepth 100000 in
set_option maxHeartbeats 2000000 in
theorem wordNames_any (w : World) :
    Calls Try.prog 11 #[] w fun e w' => e = .returned (.bool true) ∧ Below w.heap.size w w' := by
  go_enter Try.func11, Try.ntmps11
  go_wp2_with (first
    | (go_at_call 23; with_reducible refine (nm_read _ _).mono ?_; rintro e w1 ⟨rfl, hb⟩)
    | (go_at_call 18; with_reducible refine (nm_put1 _).mono ?_; rintro e w2 ⟨rfl, rfl⟩)
    | (go_at_call 18; with_reducible refine (nm_put2 _).mono ?_; rintro e w2 ⟨rfl, rfl⟩)
    | (go_at_call 20; with_reducible refine (nm_sign1 _).mono ?_; rintro e w2 ⟨rfl, rfl⟩)
    | (go_at_call 20; with_reducible refine (nm_sign2 _).mono ?_; rintro e w2 ⟨rfl, rfl⟩)
    | (go_at_call 20; with_reducible refine (nm_sign3 _).mono ?_; rintro e w2 ⟨rfl, rfl⟩)
    | (go_at_call 16; with_reducible refine (nm_field1 _).mono ?_; rintro e w2 ⟨rfl, rfl⟩)
    | (go_at_call 16; with_reducible refine (nm_field2 _).mono ?_; rintro e w2 ⟨rfl, rfl⟩)
    | (go_at_call 16; with_reducible refine (nm_field3 _).mono ?_; rintro e w2 ⟨rfl, rfl⟩)
    | (go_at_call 12; with_reducible refine (nm_parse1 _).mono ?_; rintro e w2 ⟨rfl, hb2⟩; replace hb := Below.step hb hb2)
    | (go_at_call 12; with_reducible refine (nm_parse2 _).mono ?_; rintro e w2 ⟨rfl, hb2⟩; replace hb := Below.step hb hb2)
    | (go_at_call 24; with_reducible refine (nm_words _).mono ?_; rintro e w2 ⟨b, c, rfl, hb2⟩; replace hb := Below.step hb hb2)
    | (go_at_call 22; refine (alive_any _).mono ?_; rintro e w2 ⟨rfl, hb2⟩; replace hb := Below.step hb hb2))
  go_ret
  exact ⟨rfl, hb⟩
end Go.Proofs.Ytkagconllphdiaa
