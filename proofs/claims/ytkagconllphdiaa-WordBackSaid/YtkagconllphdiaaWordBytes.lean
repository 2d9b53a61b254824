/- The bytes of a word; the chapter's first examples. -/
import Derived.Test.YtkagconllphdiaaWordText
import Derived.WalkSpells
import Derived.WalkLawsBesides
namespace Go.Proofs.Ytkagconllphdiaa
open Go.ChangeShapes Go.WideShapes Go.ChangeAt Go.RowKit
/-- the bytes of a word -/
def bytesL (x : Nat) : List Int := [(x : Int) % 256, (x : Int) / 256 % 256, (x : Int) / 65536 % 256, (x : Int) / 16777216]
set_option maxHeartbeats 400000 in
theorem split_any (x : Nat) (w : World) (hx : x < 4294967296) :
    Calls Try.prog 37 #[.int .u32 x] w fun e w' => e = .returned (.agg #[.int .u8 ((x : Int) % 256), .int .u8 ((x : Int) / 256 % 256), .int .u8 ((x : Int) / 65536 % 256), .int .u8 ((x : Int) / 16777216)]) ∧
      w' = w.alloc (.cells #[.int .u8 ((x : Int) % 256), .int .u8 ((x : Int) / 256 % 256), .int .u8 ((x : Int) / 65536 % 256), .int .u8 ((x : Int) / 16777216)] 65) := by
  go_enter Try.func37, Try.ntmps37
  go_wp2
  exact bodyPost_ret (v := .agg #[.int .u8 ((x : Int) % 256), .int .u8 ((x : Int) / 256 % 256), .int .u8 ((x : Int) / 65536 % 256), .int .u8 ((x : Int) / 16777216)]) (by simp [results, Try.results37, go_sem]) rfl ⟨rfl, rfl⟩
/-- the block of a word's bytes -/
def bytesO (x : Nat) : Obj := .cells #[.int .u8 ((x : Int) % 256), .int .u8 ((x : Int) / 256 % 256), .int .u8 ((x : Int) / 65536 % 256), .int .u8 ((x : Int) / 16777216)] 65
set_option maxHeartbeats 400000 in
theorem bytes_any (x : Nat) (w : World) (hx : x < 4294967296) :
    Calls Try.prog 27 #[.int .u32 x] w fun e w' => e = .returned (.slice (some ⟨w.heap.size + 1, 0, none⟩) 4 4) ∧ w' = (w.alloc (bytesO x)).alloc (bytesO x) := by
  go_enter Try.func27, Try.ntmps27
  go_wp2_with (go_at_call 37; refine (split_any _ _ hx).mono ?_; rintro e w1 ⟨rfl, rfl⟩)
  go_ret
  exact ⟨rfl, rfl⟩
theorem four_cells (w : World) (e : TypeId) (a b c d : Int) : ∀ i, i < 4 → (w.alloc (.cells #[.int .u8 a, .int .u8 b, .int .u8 c, .int .u8 d] e)).cell? ⟨w.heap.size, 0 + i, none⟩ = some (.int .u8 ([a, b, c, d].getD i 0)) := by
  intro i hi
  rw [Nat.zero_add, World.cell?_alloc_mark]
  match i, hi with
  | 0, _ => rfl
  | 1, _ => rfl
  | 2, _ => rfl
  | 3, _ => rfl
theorem conv4 (w : World) (x : Nat) :
    (convert 42 9 (.slice (some ⟨w.heap.size + 1, 0, none⟩) 4 4)).run Try.prog ((w.alloc (bytesO x)).alloc (bytesO x)) =
    .ok (.string (strOfNums (bytesL x))) ((w.alloc (bytesO x)).alloc (bytesO x)) := by
  have := run_convert_bytes_arg ((w.alloc (bytesO x)).alloc (bytesO x)) 42 5 Try.underlying42 Try.underlying5 (w.alloc (bytesO x)).heap.size 0 4 4 (bytesL x) rfl
    (four_cells (w.alloc (bytesO x)) _ _ _ _ _) 9 Try.underlying9
  simpa using this
theorem bytes_below {w w1 : World} (hb : Below w.heap.size w w1) (x : Nat) : Below w.heap.size w ((w1.alloc (bytesO x)).alloc (bytesO x)) :=
  (hb.alloc hb.size _).alloc (by have := hb.size; simp; omega) _
theorem alive1 : ((strOfNums (bytesL 258)).toList == [2, 1, 0, 0]) = true := by rw [ByteArray.toList_eq]; decide
theorem alive2 : ((textS 258).toList == [48, 48, 48, 48, 48, 49, 48, 50]) = true := by rw [ByteArray.toList_eq]; decide
theorem alive3 : ((fieldN 305419896 8 12 : Int) == 1110) = true := by decide
set_option maxHeartbeats 400000 in
theorem alive_any (w : World) :
    Calls Try.prog 22 #[] w fun e w' => e = .returned (.bool true) ∧ Below w.heap.size w w' := by
  have hk := conv4 w 258
  have hb := Below.refl w.heap.size w
  have h1 := alive1
  have h2 := alive2
  have h3 := alive3
  go_enter Try.func22, Try.ntmps22
  go_wp2_with (first
      | (go_at_call 16; refine (field_yes 305419896 8 12 _ (by omega) (by omega) (by omega)).mono ?_; rintro e w1 ⟨rfl, rfl⟩)
      | (go_at_call 27; refine (bytes_any 258 _ (by omega)).mono ?_; rintro e w1 ⟨rfl, rfl⟩; replace hb := bytes_below hb 258)
      | (go_at_call 14; refine (text_any 258 _).mono ?_; rintro e w1 ⟨rfl, hb1⟩; replace hb := Below.step hb hb1; clear hb1))
  go_ret
  exact ⟨rfl, hb⟩
end Go.Proofs.Ytkagconllphdiaa
