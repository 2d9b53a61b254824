/- Text of a word, as the program makes it and as the document does. -/
import Derived.Test.YtkagconllphdiaaWordA
import Derived.LoopN
namespace Go.Proofs.Ytkagconllphdiaa
open Go.ChangeShapes Go.WideShapes Go.ChangeAt Go.RowKit
theorem Below.step {w w1 w2 : World} (h : Below w.heap.size w w1) (k : Below w1.heap.size w1 w2) : Below w.heap.size w w2 := h.trans (k.mono h.size)
/-- a hexadecimal digit's byte -/
def hexN (n : Nat) : Nat := if n < 10 then 48 + n else 87 + n
theorem hexN_lt (n : Nat) (h : n < 16) : hexN n < 256 := by unfold hexN; split <;> omega
theorem dig_all : ∀ k : Fin 16, (({ data := #[48, 49, 50, 51, 52, 53, 54, 55, 56, 57, 97, 98, 99, 100, 101, 102] } : ByteArray)[k.val]'(by have := k.isLt; exact this)).toNat = hexN k.val := by decide
theorem dig_at (k : Nat) (h : k < ({ data := #[48, 49, 50, 51, 52, 53, 54, 55, 56, 57, 97, 98, 99, 100, 101, 102] } : ByteArray).size) :
    (({ data := #[48, 49, 50, 51, 52, 53, 54, 55, 56, 57, 97, 98, 99, 100, 101, 102] } : ByteArray)[k]'h).toNat = hexN k := dig_all ⟨k, h⟩
/-- the text of a word: its bytes -/
def textL (x : Nat) : List Int := [hexN (x / 268435456 % 16), hexN (x / 16777216 % 16), hexN (x / 1048576 % 16), hexN (x / 65536 % 16), hexN (x / 4096 % 16), hexN (x / 256 % 16), hexN (x / 16 % 16), hexN (x % 16)]
def textS (x : Nat) : ByteArray := strOfNums (textL x)
theorem eight_cells (w : World) (e : TypeId) (a b c d f g h k : Int) : ∀ i, i < 8 → (w.alloc (.cells #[.int .u8 a, .int .u8 b, .int .u8 c, .int .u8 d, .int .u8 f, .int .u8 g, .int .u8 h, .int .u8 k] e)).cell? ⟨w.heap.size, 0 + i, none⟩ = some (.int .u8 ([a, b, c, d, f, g, h, k].getD i 0)) := by
  intro i hi
  rw [Nat.zero_add, World.cell?_alloc_mark]
  match i, hi with
  | 0, _ => rfl
  | 1, _ => rfl
  | 2, _ => rfl
  | 3, _ => rfl
  | 4, _ => rfl
  | 5, _ => rfl
  | 6, _ => rfl
  | 7, _ => rfl
theorem conv8 (w : World) (a b c d f g h k : Int) :
    (convert 42 9 (.slice (some ⟨w.heap.size, 0, none⟩) 8 8)).run Try.prog (w.alloc (.cells #[.int .u8 a, .int .u8 b, .int .u8 c, .int .u8 d, .int .u8 f, .int .u8 g, .int .u8 h, .int .u8 k] 58)) =
    .ok (.string (strOfNums [a, b, c, d, f, g, h, k])) (w.alloc (.cells #[.int .u8 a, .int .u8 b, .int .u8 c, .int .u8 d, .int .u8 f, .int .u8 g, .int .u8 h, .int .u8 k] 58)) :=
  run_convert_bytes_arg _ 42 5 Try.underlying42 Try.underlying5 w.heap.size 0 8 8 [a, b, c, d, f, g, h, k] rfl (eight_cells w _ a b c d f g h k) 9 Try.underlying9
theorem ret_str {a b : ByteArray} (h : a = b) : Ending.returned (.string a) = .returned (.string b) := by rw [h]
attribute [local go_sem] and15_u32
set_option maxHeartbeats 400000 in
theorem text_any (x : Nat) (w : World) :
    Calls Try.prog 14 #[.int .u32 x] w fun e w' => e = .returned (.string (textS x)) ∧ Below w.heap.size w w' := by
  have hk := conv8 w
  go_enter Try.func14, Try.ntmps14
  go_wp2
  refine wp_loop_rounds 9 ?_
  iterate 9 (rw [rounds_succ]; go_wp2)
  go_ret
  exact ⟨ret_str (by simp only [dig_at]; rfl), (Below.refl _ _).alloc (Nat.le_refl _) _⟩
theorem conv1 (w : World) (a : Int) :
    (convert 42 9 (.slice (some ⟨w.heap.size, 0, none⟩) 1 1)).run Try.prog (w.alloc (.cells #[.int .u8 a] 5)) =
    .ok (.string (strOfNums [a])) (w.alloc (.cells #[.int .u8 a] 5)) :=
  run_convert_bytes_arg _ 42 5 Try.underlying42 Try.underlying5 w.heap.size 0 1 1 [a] rfl
    (fun i hi => by rw [show i = 0 by omega, Nat.zero_add, World.cell?_alloc_mark]; rfl) 9 Try.underlying9
theorem strOfNums_append (a b : List Int) : strOfNums a ++ strOfNums b = strOfNums (a ++ b) := by
  simp [strOfNums, ByteArray.ext_iff]
theorem hexN_lo (x : Nat) (h : x < 10) : hexN x = 48 + x := if_pos h
theorem hexN_hi (x : Nat) (h : ¬ x < 10) : hexN x = 87 + x := if_neg h
set_option maxHeartbeats 400000 in
theorem rdigit_any (x : Nat) (w : World) (hx : x < 16) :
    Calls Try.prog 32 #[.int .u32 x] w fun e w' => e = .returned (.string (strOfNums [(hexN x : Int)])) ∧ Below w.heap.size w w' := by
  have hk := conv1 w
  by_cases h : x < 10
  · have H := Lib.hid (hexN_lo x h)
    go_enter Try.func32, Try.ntmps32
    go_wp2
    go_ret
    exact ⟨ret_str (by rw [H.out]; congr 2), (Below.refl _ _).alloc (Nat.le_refl _) _⟩
  · have H := Lib.hid (hexN_hi x h)
    go_enter Try.func32, Try.ntmps32
    go_wp2
    go_ret
    exact ⟨ret_str (by rw [H.out]; congr 2; first | done | omega), (Below.refl _ _).alloc (Nat.le_refl _) _⟩
theorem rdigit_mod (x : Int) (w : World) (h0 : 0 ≤ x) :
    Calls Try.prog 32 #[.int .u32 (x % 16)] w fun e w' => e = .returned (.string (strOfNums [(hexN (x.toNat % 16) : Int)])) ∧ Below w.heap.size w w' := by
  obtain ⟨n, rfl⟩ := Int.eq_ofNat_of_zero_le h0
  exact rdigit_any (n % 16) w (Nat.mod_lt _ (by omega))
attribute [local go_sem] strOfNums_size strOfNums_append
set_option maxHeartbeats 1000000 in
theorem rtext_any (x : Nat) (w : World) (hx : x < 4294967296) :
    Calls Try.prog 15 #[.int .u32 x] w fun e w' => e = .returned (.string (textS x)) ∧ Below w.heap.size w w' := by
  go_enter Try.func15, Try.ntmps15
  have hb := Below.refl w.heap.size w
  go_wp2_with fail
  refine wp_loop_rounds 9 ?_
  iterate 9 (rw [rounds_succ]; go_wp2_with (go_at_call 32; refine (rdigit_mod _ _ (by omega)).mono ?_; rintro e w1 ⟨rfl, hb1⟩; replace hb := Below.step hb hb1; clear hb1))
  go_ret
  exact ⟨ret_str (by rw [show ({ data := #[] } : ByteArray) = strOfNums [] from rfl]; simp only [strOfNums_append, Nat.div_div_eq_div_mul]; rfl), hb⟩
end Go.Proofs.Ytkagconllphdiaa
