/- Parse: the word of a text, as the program makes it. -/
import Derived.Test.YtkagconllphdiaaWordText
import Derived.Test.YtkagconllphdiaaShelfIB
namespace Go.Proofs.Ytkagconllphdiaa
open Go.ChangeShapes Go.WideShapes Go.ChangeAt Go.RowKit
/-- the number that a byte is as a digit; -1: none -/
def hexV (c : UInt8) : Int := if 48 ≤ c ∧ c ≤ 57 then (c.toNat : Int) - 48 else if 97 ≤ c ∧ c ≤ 102 then (c.toNat : Int) - 87 else -1
theorem index_hex : ∀ c : Fin 256, Lib.indexByte [48, 49, 50, 51, 52, 53, 54, 55, 56, 57, 97, 98, 99, 100, 101, 102] (UInt8.ofNat c.val) = hexV (UInt8.ofNat c.val) := by decide +kernel
theorem hexV_lt (c : UInt8) : -1 ≤ hexV c ∧ hexV c < 16 := by
  unfold hexV
  split
  · rename_i h; rw [UInt8.le_iff_toNat_le, UInt8.le_iff_toNat_le] at h; simp at h; omega
  · split
    · rename_i h; rw [UInt8.le_iff_toNat_le, UInt8.le_iff_toNat_le] at h; simp at h; omega
    · omega
/-- the same, of a digit -/
def hexU (c : UInt8) : Nat := (hexV c).toNat
theorem hexU_lt (c : UInt8) : hexU c < 16 := by have := hexV_lt c; unfold hexU; omega
theorem hexU_eq (c : UInt8) (h : ¬ hexV c < 0) : (hexU c : Int) = hexV c := by unfold hexU; omega
/-- the number of digits -/
def accN (l : List UInt8) : Nat := l.foldl (fun a c => (a * 16) % 4294967296 + hexU c) 0
theorem accN_snoc (l : List UInt8) (c : UInt8) : accN (l ++ [c]) = (accN l * 16) % 4294967296 + hexU c := by
  unfold accN; rw [List.foldl_append]; rfl
theorem foldl_bound (l : List UInt8) : ∀ a : Nat, a < 4294967296 → l.foldl (fun a c => (a * 16) % 4294967296 + hexU c) a < 4294967296 := by
  induction l with
  | nil => intro a h; exact h
  | cons c l ih =>
    intro a h
    have := hexU_lt c
    exact ih _ (show (a * 16) % 4294967296 + hexU c < 4294967296 by omega)
theorem accN_lt (l : List UInt8) : accN l < 4294967296 := foldl_bound l 0 (by omega)
theorem take_snoc (s : ByteArray) (k : Nat) (h : k < s.size) : s.data.toList.take (k + 1) = s.data.toList.take k ++ [s.data[k]] := by
  rw [List.take_succ_eq_append_getElem (by simpa using h)]; rfl
theorem or_hex (a n : Nat) (hn : n < 16) : bits .or .u32 ((a : Int) * 16 % 4294967296) n = (((a * 16) % 4294967296 + n : Nat) : Int) := by
  rw [show (a : Int) * 16 % 4294967296 = ((a * 16 % 4294967296 : Nat) : Int) by omega, or_u32 _ _ (by omega) (by omega)]
  have h1 : a * 16 % 4294967296 = 2 ^ 4 * (a % 268435456) := by omega
  rw [h1, ← Nat.two_pow_add_eq_or_of_lt (by omega)]
/-- all bytes are digits, and there are eight -/
def parseOk (s : ByteArray) : Bool := s.size == 8 && s.data.toList.all fun c => decide (0 ≤ hexV c)
/-- the word of a text, and the error -/
def parseA (s : ByteArray) : Int := if parseOk s then accN s.data.toList else 0
def parseE (s : ByteArray) : Int := if parseOk s then 0 else 10
theorem parse_short (s : ByteArray) (h : ¬ s.size = 8) : parseA s = 0 ∧ parseE s = 10 := by
  have : parseOk s = false := by simp [parseOk, h]
  simp [parseA, parseE, this]
theorem parse_bad (s : ByteArray) (k : Nat) (h : k < s.size) (hneg : hexV s.data[k] < 0) : parseA s = 0 ∧ parseE s = 10 := by
  have : parseOk s = false := by
    rw [Bool.eq_false_iff]
    intro hp
    simp only [parseOk, Bool.and_eq_true, List.all_eq_true, decide_eq_true_eq] at hp
    have := hp.2 s.data[k] (by simp)
    omega
  simp [parseA, parseE, this]
theorem parse_good (s : ByteArray) (h8 : s.size = 8) (h : ∀ j (h : j < s.size), 0 ≤ hexV s.data[j]) : parseA s = accN s.data.toList ∧ parseE s = 0 := by
  have : parseOk s = true := by
    simp only [parseOk, Bool.and_eq_true, List.all_eq_true, decide_eq_true_eq, beq_iff_eq]
    refine ⟨h8, fun c hc => ?_⟩
    obtain ⟨j, hj, rfl⟩ := List.mem_iff_getElem.1 hc
    exact h j (by simpa using hj)
  simp [parseA, parseE, this]
set_option maxHeartbeats 400000 in
theorem strings_IndexByte_hex (c : UInt8) (w : World) :
    Calls Try.prog 31 #[.string { data := #[48, 49, 50, 51, 52, 53, 54, 55, 56, 57, 97, 98, 99, 100, 101, 102] }, .int .u8 (c.toNat : Int)] w fun e w' => e = .returned (.int .i64 (hexV c)) ∧ w = w' := by
  refine (strings_IndexByte_any _ _ w).mono fun e w' h => ⟨?_, h.2.symm⟩
  rw [h.1, show ((c.toNat : Int).toNat.toUInt8) = UInt8.ofNat c.toNat from rfl]
  have := index_hex ⟨c.toNat, c.toNat_lt⟩
  rw [show UInt8.ofNat (⟨c.toNat, c.toNat_lt⟩ : Fin 256).val = c from UInt8.ofNat_toNat] at this
  exact congrArg (fun v => Ending.returned (.int .i64 v)) (by rw [show UInt8.ofNat c.toNat = c from UInt8.ofNat_toNat]; exact this)
theorem strings_IndexByte_no (c : UInt8) (w : World) (h : hexV c < 0) :
    Calls Try.prog 31 #[.string { data := #[48, 49, 50, 51, 52, 53, 54, 55, 56, 57, 97, 98, 99, 100, 101, 102] }, .int .u8 (c.toNat : Int)] w fun e w' => e = .returned (.int .i64 (-1)) ∧ w = w' := by
  have h2 := hexV_lt c
  rw [show (-1 : Int) = hexV c by omega]
  exact strings_IndexByte_hex c w
theorem strings_IndexByte_yes (c : UInt8) (w : World) (h : ¬ hexV c < 0) :
    Calls Try.prog 31 #[.string { data := #[48, 49, 50, 51, 52, 53, 54, 55, 56, 57, 97, 98, 99, 100, 101, 102] }, .int .u8 (c.toNat : Int)] w fun e w' => e = .returned (.int .i64 (hexU c)) ∧ w = w' := by
  rw [hexU_eq c h]
  exact strings_IndexByte_hex c w
set_option maxHeartbeats 1000000 in
theorem parse_any (s : ByteArray) (w : World) (hs : s.size ≤ maxLen) :
    Calls Try.prog 12 #[.string s] w fun e w' => e = .returned (.tuple #[.int .u32 (parseA s), .int .i64 (parseE s)]) ∧ Below w.heap.size w w' := by
  unfold maxLen at hs
  have hk := run_bytes_of_string (P := Try.prog) w 9 42 5 s Try.underlying9 Try.underlying42 Try.underlying5
  go_enter Try.func12, Try.ntmps12
  go_wp2_with fail
  clear hk
  have hcell : ∀ (k : Nat) (h : k < s.size), ((w.alloc (.cells (bytesRow s (grownCap w s.size 0 5)) 5 ((bytesRow s (grownCap w s.size 0 5)).size, (bytesRow s (grownCap w s.size 0 5)).size + 1))).drew).cell? ⟨w.heap.size, k, none⟩ = some (.int .u8 (s.data[k].toNat : Int)) := fun k h => by
    rw [show ∀ (W : World) a, W.drew.cell? a = W.cell? a from fun _ _ => rfl, World.cell?_alloc_mark]; exact bytesRow_at s _ k h
  have hb : Below w.heap.size w ((w.alloc (.cells (bytesRow s (grownCap w s.size 0 5)) 5 ((bytesRow s (grownCap w s.size 0 5)).size, (bytesRow s (grownCap w s.size 0 5)).size + 1))).drew) := ((Below.refl _ _).alloc (Nat.le_refl _) _).drew
  generalize ((w.alloc (.cells (bytesRow s (grownCap w s.size 0 5)) 5 ((bytesRow s (grownCap w s.size 0 5)).size, (bytesRow s (grownCap w s.size 0 5)).size + 1))).drew) = W at *
  go_loop [4, 11] (fun a i => ∃ k : Nat, k ≤ s.size ∧ i = .int .i64 k ∧ a = .int .u32 (accN (s.data.toList.take k)) ∧ ∀ j (h : j < s.size), j < k → 0 ≤ hexV s.data[j]) (fun _ i => s.size - (intOf i).toNat)
  case atStart => exact ⟨0, by omega, rfl, rfl, fun j _ h => by omega⟩
  case round =>
    obtain ⟨k, hk, rfl, rfl, hall⟩ := hrel
    by_cases hlt : k < s.size
    · have hc := hcell k hlt
      have hv := hexV_lt s.data[k]
      have hal := accN_lt (s.data.toList.take k)
      have H1 := Lib.hid hall
      have H2 := Lib.hid hcell
      clear hall hcell
      by_cases hneg : hexV s.data[k] < 0
      · go_wp2_with (go_at_call 31; refine (strings_IndexByte_no _ _ hneg).mono ?_; rintro e w' ⟨rfl, rfl⟩)
        go_ret2
        obtain ⟨p1, p2⟩ := parse_bad s k hlt hneg
        exact ⟨by rw [p1, p2]; rfl, hb⟩
      · have hn := hexU_lt s.data[k]
        go_wp2_with (go_at_call 31; refine (strings_IndexByte_yes _ _ hneg).mono ?_; rintro e w' ⟨rfl, rfl⟩)
        go_round
        case rel => exact ⟨k + 1, by omega, by go_num, by rw [take_snoc s k hlt, accN_snoc]; exact val_int (by rw [or_hex _ _ hn]), fun j h hj => by
          by_cases e : j = k
          · subst e; omega
          · exact H1.out j h (by omega)⟩
        case measure => simp [intOf]; omega
    · obtain rfl : k = s.size := by omega
      rw [show s.data.toList.take s.size = s.data.toList from List.take_of_length_le (by simp)]
      by_cases h8 : s.size = 8
      · have H8 := Lib.hid h8
        clear h8
        have h9 : ((s.size : Int) != 8) = false := by rw [bne_eq_false_iff_eq, H8.out]; rfl
        go_wp2_with fail
        go_ret2
        obtain ⟨p1, p2⟩ := parse_good s H8.out (fun j h => hall j h h)
        exact ⟨by rw [p1, p2]; rfl, hb⟩
      · have h9 : ((s.size : Int) != 8) = true := by rw [bne_iff_ne]; omega
        go_wp2_with fail
        go_ret2
        obtain ⟨p1, p2⟩ := parse_short s h8
        exact ⟨by rw [p1, p2]; rfl, hb⟩
end Go.Proofs.Ytkagconllphdiaa
