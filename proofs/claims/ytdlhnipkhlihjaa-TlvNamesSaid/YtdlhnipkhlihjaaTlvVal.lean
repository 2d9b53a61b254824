/- The walks of tlv.Value and of the document's. -/
import Derived.Test.YtdlhnipkhlihjaaTlvAll
namespace Go.Proofs.Ytdlhnipkhlihjaa
open Go Go.RowKit
attribute [local go_sem] upV_value upV_skip upV_enter
set_option linter.unusedVariables false
set_option linter.unnecessarySimpa false
set_option linter.unusedSimpArgs false
/-- a field's number -/
def valB : List Int → Int
  | [] => 0
  | b :: r => b + 256 * valB r
def ValPost (W : World) (t : Int) (bs : List Int) (e : Ending) (W' : World) : Prop :=
  Below W.heap.size W W' ∧ e = .returned (.tuple #[.int .u64 (if t < 128 ∧ bs.length = 8 then valB bs else 0), .bool (decide (t < 128 ∧ bs.length = 8))])
theorem or_shift (X Y : Nat) (hX : X < 4294967296) (hY : Y < 4294967296) : bits .or .u64 (IntKind.u64.wrap (X : Int)) (IntKind.u64.wrap (IntKind.u64.wrap (Y : Int) * 4294967296)) = ((X + 4294967296 * Y : Nat) : Int) := by
  rw [wrap_u64_nat X (by omega), wrap_u64_nat Y (by omega), show (Y : Int) * 4294967296 = ((4294967296 * Y : Nat) : Int) by omega, wrap_u64_nat _ (by omega), or_u64 _ _ (by omega) (by omega)]
  have := Nat.two_pow_add_eq_or_of_lt (i := 32) (b := X) (by omega) Y
  rw [Nat.or_comm, show (4294967296 : Nat) = 2 ^ 32 by decide, ← this]
  congr 1
  omega
theorem valB_lt : ∀ (bs : List Int), (∀ z ∈ bs, 0 ≤ z ∧ z ≤ 255) → 0 ≤ valB bs ∧ valB bs < ((256 ^ bs.length : Nat) : Int)
  | [], _ => by simp [valB]
  | b :: r, h => by
    have h1 := valB_lt r fun z hz => h z (List.mem_cons_of_mem _ hz)
    have h2 := h b (List.mem_cons_self ..)
    simp only [valB, List.length_cons, Nat.pow_succ]
    omega
theorem valB_words (bs : List Int) (h8 : bs.length = 8) (hb : ∀ z ∈ bs, 0 ≤ z ∧ z ≤ 255) : valB bs = ((leW bs 0 4 + 4294967296 * leW bs 4 4 : Nat) : Int) := by
  match bs, h8 with
  | [b0, b1, b2, b3, b4, b5, b6, b7], _ =>
    simp only [List.mem_cons, List.not_mem_nil, or_false, forall_eq_or_imp, forall_eq] at hb
    obtain ⟨h0, h1, h2, h3, h4, h5, h6, h7⟩ := hb
    simp [valB, leW]
    omega
set_option maxRecDepth 100000 in
set_option maxHeartbeats 4000000 in
theorem value_any (W : World) (n : Nat) (hn : n ≤ W.heap.size) (t : Int) (a : Option Addr) (len cap : Nat) (bs : List Int) (ka : Option Addr) (kl kc : Nat) (hb : Row8 n W (.slice a len cap) bs) (hbl : bs.length ≤ 140737488350000) :
    Calls Try.prog 19 #[.agg #[.int .i64 t, .slice a len cap, .slice ka kl kc]] W (ValPost W t bs) := by
  have hl := hb.1.open.1
  obtain ⟨V, hV⟩ : ∃ V, V = W.alloc (.cells #[.int .i64 t, .slice a len cap, .slice ka kl kc] 30) := ⟨_, rfl⟩
  have bV : Below W.heap.size W V := by rw [hV]; exact (Below.refl _ W).alloc (Nat.le_refl _) _
  have xV : V.heap[W.heap.size]? = some (.cells #[.int .i64 t, .slice a len cap, .slice ka kl kc] 30) := by rw [hV]; exact World.alloc_heap_new W _
  have y0 : V.cell? ⟨W.heap.size, 0, none⟩ = some (.int .i64 t) := by rw [cell_of_row V _ 0 _ _ _ xV]; rfl
  have y1 : V.cell? ⟨W.heap.size, 1, none⟩ = some (.slice a len cap) := by rw [cell_of_row V _ 1 _ _ _ xV]; rfl
  have rV : Row8 V.heap.size V (.slice a len cap) bs := (hb.below ⟨bV.os, bV.tape, bV.output, bV.size, fun q hq => bV.block q (by omega)⟩).mono (by have := bV.size; omega)
  go_enter Try.func19, Try.ntmps19
  by_cases ht : t < 128
  rotate_left
  · have t1 : decide (t ≥ 128) = true := decide_eq_true (by omega)
    have HF := Lib.hid (show ¬ (t < 128 ∧ bs.length = 8) from fun h => by omega)
    clear ht
    go_wp2_with fail
    rw [← hV]
    go_ret2
    exact ⟨bV, by rw [if_neg HF, decide_eq_false HF]; rfl⟩
  have t1 : decide (t ≥ 128) = false := decide_eq_false (by omega)
  by_cases h8 : bs.length = 8
  rotate_left
  · have t2 : ((len : Int) != 8) = true := by simp; omega
    have HF := Lib.hid (show ¬ (t < 128 ∧ bs.length = 8) from fun h => h8 h.2)
    clear h8
    rw [hV] at y0 y1
    go_wp2_with fail
    rw [← hV]
    go_ret2
    exact ⟨bV, by rw [if_neg HF, decide_eq_false HF]; rfl⟩
  obtain rfl : len = 8 := by omega
  have K := Lib.hid (words_in 0 a 8 cap bs V rV (by omega))
  have H8 := Lib.hid h8
  clear h8 hl
  rw [hV] at y0 y1
  go_wp2_with (go_at_call 33; refine held ?_)
  unfold Held
  rw [← hV]
  clear hV y0 y1 xV
  refine Calls.mono K ?_
  rintro e w3 ⟨b3, ⟨_, v3, rfl, o3, _⟩ | ⟨h4, _⟩⟩
  rotate_left
  · exact absurd (show bs.length % 4 = 0 by rw [show bs.length = 8 from H8]) h4
  rw [show bs.length = 8 from H8, show 8 / 4 = 2 from rfl] at o3
  have B3 := bV.trans (b3.mono bV.size)
  obtain ⟨a3, c3, rfl, hva⟩ := ownsRow_slice o3
  rcases hva with h0 | ⟨g3, rfl, _⟩
  · omega
  have hcap : 2 ≤ c3 ∧ c3 ≤ maxLen := by
    rcases o3.2 with ⟨h1, _⟩ | ⟨g, cp, cur, h1, _, _, h5, h6, _⟩
    · cases h1
    · injection h1 with _ _ h1; subst h1; exact ⟨h5, h6⟩
  obtain ⟨hc1, hc2⟩ := hcap
  simp only [maxLen] at hc2
  have c0 : w3.cell? ⟨g3, 0, none⟩ = some (.int .u32 (leW bs 0 4 : Nat)) := by rw [o3.cellAt 0 (by omega)]; rfl
  have c1 : w3.cell? ⟨g3, 1, none⟩ = some (.int .u32 (leW bs 4 4 : Nat)) := by rw [o3.cellAt 1 (by omega)]; rfl
  obtain ⟨X, hX⟩ : ∃ X : Nat, X = leW bs 0 4 := ⟨_, rfl⟩
  obtain ⟨Y, hY⟩ : ∃ Y : Nat, Y = leW bs 4 4 := ⟨_, rfl⟩
  rw [← hX] at c0
  rw [← hY] at c1
  have hXl : X < 4294967296 := by rw [hX]; exact leW_lt bs hb.2 0 4
  have hYl : Y < 4294967296 := by rw [hY]; exact leW_lt bs hb.2 4 4
  have hval := valB_words bs H8 hb.2
  rw [← hX, ← hY] at hval
  have HV := Lib.hid hval
  have HOR := Lib.hid (or_shift X Y hXl hYl)
  have HT := Lib.hid ht
  clear hX hY o3 K rV b3 hval ht hXl hYl
  go_wp2_with fail
  go_region
  go_wp2_with fail
  go_ret2
  refine ⟨⟨B3.os, B3.tape, B3.output, B3.size, B3.block⟩, ?_⟩
  rw [if_pos ⟨HT, H8⟩, decide_eq_true ⟨HT, H8⟩, show valB bs = _ from HV, ← show bits .or .u64 (IntKind.u64.wrap (X : Int)) (IntKind.u64.wrap (IntKind.u64.wrap (Y : Int) * 4294967296)) = ((X + 4294967296 * Y : Nat) : Int) from HOR]
  rfl
set_option maxRecDepth 100000 in
set_option maxHeartbeats 4000000 in
theorem rvalue_any (W : World) (n : Nat) (hn : n ≤ W.heap.size) (t : Int) (a : Option Addr) (len cap : Nat) (bs : List Int) (ka : Option Addr) (kl kc : Nat) (hb : Row8 n W (.slice a len cap) bs) (hbl : bs.length ≤ 140737488350000) :
    Calls Try.prog 20 #[.agg #[.int .i64 t, .slice a len cap, .slice ka kl kc]] W (ValPost W t bs) := by
  have hl := hb.1.open.1
  obtain ⟨V, hV⟩ : ∃ V, V = W.alloc (.cells #[.int .i64 t, .slice a len cap, .slice ka kl kc] 30) := ⟨_, rfl⟩
  have bV : Below W.heap.size W V := by rw [hV]; exact (Below.refl _ W).alloc (Nat.le_refl _) _
  have xV : V.heap[W.heap.size]? = some (.cells #[.int .i64 t, .slice a len cap, .slice ka kl kc] 30) := by rw [hV]; exact World.alloc_heap_new W _
  have y0 : V.cell? ⟨W.heap.size, 0, none⟩ = some (.int .i64 t) := by rw [cell_of_row V _ 0 _ _ _ xV]; rfl
  have y1 : V.cell? ⟨W.heap.size, 1, none⟩ = some (.slice a len cap) := by rw [cell_of_row V _ 1 _ _ _ xV]; rfl
  have rV : Row8 V.heap.size V (.slice a len cap) bs := (hb.below ⟨bV.os, bV.tape, bV.output, bV.size, fun q hq => bV.block q (by omega)⟩).mono (by have := bV.size; omega)
  go_enter Try.func20, Try.ntmps20
  by_cases ht : t < 128
  rotate_left
  · have t1 : decide (t > 127) = true := decide_eq_true (by omega)
    have HF := Lib.hid (show ¬ (t < 128 ∧ bs.length = 8) from fun h => by omega)
    clear ht
    rw [hV] at y0 y1
    go_wp2_with fail
    rw [← hV]
    go_ret2
    exact ⟨bV, by rw [if_neg HF, decide_eq_false HF]; rfl⟩
  have t1 : decide (t > 127) = false := decide_eq_false (by omega)
  by_cases h8 : bs.length = 8
  rotate_left
  · have t2 : ((len : Int) != 8) = true := by simp; omega
    have HF := Lib.hid (show ¬ (t < 128 ∧ bs.length = 8) from fun h => h8 h.2)
    clear h8
    rw [hV] at y0 y1
    go_wp2_with fail
    rw [← hV]
    go_ret2
    exact ⟨bV, by rw [if_neg HF, decide_eq_false HF]; rfl⟩
  obtain rfl : len = 8 := by omega
  have hb8 := hb.2
  have HT := Lib.hid ht
  have z0 := y0
  have z1 := y1
  rw [hV] at z0 z1
  obtain ⟨_, bb, off, hop, hc⟩ := rV.1.open
  obtain ⟨rfl, hbb, hc1, hc2⟩ := hop (by omega)
  simp only [maxLen] at hc2
  have HC := Lib.hid hc
  clear ht hc hop rV hb
  go_wp2_with fail
  rw [← hV]
  clear hV z0 z1
  go_loopw [4, 5] (fun m x wr => ∃ (j : Nat), x = .int .i64 ((j : Int) - 1) ∧ j ≤ 8 ∧ m = .int .u64 (valB (bs.drop j)) ∧ wr = V) (fun _ x _ => (intOf x + 1).toNat)
  case atStart => exact ⟨8, rfl, Nat.le_refl _, by rw [List.drop_eq_nil_of_le (by omega)]; rfl, rfl⟩
  case round =>
    obtain ⟨j, rfl, hj, rfl, rfl⟩ := hrel
    by_cases h0 : j = 0
    · subst h0
      have t3 : decide ((((0 : Nat) : Int) - 1) ≥ 0) = false := by decide
      go_wp2
      go_ret2
      exact ⟨bV, by rw [if_pos ⟨HT, h8⟩, decide_eq_true ⟨HT, h8⟩]; rfl⟩
    · obtain ⟨y, rfl⟩ : ∃ y, j = y + 1 := ⟨j - 1, by omega⟩
      have t3 : decide ((y : Int) ≥ 0) = true := by simp
      have hy : y < bs.length := by omega
      have c1 := (show ∀ j, j < 8 → wr.cell? ⟨bb, off + j, none⟩ = some (.int .u8 (bs.getD j 0)) from HC) y (by omega)
      rw [getD_at _ _ hy] at c1
      rw [show ((y + 1 : Nat) : Int) - 1 = (y : Int) by omega]
      obtain ⟨Z, hZ⟩ : ∃ Z, Z = bs[y] := ⟨_, rfl⟩
      rw [← hZ] at c1
      have hd : valB (bs.drop y) = Z + 256 * valB (bs.drop (y + 1)) := by rw [hZ, ← List.getElem_cons_drop hy]; rfl
      have hlt := valB_lt (bs.drop (y + 1)) fun z hz => hb8 z (List.mem_of_mem_drop hz)
      have hle : (256 ^ (bs.drop (y + 1)).length : Nat) ≤ 256 ^ 7 := Nat.pow_le_pow_right (by decide) (by rw [List.length_drop]; omega)
      obtain ⟨M, hM⟩ : ∃ M : Nat, valB (bs.drop (y + 1)) = M := ⟨(valB (bs.drop (y + 1))).toNat, by omega⟩
      have hMl : M < 72057594037927936 := by
        have e : (256 : Nat) ^ 7 = 72057594037927936 := by decide
        omega
      have hZb := hb8 Z (by rw [hZ]; exact List.getElem_mem hy)
      obtain ⟨C, rfl⟩ : ∃ C : Nat, Z = C := ⟨Z.toNat, by omega⟩
      rw [hM] at hd ⊢
      have HD := Lib.hid hd
      have w1 : IntKind.u64.wrap (256 * (M : Int)) = 256 * (M : Int) := by rw [show (256 : Int) * (M : Int) = ((256 * M : Nat) : Int) by omega]; exact wrap_u64_nat _ (by omega)
      have w2 : IntKind.u64.wrap (C : Int) = (C : Int) := wrap_u64_nat _ (by omega)
      have w3 : IntKind.u64.wrap (256 * (M : Int) + (C : Int)) = 256 * (M : Int) + (C : Int) := by rw [show (256 : Int) * (M : Int) + (C : Int) = ((256 * M + C : Nat) : Int) by omega]; exact wrap_u64_nat _ (by omega)
      have hy8 : y < 8 := by omega
      clear hd hM hlt hle hZ hZb hMl h0 hj
      go_wp2_with fail
      clear w1 w2 w3
      refine ⟨⟨y, rfl, by omega, ?_, trivial⟩, by simp only [intOf]; omega⟩
      rw [show valB (bs.drop y) = (C : Int) + 256 * (M : Int) from HD, Int.add_comm]
end Go.Proofs.Ytdlhnipkhlihjaa
