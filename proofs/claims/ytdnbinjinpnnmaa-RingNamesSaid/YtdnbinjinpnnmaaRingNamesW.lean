/- The walk of the law RingNames: the examples. -/
import Derived.Test.YtdnbinjinpnnmaaRingNone
namespace Go.Proofs.Ytdnbinjinpnnmaa
open Go Go.RowKit
set_option linter.unusedVariables false
set_option linter.unnecessarySimpa false
/-- where the examples stand -/
def Nm (w : World) (g g0 : Nat) (W : World) : Prop := Below w.heap.size w W ∧ w.heap.size ≤ g ∧ w.heap.size ≤ g0 ∧ g ≠ g0 ∧ IsRing W g 3 [97, 98, 99] ∧ RingAt W g0 (fun _ => 0) 0 0 0
section
variable {w : World} {g g0 : Nat} {W : World}
theorem Nm.below {B : World} (h : Nm w g g0 W) (hb : Below W.heap.size W B) : Nm w g g0 B := by
  obtain ⟨h1, h2, h3, h4, h5, h6⟩ := h
  exact ⟨h1.trans (hb.mono h1.size), h2, h3, h4, h5.below h5.lt hb, h6.below h6.lt hb⟩
theorem Nm.alloc (h : Nm w g g0 W) (o : Obj) : Nm w g g0 (W.alloc o) := h.below ((Below.refl _ W).alloc (Nat.le_refl _) _)
theorem Nm.no (h : Nm w g g0 W) : NoRing W (some ⟨g0, 0, none⟩) := .inr ⟨g0, rfl, h.2.2.2.2.2⟩
theorem Nm.lt (h : Nm w g g0 W) : ∀ g', (some ⟨g0, 0, none⟩ : Option Addr) = some ⟨g', 0, none⟩ → g' < W.heap.size := fun g' e => by
  injection e with e; injection e with e; rw [← e]; exact h.2.2.2.2.2.lt
theorem nm_alive (h : Nm w g g0 W) : Calls Try.prog 8 #[] W fun e w' => e = .returned (.bool true) ∧ Nm w g g0 w' :=
  (alive_any W).mono fun e w' h' => ⟨h'.1, h.below h'.2⟩
theorem nm_peek (h : Nm w g g0 W) : Calls Try.prog 19 #[.pointer (some ⟨g, 0, none⟩), .int .i64 9] W fun e w' => ∃ v, e = .returned v ∧ (convert 22 9 v).run Try.prog w' = .ok (.string (strOfNums [97, 98, 99])) w' ∧ Nm w g g0 w' :=
  (peek_ring W g 3 _ 9 h.2.2.2.2.1).mono fun e w' h' => by
    obtain ⟨⟨v, rfl, ho, _⟩, hb⟩ := h'
    exact ⟨v, rfl, OwnBytes.conv (zs := [97, 98, 99]) ho, h.below hb⟩
theorem nm_read (h : Nm w g g0 W) : Calls Try.prog 11 #[.pointer (some ⟨g, 0, none⟩), .int .i64 0] W fun e w' => e = .returned (.slice none 0 0) ∧ Nm w g g0 w' :=
  (read_ring W g 3 _ 0 h.2.2.2.2.1).mono fun e w' h' => by
    obtain ⟨⟨v, rfl, ho, hn⟩, hI, hw⟩ := h'
    obtain ⟨h1, h2, h3, h4, h5, h6⟩ := h
    exact ⟨by rw [hn.2 (by simp)], h1.trans (below_of_wr hw h2 h1.size), h2, h3, h4, hI, h6.same (hw.block _ h6.lt (fun e => h4 e.symm))⟩
theorem nm_peek0 (h : Nm w g g0 W) : Calls Try.prog 19 #[.pointer (some ⟨g, 0, none⟩), .int .i64 (-1)] W fun e w' => e = .returned (.slice none 0 0) ∧ Nm w g g0 w' :=
  (peek_ring W g 3 _ (-1) h.2.2.2.2.1).mono fun e w' h' => by
    obtain ⟨⟨v, rfl, ho, hn⟩, hb⟩ := h'
    exact ⟨by rw [hn.2 (by simp)], h.below hb⟩
theorem nm_readz (h : Nm w g g0 W) : Calls Try.prog 11 #[.pointer (some ⟨g0, 0, none⟩), .int .i64 1] W fun e w' => e = .returned (.slice none 0 0) ∧ Nm w g g0 w' :=
  (read_none _ 1 W h.no h.lt).mono fun e w' h' => ⟨h'.1, h.below h'.2⟩
theorem nm_all (h : Nm w g g0 W) : Calls Try.prog 15 #[.pointer none] W fun e w' => e = .returned (.slice none 0 0) ∧ Nm w g g0 w' :=
  (all_none none W (.inl rfl) (fun _ e => by cases e)).mono fun e w' h' => ⟨h'.1, h.below h'.2⟩
end
theorem nil_no (W : World) : NoRing W none := .inl rfl
theorem nm_write (W : World) (a : Addr) : Calls Try.prog 10 #[.pointer none, .slice (some a) 1 1] W fun e w' => e = .returned (.int .i64 0) ∧ W = w' := write_none W none (some a) 1 1 (.inl rfl)
theorem nm_of2 (w : World) : Calls Try.prog 20 #[.int .i64 2, .slice (some ⟨w.heap.size, 0, none⟩) 3 3] (w.alloc (.cells #[.int .u8 97, .int .u8 98, .int .u8 99] 5 (3, 4))) fun e w' => e = .returned (.tuple #[.pointer none, .int .i64 80]) ∧ Below w.heap.size w w' :=
  (of_ring 2 _ 3 3 [97, 98, 99] _ (Row8.built w 5 (3, 4) [97, 98, 99] (by decide) (by decide) _ rfl 3 rfl) (by decide)).mono fun e w' h => by
    obtain ⟨hb, ⟨_, _, h, _⟩ | ⟨_, h⟩⟩ := h
    · exact absurd h (by decide)
    · exact ⟨h, ((Below.refl _ w).alloc (Nat.le_refl _) _).trans (hb.mono (by simp))⟩
theorem nm_of3 (w W : World) (hw : Below w.heap.size w W) : Calls Try.prog 20 #[.int .i64 3, .slice (some ⟨W.heap.size, 0, none⟩) 3 3] (W.alloc (.cells #[.int .u8 97, .int .u8 98, .int .u8 99] 5 (3, 4))) fun e w' =>
    ∃ g, e = .returned (.tuple #[.pointer (some ⟨g, 0, none⟩), .int .i64 0]) ∧ Nm w g w'.heap.size (w'.alloc (.cells (ringCells (fun _ => 0) 0 0 0) 50)) :=
  (of_ring 3 _ 3 3 [97, 98, 99] _ (Row8.built W 5 (3, 4) [97, 98, 99] (by decide) (by decide) _ rfl 3 rfl) (by decide)).mono fun e w' h => by
    obtain ⟨hb, ⟨_, _, _, h, hI⟩ | ⟨h, _⟩⟩ := h
    · have hs := hw.size
      have hlt := hI.lt
      have b1 : Below w.heap.size w w' := (hw.alloc hs _).trans (hb.mono (by simp; omega))
      simp only [World.size_alloc] at h hI hlt
      refine ⟨_, h, b1.alloc b1.size _, by omega, b1.size, by omega, hI.same (Below.heap_alloc _ _ _ hlt), World.alloc_heap_new w' _⟩
    · exact absurd ⟨by decide, by decide, by decide⟩ h
theorem ringAbc : ((strOfNums [97, 98, 99]).toList == [97, 98, 99]) = true := by rw [ByteArray.toList_eq]; decide
set_option maxRecDepth 100000 in
set_option maxHeartbeats 4000000 in
theorem ringNames_any (w : World) : Calls Try.prog 7 #[] w fun e w' => e = .returned (.bool true) ∧ Below w.heap.size w w' := by
  have kc := fun (w : World) (C : Array Value) (n c : Nat) => Lib.run_convert_bytes_const (P := Try.prog) w 22 5 C n c Try.underlying22 Try.underlying5
  have hz := zeroRing
  have hs := size_ringCells (fun _ => 0) 0 0 0
  have s1 := ringAbc
  go_enter Try.func7, Try.ntmps7
  go_wp2_with (first
    | (go_at_call 20; with_reducible refine (nm_of2 _).mono ?_; rintro e w1 ⟨rfl, hb1⟩)
    | (go_at_call 9; refine (new_no _ _ (by decide)).mono ?_; rintro e w2 ⟨rfl, rfl⟩)
    | (go_at_call 20; with_reducible refine (nm_of3 w _ hb1).mono ?_; rintro e w3 ⟨g, rfl, hN⟩)
    | (go_at_call 8; with_reducible refine (nm_alive hN).mono ?_; rintro e w4 ⟨rfl, hN⟩)
    | (go_at_call 19; with_reducible refine (nm_peek hN).mono ?_; rintro e w4 ⟨v, rfl, cv, hN⟩)
    | (go_at_call 11; with_reducible refine (nm_read hN).mono ?_; rintro e w4 ⟨rfl, hN⟩)
    | (go_at_call 19; with_reducible refine (nm_peek0 hN).mono ?_; rintro e w4 ⟨rfl, hN⟩)
    | (go_at_call 10; with_reducible refine (nm_write _ _).mono ?_; rintro e w4 ⟨rfl, rfl⟩)
    | (go_at_call 11; with_reducible refine (nm_readz (hN.alloc _)).mono ?_; rintro e w4 ⟨rfl, hN⟩)
    | (go_at_call 15; with_reducible refine (nm_all hN).mono ?_; rintro e w4 ⟨rfl, hN⟩)
    | (go_at_call 12; with_reducible refine (len_none _ _ hN.no).mono ?_; rintro e w4 ⟨rfl, rfl⟩)
    | (go_at_call 14; with_reducible refine (cap_none _ _ hN.no).mono ?_; rintro e w4 ⟨rfl, rfl⟩)
    | (go_at_call 13; with_reducible refine (room_none _ _ (nil_no _)).mono ?_; rintro e w4 ⟨rfl, rfl⟩)
    | (go_at_call 18; with_reducible refine (copy_none _ _ (nil_no _)).mono ?_; rintro e w4 ⟨rfl, rfl⟩))
  go_ret
  exact ⟨rfl, hN.1⟩
end Go.Proofs.Ytdnbinjinpnnmaa
