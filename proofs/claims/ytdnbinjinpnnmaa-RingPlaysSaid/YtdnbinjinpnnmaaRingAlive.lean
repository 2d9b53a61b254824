/- The chapter's first examples; what a law needs around a ring. -/
import Derived.Test.YtdnbinjinpnnmaaRingCopy
import Derived.Deep.Cut
import Derived.Deep.CutRange
import Derived.Lib.SlBytesConst
namespace Go.Proofs.Ytdnbinjinpnnmaa
open Go Go.RowKit
set_option linter.unusedVariables false
set_option linter.unnecessarySimpa false
theorem Row8.built (W : World) (t : TypeId) (fr : Nat × Nat) (zs : List Int) (hz : ∀ z ∈ zs, 0 ≤ z ∧ z ≤ 255) (hm : zs.length ≤ maxLen) (cs : Array Value) (hcs : cs = (zs.map (Value.int .u8)).toArray) (n : Nat) (hn : n = zs.length) :
    Row8 (W.alloc (.cells cs t fr)).heap.size (W.alloc (.cells cs t fr)) (.slice (some ⟨W.heap.size, 0, none⟩) n n) zs := by
  subst hcs hn
  refine ⟨.inr ⟨W.heap.size, 0, zs.length, rfl, by simp, Nat.le_refl _, hm, fun j hj => ?_⟩, hz⟩
  rw [Nat.zero_add, World.cell?_alloc_mark, getD_at _ _ hj]
  simp [hj]
theorem OwnBytes.conv {base : Nat} {zs : List Int} {v : Value} {W : World} (h : W.ownsRow base 5 1 v zs.length (zs.map (Value.int .u8))) :
    (convert 22 9 v).run Try.prog W = .ok (.string (strOfNums zs)) W :=
  convRow (RowI.of_own h).2 22 5 9 Try.underlying22 Try.underlying5 Try.underlying9
theorem below_of_wr {n g : Nat} {A B : World} (h : Wr (· = g) (· = g) A B) (hg : n ≤ g) (hn : n ≤ A.heap.size) : Below n A B :=
  ⟨h.os, h.tape, h.output, h.size, fun b hb => h.block b (by omega) (by omega)⟩
theorem ringAlive1 : ((strOfNums [97, 98]).toList == [97, 98]) = true := by rw [ByteArray.toList_eq]; decide
theorem ringAlive2 : ((strOfNums [99, 100, 101, 102]).toList == [99, 100, 101, 102]) = true := by rw [ByteArray.toList_eq]; decide
set_option maxRecDepth 100000 in
set_option maxHeartbeats 2000000 in
theorem alive_any (w : World) : Calls Try.prog 8 #[] w fun e w' => e = .returned (.bool true) ∧ Below w.heap.size w w' := by
  have hy := new_yes 4 w (by decide) (by decide)
  have hI := IsRing.new w 4 (by decide) (by decide)
  obtain ⟨w1, e1⟩ : ∃ w1, w1 = w.alloc (.cells (ringCells (fun _ => 0) (4 : Nat) 0 0) 50) := ⟨_, rfl⟩
  rw [← e1] at hI
  have hy' : Calls Try.prog 9 #[.int .i64 4] w fun e w' => e = .returned (.tuple #[.pointer (some ⟨w.heap.size, 0, none⟩), .int .i64 0]) ∧ w' = w1 := by rw [e1]; exact hy
  have b1 : Below w.heap.size w w1 := by rw [e1]; exact (Below.refl _ w).alloc (Nat.le_refl _) _
  clear e1 hy
  have kc := fun (w : World) (C : Array Value) (n c : Nat) => Lib.run_convert_bytes_const (P := Try.prog) w 22 5 C n c Try.underlying22 Try.underlying5
  have hg1 := hI.lt
  have hr1 := Row8.built w1 5 (3, 4) [97, 98, 99] (by decide) (by decide) #[.int .u8 97, .int .u8 98, .int .u8 99] rfl 3 rfl
  have hI1 : IsRing (w1.alloc (.cells #[.int .u8 97, .int .u8 98, .int .u8 99] 5 (3, 4))) w.heap.size 4 [] := hI.same (Below.heap_alloc _ _ _ hg1)
  have k1 := write_ring _ _ _ _ _ _ _ _ hI1 hr1 (by rintro ⟨_, h⟩; simp at h; omega) (by decide)
  have b2 : Below w.heap.size w (w1.alloc (.cells #[.int .u8 97, .int .u8 98, .int .u8 99] 5 (3, 4))) := b1.alloc b1.size _
  go_enter Try.func8, Try.ntmps8
  go_wp2_with (first
    | (go_at_call 9; refine hy'.mono ?_; rintro e w2 ⟨rfl, rfl⟩)
    | (go_at_call 10; refine k1.mono ?_; rintro e w3 ⟨rfl, hI3, hW3⟩)
    | (go_at_call 11; refine held ?_))
  unfold Held
  have hI3' : IsRing w3 w.heap.size 4 [97, 98, 99] := hI3
  have b3 := b2.trans (below_of_wr hW3 (Nat.le_refl _) b2.size)
  clear hI3 hW3 k1 hr1 hI1 hy' hI
  refine (read_ring w3 w.heap.size 4 _ 2 hI3').mono ?_
  rintro e w4 ⟨⟨v, rfl, ho4, _⟩, hI4, hW4⟩
  have hI4' : IsRing w4 w.heap.size 4 [99] := hI4
  have ho4' : w4.ownsRow w3.heap.size 5 1 v 2 ([97, 98].map (Value.int .u8)) := ho4
  clear hI4 ho4
  have b4 := b3.trans (below_of_wr hW4 (Nat.le_refl _) b3.size)
  have hg4 := hI4'.lt
  have hr5 := Row8.built w4 5 (4, 5) [100, 101, 102, 103] (by decide) (by decide) #[.int .u8 100, .int .u8 101, .int .u8 102, .int .u8 103] rfl 4 rfl
  have hI5 : IsRing (w4.alloc (.cells #[.int .u8 100, .int .u8 101, .int .u8 102, .int .u8 103] 5 (4, 5))) w.heap.size 4 [99] := hI4'.same (Below.heap_alloc _ _ _ hg4)
  have k5 := write_ring _ _ _ _ _ _ _ _ hI5 hr5 (by rintro ⟨_, h⟩; simp at h; omega) (by decide)
  have b5 : Below w.heap.size w (w4.alloc (.cells #[.int .u8 100, .int .u8 101, .int .u8 102, .int .u8 103] 5 (4, 5))) := b4.alloc b4.size _
  go_wp2_with (go_at_call 10; refine k5.mono ?_; rintro e w6 ⟨rfl, hI6, hW6⟩; refine held ?_)
  unfold Held
  have hI6' : IsRing w6 w.heap.size 4 [99, 100, 101, 102] := hI6
  have b6 := b5.trans (below_of_wr hW6 (Nat.le_refl _) b5.size)
  have ho6 : w6.ownsRow w3.heap.size 5 1 v [97, 98].length ([97, 98].map (Value.int .u8)) := ownsRow_same ho4' fun b hb => by
    have h1 := ho4'.lt b hb
    have hs3 := b3.size
    exact (hW6.block b (by simp; omega) (by have := hI5.lt; have := hI3'.lt; omega)).trans (Below.heap_alloc _ _ _ h1.2)
  have cv6 := OwnBytes.conv ho6
  have s1 := ringAlive1
  have s2 := ringAlive2
  clear hI6 hW6 k5 hr5 hI5 ho6 ho4' hI4' hI3'
  go_wp2_with (first
    | (go_at_call 15; refine (all_ring w6 w.heap.size 4 _ hI6').mono ?_; rintro e w7 ⟨⟨v7, rfl, ho7, _⟩, hb7⟩; have cv7 := OwnBytes.conv ho7; have hI7 := hI6'.below hI6'.lt hb7; have b7 := b6.trans (hb7.mono b6.size))
    | (go_at_call 13; refine (room_ring w7 w.heap.size 4 _ hI7).mono ?_; rintro e w8 ⟨rfl, rfl⟩))
  go_ret
  exact ⟨rfl, b7⟩
end Go.Proofs.Ytdnbinjinpnnmaa
