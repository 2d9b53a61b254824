/- The walk of the law PipeNames: the examples. -/
import Derived.Test.YtcmcilfopkhipaaPipeNone
namespace Go.Proofs.Ytcmcilfopkhipaa
open Go Go.RowKit
set_option linter.unusedVariables false
set_option linter.unnecessarySimpa false
theorem nm_of (w : World) (rd wr : Int) (h : ¬ (0 ≤ rd ∧ 0 ≤ wr ∧ rd ≤ 64 ∧ wr ≤ 64 ∧ rd + wr ≠ 0)) : Calls Try.prog 15 #[.int .i64 4, .slice none 0 0, .int .i64 rd, .int .i64 wr] w fun e w' => e = .returned (.tuple #[.pointer none, .int .i64 90]) ∧ Below w.heap.size w w' :=
  (pof_any 4 none 0 0 [] rd wr w ⟨.inl ⟨_, _, rfl, rfl⟩, by simp⟩ (by omega)).mono fun e w' ⟨hb, hc⟩ => by
    rcases hc with ⟨_, _, _, h1, h2, h3, h4, h5, _⟩ | ⟨hno, _⟩ | ⟨_, _, he⟩
    · exact absurd ⟨h1, h2, h3, h4, h5⟩ h
    · exact absurd ⟨by decide, by decide, by decide⟩ hno
    · exact ⟨he, hb⟩
theorem nm_new0 (w : World) : Calls Try.prog 10 #[.int .i64 0] w fun e w' => e = .returned (.tuple #[.pointer none, .int .i64 80]) ∧ Below w.heap.size w w' := by
  have k := pof_any 0 none 0 0 [] 1 1 w ⟨.inl ⟨_, _, rfl, rfl⟩, by simp⟩ (by omega)
  go_enter Try.func10, Try.ntmps10
  go_wp2_with (go_at_call 15; refine held ?_)
  unfold Held
  refine k.mono ?_
  rintro e w1 ⟨hb, ⟨h1, _⟩ | ⟨_, rfl⟩ | ⟨⟨h1, _⟩, _⟩⟩
  · exact absurd h1 (by decide)
  · go_wp2
    go_ret2
    exact ⟨rfl, hb⟩
  · exact absurd h1 (by decide)
set_option maxRecDepth 100000 in
set_option maxHeartbeats 8000000 in
theorem pipeNames_any (w : World) : Calls Try.prog 8 #[] w fun e w' => e = .returned (.bool true) ∧ Below w.heap.size w w' := by
  have kc := fun (w : World) (C : Array Value) (n c : Nat) => Lib.run_convert_bytes_const (P := Try.prog) w 22 5 C n c Try.underlying22 Try.underlying5
  go_enter Try.func8, Try.ntmps8
  go_wp2_with (go_at_call 10; refine held ?_)
  unfold Held
  refine (pnew_any 4 w (by decide) (by decide)).mono ?_
  rintro e w1 ⟨b1, p, g, rfl, hP1, hp, hg⟩
  go_wp2_with (go_at_call 13; refine held ?_)
  unfold Held
  refine (close_pipe_any w1 p g 4 [] 1 1 hP1 true).mono ?_
  rintro e w2 (⟨h0, _⟩ | ⟨_, rfl, hP2, hw2⟩)
  · exact absurd h0 (by decide)
  have hP2' : IsPipe w2 p g 4 [] 1 0 := hP2
  have b2 := b1.trans (below_of_wr hw2 hp b1.size)
  rw [show decide (cnt 1 1 true = 1) = true from rfl]
  clear hP1 hP2 hw2
  go_wp2_with (go_at_call 12; refine held ?_)
  unfold Held
  refine (pread_any w2 p g 4 [] 1 0 hP2' 1).mono ?_
  rintro e w3 ⟨v3, rfl, _, hP3, hw3⟩
  have hP3' : IsPipe w3 p g 4 [] 1 0 := hP3
  have b3 := b2.trans (below_of_wr hw3 hg b2.size)
  simp only [show readR [] 1 0 1 = ([], 2, 0) from rfl]
  clear hP2' hP3 hw3
  go_wp2_with (go_at_call 13; refine held ?_)
  unfold Held
  refine (close_pipe_any w3 p g 4 [] 1 0 hP3' false).mono ?_
  rintro e w4 (⟨h0, _⟩ | ⟨_, rfl, hP4, hw4⟩)
  · exact absurd h0 (by decide)
  have hP4' : IsPipe w4 p g 4 [] 0 0 := hP4
  have b4 := b3.trans (below_of_wr hw4 hp b3.size)
  rw [show decide (cnt 1 0 false = 1) = true from rfl]
  clear hP3' hP4 hw4
  have hr5 := Row8.built w4 5 (1, 2) [97] (by decide) (by decide) #[.int .u8 97] rfl 1 rfl
  have hP5 : IsPipe (w4.alloc (.cells #[.int .u8 97] 5 (1, 2))) p g 4 [] 0 0 := hP4'.below ((Below.refl _ w4).alloc (Nat.le_refl _) _)
  have b5 : Below w.heap.size w (w4.alloc (.cells #[.int .u8 97] 5 (1, 2))) := b4.alloc b4.size _
  have hg4 := hP4'.lt.2
  have k5 := pwrite_any _ p g 4 [] 0 0 hP5 _ _ _ _ hr5 (by rintro ⟨_, h⟩; simp at h; omega) (by decide)
  rw [show writeR 4 [] 0 0 1 = (0, 0, 90) from rfl] at k5
  go_wp2_with (go_at_call 11; refine k5.mono ?_; rintro e w6 ⟨rfl, hP6, hw6⟩; refine held ?_)
  unfold Held
  have hP6' : IsPipe w6 p g 4 [] 0 0 := hP6
  have b6 := b5.trans (below_of_wr hw6 hg b5.size)
  have kg : Calls Try.prog 21 #[.pointer (some ⟨p, 0, none⟩)] w6 fun e w' => e = .returned (.bool true) ∧ w6 = w' := gone_any w6 p g 4 [] 0 0 hP6'
  have ko : Calls Try.prog 20 #[.pointer (some ⟨p, 0, none⟩), .bool true] w6 fun e w' => e = .returned (.int .i64 90) ∧ w6 = w' :=
    (open_pipe_any w6 p g 4 [] 0 0 hP6' true).mono fun e w' h => by
      rcases h with ⟨_, he, hw⟩ | ⟨h0, _⟩
      · exact ⟨he, hw⟩
      · exact absurd h0 (Nat.lt_irrefl 0)
  clear k5 hr5 hP5 b5 hw6 hP6 hP4' b4 b3 b2 b1 hg4
  go_wp2_with (first
    | (go_at_call 21; refine kg.mono ?_; rintro e w7 ⟨rfl, rfl⟩)
    | (go_at_call 20; refine ko.mono ?_; rintro e w7 ⟨rfl, rfl⟩)
    | (go_at_call 10; refine held ?_))
  unfold Held
  clear kg ko hP6'
  refine (pnew_any 4 w6 (by decide) (by decide)).mono ?_
  rintro e w7 ⟨b7, q, h, rfl, hQ7, hq, hh⟩
  have hq : w.heap.size ≤ q := Nat.le_trans b6.size hq
  have hh : w.heap.size ≤ h := Nat.le_trans b6.size hh
  have b7 := b6.trans (b7.mono b6.size)
  go_wp2_with (go_at_call 13; refine held ?_)
  unfold Held
  refine (close_pipe_any w7 q h 4 [] 1 1 hQ7 false).mono ?_
  rintro e w8 (⟨h0, _⟩ | ⟨_, rfl, hQ8, hw8⟩)
  · exact absurd h0 (by decide)
  have hQ8' : IsPipe w8 q h 4 [] 0 1 := hQ8
  have b8 := b7.trans (below_of_wr hw8 hq b7.size)
  clear hQ7 hQ8 hw8
  have hr9 := Row8.built w8 5 (1, 2) [97] (by decide) (by decide) #[.int .u8 97] rfl 1 rfl
  have hQ9 : IsPipe (w8.alloc (.cells #[.int .u8 97] 5 (1, 2))) q h 4 [] 0 1 := hQ8'.below ((Below.refl _ w8).alloc (Nat.le_refl _) _)
  have b9 : Below w.heap.size w (w8.alloc (.cells #[.int .u8 97] 5 (1, 2))) := b8.alloc b8.size _
  have hh8 := hQ8'.lt.2
  have k9 := pwrite_any _ q h 4 [] 0 1 hQ9 _ _ _ _ hr9 (by rintro ⟨_, h⟩; simp at h; omega) (by decide)
  rw [show writeR 4 [] 0 1 1 = (0, 3, 0) from rfl] at k9
  go_wp2_with (go_at_call 11; refine k9.mono ?_; rintro e w10 ⟨rfl, hQ10, hw10⟩; refine held ?_)
  unfold Held
  have hQ10' : IsPipe w10 q h 4 [] 0 1 := hQ10
  have b10 := b9.trans (below_of_wr hw10 hh b9.size)
  clear k9 hr9 hQ9 b9 hw10 hQ10 hQ8' b8 hh8
  go_wp2_with (go_at_call 10; refine (nm_new0 w10).mono ?_; rintro e w11 ⟨rfl, hb11⟩; refine held ?_)
  unfold Held
  have hQ11 := hQ10'.below hb11
  have b11 := b10.trans (hb11.mono b10.size)
  go_wp2_with (go_at_call 15; refine (nm_of w11 0 0 (by decide)).mono ?_; rintro e w12 ⟨rfl, hb12⟩; refine held ?_)
  unfold Held
  have hQ12 := hQ11.below hb12
  have b12 := b11.trans (hb12.mono b11.size)
  go_wp2_with (go_at_call 15; refine (nm_of w12 65 1 (by decide)).mono ?_; rintro e w13 ⟨rfl, hb13⟩; refine held ?_)
  unfold Held
  have hQ13 := hQ12.below hb13
  have b13 := b12.trans (hb13.mono b12.size)
  clear hb11 hb12 hb13 hQ10' hQ11 hQ12 b10 b11 b12
  go_wp2_with (go_at_call 12; refine held ?_)
  unfold Held
  refine (pread_any w13 q h 4 [] 0 1 hQ13 1).mono ?_
  rintro e w14 ⟨v14, rfl, _, _, hw14⟩
  have b14 := b13.trans (below_of_wr hw14 hh b13.size)
  simp only [show readR [] 0 1 1 = ([], 0, 90) from rfl]
  have hZ : ZeroAt (w14.alloc (.cells #[.pointer none, .int .i64 0, .int .i64 0] 70)) w14.heap.size := World.alloc_heap_new w14 _
  have bZ : Below w.heap.size w (w14.alloc (.cells #[.pointer none, .int .i64 0, .int .i64 0] 70)) := b14.alloc b14.size _
  clear hQ13 hw14 b13
  go_wp2_with (first
    | (go_at_call 12; refine (nread_any _ none 1 (NoPipe.nil _)).mono ?_; rintro e w15 ⟨rfl, rfl⟩)
    | (go_at_call 11; refine (nwrite_any _ _ none 0 0 (NoPipe.zero hZ)).mono ?_; rintro e w15 ⟨rfl, rfl⟩)
    | (go_at_call 13; refine (nclose_any _ none (NoPipe.nil _)).mono ?_; rintro e w15 ⟨rfl, rfl⟩)
    | (go_at_call 9; refine (palive_any _).mono ?_; rintro e w16 ⟨rfl, hb16⟩; refine held ?_))
  unfold Held
  have hZ16 := hZ.below hb16
  have b16 := bZ.trans (hb16.mono bZ.size)
  clear hZ bZ hb16
  go_wp2_with (first
    | (go_at_call 20; refine (nopen_any _ _ (NoPipe.zero hZ16)).mono ?_; rintro e w15 ⟨rfl, rfl⟩)
    | (go_at_call 23; refine (nready_any _ none (NoPipe.nil _)).mono ?_; rintro e w15 ⟨rfl, rfl⟩)
    | (go_at_call 17; refine (nreaders_nil _).mono ?_; rintro e w15 ⟨rfl, rfl⟩)
    | (go_at_call 18; refine (nwriters_zero _ _ hZ16).mono ?_; rintro e w15 ⟨rfl, rfl⟩)
    | (go_at_call 19; refine (nall_nil _).mono ?_; rintro e w15 ⟨rfl, rfl⟩)
    | (go_at_call 24; refine (ncap_zero _ _ hZ16).mono ?_; rintro e w15 ⟨rfl, rfl⟩)
    | (go_at_call 21; with_reducible refine (ngone_any _ none (NoPipe.nil _)).mono ?_; rintro e w15 ⟨rfl, rfl⟩)
    | (go_at_call 21; refine (ngone_any _ _ (NoPipe.zero hZ16)).mono ?_; rintro e w15 ⟨rfl, rfl⟩)
    | (go_at_call 22; refine (ncopy_nil _).mono ?_; rintro e w15 ⟨rfl, rfl⟩))
  go_ret
  exact ⟨rfl, b16⟩
end Go.Proofs.Ytcmcilfopkhipaa
