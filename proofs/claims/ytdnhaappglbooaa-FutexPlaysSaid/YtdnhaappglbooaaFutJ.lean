/- The chapter's futex; alive. -/
import Derived.Test.YtdnhaappglbooaaFutI
namespace Go.Proofs.Ytdnhaappglbooaa
open Go Go.RowKit
attribute [local go_sem] upV_value upV_skip upV_enter
set_option linter.unusedVariables false
set_option linter.unnecessarySimpa false
set_option linter.unusedSimpArgs false
/-- a futex that lies above n -/
structure Fresh (n : Nat) (W : World) (p : Nat) (v : Value) (ws : List Wt) : Prop where
  fut : FutAt W p v ws
  lo : ∀ b, SFut p v b → n ≤ b
theorem Fresh.step {n : Nat} {W W' : World} {p : Nat} {v v' : Value} {ws ws' : List Wt} (h : Fresh n W p v ws) (hn : n ≤ W.heap.size) (hF : FutAt W' p v' ws') (hw : Wr (SFut p v) (SFut p v') W W') : Fresh n W' p v' ws' :=
  ⟨hF, fun b hb => (hw.new b hb).elim (h.lo b) (fun h => by omega)⟩
theorem Fresh.wr {n : Nat} {W W' : World} {p : Nat} {v v' : Value} {ws : List Wt} (h : Fresh n W p v ws) (hn : n ≤ W.heap.size) (hw : Wr (SFut p v) (SFut p v') W W') : Below n W W' :=
  ⟨hw.os, hw.tape, hw.output, hw.size, fun b hb => hw.block b (by omega) (fun h' => by have := h.lo b h'; omega)⟩
theorem Fresh.below {n : Nat} {W W' : World} {p : Nat} {v : Value} {ws : List Wt} (h : Fresh n W p v ws) (hb : Below W.heap.size W W') : Fresh n W' p v ws := ⟨h.fut.below hb, h.lo⟩
theorem Fresh.new (n : Nat) (W : World) (hn : n ≤ W.heap.size) : Fresh n (W.alloc (.cells #[.slice none 0 0] 28)) W.heap.size (.slice none 0 0) [] := by
  refine ⟨⟨World.alloc_heap_new _ _, World.ownsRow_nil _ _ _ _, fun b hb => by simp [Value.ownBlock] at hb⟩, ?_⟩
  rintro b (rfl | hb)
  · exact hn
  · simp [Value.ownBlock] at hb
/-- a row that a writer of S leaves alone -/
def Kept (S : Nat → Prop) (u : Value) : Prop := ∀ b, u.ownBlock = some b → ¬ S b
theorem row_step {S S' : Nat → Prop} {W W' : World} {base : Nat} {e : TypeId} {sz : Nat} {u : Value} {n : Nat} {xs : List Value} (h : W.ownsRow base e sz u n xs) (hk : Kept S u) (hw : Wr S S' W W') : W'.ownsRow base e sz u n xs ∧ Kept S' u :=
  ⟨ownsRow_same h fun b hb => hw.block b (h.lt b hb).2 (hk b hb), fun b hb hs => (hw.new b hs).elim (hk b hb) (fun h' => by have := (h.lt b hb).2; omega)⟩
theorem row_below {W W' : World} {base : Nat} {e : TypeId} {sz : Nat} {u : Value} {n : Nat} {xs : List Value} (h : W.ownsRow base e sz u n xs) (hb : Below W.heap.size W W') : W'.ownsRow base e sz u n xs :=
  ownsRow_same h fun b hb' => hb.block b (h.lt b hb').2
/-- rows of another type are not the futex's -/
theorem FutAt.apart {W : World} {p : Nat} {v : Value} {ws : List Wt} (h : FutAt W p v ws) {base : Nat} {e : TypeId} {sz : Nat} {u : Value} {n : Nat} {xs : List Value} (ho : W.ownsRow base e sz u n xs) (h1 : e ≠ 35) (h2 : e ≠ 28) : Kept (SFut p v) u := by
  intro b hb hs
  rcases ho.2 with ⟨rfl, _⟩ | ⟨g, cap, cur, rfl, _, hg, _⟩
  · simp [Value.ownBlock] at hb
  · obtain rfl : g = b := by simpa [Value.ownBlock] using hb
    rcases hs with rfl | hs
    · rw [h.at_] at hg
      injection hg with hg; injection hg with _ e1 _
      exact h2 e1.symm
    · rcases h.own.2 with ⟨rfl, _⟩ | ⟨g', cap', cur', rfl, _, hg', _⟩
      · simp [Value.ownBlock] at hs
      · obtain rfl : g' = g := by simpa [Value.ownBlock] using hs
        rw [hg'] at hg
        injection hg with hg; injection hg with _ e1 _
        exact h1 e1.symm
def someL : List Wt := [⟨3, oneK1⟩, ⟨2, oneK1⟩, ⟨9, ⟨9, 0, 8⟩⟩]
set_option maxRecDepth 100000 in
set_option maxHeartbeats 4000000 in
theorem some_any (W : World) : Calls Try.prog 28 #[] W fun e W' => ∃ q v, e = .returned (.pointer (some ⟨q, 0, none⟩)) ∧ Fresh W.heap.size W' q v someL ∧ Below W.heap.size W W' := by
  have f0 := Fresh.new W.heap.size W (Nat.le_refl _)
  have b0 : Below W.heap.size W (W.alloc (.cells #[.slice none 0 0] 28)) := (Below.refl _ W).alloc (Nat.le_refl _) _
  go_enter Try.func28, Try.ntmps28
  go_wp2_with (go_at_call 29; refine held ?_)
  unfold Held
  obtain ⟨V, hV⟩ : ∃ V, V = W.alloc (.cells #[.slice none 0 0] 28) := ⟨_, rfl⟩
  rw [← hV] at f0 b0 ⊢
  clear hV
  refine (one_any V).mono ?_
  rintro e w1 ⟨rfl, b1⟩
  have f1 := f0.below b1
  have b1' := b0.trans (b1.mono b0.size)
  go_wp2_with (go_at_call 12; refine held ?_)
  unfold Held
  refine (wait_any _ _ _ 3 oneK1 w1 f1.fut (by decide)).mono ?_
  rintro e w2 ⟨v2, rfl, h2, hw2⟩
  have f2 := f1.step b1'.size h2 hw2
  have b2 := b1'.trans (f1.wr b1'.size hw2)
  rw [show waitL [] 3 oneK1 = (0, [⟨3, oneK1⟩]) from by decide] at f2
  clear f1 f0 h2 hw2 b1' b1 b0
  go_wp2_with (go_at_call 29; refine held ?_)
  unfold Held
  refine (one_any w2).mono ?_
  rintro e w3 ⟨rfl, b3⟩
  have f3 := f2.below b3
  have b3' := b2.trans (b3.mono b2.size)
  clear f2 b2 b3
  go_wp2_with (go_at_call 12; refine held ?_)
  unfold Held
  refine (wait_any _ _ _ 2 oneK1 w3 f3.fut (by decide)).mono ?_
  rintro e w4 ⟨v4, rfl, h4, hw4⟩
  have f4 := f3.step b3'.size h4 hw4
  have b4 := b3'.trans (f3.wr b3'.size hw4)
  rw [show waitL [⟨3, oneK1⟩] 2 oneK1 = (0, [⟨3, oneK1⟩, ⟨2, oneK1⟩]) from by decide] at f4
  clear f3 b3' h4 hw4
  go_wp2_with (go_at_call 12; refine held ?_)
  unfold Held
  refine (wait_any _ _ _ 9 ⟨9, 0, 8⟩ w4 f4.fut (by decide)).mono ?_
  rintro e w5 ⟨v5, rfl, h5, hw5⟩
  have f5 := f4.step b4.size h5 hw5
  have b5 := b4.trans (f4.wr b4.size hw5)
  rw [show waitL [⟨3, oneK1⟩, ⟨2, oneK1⟩] 9 ⟨9, 0, 8⟩ = (0, someL) from by decide] at f5
  clear f4 b4 h5 hw5
  go_wp2
  go_ret
  exact ⟨_, _, rfl, f5, b5⟩
theorem sl_own {W : World} {base : Nat} {e : TypeId} {sz : Nat} {u : Value} {n : Nat} {xs : List Value} (h : W.ownsRow base e sz u n xs) : ∃ a c, u = .slice a n c := by
  rcases h.2 with ⟨h1, h2⟩ | ⟨g, cap, cur, h1, _⟩
  · exact ⟨none, 0, by rw [h1, h2]⟩
  · exact ⟨_, _, h1⟩
/-- a slice of integers, laid out -/
theorem RowI.lit1 (W : World) (x : Int) : RowI .i64 (W.heap.size + 1) (W.alloc (.cells #[.int .i64 x] 3)) (.slice (some ⟨W.heap.size, 0, none⟩) 1 1) [x] := by
  refine .inr ⟨W.heap.size, 0, 1, rfl, by omega, by simp, by simp only [maxLen]; omega, fun j hj => ?_⟩
  obtain rfl : j = 0 := by simpa using hj
  rw [Nat.add_zero, cell_of_row _ _ 0 _ _ _ (World.alloc_heap_new W _)]
  rfl
set_option maxRecDepth 100000 in
set_option maxHeartbeats 8000000 in
theorem alive_any (W : World) : Calls Try.prog 9 #[] W fun e W' => e = .returned (.bool true) ∧ Below W.heap.size W W' := by
  go_enter Try.func9, Try.ntmps9
  go_wp2_with (go_at_call 28; refine held ?_)
  unfold Held
  refine (some_any W).mono ?_
  rintro e w1 ⟨q, v1, rfl, f1, b1⟩
  go_wp2_with (go_at_call 29; refine held ?_)
  unfold Held
  refine (one_any w1).mono ?_
  rintro e w2 ⟨rfl, b2⟩
  have f2 := f1.below b2
  have b2' := b1.trans (b2.mono b1.size)
  clear f1 b1 b2
  go_wp2_with (go_at_call 12; refine held ?_)
  unfold Held
  refine (wait_any _ _ _ 3 oneK1 w2 f2.fut (by decide)).mono ?_
  rintro e w3 ⟨v3, rfl, h3, hw3⟩
  have f3 := f2.step b2'.size h3 hw3
  have b3 := b2'.trans (f2.wr b2'.size hw3)
  rw [show waitL someL 3 oneK1 = (110, someL) from by decide] at f3
  rw [show (waitL someL 3 oneK1).1 = 110 from by decide]
  clear f2 b2' h3 hw3
  go_wp2_with (go_at_call 29; refine held ?_)
  unfold Held
  refine (one_any w3).mono ?_
  rintro e w4 ⟨rfl, b4⟩
  have f4 := f3.below b4
  have b4' := b3.trans (b4.mono b3.size)
  clear f3 b3 b4
  go_wp2_with (go_at_call 15; refine held ?_)
  unfold Held
  refine (wake_any _ _ _ oneK1 1 w4 f4.fut (by decide)).mono ?_
  rintro e w5 ⟨u5, v5, rfl, o5, h5, hw5⟩
  have f5 := f4.step b4'.size h5 hw5
  have b5 := b4'.trans (f4.wr b4'.size hw5)
  simp only [show wakeO someL oneK1 1 = [3] from by decide] at f5 o5 h5
  rw [show goneAll someL [3] = [⟨2, oneK1⟩, ⟨9, ⟨9, 0, 8⟩⟩] from by decide] at f5
  have k5 := f5.fut.apart o5 (by decide) (by decide)
  clear f4 b4' h5 hw5
  go_wp2_with (go_at_call 29; refine held ?_)
  unfold Held
  refine (one_any w5).mono ?_
  rintro e w6 ⟨rfl, b6⟩
  have f6 := f5.below b6
  have b6' := b5.trans (b6.mono b5.size)
  have o6 := row_below o5 b6
  clear f5 b5 b6 o5
  go_wp2_with (go_at_call 15; refine held ?_)
  unfold Held
  refine (wake_any _ _ _ oneK1 9 w6 f6.fut (by decide)).mono ?_
  rintro e w7 ⟨u7, v7, rfl, o7, h7, hw7⟩
  have f7 := f6.step b6'.size h7 hw7
  have b7 := b6'.trans (f6.wr b6'.size hw7)
  obtain ⟨p7, k7⟩ := row_step o6 k5 hw7
  simp only [show wakeO [⟨2, oneK1⟩, ⟨9, ⟨9, 0, 8⟩⟩] oneK1 9 = [2] from by decide] at f7 o7 h7
  rw [show goneAll [⟨2, oneK1⟩, ⟨9, ⟨9, 0, 8⟩⟩] [2] = [⟨9, ⟨9, 0, 8⟩⟩] from by decide] at f7
  have m7 := f7.fut.apart o7 (by decide) (by decide)
  clear f6 b6' h7 hw7 o6 k5
  go_wp2_with (go_at_call 29; refine held ?_)
  unfold Held
  refine (one_any w7).mono ?_
  rintro e w8 ⟨rfl, b8⟩
  have f8 := f7.below b8
  have b8' := b7.trans (b8.mono b7.size)
  have o8 := row_below p7 b8
  have p8 := row_below o7 b8
  clear f7 b7 b8 o7 p7
  go_wp2_with (go_at_call 15; refine held ?_)
  unfold Held
  refine (wake_any _ _ _ oneK1 1 w8 f8.fut (by decide)).mono ?_
  rintro e w9 ⟨u9, v9, rfl, o9, h9, hw9⟩
  have f9 := f8.step b8'.size h9 hw9
  have b9 := b8'.trans (f8.wr b8'.size hw9)
  have p9 := (row_step o8 k7 hw9).1
  have q9 := (row_step p8 m7 hw9).1
  simp only [show wakeO [⟨9, ⟨9, 0, 8⟩⟩] oneK1 1 = [] from by decide] at f9 o9 h9
  rw [show goneAll [⟨9, ⟨9, 0, 8⟩⟩] [] = [⟨9, ⟨9, 0, 8⟩⟩] from by decide] at f9
  clear f8 b8' h9 hw9 o8 k7 p8 m7
  obtain ⟨a5, c5, rfl⟩ := sl_own p9
  obtain ⟨a7, c7, rfl⟩ := sl_own q9
  obtain ⟨a9, c9, rfl⟩ := sl_own o9
  have r5 := (RowI.of_own (zs := [3]) p9).2
  have r7 := (RowI.of_own (zs := [2]) q9).2
  clear p9 q9 o9
  have b10 : Below w9.heap.size w9 (w9.alloc (.cells #[.int .i64 3] 3)) := (Below.refl _ w9).alloc (Nat.le_refl _) _
  have k10 := same04_any a5 _ c5 [3] _ 1 1 [3] (w9.heap.size + 1) _ (by simp) ((r5.below b10).mono (by omega)) (RowI.lit1 w9 3) (by simp)
  go_wp2_with (go_at_call 16; refine held ?_)
  unfold Held
  refine k10.mono ?_
  rintro e w11 ⟨rfl, b11⟩
  simp only [decide_true]
  have b11' : Below w9.heap.size w9 w11 := b10.trans (b11.mono b10.size)
  have f11 := f9.below b11'
  have r11 := r7.below b11'
  have bb11 := b9.trans (b11'.mono b9.size)
  have hs11 := b11'.size
  clear r5 r7 f9 b11 b10 k10
  have b12 : Below w11.heap.size w11 (w11.alloc (.cells #[.int .i64 2] 3)) := (Below.refl _ w11).alloc (Nat.le_refl _) _
  have k12 := same04_any a7 _ c7 [2] _ 1 1 [2] (w11.heap.size + 1) _ (by simp) (((r11.mono hs11).below b12).mono (by omega)) (RowI.lit1 w11 2) (by simp)
  go_wp2_with (go_at_call 16; refine held ?_)
  unfold Held
  refine k12.mono ?_
  rintro e w13 ⟨rfl, b13⟩
  simp only [decide_true]
  have b13' : Below w11.heap.size w11 w13 := b12.trans (b13.mono b12.size)
  have f13 := f11.below b13'
  have bb13 := bb11.trans (b13'.mono bb11.size)
  clear r11 f11 b13 b12 k12
  go_wp2_with (go_at_call 19; refine held ?_)
  unfold Held
  refine (len_any _ _ _ w13 f13.fut (by decide)).mono ?_
  rintro e w14 ⟨rfl, b14⟩
  have bb14 := bb13.trans (b14.mono bb13.size)
  clear f13 b14
  go_wp2
  go_ret
  exact ⟨rfl, bb14⟩
end Go.Proofs.Ytdnhaappglbooaa
