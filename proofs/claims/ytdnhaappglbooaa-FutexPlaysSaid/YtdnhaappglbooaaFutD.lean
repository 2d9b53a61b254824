/- The walk of Wait. -/
import Derived.Test.YtdnhaappglbooaaFutC
import Derived.Test.YtdnhaappglbooaaAppendUp
namespace Go.Proofs.Ytdnhaappglbooaa
open Go Go.RowKit
attribute [local go_sem] upV_value upV_skip upV_enter
set_option linter.unusedVariables false
set_option linter.unnecessarySimpa false
set_option linter.unusedSimpArgs false
/-- Wait: the answer, and who waits behind it -/
def waitL (ws : List Wt) (pid : Int) (k : Ky) : Int × List Wt :=
  if pid < 1 ∨ mayK k = false then (2, ws) else if (ws.find? (isP pid)).isSome then (110, ws) else (0, ws ++ [⟨pid, k⟩])
theorem FutAt.drew {W : World} {p : Nat} {v : Value} {ws : List Wt} (h : FutAt W p v ws) : FutAt W.drew p v ws := ⟨h.at_, h.own, h.ne⟩
theorem cells_row4 {W : World} {g : Nat} {x y z u : Int} {t : TypeId} (h : W.heap[g]? = some (.cells #[.int .i64 x, .int .i64 y, .int .i64 z, .int .i64 u] t)) :
    ∀ j v, ([.int .i64 x, .int .i64 y, .int .i64 z, .int .i64 u] : List Value)[j]? = some v → W.cell? ⟨g, 0 + j, none⟩ = some v := by
  intro j v hj
  rw [Nat.zero_add, cell_of_row _ _ j _ _ _ h]
  simpa using hj
set_option maxRecDepth 100000 in
set_option maxHeartbeats 4000000 in
theorem wait_any (p : Nat) (v : Value) (ws : List Wt) (pid : Int) (k : Ky) (W : World) (h : FutAt W p v ws) (hsm : ws.length ≤ 1000000) :
    Calls Try.prog 12 #[.pointer (some ⟨p, 0, none⟩), .int .i64 pid, aggK k] W fun e W' => ∃ v', e = .returned (.int .i64 (waitL ws pid k).1) ∧ FutAt W' p v' (waitL ws pid k).2 ∧ Wr (SFut p v) (SFut p v') W W' := by
  obtain ⟨i0, hi, hz0, hz1, hz2⟩ := info_parts info_w
  have fin : ∀ W', Below W.heap.size W W' → FutAt W' p v ws ∧ Wr (SFut p v) (SFut p v) W W' := fun W' hb => ⟨h.below hb, Wr.of_below hb⟩
  show Calls Try.prog _ #[_, _, .agg #[.int .i64 k.p, .int .i64 k.f, .int .i64 k.o]] W _
  obtain ⟨W1, hW1⟩ : ∃ W1, W1 = W.alloc (.cells #[.int .i64 k.p, .int .i64 k.f, .int .i64 k.o] 33) := ⟨_, rfl⟩
  have b1 : Below W.heap.size W W1 := by rw [hW1]; exact (Below.refl _ W).alloc (Nat.le_refl _) _
  have z1 : W1.heap[W.heap.size]? = some (.cells #[.int .i64 k.p, .int .i64 k.f, .int .i64 k.o] 33) := by rw [hW1]; exact World.alloc_heap_new _ _
  have sW : W.heap.size < W1.heap.size := by rw [hW1]; simp
  by_cases h1 : pid < 1
  · rw [show waitL ws pid k = (2, ws) from if_pos (.inl h1)]
    have t1 : decide (pid < 1) = true := decide_eq_true h1
    clear h h1
    go_enter Try.func12, Try.ntmps12
    go_wp2
    go_ret
    rw [← hW1]
    exact ⟨_, rfl, fin _ b1⟩
  have t1 : decide (pid < 1) = false := decide_eq_false h1
  have kc := check_any k W1
  go_enter Try.func12, Try.ntmps12
  go_wp2_with (go_at_call 18; refine held ?_)
  unfold Held
  rw [← hW1]
  clear hW1
  refine kc.mono ?_
  rintro e w2 ⟨rfl, b2⟩
  have b3 : Below W.heap.size W w2 := b1.trans (b2.mono b1.size)
  by_cases hm : mayK k = false
  · have e1 : waitL ws pid k = (2, ws) := if_pos (.inr hm)
    rw [hm]
    clear h kc
    go_wp2
    go_ret
    rw [e1]
    exact ⟨_, rfl, fin _ b3⟩
  have hm1 : mayK k = true := by cases hh : mayK k with | true => rfl | false => exact absurd hh hm
  have z2 := (b2.block W.heap.size sW).trans z1
  rw [hm1]
  clear kc
  go_wp2_with (go_at_call 31; refine held ?_)
  unfold Held
  refine (find_any p v ws pid w2 (h.below b3) (by omega)).mono ?_
  rintro e w4 ⟨⟨r, rfl, hf⟩, b4⟩
  have b5 : Below W.heap.size W w4 := b3.trans (b4.mono b3.size)
  have s2 := b2.size
  have z4 := (b4.block W.heap.size (by omega)).trans z2
  rcases hf.res with ⟨rfl, hf1, _⟩ | ⟨j, hj, rfl, hf1, _⟩
  rotate_left
  · have e1 : waitL ws pid k = (110, ws) := by
      unfold waitL
      rw [if_neg (by rintro (h | h) <;> first | omega | exact hm h), if_pos (by rw [hf1]; rfl)]
    clear h hf hf1
    go_wp2
    go_ret
    rw [e1]
    exact ⟨_, rfl, fin _ b5⟩
  have e1 : waitL ws pid k = (0, ws ++ [⟨pid, k⟩]) := by
    unfold waitL
    rw [if_neg (by rintro (h | h) <;> first | omega | exact hm h), if_neg (by rw [hf1]; simp)]
  have h4 := h.below b5
  clear h hf hf1
  obtain ⟨a, cap, rfl, hr⟩ := h4.sl
  obtain ⟨S, hS⟩ : ∃ S : Nat → Prop, S = fun b => (Value.slice a ws.length cap).ownBlock = some b := ⟨_, rfl⟩
  have hSp : ¬ S p := by rw [hS]; exact fun h => h4.ne p h rfl
  have s4 := b4.size
  have hSb : ¬ S W.heap.size := by
    rw [hS]; intro h
    have h9 := (fin W (Below.refl _ W)).1.lt W.heap.size (.inr h)
    omega
  have lp := h4.lt p (.inl rfl)
  have cv : ∀ W', Wr S S w4 W' → W'.cell? ⟨p, 0, none⟩ = some (.slice a ws.length cap) ∧ W'.cell? ⟨W.heap.size, 0, none⟩ = some (.int .i64 k.p) ∧ W'.cell? ⟨W.heap.size, 1, none⟩ = some (.int .i64 k.f) ∧ W'.cell? ⟨W.heap.size, 2, none⟩ = some (.int .i64 k.o) := fun W' hw => by
    have y1 := (hw.block p lp hSp).trans h4.at_
    have y2 := (hw.block W.heap.size (by omega) hSb).trans z4
    exact ⟨by rw [cell_of_row _ _ 0 _ _ _ y1]; rfl, by rw [cell_of_row _ _ 0 _ _ _ y2]; rfl, by rw [cell_of_row _ _ 1 _ _ _ y2]; rfl, by rw [cell_of_row _ _ 2 _ _ _ y2]; rfl⟩
  go_wp2_with fail
  refine wp_region_anyZ (GrowsBut S) 10 3 (by kernel_rfl) rfl ?_
  first
    | (refine anyZ_val 0 (GrowsBut.pre S) (by kernel_rfl) (by decide) rfl (by kernel_rfl) (by kernel_rfl) (by kernel_rfl) (by rfl) (v := ?av1) (fun W hW => ?ay1) (fun K hK => ?ar1); case ay1 => (obtain ⟨q1, q2, q3, q4⟩ := cv W (Wr.undrew hW); go_simp; first | done | rfl))
    | refine anyZ_skip 0 (GrowsBut.pre S) (by kernel_rfl) (by decide) rfl (by kernel_rfl) (by kernel_rfl) (by kernel_rfl) (by rfl) (fun K hK => ?_)
  go_simp
  refine hK _ ?_
  clear hK K
  first
    | (refine anyZ_val 1 (GrowsBut.pre S) (by kernel_rfl) (by decide) rfl (by kernel_rfl) (by kernel_rfl) (by kernel_rfl) (by rfl) (v := ?av2) (fun W hW => ?ay2) (fun K hK => ?ar2); case ay2 => (obtain ⟨q1, q2, q3, q4⟩ := cv W (Wr.undrew hW); go_simp; first | done | rfl))
    | refine anyZ_skip 1 (GrowsBut.pre S) (by kernel_rfl) (by decide) rfl (by kernel_rfl) (by kernel_rfl) (by kernel_rfl) (by rfl) (fun K hK => ?_)
  go_simp
  refine hK _ ?_
  clear hK K
  first
    | (refine anyZ_val 2 (GrowsBut.pre S) (by kernel_rfl) (by decide) rfl (by kernel_rfl) (by kernel_rfl) (by kernel_rfl) (by rfl) (v := ?av3) (fun W hW => ?ay3) (fun K hK => ?ar3); case ay3 => (obtain ⟨q1, q2, q3, q4⟩ := cv W (Wr.undrew hW); go_simp; first | done | rfl))
    | refine anyZ_skip 2 (GrowsBut.pre S) (by kernel_rfl) (by decide) rfl (by kernel_rfl) (by kernel_rfl) (by kernel_rfl) (by rfl) (fun K hK => ?_)
  go_simp
  refine hK _ ?_
  clear hK K
  first
    | (refine anyZ_val 3 (GrowsBut.pre S) (by kernel_rfl) (by decide) rfl (by kernel_rfl) (by kernel_rfl) (by kernel_rfl) (by rfl) (v := ?av4) (fun W hW => ?ay4) (fun K hK => ?ar4); case ay4 => (obtain ⟨q1, q2, q3, q4⟩ := cv W (Wr.undrew hW); go_simp; first | done | rfl))
    | refine anyZ_skip 3 (GrowsBut.pre S) (by kernel_rfl) (by decide) rfl (by kernel_rfl) (by kernel_rfl) (by kernel_rfl) (by rfl) (fun K hK => ?_)
  go_simp
  refine hK _ ?_
  clear hK K
  first
    | (refine anyZ_val 4 (GrowsBut.pre S) (by kernel_rfl) (by decide) rfl (by kernel_rfl) (by kernel_rfl) (by kernel_rfl) (by rfl) (v := ?av5) (fun W hW => ?ay5) (fun K hK => ?ar5); case ay5 => (obtain ⟨q1, q2, q3, q4⟩ := cv W (Wr.undrew hW); go_simp; first | done | rfl))
    | refine anyZ_skip 4 (GrowsBut.pre S) (by kernel_rfl) (by decide) rfl (by kernel_rfl) (by kernel_rfl) (by kernel_rfl) (by rfl) (fun K hK => ?_)
  go_simp
  refine hK _ ?_
  clear hK K
  first
    | (refine anyZ_val 5 (GrowsBut.pre S) (by kernel_rfl) (by decide) rfl (by kernel_rfl) (by kernel_rfl) (by kernel_rfl) (by rfl) (v := ?av6) (fun W hW => ?ay6) (fun K hK => ?ar6); case ay6 => (obtain ⟨q1, q2, q3, q4⟩ := cv W (Wr.undrew hW); go_simp; first | done | rfl))
    | refine anyZ_skip 5 (GrowsBut.pre S) (by kernel_rfl) (by decide) rfl (by kernel_rfl) (by kernel_rfl) (by kernel_rfl) (by rfl) (fun K hK => ?_)
  go_simp
  refine hK _ ?_
  clear hK K
  first
    | (refine anyZ_val 6 (GrowsBut.pre S) (by kernel_rfl) (by decide) rfl (by kernel_rfl) (by kernel_rfl) (by kernel_rfl) (by rfl) (v := ?av7) (fun W hW => ?ay7) (fun K hK => ?ar7); case ay7 => (obtain ⟨q1, q2, q3, q4⟩ := cv W (Wr.undrew hW); go_simp; first | done | rfl))
    | refine anyZ_skip 6 (GrowsBut.pre S) (by kernel_rfl) (by decide) rfl (by kernel_rfl) (by kernel_rfl) (by kernel_rfl) (by rfl) (fun K hK => ?_)
  go_simp
  refine hK _ ?_
  clear hK K
  first
    | (refine anyZ_val 7 (GrowsBut.pre S) (by kernel_rfl) (by decide) rfl (by kernel_rfl) (by kernel_rfl) (by kernel_rfl) (by rfl) (v := ?av8) (fun W hW => ?ay8) (fun K hK => ?ar8); case ay8 => (obtain ⟨q1, q2, q3, q4⟩ := cv W (Wr.undrew hW); go_simp; first | done | rfl))
    | refine anyZ_skip 7 (GrowsBut.pre S) (by kernel_rfl) (by decide) rfl (by kernel_rfl) (by kernel_rfl) (by kernel_rfl) (by rfl) (fun K hK => ?_)
  go_simp
  refine hK _ ?_
  clear hK K
  refine anyZ_only 8 rfl (by kernel_rfl) (by rfl) (fun K hK => ?_)
  go_simp
  obtain ⟨W5, hW5⟩ : ∃ W5, W5 = (w4.alloc (Obj.cells #[.int .i64 pid, .int .i64 k.p, .int .i64 k.f, .int .i64 k.o] 35)).drew := ⟨_, rfl⟩
  have hw5 : Wr S S w4.drew W5 := by rw [hW5]; exact ((Wr.refl S w4.drew).alloc _)
  have z5 : W5.heap[w4.heap.size]? = some (Obj.cells #[.int .i64 pid, .int .i64 k.p, .int .i64 k.f, .int .i64 k.o] 35) := by rw [hW5]; exact World.alloc_heap_new _ _
  have s5 : W5.heap.size = w4.heap.size + 1 := by rw [hW5]; simp
  have h5 : FutAt W5 p (.slice a ws.length cap) ws := h4.same fun b hb => by rw [hW5]; exact Below.heap_alloc w4 _ b (h4.lt b hb)
  rw [← hW5]
  refine hK _ _ hw5 ?_
  clear hW5
  clear hK K
  refine anyZ_frame (fun K hK => ?_)
  go_simp
  refine hK _ ?_
  clear hK K
  refine anyZ_only 9 rfl (by kernel_rfl) (by rfl) (fun K hK => ?_)
  refine upV_append_vals (.tmp 27) (.tmp 31) 26 rfl 0 35 i0 _ 4 32 Try.underlying26 hi hz0 hz1 hz2 rfl (by decide) (.slice a ws.length cap) ws.length (flatW ws) rfl h5.own (some ⟨w4.heap.size, 0, none⟩) 1 1 (flatW [⟨pid, k⟩]) rfl rfl (flatW_one _) (.inr ⟨_, _, rfl, cells_row4 z5⟩) (by omega) (by simp only [maxLen]; omega) (Nat.zero_le _) ?_
  intro v6 w6 ho6 hg6 hv6
  have hg6' : Wr S S W5 w6 := by
    refine Wr.grown (Wr.refl S W5) hg6 fun b hb => .inl ?_
    rw [hS]; exact hb
  have w46 : Wr S S w4 w6 := Wr.undrew (hw5.trans hg6')
  have lp5 : p < W5.heap.size := by omega
  have y6 := (hg6'.block p lp5 hSp).trans h5.at_
  obtain ⟨a6, c6, rfl⟩ : ∃ a c, v6 = .slice a (ws.length + 1) c := by
    rcases ho6.2 with ⟨h1, h2⟩ | ⟨g, cap, cur, h1, _⟩
    · omega
    · exact ⟨_, _, h1⟩
  refine hK _ _ hg6' ?_
  clear hK K
  refine anyZ_frame (fun K hK => ?_)
  go_simp
  refine hK _ ?_
  clear hK K
  refine anyZ_done (by kernel_rfl) ?_
  refine wpAny_only 10 rfl (by kernel_rfl) (by rfl) (fun K hK => ?_)
  go_simp
  refine hK _ _ ?_
  clear hK K
  refine wpAny_frame (fun K hK => ?_)
  go_simp
  refine hK _ ?_
  clear hK K
  refine wpAny_only 11 rfl (by kernel_rfl) (by rfl) (fun K hK => ?_)
  go_simp
  refine hK _ _ ?_
  clear hK K
  refine wpAny_frame (fun K hK => ?_)
  go_simp
  refine hK _ ?_
  clear hK K
  refine wpAny_only 12 rfl (by kernel_rfl) (by rfl) (fun K hK => ?_)
  refine upV_store_one 26 (.tmp 34) (.tmp 32) rfl p rfl (.slice a6 (ws.length + 1) c6) rfl rfl 28 _ y6 (by kernel_rfl) ?_
  refine hK _ _ ?_
  clear hK K
  refine wpAny_frame (fun K hK => ?_)
  go_simp
  refine hK _ ?_
  clear hK K
  refine wpAny_done (by kernel_rfl) ?_
  have hne6 : ∀ b, (Value.slice a6 (ws.length + 1) c6).ownBlock = some b → b ≠ p ∧ (S b ∨ W.heap.size ≤ b) := fun b hb => by
    rcases hv6 with h7 | h7
    · rw [h7] at hb
      exact ⟨h5.ne b hb, .inl (by rw [hS]; exact hb)⟩
    · rw [h7] at hb
      injection hb with hb
      exact ⟨by omega, .inr (by omega)⟩
  have hT : Wr (SFut p (.slice a ws.length cap)) (SFut p (.slice a6 (ws.length + 1) c6)) W (w6.setRow p #[.slice a6 (ws.length + 1) c6]) := by
    have h8 : Wr (SFut p (.slice a ws.length cap)) (SFut p (.slice a ws.length cap)) W w6 := Wr.after b5 (w46.widen (by rw [hS]; exact fun b hb => .inr hb))
    refine (h8.setRow (.inl (.inl rfl)) _).to ?_
    rintro b (rfl | hb)
    · exact .inl (.inl rfl)
    · rcases (hne6 b hb).2 with h9 | h9
      · rw [hS] at h9; exact .inl (.inr h9)
      · exact .inr h9
  have hF : FutAt (w6.setRow p #[.slice a6 (ws.length + 1) c6]) p (.slice a6 (ws.length + 1) c6) (ws ++ [⟨pid, k⟩]) := by
    refine ⟨setRow_heap _ _ _ _ _ _ y6, ?_, fun b hb => (hne6 b hb).1⟩
    rw [flatW_append, List.length_append]
    exact ownsRow_same ho6 fun b hb => setRow_other _ _ _ _ (hne6 b hb).1
  have HT := Lib.hid hT
  have HF := Lib.hid hF
  clear hT hF hne6 y6 ho6 hg6 hg6' hv6 w46
  go_wp2_with fail
  go_ret
  rw [e1]
  exact ⟨_, rfl, HF, HT⟩
end Go.Proofs.Ytdnhaappglbooaa
