/- The document's futex: Wait. -/
import Derived.Test.YtdnhaappglbooaaFutDocB
namespace Go.Proofs.Ytdnhaappglbooaa
open Go Go.RowKit
attribute [local go_sem] upV_value upV_skip upV_enter
set_option linter.unusedVariables false
set_option linter.unnecessarySimpa false
set_option linter.unusedSimpArgs false
set_option maxRecDepth 100000 in
set_option maxHeartbeats 8000000 in
theorem dwait_any (d : Nat) (u : Value) (ws : List Wt) (pid : Int) (k : Ky) (W : World) (h : DocAt W d u ws) (hsm : ws.length ≤ 500000) :
    Calls Try.prog 20 #[.pointer (some ⟨d, 0, none⟩), .int .i64 pid, aggK k] W fun e W' => ∃ u', e = .returned (.int .i64 (waitL ws pid k).1) ∧ DocAt W' d u' (waitL ws pid k).2 ∧ Wr (SFut d u) (SFut d u') W W' := by
  obtain ⟨i0, hi, hz0, hz1, hz2⟩ := info_parts info_w
  have fin : ∀ W', Below W.heap.size W W' → DocAt W' d u ws ∧ Wr (SFut d u) (SFut d u) W W' := fun W' hb => ⟨h.below hb, Wr.of_below hb⟩
  show Calls Try.prog _ #[_, _, .agg #[.int .i64 k.p, .int .i64 k.f, .int .i64 k.o]] W _
  obtain ⟨W1, hW1⟩ : ∃ W1, W1 = W.alloc (.cells #[.int .i64 k.p, .int .i64 k.f, .int .i64 k.o] 33) := ⟨_, rfl⟩
  have b1 : Below W.heap.size W W1 := by rw [hW1]; exact (Below.refl _ W).alloc (Nat.le_refl _) _
  have z1 : W1.heap[W.heap.size]? = some (.cells #[.int .i64 k.p, .int .i64 k.f, .int .i64 k.o] 33) := by rw [hW1]; exact World.alloc_heap_new _ _
  have sW : W.heap.size < W1.heap.size := by rw [hW1]; simp
  go_enter Try.func20, Try.ntmps20
  go_wp2_with (go_at_call 27; refine held ?_)
  unfold Held
  rw [← hW1]
  clear hW1
  refine (may_any k W1).mono ?_
  rintro e w2 ⟨rfl, c2⟩
  have b2 := b1.trans (c2.mono b1.size)
  have z2 := (c2.block _ sW).trans z1
  have s2 := Nat.lt_of_lt_of_le sW c2.size
  by_cases hm : mayK k = false
  · have e1 : waitL ws pid k = (2, ws) := if_pos (.inr hm)
    rw [hm]
    clear h
    go_wp2
    go_ret
    rw [e1]
    exact ⟨_, rfl, fin _ b2⟩
  have hm1 : mayK k = true := by cases hh : mayK k with | true => rfl | false => exact absurd hh hm
  rw [hm1]
  by_cases hp : pid < 1
  · have e1 : waitL ws pid k = (2, ws) := if_pos (.inl hp)
    have t1 : decide (pid < 1) = true := decide_eq_true hp
    clear h hp
    go_wp2
    go_ret
    rw [e1]
    exact ⟨_, rfl, fin _ b2⟩
  have t1 : decide (pid < 1) = false := decide_eq_false hp
  have h2 := h.below b2
  go_wp2_with (go_at_call 25; refine held ?_)
  unfold Held
  refine (dkey_any d u ws pid w2 h2 (by omega)).mono ?_
  rintro e w3 ⟨rfl, c3⟩
  have b3 := b2.trans (c3.mono b2.size)
  have z3 := (c3.block _ s2).trans z2
  have s3 := Nat.lt_of_lt_of_le s2 c3.size
  obtain ⟨K6, hK6⟩ : ∃ K6 : Ky, K6 = (ws.find? (isP pid)).elim ⟨0, 0, 0⟩ (·.k) := ⟨_, rfl⟩
  rw [← hK6, show aggK K6 = .agg #[.int .i64 K6.p, .int .i64 K6.f, .int .i64 K6.o] from rfl]
  clear hK6
  obtain ⟨V, hV⟩ : ∃ V, V = w3.alloc (.cells #[.int .i64 K6.p, .int .i64 K6.f, .int .i64 K6.o] 33) := ⟨_, rfl⟩
  have cV : Below w3.heap.size w3 V := by rw [hV]; exact (Below.refl _ _).alloc (Nat.le_refl _) _
  have bV := b3.trans (cV.mono b3.size)
  have zV := (cV.block _ s3).trans z3
  have sV := Nat.lt_of_lt_of_le s3 cV.size
  have h4 := h.below bV
  have hlt := h.lt
  have y0 : V.cell? ⟨W.heap.size, 0, none⟩ = some (.int .i64 k.p) := by rw [cell_of_row _ _ 0 _ _ _ zV]; rfl
  have y1 : V.cell? ⟨W.heap.size, 1, none⟩ = some (.int .i64 k.f) := by rw [cell_of_row _ _ 1 _ _ _ zV]; rfl
  have y2 : V.cell? ⟨W.heap.size, 2, none⟩ = some (.int .i64 k.o) := by rw [cell_of_row _ _ 2 _ _ _ zV]; rfl
  cases hf : ws.find? (isP pid) with
  | some x =>
    have e1 : waitL ws pid k = (110, ws) := by
      unfold waitL
      rw [if_neg (by rintro (h | h) <;> first | omega | exact hm h), if_pos (by rw [hf]; rfl)]
    simp only [Option.isSome]
    clear h h2 h4 hf
    go_wp2
    rw [← hV]
    go_ret
    rw [e1]
    exact ⟨_, rfl, fin _ bV⟩
  | none =>
    have e1 : waitL ws pid k = (0, ws ++ [⟨pid, k⟩]) := by
      unfold waitL
      rw [if_neg (by rintro (h | h) <;> first | omega | exact hm h), if_neg (by rw [hf]; simp)]
    simp only [Option.isSome]
    obtain ⟨a, cap, rfl, hr, hlc⟩ := h4.sl
    have c0 := h4.c0
    have c0' : (w3.alloc (.cells #[.int .i64 K6.p, .int .i64 K6.f, .int .i64 K6.o] 33)).cell? ⟨d, 0, none⟩ = some (.slice a ws.length cap) := by rw [← hV]; exact c0
    have hdl := h4.lt d (.inl rfl)
    clear h h2 hf z1 z2 z3 zV b1 b2 b3 c2 c3 cV
    go_wp2_with (at_builtin; refine held ?_)
    unfold Held
    rw [← hV]
    clear c0' hV
    refine wpList_append_vals rfl _ _ 26 rfl V.heap.size 35 i0 _ 4 32 Try.underlying26 hi hz0 hz1 hz2 rfl (by decide) (.slice none 0 0) 0 [] rfl (World.ownsRow_nil _ _ _ _) a ws.length cap (flatW ws) rfl (flatW_len ws) (flatW_one ws) hr.vals (by omega) (by simp only [maxLen]; omega) (Nat.le_refl _) ?_
    intro v5 w5 o5 g5 hv5
    have c5 : Below V.heap.size V w5 := (Below.refl _ _).grown g5 (Nat.le_refl _) (fun b hb => by simp [Value.ownBlock] at hb)
    rw [Nat.zero_add, List.nil_append] at o5
    have h5 := h4.below c5
    have b5 := bV.trans (c5.mono bV.size)
    have y0' : w5.cell? ⟨W.heap.size, 0, none⟩ = some (.int .i64 k.p) := (c5.cell (p := ⟨W.heap.size, 0, none⟩) sV).trans y0
    have y1' : w5.cell? ⟨W.heap.size, 1, none⟩ = some (.int .i64 k.f) := (c5.cell (p := ⟨W.heap.size, 1, none⟩) sV).trans y1
    have y2' : w5.cell? ⟨W.heap.size, 2, none⟩ = some (.int .i64 k.o) := (c5.cell (p := ⟨W.heap.size, 2, none⟩) sV).trans y2
    clear g5 hv5 y0 y1 y2 hr h4 c0
    go_wp2_with (at_builtin; refine held ?_)
    unfold Held
    obtain ⟨W2, hW2⟩ : ∃ W2, W2 = w5.alloc (.cells #[.int .i64 pid, .int .i64 k.p, .int .i64 k.f, .int .i64 k.o] 35) := ⟨_, rfl⟩
    have bb : Below w5.heap.size w5 W2 := by rw [hW2]; exact (Below.refl _ _).alloc (Nat.le_refl _) _
    have zz : W2.heap[w5.heap.size]? = some (.cells #[.int .i64 pid, .int .i64 k.p, .int .i64 k.f, .int .i64 k.o] 35) := by rw [hW2]; exact World.alloc_heap_new _ _
    have o6 := row_below o5 bb
    have h6 := h5.below bb
    have c6 := c5.trans (bb.mono c5.size)
    have lo5 : ∀ b, v5.ownBlock = some b → V.heap.size ≤ b := fun b hb => (o5.lt b hb).1
    rw [← hW2]
    refine wpList_append_vals rfl _ _ 26 rfl V.heap.size 35 i0 _ 4 32 Try.underlying26 hi hz0 hz1 hz2 rfl (by decide) v5 ws.length (flatW ws) rfl o6 (some ⟨w5.heap.size, 0, none⟩) 1 1 (flatW [⟨pid, k⟩]) rfl rfl (flatW_one _) (.inr ⟨_, _, rfl, cells_row4 zz⟩) (by omega) (by simp only [maxLen]; omega) c6.size ?_
    intro v7 w7 o7 g7 hv7
    have c7 : Below V.heap.size V w7 := c6.grown g7 c6.size lo5
    rw [← flatW_append] at o7
    obtain ⟨a7, d7, rfl⟩ := sl_own o7
    have y6 := ((c7.block d hdl).trans ((c5.block d hdl).symm.trans h5.at_))
    have hlo : ∀ b, (Value.slice a7 (ws.length + 1) d7).ownBlock = some b → V.heap.size ≤ b := fun b hb => (o7.lt b hb).1
    have bf := bV.trans (c7.mono bV.size)
    have hT : Wr (SFut d (.slice a ws.length cap)) (SFut d (.slice a7 (ws.length + 1) d7)) W (w7.setRow d #[.slice a7 (ws.length + 1) d7]) := by
      refine ((Wr.of_below bf).setRow (S := SFut d (.slice a ws.length cap)) (.inl (.inl rfl)) _).to ?_
      rintro b (rfl | hb)
      · exact .inl (.inl rfl)
      · exact .inr (Nat.le_trans bV.size (hlo b hb))
    have hFt : DocAt (w7.setRow d #[.slice a7 (ws.length + 1) d7]) d (.slice a7 (ws.length + 1) d7) (ws ++ [⟨pid, k⟩]) := by
      have hne : ∀ b, (Value.slice a7 (ws.length + 1) d7).ownBlock = some b → b ≠ d := fun b hb => by have := hlo b hb; omega
      refine ⟨setRow_heap _ _ _ _ _ _ y6, ?_, hne⟩
      rw [List.length_append]
      exact ownsRow_same (ownsRow_mono o7 (Nat.zero_le _)) fun b hb => setRow_other _ _ _ _ (hne b hb)
    have HT := Lib.hid hT
    have HFt := Lib.hid hFt
    clear hT hFt hlo o7 g7 hv7 lo5 c6 h6 o6 bb zz hW2 h5 y0' y1' y2'
    go_wp2_with ((fail_if_success (unfold Held)); refine at_store rfl ?_)
    unfold Held
    refine wpList_store_oneTo rfl 26 (.tmp 40) (.tmp 38) rfl rfl d (.slice a7 (ws.length + 1) d7) rfl rfl rfl 52 _ y6 (by kernel_rfl) ?_
    clear y6
    go_wp2
    go_ret
    rw [e1]
    exact ⟨_, rfl, HFt, HT⟩
end Go.Proofs.Ytdnhaappglbooaa
