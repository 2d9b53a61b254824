/- The walk of the law FutexAgain. -/
import Derived.Test.YtdnhaappglbooaaFutLaw
namespace Go.Proofs.Ytdnhaappglbooaa
open Go Go.RowKit
attribute [local go_sem] upV_value upV_skip upV_enter
set_option linter.unusedVariables false
set_option linter.unnecessarySimpa false
set_option linter.unusedSimpArgs false
theorem IsOps.mono {n m : Nat} {A : World} {a : Option Addr} {len cap : Nat} {os : List OpF} (h : IsOps n A a len cap os) (hm : n ≤ m) : IsOps m A a len cap os := by
  obtain ⟨hl, h | ⟨b, off, h1, h2, h3⟩⟩ := h
  · exact ⟨hl, .inl h⟩
  · exact ⟨hl, .inr ⟨b, off, h1, Nat.lt_of_lt_of_le h2 hm, h3⟩⟩
theorem samePre (p : Nat → Prop) : Pre (SameOn p) := ⟨fun w => SameOn.refl p w, fun h k => h.trans k⟩
theorem sameOn_wr {p S S' : Nat → Prop} {A B : World} (h : Wr S S' A B) (hp : ∀ b, p b → b < A.heap.size ∧ ¬ S b) : SameOn p A B := ⟨h.os, h.tape, h.output, h.size, fun b hb => h.block b (hp b hb).1 (hp b hb).2⟩
theorem sameOn_undrew {p : Nat → Prop} {A B : World} (h : SameOn p A.drew B) : SameOn p A B := ⟨h.os, h.tape, h.output, h.size, h.block⟩
theorem sameOn_drew {p : Nat → Prop} {A B : World} (h : SameOn p A B) : SameOn p A.drew B := ⟨h.os, h.tape, h.output, h.size, h.block⟩
/-- the cells of one who waits, in an own row -/
theorem own_cells4 {W : World} {base : Nat} {a : Option Addr} {c n : Nat} {ws : List Wt} (h : W.ownsRow base 35 4 (.slice a n c) n (flatW ws)) : ws.length = n ∧ RowW W.heap.size W a n c ws ∧ n ≤ c := by
  have := RowW.of_own h
  refine ⟨this.2.1, this.2, ?_⟩
  rcases h.2 with ⟨h1, h2⟩ | ⟨g, cap, cur, h1, _, _, h4, _⟩
  · omega
  · injection h1 with e1 e2 e3; omega
set_option maxRecDepth 100000 in
set_option maxHeartbeats 8000000 in
theorem futexAgain_any (W : World) (a : Option Addr) (len cap : Nat) (os : List OpF) (h : IsOps W.heap.size W a len cap os) :
    Calls Try.prog 3 #[.slice a len cap] W fun e W' => e = .returned (.bool true) ∧ Below W.heap.size W W' := by
  have hsm := h.small
  have hol := h.1
  go_enter Try.func3, Try.ntmps3
  go_wp2_with (go_at_call 9; refine held ?_)
  unfold Held
  refine (alive_any W).mono ?_
  rintro e w1 ⟨rfl, b1⟩
  by_cases hlen : (len : Int) > 200
  · have t1 : decide ((len : Int) > 200) = true := decide_eq_true hlen
    go_wp2
    go_ret
    exact ⟨rfl, b1⟩
  have t1 : decide ((len : Int) > 200) = false := decide_eq_false hlen
  have h1 := (h.below b1).mono b1.size
  have kg := grown_any w1 a len cap os h1 (by omega)
  go_wp2_with (go_at_call 10; refine held ?_)
  unfold Held
  refine kg.mono ?_
  rintro e w2 ⟨q, v2, rfl, f2, b2⟩
  have b2' := b1.trans (b2.mono b1.size)
  have hG := good_grow os
  have hL := growL_len os
  obtain ⟨ws, hws⟩ : ∃ ws, ws = growL os := ⟨_, rfl⟩
  rw [← hws] at f2 hG hL
  clear hws kg h h1
  have bz : Below w2.heap.size w2 (w2.alloc (.cells #[.slice none 0 0] 28)) := (Below.refl _ w2).alloc (Nat.le_refl _) _
  have f2z := f2.below bz
  have g2 := Fresh.new W.heap.size w2 b2'.size
  have s2z : (w2.alloc (.cells #[.slice none 0 0] 28)).heap.size = w2.heap.size + 1 := World.size_alloc ..
  have b2z := b2'.trans (bz.mono b2'.size)
  have ka := all_any q v2 ws _ f2z.fut (by omega)
  go_wp2_with (go_at_call 11; refine held ?_)
  unfold Held
  refine ka.mono ?_
  rintro e w3 ⟨u3, rfl, o3, b3⟩
  have g3 := g2.below b3
  have b3' := b2z.trans (b3.mono b2z.size)
  rw [s2z] at o3
  have s3 := b3.size
  rw [s2z] at s3
  have k3 : Kept (SFut w2.heap.size (.slice none 0 0)) u3 := by
    intro b hb hs
    have h9 := (o3.lt b hb).1
    rcases hs with rfl | hs
    · omega
    · simp [Value.ownBlock] at hs
  clear ka f2z g2 bz b2z b3 f2 b1 b2
  obtain ⟨a3, c3, rfl⟩ := sl_own o3
  go_wp2
  go_loopw [7, 25] (fun _ i wr => ∃ (j : Nat) (v : Value), i = .int .i64 (j : Int) ∧ j ≤ ws.length ∧ Fresh W.heap.size wr w2.heap.size v (ws.take j) ∧ wr.ownsRow (w2.heap.size + 1) 35 4 (.slice a3 ws.length c3) ws.length (flatW ws) ∧ Kept (SFut w2.heap.size v) (.slice a3 ws.length c3) ∧ Below W.heap.size W wr) (fun _ i _ => ws.length - (intOf i).toNat)
  case atStart => exact ⟨0, _, rfl, Nat.zero_le _, g3, o3, k3, b3'⟩
  case round =>
    obtain ⟨j, v, rfl, hj, hf, ho, hk, hb⟩ := hrel
    obtain ⟨_, hrw, hlc⟩ := own_cells4 ho
    by_cases hlt : j < ws.length
    · have t2 : decide ((j : Int) < ((ws.length : Nat) : Int)) = true := by simp; omega
      have hag := hG.again j hlt
      obtain ⟨_, h0 | ⟨b, off, rfl, hbn, _, _, _⟩⟩ := id hrw
      · omega
      have cv : ∀ W', SameOn (fun x => x < W.heap.size ∨ x = b) wr W' → W'.cell? ⟨b, off + j * 4, none⟩ = some (.int .i64 ws[j].pid) ∧ W'.cell? ⟨b, off + j * 4 + 1, none⟩ = some (.int .i64 ws[j].k.p) ∧ W'.cell? ⟨b, off + j * 4 + 2, none⟩ = some (.int .i64 ws[j].k.f) ∧ W'.cell? ⟨b, off + j * 4 + 3, none⟩ = some (.int .i64 ws[j].k.o) := fun W' hW => by
        refine RowW.cells4 (n := wr.heap.size) (len := ws.length) (cap := c3) (hrw.same fun b' off' s' he => ?_) j hlt
        injection he with he; injection he with e1 e2 e3; subst e1
        exact hW.block b (.inr rfl)
      obtain ⟨X, hX⟩ : ∃ X, X = ws[j] := ⟨_, rfl⟩
      rw [← hX] at hag cv
      clear hX
      have hwj : (ws.take j).length ≤ 1000000 := by rw [List.length_take]; omega
      go_wp2_with fail
      refine wp_region_anyV (SameOn (fun x => x < W.heap.size ∨ x = b)) (by kernel_rfl) 13 rfl ?_
      first
        | (refine anyV_val 0 (samePre _) rfl (by kernel_rfl) (by kernel_rfl) (by kernel_rfl) (by rfl) (v := ?av1) (fun W hW => ?ay1) (fun K hK => ?ar1); case ay1 => (obtain ⟨q0, q1, q2, q3⟩ := cv W (sameOn_undrew hW); go_simp; first | done | rfl))
        | refine anyV_skip 0 (samePre _) rfl (by kernel_rfl) (by kernel_rfl) (by kernel_rfl) (by rfl) (fun K hK => ?_)
      go_simp
      refine hK _ ?_
      clear hK K
      first
        | (refine anyV_val 1 (samePre _) rfl (by kernel_rfl) (by kernel_rfl) (by kernel_rfl) (by rfl) (v := ?av2) (fun W hW => ?ay2) (fun K hK => ?ar2); case ay2 => (obtain ⟨q0, q1, q2, q3⟩ := cv W (sameOn_undrew hW); go_simp; first | done | rfl))
        | refine anyV_skip 1 (samePre _) rfl (by kernel_rfl) (by kernel_rfl) (by kernel_rfl) (by rfl) (fun K hK => ?_)
      go_simp
      refine hK _ ?_
      clear hK K
      first
        | (refine anyV_val 2 (samePre _) rfl (by kernel_rfl) (by kernel_rfl) (by kernel_rfl) (by rfl) (v := ?av3) (fun W hW => ?ay3) (fun K hK => ?ar3); case ay3 => (obtain ⟨q0, q1, q2, q3⟩ := cv W (sameOn_undrew hW); go_simp; first | done | rfl))
        | refine anyV_skip 2 (samePre _) rfl (by kernel_rfl) (by kernel_rfl) (by kernel_rfl) (by rfl) (fun K hK => ?_)
      go_simp
      refine hK _ ?_
      clear hK K
      first
        | (refine anyV_val 3 (samePre _) rfl (by kernel_rfl) (by kernel_rfl) (by kernel_rfl) (by rfl) (v := ?av4) (fun W hW => ?ay4) (fun K hK => ?ar4); case ay4 => (obtain ⟨q0, q1, q2, q3⟩ := cv W (sameOn_undrew hW); go_simp; first | done | rfl))
        | refine anyV_skip 3 (samePre _) rfl (by kernel_rfl) (by kernel_rfl) (by kernel_rfl) (by rfl) (fun K hK => ?_)
      go_simp
      refine hK _ ?_
      clear hK K
      first
        | (refine anyV_val 4 (samePre _) rfl (by kernel_rfl) (by kernel_rfl) (by kernel_rfl) (by rfl) (v := ?av5) (fun W hW => ?ay5) (fun K hK => ?ar5); case ay5 => (obtain ⟨q0, q1, q2, q3⟩ := cv W (sameOn_undrew hW); go_simp; first | done | rfl))
        | refine anyV_skip 4 (samePre _) rfl (by kernel_rfl) (by kernel_rfl) (by kernel_rfl) (by rfl) (fun K hK => ?_)
      go_simp
      refine hK _ ?_
      clear hK K
      first
        | (refine anyV_val 5 (samePre _) rfl (by kernel_rfl) (by kernel_rfl) (by kernel_rfl) (by rfl) (v := ?av6) (fun W hW => ?ay6) (fun K hK => ?ar6); case ay6 => (obtain ⟨q0, q1, q2, q3⟩ := cv W (sameOn_undrew hW); go_simp; first | done | rfl))
        | refine anyV_skip 5 (samePre _) rfl (by kernel_rfl) (by kernel_rfl) (by kernel_rfl) (by rfl) (fun K hK => ?_)
      go_simp
      refine hK _ ?_
      clear hK K
      first
        | (refine anyV_val 6 (samePre _) rfl (by kernel_rfl) (by kernel_rfl) (by kernel_rfl) (by rfl) (v := ?av7) (fun W hW => ?ay7) (fun K hK => ?ar7); case ay7 => (obtain ⟨q0, q1, q2, q3⟩ := cv W (sameOn_undrew hW); go_simp; first | done | rfl))
        | refine anyV_skip 6 (samePre _) rfl (by kernel_rfl) (by kernel_rfl) (by kernel_rfl) (by rfl) (fun K hK => ?_)
      go_simp
      refine hK _ ?_
      clear hK K
      first
        | (refine anyV_val 7 (samePre _) rfl (by kernel_rfl) (by kernel_rfl) (by kernel_rfl) (by rfl) (v := ?av8) (fun W hW => ?ay8) (fun K hK => ?ar8); case ay8 => (obtain ⟨q0, q1, q2, q3⟩ := cv W (sameOn_undrew hW); go_simp; first | done | rfl))
        | refine anyV_skip 7 (samePre _) rfl (by kernel_rfl) (by kernel_rfl) (by kernel_rfl) (by rfl) (fun K hK => ?_)
      go_simp
      refine hK _ ?_
      clear hK K
      first
        | (refine anyV_val 8 (samePre _) rfl (by kernel_rfl) (by kernel_rfl) (by kernel_rfl) (by rfl) (v := ?av9) (fun W hW => ?ay9) (fun K hK => ?ar9); case ay9 => (obtain ⟨q0, q1, q2, q3⟩ := cv W (sameOn_undrew hW); go_simp; first | done | rfl))
        | refine anyV_skip 8 (samePre _) rfl (by kernel_rfl) (by kernel_rfl) (by kernel_rfl) (by rfl) (fun K hK => ?_)
      go_simp
      refine hK _ ?_
      clear hK K
      first
        | (refine anyV_val 9 (samePre _) rfl (by kernel_rfl) (by kernel_rfl) (by kernel_rfl) (by rfl) (v := ?av10) (fun W hW => ?ay10) (fun K hK => ?ar10); case ay10 => (obtain ⟨q0, q1, q2, q3⟩ := cv W (sameOn_undrew hW); go_simp; first | done | rfl))
        | refine anyV_skip 9 (samePre _) rfl (by kernel_rfl) (by kernel_rfl) (by kernel_rfl) (by rfl) (fun K hK => ?_)
      go_simp
      refine hK _ ?_
      clear hK K
      first
        | (refine anyV_val 10 (samePre _) rfl (by kernel_rfl) (by kernel_rfl) (by kernel_rfl) (by rfl) (v := ?av11) (fun W hW => ?ay11) (fun K hK => ?ar11); case ay11 => (obtain ⟨q0, q1, q2, q3⟩ := cv W (sameOn_undrew hW); go_simp; first | done | rfl))
        | refine anyV_skip 10 (samePre _) rfl (by kernel_rfl) (by kernel_rfl) (by kernel_rfl) (by rfl) (fun K hK => ?_)
      go_simp
      refine hK _ ?_
      clear hK K
      refine anyV_only 11 rfl (by kernel_rfl) (by rfl) (fun K hK => ?_)
      go_simp
      refine (wait_any _ _ _ X.pid X.k wr.drew hf.fut.drew hwj).mono ?_
      rintro e w5 ⟨v5, rfl, h5, hw5⟩
      rw [hag] at h5 ⊢
      have hw5' := Wr.undrew hw5
      have f5 := hf.step hb.size h5 hw5'
      have b5 := hb.trans (hf.wr hb.size hw5')
      obtain ⟨o5, k5⟩ := row_step ho hk hw5'
      refine ⟨_, rfl, hK _ _ (sameOn_drew (sameOn_wr hw5' (fun x hx => ?_))) ?_⟩
      · rcases hx with hx | rfl
        · exact ⟨by have := hb.size; omega, fun hs => by have := hf.lo x hs; omega⟩
        · exact ⟨hbn, hk x rfl⟩
      clear hK K
      refine anyV_frame (fun K hK => ?_)
      go_simp
      refine hK _ ?_
      clear hK K
      first
        | (refine anyV_val 12 (samePre _) rfl (by kernel_rfl) (by kernel_rfl) (by kernel_rfl) (by rfl) (v := ?av12) (fun W hW => ?ay12) (fun K hK => ?ar12); case ay12 => (go_simp; first | done | rfl))
        | refine anyV_skip 12 (samePre _) rfl (by kernel_rfl) (by kernel_rfl) (by kernel_rfl) (by rfl) (fun K hK => ?_)
      go_simp
      refine hK _ ?_
      clear hK K
      refine anyV_done (by kernel_rfl) ?_
      clear h5 hw5 hw5' hf ho hk
      go_wp2_with fail
      go_roundw
      case rel => exact ⟨j + 1, _, by go_num, by omega, f5, o5, k5, b5⟩
      case measure => simp [intOf]; omega
    · have t2 : decide ((j : Int) < ((ws.length : Nat) : Int)) = false := by simp; omega
      obtain rfl : j = ws.length := by omega
      rw [List.take_length] at hf
      go_wp2_with (go_at_call 11; refine held ?_)
      unfold Held
      refine (all_any _ _ _ wr hf.fut (by omega)).mono ?_
      rintro e w7 ⟨u7, rfl, o7, b7⟩
      have b7' := hb.trans (b7.mono hb.size)
      obtain ⟨a7, c7, rfl⟩ := sl_own o7
      have r7 := (own_cells4 o7).2.1
      have r8 := (own_cells4 (row_below ho b7)).2.1
      clear o7 ho
      go_wp2_with (go_at_call 13; refine held ?_)
      unfold Held
      refine (same11_any a7 _ c7 ws a3 _ c3 ws w7.heap.size w7 (Nat.le_refl _) r7 r8 (by omega)).mono ?_
      rintro e w9 ⟨rfl, b9⟩
      simp only [decide_true]
      have b9' := b7'.trans (b9.mono b7'.size)
      go_wp2
      go_ret
      exact ⟨rfl, b9'⟩
end Go.Proofs.Ytdnhaappglbooaa
