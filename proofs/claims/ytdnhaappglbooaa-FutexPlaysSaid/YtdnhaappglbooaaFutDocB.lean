/- The document's futex: At, Gone. -/
import Derived.Test.YtdnhaappglbooaaFutDocA
namespace Go.Proofs.Ytdnhaappglbooaa
open Go Go.RowKit
attribute [local go_sem] upV_value upV_skip upV_enter
set_option linter.unusedVariables false
set_option linter.unnecessarySimpa false
set_option linter.unusedSimpArgs false
set_option maxRecDepth 100000 in
set_option maxHeartbeats 8000000 in
theorem dat_any (d : Nat) (u : Value) (ws : List Wt) (k : Ky) (W : World) (h : DocAt W d u ws) (hsm : ws.length ≤ 1000000) :
    Calls Try.prog 26 #[.pointer (some ⟨d, 0, none⟩), aggK k] W fun e W' => ∃ v, e = .returned v ∧ W'.ownsRow W.heap.size 3 1 v (atL ws k).length ((atL ws k).map (Value.int .i64)) ∧ Below W.heap.size W W' := by
  obtain ⟨i1, hi1, hz10, hz11, hz12⟩ := info_parts info_i64
  obtain ⟨a, cap, rfl, hr, hlc⟩ := h.sl
  show Calls Try.prog _ #[_, .agg #[.int .i64 k.p, .int .i64 k.f, .int .i64 k.o]] W _
  obtain ⟨A, hA⟩ : ∃ A, A = atL ws k := ⟨_, rfl⟩
  rw [← hA]
  have HA := Lib.hid hA
  obtain ⟨V, hV⟩ : ∃ V, V = W.alloc (.cells #[.int .i64 k.p, .int .i64 k.f, .int .i64 k.o] 33) := ⟨_, rfl⟩
  have b1 : Below W.heap.size W V := by rw [hV]; exact (Below.refl _ W).alloc (Nat.le_refl _) _
  have z1 : V.heap[W.heap.size]? = some (.cells #[.int .i64 k.p, .int .i64 k.f, .int .i64 k.o] 33) := by rw [hV]; exact World.alloc_heap_new _ _
  have lV : W.heap.size < V.heap.size := by rw [hV]; simp
  have hV1 := h.below b1
  have rV := hr.below b1
  have hdl := hV1.lt d (.inl rfl)
  clear hA h hr
  go_enter Try.func26, Try.ntmps26
  go_wp2
  rw [← hV]
  clear hV
  go_loopw [5, 6] (fun o i wr => ∃ j : Nat, i = .int .i64 (j : Int) ∧ j ≤ ws.length ∧ wr.ownsRow V.heap.size 3 1 o (atL (ws.take j) k).length ((atL (ws.take j) k).map (Value.int .i64)) ∧ Below V.heap.size V wr) (fun _ i _ => ws.length - (intOf i).toNat)
  case atStart => exact ⟨0, rfl, Nat.zero_le _, World.ownsRow_nil _ _ _ _, Below.refl _ _⟩
  case round =>
    obtain ⟨j, rfl, hj, ho, hb⟩ := hrel
    have c0 := (hV1.below hb).c0
    have rw' := rV.below ⟨hb.os, hb.tape, hb.output, hb.size, fun q hq => hb.block q (by omega)⟩
    have zw := (hb.block _ lV).trans z1
    have y0 : wr.cell? ⟨W.heap.size, 0, none⟩ = some (.int .i64 k.p) := by rw [cell_of_row _ _ 0 _ _ _ zw]; rfl
    have y1 : wr.cell? ⟨W.heap.size, 1, none⟩ = some (.int .i64 k.f) := by rw [cell_of_row _ _ 1 _ _ _ zw]; rfl
    have y2 : wr.cell? ⟨W.heap.size, 2, none⟩ = some (.int .i64 k.o) := by rw [cell_of_row _ _ 2 _ _ _ zw]; rfl
    by_cases hlt : j < ws.length
    · have t3 : decide ((j : Int) < ((ws.length : Nat) : Int)) = true := by simp; omega
      have hat := atL_take ws k j hlt
      obtain ⟨_, h0 | ⟨b, off, rfl, hbn, _, hcm, _⟩⟩ := id rw'
      · omega
      obtain ⟨q0, q1, q2, q3⟩ := rw'.cells4 j hlt
      simp only [maxLen] at hcm
      obtain ⟨X, hX⟩ : ∃ X, X = ws[j] := ⟨_, rfl⟩
      rw [← hX] at hat q0 q1 q2 q3
      clear hX rw' zw
      obtain ⟨hl, hhl⟩ : ∃ hl, hl = atL (ws.take j) k := ⟨_, rfl⟩
      rw [← hhl] at ho hat
      have hll : hl.length ≤ ws.length := by rw [hhl]; exact Nat.le_trans (atL_len _ _) (by rw [List.length_take]; omega)
      by_cases hx : X.k = k
      · have t4 : ∀ w, (binOp .eql 33 (.agg #[.int .i64 X.k.p, .int .i64 X.k.f, .int .i64 X.k.o]) (.agg #[.int .i64 k.p, .int .i64 k.f, .int .i64 k.o])).run Try.prog w = .ok (.bool true) w := fun w => by
          rw [key_eql, show decide ((⟨X.k.p, X.k.f, X.k.o⟩ : Ky) = ⟨k.p, k.f, k.o⟩) = true from decide_eq_true hx]
        rw [if_pos hx] at hat
        have HF := Lib.hid hat
        have hle : ∀ b, u5.ownBlock = some b → V.heap.size ≤ b := fun b hb => (ho.lt b hb).1
        clear hx hat hhl
        go_wp2_with fail
        go_region
        have q0 : wr.drew.cell? ⟨b, off + j * 4, none⟩ = some (.int .i64 X.pid) := q0
        have c0 : wr.drew.cell? ⟨d, 0, none⟩ = some (.slice (some ⟨b, off, none⟩) ws.length cap) := c0
        go_wp2_with (at_builtin; refine held ?_)
        unfold Held
        obtain ⟨W2, hW2⟩ : ∃ W2, W2 = (wr.alloc (.cells #[.int .i64 X.pid] 3)).drew := ⟨_, rfl⟩
        have bb : Below wr.heap.size wr W2 := by rw [hW2]; exact ((Below.refl _ _).alloc (Nat.le_refl _) _).drew
        have rr : RowI .i64 (wr.heap.size + 1) W2 (.slice (some ⟨wr.heap.size, 0, none⟩) 1 1) [X.pid] := by rw [hW2]; exact RowI.lit1 wr X.pid
        have ho2 := row_below ho bb
        have bb2 := hb.trans (bb.mono hb.size)
        rw [← hW2]
        refine wpList_append_int rfl _ _ 39 rfl V.heap.size 3 i1 Try.underlying39 hi1 hz10 hz11 hz12 u5 hl.length hl rfl ho2 (some ⟨wr.heap.size, 0, none⟩) 1 1 _ [X.pid] rfl rr (by omega) bb2.size ?_
        intro v9 w9 o9 g9 hv9
        have b9 : Below V.heap.size V w9 := bb2.grown g9 bb2.size hle
        have O9 := Lib.hid o9
        clear o9 g9 hv9 ho ho2 hle bb rr hW2 bb2 q0 q1 q2 q3 y0 y1 y2 c0
        go_wp2
        go_roundw
        case rel => exact ⟨j + 1, by go_num, by omega, by rw [show atL (ws.take (j + 1)) k = hl ++ [X.pid] from HF, List.length_append]; exact O9, b9⟩
        case measure => simp [intOf]; omega
      · have t4 : ∀ w, (binOp .eql 33 (.agg #[.int .i64 X.k.p, .int .i64 X.k.f, .int .i64 X.k.o]) (.agg #[.int .i64 k.p, .int .i64 k.f, .int .i64 k.o])).run Try.prog w = .ok (.bool false) w := fun w => by
          rw [key_eql, show decide ((⟨X.k.p, X.k.f, X.k.o⟩ : Ky) = ⟨k.p, k.f, k.o⟩) = false from decide_eq_false hx]
        rw [if_neg hx, List.append_nil] at hat
        have HF := Lib.hid hat
        have HO := Lib.hid ho
        clear hx hat hhl ho
        go_wp2_with fail
        go_region
        go_wp2
        go_roundw
        case rel => exact ⟨j + 1, by go_num, by omega, by rw [show atL (ws.take (j + 1)) k = hl from HF]; exact HO, ⟨hb.os, hb.tape, hb.output, hb.size, hb.block⟩⟩
        case measure => simp [intOf]; omega
    · have t3 : decide ((j : Int) < ((ws.length : Nat) : Int)) = false := by simp; omega
      obtain rfl : j = ws.length := by omega
      rw [List.take_length, ← show A = atL ws k from HA] at ho
      have HO := Lib.hid (ownsRow_mono ho b1.size)
      have bf := b1.trans (hb.mono b1.size)
      clear ho rw' zw
      go_wp2
      go_ret
      exact ⟨_, rfl, HO, bf⟩
set_option maxRecDepth 100000 in
set_option maxHeartbeats 8000000 in
theorem dgone_any (d : Nat) (u : Value) (ws : List Wt) (pid : Int) (W : World) (h : DocAt W d u ws) (hsm : ws.length ≤ 1000000) :
    Calls Try.prog 23 #[.pointer (some ⟨d, 0, none⟩), .int .i64 pid] W fun e W' => ∃ u', e = .returned (.bool (ws.find? (isP pid)).isSome) ∧ DocAt W' d u' (ws.filter (notP pid)) ∧ Wr (SFut d u) (SFut d u') W W' := by
  obtain ⟨i0, hi, hz0, hz1, hz2⟩ := info_parts info_w
  obtain ⟨F, hF⟩ : ∃ F, F = (ws.find? (isP pid)).isSome := ⟨_, rfl⟩
  rw [← hF]
  go_enter Try.func23, Try.ntmps23
  go_wp2_with (go_at_call 25; refine held ?_)
  unfold Held
  refine (dkey_any d u ws pid W h hsm).mono ?_
  rintro e w1 ⟨rfl, b0⟩
  rw [show (ws.find? (isP pid)).isSome = F from hF.symm]
  obtain ⟨K6, hK6⟩ : ∃ K6 : Ky, K6 = (ws.find? (isP pid)).elim ⟨0, 0, 0⟩ (·.k) := ⟨_, rfl⟩
  rw [← hK6, show aggK K6 = .agg #[.int .i64 K6.p, .int .i64 K6.f, .int .i64 K6.o] from rfl]
  clear hK6 hF
  obtain ⟨V, hV⟩ : ∃ V, V = w1.alloc (.cells #[.int .i64 K6.p, .int .i64 K6.f, .int .i64 K6.o] 33) := ⟨_, rfl⟩
  have bV0 : Below w1.heap.size w1 V := by rw [hV]; exact (Below.refl _ _).alloc (Nat.le_refl _) _
  have b1 := b0.trans (bV0.mono b0.size)
  have hV1 := h.below b1
  have hl1 := h.lt
  obtain ⟨a, cap, rfl, rV, hlc⟩ := hV1.sl
  have hdl := hV1.lt d (.inl rfl)
  have hs1 := b1.size
  clear h
  go_wp2
  rw [← hV]
  clear hV bV0 b0
  go_loopw [7, 8] (fun o i wr => ∃ j : Nat, i = .int .i64 (j : Int) ∧ j ≤ ws.length ∧ wr.ownsRow V.heap.size 35 4 o ((ws.take j).filter (notP pid)).length (flatW ((ws.take j).filter (notP pid))) ∧ Below V.heap.size V wr) (fun _ i _ => ws.length - (intOf i).toNat)
  case atStart => exact ⟨0, rfl, Nat.zero_le _, World.ownsRow_nil _ _ _ _, Below.refl _ _⟩
  case round =>
    obtain ⟨j, rfl, hj, ho, hb⟩ := hrel
    have hD := hV1.below hb
    have c0 := hD.c0
    have rw' := rV.below hb
    by_cases hlt : j < ws.length
    · have t3 : decide ((j : Int) < ((ws.length : Nat) : Int)) = true := by simp; omega
      have hat := filter_take ws pid j hlt
      obtain ⟨_, h0 | ⟨b, off, rfl, hbn, _, hcm, _⟩⟩ := id rw'
      · omega
      obtain ⟨q0, q1, q2, q3⟩ := rw'.cells4 j hlt
      simp only [maxLen] at hcm
      obtain ⟨X, hX⟩ : ∃ X, X = ws[j] := ⟨_, rfl⟩
      rw [← hX] at hat q0 q1 q2 q3
      clear hX rw' hD
      obtain ⟨vl, hvl⟩ : ∃ vl, vl = (ws.take j).filter (notP pid) := ⟨_, rfl⟩
      rw [← hvl] at ho hat
      have hvll : vl.length ≤ ws.length := by rw [hvl]; exact Nat.le_trans (List.length_filter_le _ _) (by rw [List.length_take]; omega)
      by_cases hx : X.pid = pid
      · have t4 : (X.pid != pid) = false := by simpa using hx
        rw [if_pos hx, List.append_nil] at hat
        have HF := Lib.hid hat
        have HO := Lib.hid ho
        clear hx hat ho hvl
        go_wp2
        go_roundw
        case rel => exact ⟨j + 1, by go_num, by omega, by rw [show (ws.take (j + 1)).filter (notP pid) = vl from HF]; exact HO, hb⟩
        case measure => simp [intOf]; omega
      · have t4 : (X.pid != pid) = true := by simpa using hx
        rw [if_neg hx] at hat
        have HF := Lib.hid hat
        have hle : ∀ b, u7.ownBlock = some b → V.heap.size ≤ b := fun b hb => (ho.lt b hb).1
        clear hx hat hvl
        go_wp2_with (at_builtin; refine held ?_)
        unfold Held
        obtain ⟨W2, hW2⟩ : ∃ W2, W2 = wr.alloc (.cells #[.int .i64 X.pid, .int .i64 X.k.p, .int .i64 X.k.f, .int .i64 X.k.o] 35) := ⟨_, rfl⟩
        have bb : Below wr.heap.size wr W2 := by rw [hW2]; exact (Below.refl _ _).alloc (Nat.le_refl _) _
        have zz : W2.heap[wr.heap.size]? = some (.cells #[.int .i64 X.pid, .int .i64 X.k.p, .int .i64 X.k.f, .int .i64 X.k.o] 35) := by rw [hW2]; exact World.alloc_heap_new _ _
        have ho2 := row_below ho bb
        have bb2 := hb.trans (bb.mono hb.size)
        rw [← hW2]
        refine wpList_append_vals rfl _ _ 26 rfl V.heap.size 35 i0 _ 4 32 Try.underlying26 hi hz0 hz1 hz2 rfl (by decide) u7 vl.length (flatW vl) rfl ho2 (some ⟨wr.heap.size, 0, none⟩) 1 1 (flatW [X]) rfl rfl (flatW_one _) (.inr ⟨_, _, rfl, cells_row4 zz⟩) (by omega) (by simp only [maxLen]; omega) bb2.size ?_
        intro v9 w9 o9 g9 hv9
        have b9 : Below V.heap.size V w9 := bb2.grown g9 bb2.size hle
        rw [← flatW_append] at o9
        have O9 := Lib.hid o9
        clear o9 g9 hv9 ho ho2 hle bb zz hW2 bb2 q0 q1 q2 q3 c0
        go_wp2
        go_roundw
        case rel => exact ⟨j + 1, by go_num, by omega, by rw [show (ws.take (j + 1)).filter (notP pid) = vl ++ [X] from HF, List.length_append]; exact O9, b9⟩
        case measure => simp [intOf]; omega
    · have t3 : decide ((j : Int) < ((ws.length : Nat) : Int)) = false := by simp; omega
      obtain rfl : j = ws.length := by omega
      rw [List.take_length] at ho
      obtain ⟨E, hE⟩ : ∃ E, E = ws.filter (notP pid) := ⟨_, rfl⟩
      rw [← hE] at ho
      have HE := Lib.hid hE
      obtain ⟨a7, d7, rfl⟩ := sl_own ho
      have y6 := hD.at_
      have hlo : ∀ b, (Value.slice a7 E.length d7).ownBlock = some b → V.heap.size ≤ b := fun b hb => (ho.lt b hb).1
      have bf := b1.trans (hb.mono hs1)
      have hT : Wr (SFut d (.slice a ws.length cap)) (SFut d (.slice a7 E.length d7)) W (wr.setRow d #[.slice a7 E.length d7]) := by
        refine ((Wr.of_below bf).setRow (S := SFut d (.slice a ws.length cap)) (.inl (.inl rfl)) _).to ?_
        rintro b (rfl | hb)
        · exact .inl (.inl rfl)
        · exact .inr (Nat.le_trans hs1 (hlo b hb))
      have hFt : DocAt (wr.setRow d #[.slice a7 E.length d7]) d (.slice a7 E.length d7) E := by
        have hne : ∀ b, (Value.slice a7 E.length d7).ownBlock = some b → b ≠ d := fun b hb => by have := hlo b hb; omega
        exact ⟨setRow_heap _ _ _ _ _ _ y6, ownsRow_same (ownsRow_mono ho (Nat.zero_le _)) fun b hb => setRow_other _ _ _ _ (hne b hb), hne⟩
      have HT := Lib.hid hT
      have HFt := Lib.hid hFt
      clear hT hFt ho hlo rw' hD hE
      go_wp2_with ((fail_if_success (unfold Held)); refine at_store rfl ?_)
      unfold Held
      refine wpList_store_oneTo rfl 26 (.tmp 47) (.tmp 45) rfl rfl d (.slice a7 E.length d7) rfl rfl rfl 52 _ y6 (by kernel_rfl) ?_
      clear y6
      go_wp2
      go_ret
      rw [← show E = ws.filter (notP pid) from HE]
      exact ⟨_, rfl, HFt, HT⟩
end Go.Proofs.Ytdnhaappglbooaa
