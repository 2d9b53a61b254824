/- The document's futex: Wake. -/
import Derived.Test.YtdnhaappglbooaaFutDocC
namespace Go.Proofs.Ytdnhaappglbooaa
open Go Go.RowKit
attribute [local go_sem] upV_value upV_skip upV_enter
set_option linter.unusedVariables false
set_option linter.unnecessarySimpa false
set_option linter.unusedSimpArgs false
/-- one round of the document's Wake -/
def stepD (k : Ky) (n : Int) (s : List Int × List Wt) (x : Wt) : List Int × List Wt :=
  if x.k = k ∧ (s.1.length : Int) < n then (s.1 ++ [x.pid], s.2) else (s.1, s.2 ++ [x])
def dw (ws : List Wt) (k : Ky) (n : Int) : List Int × List Wt := ws.foldl (stepD k n) ([], [])
theorem dw_take (ws : List Wt) (k : Ky) (n : Int) (j : Nat) (h : j < ws.length) : dw (ws.take (j + 1)) k n = stepD k n (dw (ws.take j) k n) ws[j] := by
  unfold dw
  rw [List.take_succ_eq_append_getElem h, List.foldl_append]
  rfl
theorem Good.dw_at {ws : List Wt} (hG : Good ws) (k : Ky) (n : Int) (j : Nat) (hj : j ≤ ws.length) : dw (ws.take j) k n = ((atL (ws.take j) k).take n.toNat, (ws.take j).filter (notIn (wakeO ws k n))) := by
  induction j with
  | zero => simp [dw, atL]
  | succ j ih =>
    have hlt : j < ws.length := by omega
    rw [dw_take ws k n j hlt, ih (by omega)]
    have hat := atL_take ws k j hlt
    have hfl : (ws.take (j + 1)).filter (notIn (wakeO ws k n)) = (ws.take j).filter (notIn (wakeO ws k n)) ++ (if ws[j].pid ∈ wakeO ws k n then [] else [ws[j]]) := by
      rw [List.take_succ_eq_append_getElem hlt, List.filter_append]
      congr 1
      by_cases hk : ws[j].pid ∈ wakeO ws k n <;> simp [List.filter, notIn, hk]
    rw [hat, hfl]
    unfold stepD
    have hnd := hG.atL_nodup k
    have hsplit : atL ws k = atL (ws.take j) k ++ ((if ws[j].k = k then [ws[j].pid] else []) ++ atL (ws.drop (j + 1)) k) := by
      have : ws = ws.take j ++ (ws[j] :: ws.drop (j + 1)) := by rw [← List.drop_eq_getElem_cons hlt, List.take_append_drop]
      conv => lhs; rw [this]
      unfold atL
      rw [List.filter_append, List.map_append]
      congr 1
      by_cases hk : ws[j].k = k
      · rw [List.filter_cons_of_pos (by simp [isK, hk])]; simp [hk]
      · rw [List.filter_cons_of_neg (by simp [isK, hk])]; simp [hk]
    by_cases hk : ws[j].k = k
    · rw [if_pos hk] at hsplit ⊢
      rw [hsplit] at hnd
      by_cases hn : (atL (ws.take j) k).length < n.toNat
      · have e1 : (atL (ws.take j) k).take n.toNat = atL (ws.take j) k := List.take_of_length_le (by omega)
        have hm : ws[j].pid ∈ wakeO ws k n := by
          unfold wakeO
          rw [hsplit, List.take_append]
          refine List.mem_append_right _ ?_
          rw [show n.toNat - (atL (ws.take j) k).length = (n.toNat - (atL (ws.take j) k).length - 1) + 1 by omega]
          simp
        rw [if_pos ⟨hk, by simp only [e1]; omega⟩, if_pos hm]
        have e2 : (atL (ws.take j) k ++ [ws[j].pid]).take n.toNat = atL (ws.take j) k ++ [ws[j].pid] := List.take_of_length_le (by rw [List.length_append, List.length_cons, List.length_nil]; omega)
        simp only [e1, e2, List.append_nil]
      · have e1 : ((atL (ws.take j) k).take n.toNat).length = n.toNat := by rw [List.length_take]; omega
        have hm : ws[j].pid ∉ wakeO ws k n := fun hm => by
          unfold wakeO at hm
          rw [hsplit, List.take_append_of_le_length (by omega)] at hm
          have h1 := List.mem_of_mem_take hm
          rw [List.nodup_append] at hnd
          exact hnd.2.2 _ h1 _ (by simp) rfl
        rw [if_neg (fun h => by have := h.2; simp only [e1] at this; omega), if_neg hm, List.take_append_of_le_length (by omega)]
    · rw [if_neg hk]
      have hm : ws[j].pid ∉ wakeO ws k n := fun hm => by
        have h1 : ws[j].pid ∈ atL ws k := List.mem_of_mem_take hm
        unfold atL at h1
        obtain ⟨y, hy, he⟩ := List.mem_map.1 h1
        have hy2 := List.mem_filter.1 hy
        have := hG.eq_of_pid hy2.1 (List.getElem_mem hlt) he
        subst this
        exact hk (by simpa [isK] using hy2.2)
      rw [if_neg (fun h => hk h.1), if_neg hm, List.append_nil]
theorem Good.dw_all {ws : List Wt} (hG : Good ws) (k : Ky) (n : Int) : dw ws k n = (wakeO ws k n, goneAll ws (wakeO ws k n)) := by
  have := hG.dw_at k n ws.length (Nat.le_refl _)
  rw [List.take_length] at this
  rw [this, hG.goneAll_f]
  rfl
theorem dw_len (ws : List Wt) (k : Ky) (n : Int) : (dw ws k n).1.length + (dw ws k n).2.length = ws.length := by
  have : ∀ (s : List Int × List Wt), (ws.foldl (stepD k n) s).1.length + (ws.foldl (stepD k n) s).2.length = s.1.length + s.2.length + ws.length := by
    induction ws with
    | nil => intro s; simp
    | cons x r ih =>
      intro s
      rw [List.foldl_cons, ih, List.length_cons]
      unfold stepD
      split
      · simp only [List.length_append, List.length_cons, List.length_nil]; omega
      · simp only [List.length_append, List.length_cons, List.length_nil]; omega
  have h := this ([], [])
  simp only [List.length_nil, Nat.zero_add, Nat.add_zero] at h
  exact h
theorem rows_apart {W : World} {b1 b2 : Nat} {e1 e2 : TypeId} {s1 s2 : Nat} {u v : Value} {n m : Nat} {xs ys : List Value} (h1 : W.ownsRow b1 e1 s1 u n xs) (h2 : W.ownsRow b2 e2 s2 v m ys) (he : e1 ≠ e2) : ∀ b, u.ownBlock = some b → v.ownBlock ≠ some b := by
  intro b hb hv
  rcases h1.2 with ⟨rfl, _⟩ | ⟨g, cap, cur, rfl, _, hg, _⟩
  · simp [Value.ownBlock] at hb
  · obtain rfl : g = b := by simpa [Value.ownBlock] using hb
    rcases h2.2 with ⟨rfl, _⟩ | ⟨g', cap', cur', rfl, _, hg', _⟩
    · simp [Value.ownBlock] at hv
    · obtain rfl : g' = g := by simpa [Value.ownBlock] using hv
      rw [hg'] at hg
      injection hg with hg; injection hg with _ e _
      exact he e.symm
set_option maxRecDepth 100000 in
set_option maxHeartbeats 16000000 in
theorem dwake_any (d : Nat) (u : Value) (ws : List Wt) (k : Ky) (n : Int) (W : World) (h : DocAt W d u ws) (hG : Good ws) (hsm : ws.length ≤ 500000) :
    Calls Try.prog 21 #[.pointer (some ⟨d, 0, none⟩), aggK k, .int .i64 n] W fun e W' => ∃ v u', e = .returned v ∧ W'.ownsRow W.heap.size 3 1 v (wakeO ws k n).length ((wakeO ws k n).map (Value.int .i64)) ∧ DocAt W' d u' (goneAll ws (wakeO ws k n)) ∧ Wr (SFut d u) (SFut d u') W W' := by
  obtain ⟨i0, hi, hz0, hz1, hz2⟩ := info_parts info_w
  obtain ⟨i1, hi1, hz10, hz11, hz12⟩ := info_parts info_i64
  obtain ⟨a, cap, rfl, hr, hlc⟩ := h.sl
  show Calls Try.prog _ #[_, .agg #[.int .i64 k.p, .int .i64 k.f, .int .i64 k.o], _] W _
  have hall := hG.dw_all k n
  obtain ⟨O, hO⟩ : ∃ O, O = wakeO ws k n := ⟨_, rfl⟩
  obtain ⟨L, hL⟩ : ∃ L, L = goneAll ws (wakeO ws k n) := ⟨_, rfl⟩
  rw [← hL, ← hO]
  rw [← hL, ← hO] at hall
  have HALL := Lib.hid hall
  obtain ⟨V, hV⟩ : ∃ V, V = W.alloc (.cells #[.int .i64 k.p, .int .i64 k.f, .int .i64 k.o] 33) := ⟨_, rfl⟩
  have b1 : Below W.heap.size W V := by rw [hV]; exact (Below.refl _ W).alloc (Nat.le_refl _) _
  have z1 : V.heap[W.heap.size]? = some (.cells #[.int .i64 k.p, .int .i64 k.f, .int .i64 k.o] 33) := by rw [hV]; exact World.alloc_heap_new _ _
  have lV : W.heap.size < V.heap.size := by rw [hV]; simp
  have hV1 := h.below b1
  have rV := (hr.below b1).mono b1.size
  have hdl := hV1.lt d (.inl rfl)
  have hlt0 := h.lt
  clear hO hL h hr hall
  go_enter Try.func21, Try.ntmps21
  go_wp2
  rw [← hV]
  clear hV
  go_loopw [7, 8, 9] (fun o l i wr => ∃ j : Nat, i = .int .i64 (j : Int) ∧ j ≤ ws.length ∧ wr.ownsRow V.heap.size 3 1 o (dw (ws.take j) k n).1.length ((dw (ws.take j) k n).1.map (Value.int .i64)) ∧ wr.ownsRow V.heap.size 35 4 l (dw (ws.take j) k n).2.length (flatW (dw (ws.take j) k n).2) ∧ Below V.heap.size V wr) (fun _ _ i _ => ws.length - (intOf i).toNat)
  case atStart => exact ⟨0, rfl, Nat.zero_le _, World.ownsRow_nil _ _ _ _, World.ownsRow_nil _ _ _ _, Below.refl _ _⟩
  case round =>
    obtain ⟨j, rfl, hj, ho, hl, hb⟩ := hrel
    have hD := hV1.below hb
    have c0 := hD.c0
    have rw' := rV.below hb
    have zw := (hb.block _ lV).trans z1
    have y0 : wr.cell? ⟨W.heap.size, 0, none⟩ = some (.int .i64 k.p) := by rw [cell_of_row _ _ 0 _ _ _ zw]; rfl
    have y1 : wr.cell? ⟨W.heap.size, 1, none⟩ = some (.int .i64 k.f) := by rw [cell_of_row _ _ 1 _ _ _ zw]; rfl
    have y2 : wr.cell? ⟨W.heap.size, 2, none⟩ = some (.int .i64 k.o) := by rw [cell_of_row _ _ 2 _ _ _ zw]; rfl
    by_cases hlt : j < ws.length
    · have t3 : decide ((j : Int) < ((ws.length : Nat) : Int)) = true := by simp; omega
      have hat := dw_take ws k n j hlt
      have hdl2 := dw_len (ws.take j) k n
      rw [List.length_take] at hdl2
      obtain ⟨_, h0 | ⟨b, off, rfl, hbn, _, hcm, _⟩⟩ := id rw'
      · omega
      obtain ⟨q0, q1, q2, q3⟩ := rw'.cells4 j hlt
      simp only [maxLen] at hcm
      obtain ⟨X, hX⟩ : ∃ X, X = ws[j] := ⟨_, rfl⟩
      rw [← hX] at hat q0 q1 q2 q3
      clear hX rw' zw hD
      obtain ⟨s, hs⟩ : ∃ s, s = dw (ws.take j) k n := ⟨_, rfl⟩
      rw [← hs] at ho hl hat hdl2
      obtain ⟨so, sl⟩ := s
      simp only at ho hl hdl2
      have h1l : so.length ≤ ws.length := by omega
      have h2l : sl.length ≤ ws.length := by omega
      clear hs hdl2
      obtain ⟨a7, d7, rfl⟩ := sl_own ho
      by_cases hx : X.k = k
      · have t4 : ∀ w, (binOp .eql 33 (.agg #[.int .i64 X.k.p, .int .i64 X.k.f, .int .i64 X.k.o]) (.agg #[.int .i64 k.p, .int .i64 k.f, .int .i64 k.o])).run Try.prog w = .ok (.bool true) w := fun w => by
          rw [key_eql, show decide ((⟨X.k.p, X.k.f, X.k.o⟩ : Ky) = ⟨k.p, k.f, k.o⟩) = true from decide_eq_true hx]
        by_cases hn : (so.length : Int) < n
        · have t5 : decide ((so.length : Int) < n) = true := decide_eq_true hn
          have hst : stepD k n (so, sl) X = (so ++ [X.pid], sl) := if_pos ⟨hx, hn⟩
          rw [hst] at hat
          have HF := Lib.hid hat
          have HL := Lib.hid hl
          clear hx hat hst hn
          go_wp2_with fail
          go_region
          have q0 : wr.drew.cell? ⟨b, off + j * 4, none⟩ = some (.int .i64 X.pid) := q0
          have c0 : wr.drew.cell? ⟨d, 0, none⟩ = some (.slice (some ⟨b, off, none⟩) ws.length cap) := c0
          go_wp2_with (at_builtin; refine held ?_)
          unfold Held
          obtain ⟨W2, hW2⟩ : ∃ W2, W2 = (wr.alloc (.cells #[.int .i64 X.pid] 3)).drew := ⟨_, rfl⟩
          have bb : Below wr.heap.size wr W2 := by rw [hW2]; exact ((Below.refl _ _).alloc (Nat.le_refl _) _).drew
          have rr : RowI .i64 (wr.heap.size + 1) W2 (.slice (some ⟨wr.heap.size, 0, none⟩) 1 1) [X.pid] := by rw [hW2]; exact RowI.lit1 wr X.pid
          have ho2 := row_below ho bb
          have hl2 := row_below HL bb
          have bb2 := hb.trans (bb.mono hb.size)
          rw [← hW2]
          refine wpList_append_int rfl _ _ 39 rfl V.heap.size 3 i1 Try.underlying39 hi1 hz10 hz11 hz12 (.slice a7 so.length d7) so.length so rfl ho2 (some ⟨wr.heap.size, 0, none⟩) 1 1 _ [X.pid] rfl rr (by omega) bb2.size ?_
          intro v9 w9 o9 g9 hv9
          have b9 : Below V.heap.size V w9 := bb2.grown g9 bb2.size (fun b hb => (ho.lt b hb).1)
          have l9 := row_grown hl2 g9 (rows_apart ho2 hl2 (by decide))
          have O9 := Lib.hid o9
          have L9 := Lib.hid l9
          clear o9 g9 hv9 ho ho2 bb rr hW2 bb2 q0 q1 q2 q3 y0 y1 y2 c0 hl2 l9
          go_wp2
          go_roundw
          case rel => exact ⟨j + 1, by go_num, by omega, by rw [show dw (ws.take (j + 1)) k n = (so ++ [X.pid], sl) from HF]; simp only [List.length_append]; exact O9, by rw [show dw (ws.take (j + 1)) k n = (so ++ [X.pid], sl) from HF]; exact L9, b9⟩
          case measure => simp [intOf]; omega
        · have t5 : decide ((so.length : Int) < n) = false := decide_eq_false hn
          have hst : stepD k n (so, sl) X = (so, sl ++ [X]) := if_neg (fun h => hn h.2)
          rw [hst] at hat
          have HF := Lib.hid hat
          have HO := Lib.hid ho
          clear hx hat hst hn ho
          go_wp2_with fail
          go_region
          have q0 : wr.drew.cell? ⟨b, off + j * 4, none⟩ = some (.int .i64 X.pid) := q0
          have q1 : wr.drew.cell? ⟨b, off + j * 4 + 1, none⟩ = some (.int .i64 X.k.p) := q1
          have q2 : wr.drew.cell? ⟨b, off + j * 4 + 2, none⟩ = some (.int .i64 X.k.f) := q2
          have q3 : wr.drew.cell? ⟨b, off + j * 4 + 3, none⟩ = some (.int .i64 X.k.o) := q3
          have c0 : wr.drew.cell? ⟨d, 0, none⟩ = some (.slice (some ⟨b, off, none⟩) ws.length cap) := c0
          go_wp2_with (at_builtin; refine held ?_)
          unfold Held
          obtain ⟨W2, hW2⟩ : ∃ W2, W2 = (wr.alloc (.cells #[.int .i64 X.pid, .int .i64 X.k.p, .int .i64 X.k.f, .int .i64 X.k.o] 35)).drew := ⟨_, rfl⟩
          have bb : Below wr.heap.size wr W2 := by rw [hW2]; exact ((Below.refl _ _).alloc (Nat.le_refl _) _).drew
          have zz : W2.heap[wr.heap.size]? = some (.cells #[.int .i64 X.pid, .int .i64 X.k.p, .int .i64 X.k.f, .int .i64 X.k.o] 35) := by rw [hW2]; exact World.alloc_heap_new _ _
          have ho2 := row_below HO bb
          have hl2 := row_below hl bb
          have bb2 := hb.trans (bb.mono hb.size)
          rw [← hW2]
          refine wpList_append_vals rfl _ _ 26 rfl V.heap.size 35 i0 _ 4 32 Try.underlying26 hi hz0 hz1 hz2 rfl (by decide) u8 sl.length (flatW sl) rfl hl2 (some ⟨wr.heap.size, 0, none⟩) 1 1 (flatW [X]) rfl rfl (flatW_one _) (.inr ⟨_, _, rfl, cells_row4 zz⟩) (by omega) (by simp only [maxLen]; omega) bb2.size ?_
          intro v9 w9 o9 g9 hv9
          have b9 : Below V.heap.size V w9 := bb2.grown g9 bb2.size (fun b hb => (hl.lt b hb).1)
          rw [← flatW_append] at o9
          have l9 := row_grown ho2 g9 (rows_apart hl2 ho2 (by decide))
          have O9 := Lib.hid o9
          have L9 := Lib.hid l9
          clear o9 g9 hv9 hl ho2 bb zz hW2 bb2 q0 q1 q2 q3 y0 y1 y2 c0 hl2 l9
          go_wp2
          go_roundw
          case rel => exact ⟨j + 1, by go_num, by omega, by rw [show dw (ws.take (j + 1)) k n = (so, sl ++ [X]) from HF]; exact L9, by rw [show dw (ws.take (j + 1)) k n = (so, sl ++ [X]) from HF]; simp only [List.length_append]; exact O9, b9⟩
          case measure => simp [intOf]; omega
      · have t4 : ∀ w, (binOp .eql 33 (.agg #[.int .i64 X.k.p, .int .i64 X.k.f, .int .i64 X.k.o]) (.agg #[.int .i64 k.p, .int .i64 k.f, .int .i64 k.o])).run Try.prog w = .ok (.bool false) w := fun w => by
          rw [key_eql, show decide ((⟨X.k.p, X.k.f, X.k.o⟩ : Ky) = ⟨k.p, k.f, k.o⟩) = false from decide_eq_false hx]
        have hst : stepD k n (so, sl) X = (so, sl ++ [X]) := if_neg (fun h => hx h.1)
        rw [hst] at hat
        have HF := Lib.hid hat
        have HO := Lib.hid ho
        clear hx hat hst ho
        go_wp2_with fail
        go_region
        have q0 : wr.drew.cell? ⟨b, off + j * 4, none⟩ = some (.int .i64 X.pid) := q0
        have q1 : wr.drew.cell? ⟨b, off + j * 4 + 1, none⟩ = some (.int .i64 X.k.p) := q1
        have q2 : wr.drew.cell? ⟨b, off + j * 4 + 2, none⟩ = some (.int .i64 X.k.f) := q2
        have q3 : wr.drew.cell? ⟨b, off + j * 4 + 3, none⟩ = some (.int .i64 X.k.o) := q3
        have c0 : wr.drew.cell? ⟨d, 0, none⟩ = some (.slice (some ⟨b, off, none⟩) ws.length cap) := c0
        go_wp2_with (at_builtin; refine held ?_)
        unfold Held
        obtain ⟨W2, hW2⟩ : ∃ W2, W2 = (wr.alloc (.cells #[.int .i64 X.pid, .int .i64 X.k.p, .int .i64 X.k.f, .int .i64 X.k.o] 35)).drew := ⟨_, rfl⟩
        have bb : Below wr.heap.size wr W2 := by rw [hW2]; exact ((Below.refl _ _).alloc (Nat.le_refl _) _).drew
        have zz : W2.heap[wr.heap.size]? = some (.cells #[.int .i64 X.pid, .int .i64 X.k.p, .int .i64 X.k.f, .int .i64 X.k.o] 35) := by rw [hW2]; exact World.alloc_heap_new _ _
        have ho2 := row_below HO bb
        have hl2 := row_below hl bb
        have bb2 := hb.trans (bb.mono hb.size)
        rw [← hW2]
        refine wpList_append_vals rfl _ _ 26 rfl V.heap.size 35 i0 _ 4 32 Try.underlying26 hi hz0 hz1 hz2 rfl (by decide) u8 sl.length (flatW sl) rfl hl2 (some ⟨wr.heap.size, 0, none⟩) 1 1 (flatW [X]) rfl rfl (flatW_one _) (.inr ⟨_, _, rfl, cells_row4 zz⟩) (by omega) (by simp only [maxLen]; omega) bb2.size ?_
        intro v9 w9 o9 g9 hv9
        have b9 : Below V.heap.size V w9 := bb2.grown g9 bb2.size (fun b hb => (hl.lt b hb).1)
        rw [← flatW_append] at o9
        have l9 := row_grown ho2 g9 (rows_apart hl2 ho2 (by decide))
        have O9 := Lib.hid o9
        have L9 := Lib.hid l9
        clear o9 g9 hv9 hl ho2 bb zz hW2 bb2 q0 q1 q2 q3 y0 y1 y2 c0 hl2 l9
        go_wp2
        go_roundw
        case rel => exact ⟨j + 1, by go_num, by omega, by rw [show dw (ws.take (j + 1)) k n = (so, sl ++ [X]) from HF]; exact L9, by rw [show dw (ws.take (j + 1)) k n = (so, sl ++ [X]) from HF]; simp only [List.length_append]; exact O9, b9⟩
        case measure => simp [intOf]; omega
    · have t3 : decide ((j : Int) < ((ws.length : Nat) : Int)) = false := by simp; omega
      obtain rfl : j = ws.length := by omega
      rw [List.take_length, show dw ws k n = (O, L) from HALL] at ho hl
      simp only at ho hl
      obtain ⟨a7, d7, rfl⟩ := sl_own ho
      obtain ⟨a8, d8, rfl⟩ := sl_own hl
      have y6 := hD.at_
      have hlo : ∀ b, (Value.slice a8 L.length d8).ownBlock = some b → V.heap.size ≤ b := fun b hb => (hl.lt b hb).1
      have hoo : ∀ b, (Value.slice a7 O.length d7).ownBlock = some b → V.heap.size ≤ b := fun b hb => (ho.lt b hb).1
      have bf := b1.trans (hb.mono b1.size)
      have hs1 := b1.size
      have hT : Wr (SFut d (.slice a ws.length cap)) (SFut d (.slice a8 L.length d8)) W (wr.setRow d #[.slice a8 L.length d8]) := by
        refine ((Wr.of_below bf).setRow (S := SFut d (.slice a ws.length cap)) (.inl (.inl rfl)) _).to ?_
        rintro b (rfl | hb)
        · exact .inl (.inl rfl)
        · exact .inr (Nat.le_trans hs1 (hlo b hb))
      have hFt : DocAt (wr.setRow d #[.slice a8 L.length d8]) d (.slice a8 L.length d8) L := by
        have hne : ∀ b, (Value.slice a8 L.length d8).ownBlock = some b → b ≠ d := fun b hb => by have := hlo b hb; omega
        exact ⟨setRow_heap _ _ _ _ _ _ y6, ownsRow_same (ownsRow_mono hl (Nat.zero_le _)) fun b hb => setRow_other _ _ _ _ (hne b hb), hne⟩
      have hR : (wr.setRow d #[.slice a8 L.length d8]).ownsRow W.heap.size 3 1 (.slice a7 O.length d7) O.length (O.map (Value.int .i64)) :=
        ownsRow_same (ownsRow_mono ho hs1) fun b hb => setRow_other _ _ _ _ (by have := hoo b hb; omega)
      have HT := Lib.hid hT
      have HFt := Lib.hid hFt
      have HR := Lib.hid hR
      clear hT hFt hR ho hl hlo hoo rw' hD zw y0 y1 y2
      go_wp2_with ((fail_if_success (unfold Held)); refine at_store rfl ?_)
      unfold Held
      refine wpList_store_oneTo rfl 26 (.tmp 59) (.tmp 57) rfl rfl d (.slice a8 L.length d8) rfl rfl rfl 52 _ y6 (by kernel_rfl) ?_
      clear y6
      go_wp2
      go_ret
      exact ⟨_, _, rfl, HR, HFt, HT⟩
end Go.Proofs.Ytdnhaappglbooaa
