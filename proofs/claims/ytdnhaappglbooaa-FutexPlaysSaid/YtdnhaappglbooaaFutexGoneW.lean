/- The walk of the law FutexGone. -/
import Derived.Test.YtdnhaappglbooaaFutexAgainW
namespace Go.Proofs.Ytdnhaappglbooaa
open Go Go.RowKit
attribute [local go_sem] upV_value upV_skip upV_enter
set_option linter.unusedVariables false
set_option linter.unnecessarySimpa false
set_option linter.unusedSimpArgs false
def notP (pid : Int) (x : Wt) : Bool := decide (x.pid ≠ pid)
theorem filter_not (ws : List Wt) (pid : Int) (h : ∀ x ∈ ws, x.pid ≠ pid) : ws.filter (notP pid) = ws := by
  rw [List.filter_eq_self]
  intro x hx
  exact decide_eq_true (h x hx)
theorem Good.erase_filter {ws : List Wt} (h : Good ws) (pid : Int) : ws.eraseP (isP pid) = ws.filter (notP pid) := by
  induction ws with
  | nil => rfl
  | cons x r ih =>
    have hnd := h.nd
    rw [List.map_cons, List.nodup_cons] at hnd
    by_cases hx : x.pid = pid
    · rw [List.eraseP_cons_of_pos (by simpa [isP] using hx), List.filter_cons_of_neg (by simp [notP, hx])]
      refine (filter_not r pid fun y hy he => ?_).symm
      exact hnd.1 (List.mem_map.2 ⟨y, hy, he.trans hx.symm⟩)
    · rw [List.eraseP_cons_of_neg (by simpa [isP] using hx), List.filter_cons_of_pos (by simp [notP, hx]), ih (h.sub (List.sublist_cons_self x r))]
theorem Good.gone_none {ws : List Wt} (h : Good ws) (pid : Int) : (ws.eraseP (isP pid)).find? (isP pid) = none := by
  rw [none_iff, h.erase_filter]
  intro x hx
  have := (List.mem_filter.1 hx).2
  simpa [notP] using this
theorem Good.gone_len {ws : List Wt} (h : Good ws) (pid : Int) : decide (((ws.filter (notP pid)).length : Int) < (ws.length : Int)) = (ws.find? (isP pid)).isSome := by
  rw [← h.erase_filter]
  cases hf : ws.find? (isP pid) with
  | none =>
    rw [none_iff] at hf
    rw [h.erase_filter, filter_not _ _ hf]
    simp
  | some x =>
    have hx := List.mem_of_find?_eq_some hf
    have hp : isP pid x = true := List.find?_some hf
    have : (ws.eraseP (isP pid)).length = ws.length - 1 := List.length_eraseP_of_mem hx hp
    have hl : 0 < ws.length := List.length_pos_of_mem hx
    rw [decide_eq_true (by omega)]
    rfl
theorem filter_take (ws : List Wt) (pid : Int) (j : Nat) (h : j < ws.length) : (ws.take (j + 1)).filter (notP pid) = (ws.take j).filter (notP pid) ++ (if ws[j].pid = pid then [] else [ws[j]]) := by
  rw [List.take_succ_eq_append_getElem h, List.filter_append]
  congr 1
  by_cases hk : ws[j].pid = pid <;> simp [List.filter, notP, hk]
theorem atL_snoc (ws : List Wt) (pid : Int) (k : Ky) : atL (ws ++ [⟨pid, k⟩]) k = atL ws k ++ [pid] := by
  unfold atL
  rw [List.filter_append, List.map_append]
  simp [List.filter, isK]
theorem FutAt.other {A B : World} {p : Nat} {v : Value} {ws : List Wt} {S S' : Nat → Prop} (h : FutAt A p v ws) (hw : Wr S S' A B) (hk : ∀ b, SFut p v b → ¬ S b) : FutAt B p v ws ∧ (∀ b, SFut p v b → ¬ S' b) :=
  ⟨h.same fun b hb => hw.block b (h.lt b hb) (hk b hb), fun b hb hs => (hw.new b hs).elim (hk b hb) (fun h' => by have := h.lt b hb; omega)⟩
theorem bool_ne_self (b : Bool) : (b != b) = false := by cases b <;> rfl
set_option maxRecDepth 100000 in
set_option maxHeartbeats 16000000 in
theorem futexGone_any (W : World) (a : Option Addr) (len cap : Nat) (os : List OpF) (pid : Int) (k : Ky) (h : IsOps W.heap.size W a len cap os) :
    Calls Try.prog 8 #[.slice a len cap, .int .i64 pid, .agg #[.int .i64 k.p, .int .i64 k.f, .int .i64 k.o]] W fun e W' => e = .returned (.bool true) ∧ Below W.heap.size W W' := by
  have hsm := h.small
  have hol := h.1
  obtain ⟨i0, hi, hz0, hz1, hz2⟩ := info_parts info_w
  obtain ⟨W1, hW1⟩ : ∃ W1, W1 = W.alloc (.cells #[.int .i64 k.p, .int .i64 k.f, .int .i64 k.o] 33) := ⟨_, rfl⟩
  have bW1 : Below W.heap.size W W1 := by rw [hW1]; exact (Below.refl _ W).alloc (Nat.le_refl _) _
  have zW1 : W1.heap[W.heap.size]? = some (.cells #[.int .i64 k.p, .int .i64 k.f, .int .i64 k.o] 33) := by rw [hW1]; exact World.alloc_heap_new _ _
  have sW1 : W.heap.size < W1.heap.size := by rw [hW1]; simp
  have hfin : ∀ V, Below W1.heap.size W1 V → Below W.heap.size W V := fun V hb => bW1.trans (hb.mono (by omega))
  go_enter Try.func8, Try.ntmps8
  go_wp2_with (go_at_call 9; refine held ?_)
  unfold Held
  rw [← hW1]
  clear hW1
  refine (alive_any W1).mono ?_
  rintro e w2 ⟨rfl, b2⟩
  by_cases hlen : (len : Int) > 200
  · have t1 : decide ((len : Int) > 200) = true := decide_eq_true hlen
    go_wp2
    go_ret
    exact ⟨rfl, hfin _ b2⟩
  have t1 : decide ((len : Int) > 200) = false := decide_eq_false hlen
  have h2 := ((h.below bW1).mono (Nat.le_of_lt sW1)).below b2
  have kg := grown_any w2 a len cap os (h2.mono b2.size) (by omega)
  go_wp2_with (go_at_call 10; refine held ?_)
  unfold Held
  refine kg.mono ?_
  rintro e w3 ⟨q, v3, rfl, f3, b3⟩
  have b3' := b2.trans (b3.mono b2.size)
  have hG := good_grow os
  have hL := growL_len os
  obtain ⟨ws, hws⟩ : ∃ ws, ws = growL os := ⟨_, rfl⟩
  rw [← hws] at f3 hG hL
  replace f3 : Fresh W1.heap.size w3 q v3 ws := ⟨f3.fut, fun b hb => Nat.le_trans b2.size (f3.lo b hb)⟩
  clear hws kg h h2 b2 b3 bW1
  go_wp2_with (go_at_call 24; refine held ?_)
  unfold Held
  refine (copy_any q v3 ws w3 f3.fut (by omega)).mono ?_
  rintro e w4 ⟨qc, vc, rfl, hqc, hvc, c4, b4⟩
  have b4' := b3'.trans (b4.mono b3'.size)
  have f4 := f3.below b4
  have n4 : ∀ b, SFut qc vc b → ¬ SFut q v3 b := fun b hb hs => by have := hvc b hb; have := f3.fut.lt b hs; omega
  have l4 := f3.fut.lt
  have s4 := b4.size
  clear f3 b3' b4 hqc hvc
  go_wp2_with (go_at_call 11; refine held ?_)
  unfold Held
  refine (all_any q v3 ws w4 f4.fut (by omega)).mono ?_
  rintro e w5 ⟨u5, rfl, o5, b5⟩
  have b5' := b4'.trans (b5.mono b4'.size)
  have f5 := f4.below b5
  have c5 := c4.below b5
  have n5 : Kept (SFut q v3) u5 := fun b hb hs => by have := (o5.lt b hb).1; have := l4 b hs; omega
  clear f4 b4' b5 c4 l4
  obtain ⟨a5, d5, rfl⟩ := sl_own o5
  go_wp2_with (go_at_call 17; refine held ?_)
  unfold Held
  refine (key_any q v3 ws pid w5 f5.fut (by omega)).mono ?_
  rintro e w6 ⟨rfl, b6⟩
  have b6' := b5'.trans (b6.mono b5'.size)
  have f6 := f5.below b6
  have c6 := c5.below b6
  have o6 := row_below o5 b6
  clear b5' b6 f5 c5 o5
  obtain ⟨had, hhad⟩ : ∃ had, had = (ws.find? (isP pid)).isSome := ⟨_, rfl⟩
  rw [← hhad]
  obtain ⟨K6, hK6⟩ : ∃ K6 : Ky, K6 = (ws.find? (isP pid)).elim ⟨0, 0, 0⟩ (·.k) := ⟨_, rfl⟩
  rw [← hK6, show aggK K6 = .agg #[.int .i64 K6.p, .int .i64 K6.f, .int .i64 K6.o] from rfl]
  clear hK6
  have HH := Lib.hid hhad
  clear hhad
  obtain ⟨V, hV⟩ : ∃ V, V = w6.alloc (.cells #[.int .i64 K6.p, .int .i64 K6.f, .int .i64 K6.o] 33) := ⟨_, rfl⟩
  have bV0 : Below w6.heap.size w6 V := by rw [hV]; exact (Below.refl _ _).alloc (Nat.le_refl _) _
  have bV := b6'.trans (bV0.mono b6'.size)
  have fV := f6.below bV0
  have cV := c6.below bV0
  have oV := row_below o6 bV0
  go_wp2_with (go_at_call 22; refine held ?_)
  unfold Held
  rw [← hV]
  clear hV bV0 b6' f6 c6 o6
  refine (gone_any q v3 ws pid V fV.fut (by omega)).mono ?_
  rintro e w7 ⟨v7, rfl, h7, hw7⟩
  rw [show (ws.find? (isP pid)).isSome = had from (show had = _ from HH).symm]
  have f7 := fV.step bV.size h7 hw7
  have b7 := bV.trans (fV.wr bV.size hw7)
  obtain ⟨c7, n7⟩ := cV.other hw7 n4
  obtain ⟨o7, m7⟩ := row_step oV n5 hw7
  have hgn := hG.gone_none pid
  have hef := hG.erase_filter pid
  have hgl := hG.gone_len pid
  obtain ⟨vs, hvs⟩ : ∃ vs, vs = ws.eraseP (isP pid) := ⟨_, rfl⟩
  rw [← hvs] at f7 hgn hef
  have hvl : vs.length ≤ ws.length := by rw [hvs]; exact List.length_eraseP_le
  rw [← show had = (ws.find? (isP pid)).isSome from HH] at hgl
  have t2 := bool_ne_self had
  clear bV fV cV oV h7 hw7 n4 n5 hvs
  go_wp2_with (go_at_call 22; refine held ?_)
  unfold Held
  refine (gone_any q v7 vs pid w7 f7.fut (by omega)).mono ?_
  rintro e w8 ⟨v8, rfl, h8, hw8⟩
  have he8 : vs.eraseP (isP pid) = vs := List.eraseP_of_forall_not (fun x hx hp => by
    rw [none_iff] at hgn
    exact hgn x hx (by simpa [isP] using hp))
  rw [he8] at h8
  rw [hgn]
  have f8 := f7.step b7.size h8 hw8
  have b8 := b7.trans (f7.wr b7.size hw8)
  obtain ⟨c8, n8⟩ := c7.other hw8 n7
  obtain ⟨o8, m8⟩ := row_step o7 m7 hw8
  clear f7 b7 c7 n7 o7 m7 h8 hw8 he8
  simp only [Option.isSome_none]
  have l8 := f8.fut.lt
  have lc8 := c8.lt
  have bT : ∀ V, Below w8.heap.size w8 V → Below W1.heap.size W1 V := fun V hb => b8.trans (hb.mono b8.size)
  have hsb8 := b8.size
  go_wp2
  go_loopw [13, 14, 51] (fun u _ i wr => ∃ (j : Nat), i = .int .i64 (j : Int) ∧ j ≤ ws.length ∧ wr.ownsRow w8.heap.size 35 4 u ((ws.take j).filter (notP pid)).length (flatW ((ws.take j).filter (notP pid))) ∧ Below w8.heap.size w8 wr) (fun _ _ i _ => ws.length - (intOf i).toNat)
  case atStart => exact ⟨0, rfl, Nat.zero_le _, World.ownsRow_nil _ _ _ _, Below.refl _ _⟩
  case round =>
    obtain ⟨j, rfl, hj, ho, hb⟩ := hrel
    have oj := row_below o8 hb
    obtain ⟨_, hrw, hlc⟩ := own_cells4 oj
    by_cases hlt : j < ws.length
    · have t3 : decide ((j : Int) < ((ws.length : Nat) : Int)) = true := by simp; omega
      have hfl := filter_take ws pid j hlt
      obtain ⟨_, h0 | ⟨b, off, rfl, hbn, _, _, _⟩⟩ := id hrw
      · omega
      obtain ⟨q0, q1, q2, q3⟩ := hrw.cells4 j hlt
      obtain ⟨X, hX⟩ : ∃ X, X = ws[j] := ⟨_, rfl⟩
      rw [← hX] at hfl q0 q1 q2 q3
      clear hX hrw oj
      obtain ⟨vl, hvl'⟩ : ∃ vl, vl = (ws.take j).filter (notP pid) := ⟨_, rfl⟩
      rw [← hvl'] at ho hfl
      have hvll : vl.length ≤ ws.length := by rw [hvl']; exact Nat.le_trans (List.length_filter_le _ _) (by rw [List.length_take]; omega)
      by_cases hx : X.pid = pid
      · have t4 : (X.pid != pid) = false := by simpa using hx
        rw [if_pos hx, List.append_nil] at hfl
        have HF := Lib.hid hfl
        have HO := Lib.hid ho
        clear hx hfl ho hvl' c8 o8
        go_wp2
        go_roundw
        case rel => exact ⟨j + 1, by go_num, by omega, by rw [show (ws.take (j + 1)).filter (notP pid) = vl from HF]; exact HO, hb⟩
        case measure => simp [intOf]; omega
      · have t4 : (X.pid != pid) = true := by simpa using hx
        rw [if_neg hx] at hfl
        have HF := Lib.hid hfl
        have hle : ∀ b, u13.ownBlock = some b → w8.heap.size ≤ b := fun b hb => (ho.lt b hb).1
        clear hx hfl hvl' c8 o8
        go_wp2_with (at_builtin; refine held ?_)
        unfold Held
        obtain ⟨W2, hW2⟩ : ∃ W2, W2 = wr.alloc (.cells #[.int .i64 X.pid, .int .i64 X.k.p, .int .i64 X.k.f, .int .i64 X.k.o] 35) := ⟨_, rfl⟩
        have bb : Below wr.heap.size wr W2 := by rw [hW2]; exact (Below.refl _ _).alloc (Nat.le_refl _) _
        have zz : W2.heap[wr.heap.size]? = some (.cells #[.int .i64 X.pid, .int .i64 X.k.p, .int .i64 X.k.f, .int .i64 X.k.o] 35) := by rw [hW2]; exact World.alloc_heap_new _ _
        have ho2 := row_below ho bb
        have bb2 := hb.trans (bb.mono hb.size)
        rw [← hW2]
        refine wpList_append_vals rfl _ _ 26 rfl w8.heap.size 35 i0 _ 4 32 Try.underlying26 hi hz0 hz1 hz2 rfl (by decide) u13 vl.length (flatW vl) rfl ho2 (some ⟨wr.heap.size, 0, none⟩) 1 1 (flatW [X]) rfl rfl (flatW_one _) (.inr ⟨_, _, rfl, cells_row4 zz⟩) (by omega) (by simp only [maxLen]; omega) bb2.size ?_
        intro v9 w9 o9 g9 hv9
        have b9 : Below w8.heap.size w8 w9 := bb2.grown g9 bb2.size hle
        rw [← flatW_append] at o9
        have O9 := Lib.hid o9
        clear o9 g9 hv9 ho ho2 hle bb zz hW2 bb2
        go_wp2
        go_roundw
        case rel => exact ⟨j + 1, by go_num, by omega, by rw [show (ws.take (j + 1)).filter (notP pid) = vl ++ [X] from HF, List.length_append]; exact O9, b9⟩
        case measure => simp [intOf]; omega
    · have t3 : decide ((j : Int) < ((ws.length : Nat) : Int)) = false := by simp; omega
      obtain rfl : j = ws.length := by omega
      rw [List.take_length, ← hef] at ho
      rw [← hef] at hgl
      have hgl2 : decide (vs.length < ws.length) = had := by rw [← hgl]; exact decide_eq_decide.2 (by omega)
      obtain ⟨a13, d13, rfl⟩ := sl_own ho
      have f9 := f8.below hb
      have c9 := c8.below hb
      have b9 := bT _ hb
      have r9 := (own_cells4 ho).2.1
      have ra9 := hrw
      have z9 := (hb.block W.heap.size (by omega)).trans ((b8.block W.heap.size sW1).trans zW1)
      have HGN := Lib.hid hgn
      clear c8 o8 oj f8 hb ho b8 bT hrw hef hgn l8 lc8 n8 m8 HH hlc
      go_wp2_with (go_at_call 11; refine held ?_)
      unfold Held
      refine (all_any q v8 vs wr f9.fut (by omega)).mono ?_
      rintro e w10 ⟨u10, rfl, o10, b10⟩
      have f10 := f9.below b10
      have c10 := c9.below b10
      have b10' := b9.trans (b10.mono b9.size)
      have r10 := (r9.below b10).mono b10.size
      have ra10 := (ra9.below b10).mono b10.size
      have z10 := (b10.block W.heap.size (by have := b9.size; omega)).trans z9
      obtain ⟨a10, d10, rfl⟩ := sl_own o10
      have rn10 := (own_cells4 o10).2.1
      clear f9 c9 b9 r9 ra9 z9 b10 o10
      go_wp2_with (go_at_call 13; refine held ?_)
      unfold Held
      refine (same11_any a10 _ d10 vs a13 _ d13 vs w10.heap.size w10 (Nat.le_refl _) rn10 r10 (by omega)).mono ?_
      rintro e w11 ⟨rfl, b11⟩
      simp only [decide_true]
      have f11 := f10.below b11
      have c11 := c10.below b11
      have b11' := b10'.trans (b11.mono b10'.size)
      have ra11 := (ra10.below b11).mono b11.size
      have z11 := (b11.block W.heap.size (by have := b10'.size; omega)).trans z10
      clear f10 c10 b10' r10 ra10 z10 b11 rn10
      go_wp2_with (go_at_call 11; refine held ?_)
      unfold Held
      refine (all_any qc vc ws w11 c11 (by omega)).mono ?_
      rintro e w12 ⟨u12, rfl, o12, b12⟩
      have f12 := f11.below b12
      have b12' := b11'.trans (b12.mono b11'.size)
      have ra12 := (ra11.below b12).mono b12.size
      have z12 := (b12.block W.heap.size (by have := b11'.size; omega)).trans z11
      obtain ⟨a12, d12, rfl⟩ := sl_own o12
      have rn12 := (own_cells4 o12).2.1
      clear f11 c11 b11' ra11 z11 b12 o12
      go_wp2_with (go_at_call 13; refine held ?_)
      unfold Held
      refine (same11_any a12 _ d12 ws a5 _ d5 ws w12.heap.size w12 (Nat.le_refl _) rn12 ra12 (by omega)).mono ?_
      rintro e w13 ⟨rfl, b13⟩
      simp only [decide_true]
      have f13 := f12.below b13
      have b13' := b12'.trans (b13.mono b12'.size)
      have z13 := (b13.block W.heap.size (by have := b12'.size; omega)).trans z12
      have y0 : w13.cell? ⟨W.heap.size, 0, none⟩ = some (.int .i64 k.p) := by rw [cell_of_row _ _ 0 _ _ _ z13]; rfl
      have y1 : w13.cell? ⟨W.heap.size, 1, none⟩ = some (.int .i64 k.f) := by rw [cell_of_row _ _ 1 _ _ _ z13]; rfl
      have y2 : w13.cell? ⟨W.heap.size, 2, none⟩ = some (.int .i64 k.o) := by rw [cell_of_row _ _ 2 _ _ _ z13]; rfl
      clear f12 b12' ra12 z12 b13 rn12
      go_wp2_with (go_at_call 12; refine held ?_)
      unfold Held
      refine (wait_any q v8 vs pid k w13 f13.fut (by omega)).mono ?_
      rintro e w14 ⟨v14, rfl, h14, hw14⟩
      have f14 := f13.step b13'.size h14 hw14
      have b14 := b13'.trans (f13.wr b13'.size hw14)
      have z14 := ((f13.wr b13'.size hw14).block W.heap.size sW1).trans z13
      have x0 : w14.cell? ⟨W.heap.size, 0, none⟩ = some (.int .i64 k.p) := by rw [cell_of_row _ _ 0 _ _ _ z14]; rfl
      have x1 : w14.cell? ⟨W.heap.size, 1, none⟩ = some (.int .i64 k.f) := by rw [cell_of_row _ _ 1 _ _ _ z14]; rfl
      have x2 : w14.cell? ⟨W.heap.size, 2, none⟩ = some (.int .i64 k.o) := by rw [cell_of_row _ _ 2 _ _ _ z14]; rfl
      clear y0 y1 y2 z13 b13' f13 h14 hw14
      by_cases hp : pid < 1
      · have t5 : decide (pid < 1) = true := decide_eq_true hp
        rw [show waitL vs pid k = (2, vs) from if_pos (.inl hp)] at f14 ⊢
        clear hp
        go_wp2_with (go_at_call 19; refine held ?_)
        unfold Held
        refine (len_any q v14 vs w14 f14.fut (by omega)).mono ?_
        rintro e w15 ⟨rfl, b15⟩
        have b15' := b14.trans (b15.mono b14.size)
        clear f14 b14 b15 x0 x1 x2 z14
        go_wp2
        go_ret
        exact ⟨rfl, hfin _ b15'⟩
      have t5 : decide (pid < 1) = false := decide_eq_false hp
      go_wp2_with (go_at_call 18; refine held ?_)
      unfold Held
      refine (check_any k w14).mono ?_
      rintro e w15 ⟨rfl, b15⟩
      have f15 := f14.below b15
      have b15' := b14.trans (b15.mono b14.size)
      have z15 := (b15.block W.heap.size (by have := b14.size; omega)).trans z14
      clear f14 b14 x0 x1 x2 z14
      by_cases hm : mayK k = false
      · have hwe : waitL vs pid k = (2, vs) := if_pos (.inr hm)
        rw [hwe] at f15 ⊢
        rw [hm]
        clear hm hwe
        go_wp2_with (go_at_call 19; refine held ?_)
        unfold Held
        refine (len_any q v14 vs w15 f15.fut (by omega)).mono ?_
        rintro e w16 ⟨rfl, b16⟩
        have b16' := b15'.trans (b16.mono b15'.size)
        clear f15 b15' b16 z15 b15
        go_wp2
        go_ret
        exact ⟨rfl, hfin _ b16'⟩
      have hm1 : mayK k = true := by cases hh : mayK k with | true => rfl | false => exact absurd hh hm
      have hwe : waitL vs pid k = (0, vs ++ [⟨pid, k⟩]) := by
        unfold waitL
        rw [if_neg (by rintro (h | h) <;> first | omega | exact hm h), if_neg (by rw [show vs.find? (isP pid) = none from HGN]; simp)]
      rw [hwe] at f15 ⊢
      rw [hm1]
      have y0 : w15.cell? ⟨W.heap.size, 0, none⟩ = some (.int .i64 k.p) := by rw [cell_of_row _ _ 0 _ _ _ z15]; rfl
      have y1 : w15.cell? ⟨W.heap.size, 1, none⟩ = some (.int .i64 k.f) := by rw [cell_of_row _ _ 1 _ _ _ z15]; rfl
      have y2 : w15.cell? ⟨W.heap.size, 2, none⟩ = some (.int .i64 k.o) := by rw [cell_of_row _ _ 2 _ _ _ z15]; rfl
      clear hm hwe hm1 HGN
      go_wp2_with (go_at_call 14; refine held ?_)
      unfold Held
      refine (At_any q v14 (vs ++ [⟨pid, k⟩]) k w15 f15.fut (by rw [List.length_append]; simp; omega)).mono ?_
      rintro e w16 ⟨u16, rfl, o16, b16⟩
      have b16' := b15'.trans (b16.mono b15'.size)
      have f16 := f15.below b16
      rw [atL_snoc] at o16
      have hML := atL_len vs k
      obtain ⟨M, hM⟩ : ∃ M, M = (atL vs k).length := ⟨_, rfl⟩
      have hL16 : (atL vs k ++ [pid]).length = M + 1 := by rw [List.length_append, hM]; rfl
      obtain ⟨a16, d16, rfl⟩ := sl_own o16
      have r16 := (RowI.of_own o16).2
      rw [hL16] at o16 r16
      obtain ⟨_, b, off, hop, hcl⟩ := r16.open
      obtain ⟨rfl, hbw, hle, hcap⟩ := hop (by omega)
      have hcM := hcl M (by omega)
      rw [show (atL vs k ++ [pid]).getD M 0 = pid from by rw [hM]; simp [List.getD]] at hcM
      simp only [maxLen] at hcap
      rw [hL16]
      clear f15 b15' b16 z15 b15 o16 r16 hop hcl hL16 hM y0 y1 y2
      go_wp2_with (go_at_call 19; refine held ?_)
      unfold Held
      refine (len_any q v14 _ w16 f16.fut (by rw [List.length_append]; simp; omega)).mono ?_
      rintro e w17 ⟨rfl, b17⟩
      have b17' := b16'.trans (b17.mono b16'.size)
      rw [show ((vs ++ [(⟨pid, k⟩ : Wt)]).length : Int) = (vs.length : Int) + 1 from by rw [List.length_append]; rfl]
      clear f16 b16' b17
      go_wp2
      go_ret
      exact ⟨rfl, hfin _ b17'⟩
end Go.Proofs.Ytdnhaappglbooaa
