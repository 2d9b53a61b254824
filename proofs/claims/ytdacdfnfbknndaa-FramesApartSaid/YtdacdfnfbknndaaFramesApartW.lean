/- The walk of the law FramesApart. -/
import Derived.Test.YtdacdfnfbknndaaFramesTracesW
namespace Go.Proofs.Ytdacdfnfbknndaa
open Go Go.RowKit
attribute [local go_sem] upV_value upV_skip upV_enter
set_option linter.unusedVariables false
set_option linter.unnecessarySimpa false
set_option linter.unusedSimpArgs false
section
variable {P : Program} {o : Oper} {a : Act} {w : World}
/-- copy(.., none) -/
theorem upV_copy0 {K : Value → World → Prop} (x y : Operand) (t : TypeId) (ho : o.op = .call { callee := .builtin .copy, args := #[x, y], argTypes := #[t, t] })
    (e : TypeId) (ht : P.underlying t = some (.slice e)) (hs : (P.info? e).map (·.size) = some 1)
    (q : Option Addr) (dLen dCap : Nat) (hx : a.eval x = .slice q dLen dCap) (p : Option Addr) (m c : Nat) (hy : a.eval y = .slice p m c) (hm : m = 0) (h : K (goInt 0) w) : upV P K ((execOp a.eval o).run P w) := by
  subst hm
  have hrun : (Builtin.copy_ #[t, t] o.type #[.slice q dLen dCap, .slice p 0 c]).run P w = .ok (goInt 0) w := by
    cases hq : P.info? e with
    | none => simp [hq] at hs
    | some i => cases p <;> cases q <;> simp [Builtin.copy_, run_underlying ht, Builtin.lenOf, Builtin.firstCells, sizeOf, typeInfo, hq, storeCells, loadCells, loadCellsFrom]
  unfold execOp
  simp only [ho, resolve, invoke, builtin, Sem.run_bind, Sem.run_pure, Result.andThen_ok, List.map_toArray, List.map_cons, List.map_nil, hx, hy, hrun]
  exact h
/-- copy(within a block, values) -/
theorem upV_copy {K : Value → World → Prop} (x y : Operand) (t : TypeId) (ho : o.op = .call { callee := .builtin .copy, args := #[x, y], argTypes := #[t, t] })
    (e : TypeId) (ht : P.underlying t = some (.slice e)) (hs : (P.info? e).map (·.size) = some 1)
    (g off dLen dCap : Nat) (hx : a.eval x = .slice (some ⟨g, off, none⟩) dLen dCap) (cur : Array Value) (t2 : TypeId) (hg : w.heap[g]? = some (.cells cur t2 (0, 0)))
    (b o2 : Nat) (m c : Nat) (vs : List Value) (hy : a.eval y = .slice (some ⟨b, o2, none⟩) m c) (hl : vs.length = m) (h1 : ∀ u ∈ vs, u.oneCell' = true)
    (hr : ∀ j u, vs[j]? = some u → w.cell? ⟨b, o2 + j, none⟩ = some u) (hm : m ≤ dLen) (hfit : off + m ≤ cur.size)
    (h : K (goInt m) (w.setRow g (cur.toList.take off ++ vs ++ cur.toList.drop (off + vs.length)).toArray)) : upV P K ((execOp a.eval o).run P w) := by
  have hrun : (Builtin.copy_ #[t, t] o.type #[.slice (some ⟨g, off, none⟩) dLen dCap, .slice (some ⟨b, o2, none⟩) m c]).run P w = .ok (goInt m) (w.setRow g (cur.toList.take off ++ vs ++ cur.toList.drop (off + vs.length)).toArray) := by
    have := run_copy_row (P := P) w t t o.type e g off dLen dCap ⟨b, o2, none⟩ m c cur t2 vs ht hs hg (by show _ = min m dLen; omega) (fun j v hj => by rw [Addr.add_lit]; exact hr j v hj) (by omega) h1
    rw [this, hl]
  unfold execOp
  simp only [ho, resolve, invoke, builtin, Sem.run_bind, Sem.run_pure, Result.andThen_ok, List.map_toArray, List.map_cons, List.map_nil, hx, hy, hrun]
  exact h
end
/-- bytes put into a row -/
theorem own_put {W : World} {base B c n : Nat} {b zs : List Int} (h : W.ownsRow base 5 1 (.slice (some ⟨B, 0, none⟩) n c) n (b.map (Value.int .u8))) (off : Nat) (ho : off + zs.length ≤ n) :
    ∃ cur : Array Value, W.heap[B]? = some (.cells cur 5 (0, 0)) ∧ off + zs.length ≤ cur.size ∧ (W.setRow B (cur.toList.take off ++ zs.map (Value.int .u8) ++ cur.toList.drop (off + (zs.map (Value.int .u8)).length)).toArray).ownsRow base 5 1 (.slice (some ⟨B, 0, none⟩) n c) n ((putB b off zs).map (Value.int .u8)) := by
  have hbl := own_bytes_len h
  rcases h.2 with ⟨h1, _⟩ | ⟨g, cap, cur, h1, h2, h3, h4, h5, h6, h7⟩
  · cases h1
  · injection h1 with e1 _ e2; injection e1 with e1; injection e1 with e1 _ _
    subst e1 e2
    have hcl : cur.toList.length = c := by rw [Array.length_toList, h6]; omega
    have hpl : (putB b off zs).length = n := by unfold putB; simp only [List.length_append, List.length_take, List.length_drop]; omega
    refine ⟨cur, h3, by omega, ⟨by rw [List.length_map, hpl]; omega, .inr ⟨B, c, _, rfl, h2, setRow_heap _ _ _ _ _ _ h3, h4, h5, ?_, ?_⟩⟩⟩
    · simp only [List.size_toArray, List.length_append, List.length_take, List.length_drop, List.length_map, hcl]; omega
    · rw [Nat.mul_one] at h7 ⊢
      show List.take n (_ ++ _ ++ _) = _
      unfold putB
      rw [List.map_append, List.map_append, List.map_take, List.map_drop, ← h7, List.take_take, Nat.min_eq_left (by omega), List.length_map]
      rw [List.take_append, List.take_of_length_le (by simp only [List.length_append, List.length_take, List.length_map, hcl]; omega)]
      congr 1
      rw [List.drop_take]
      congr 1
      simp only [List.length_append, List.length_take, List.length_map, hcl]; omega
theorem sliced_at (p : Option Addr) (l m c : Nat) : ∃ q, sliced p l m c 1 = .slice q (m - l) (c - l) := by
  unfold sliced
  split
  · exact ⟨_, rfl⟩
  · exact ⟨_, rfl⟩
theorem sliced_in (B l m c : Nat) (h : l < m) (hc : m ≤ c) : sliced (some ⟨B, 0, none⟩) l m c 1 = .slice (some ⟨B, l, none⟩) (m - l) (c - l) := by
  unfold sliced
  rw [if_neg (by omega)]
  simp [Addr.add_lit]
set_option maxRecDepth 100000 in
set_option maxHeartbeats 8000000 in
theorem apart_in (W : World) (a : Option Addr) (len cap : Nat) (os : List OpM) (h : IsOps W.heap.size W a len cap os) (x : OpM) (hx : IsOp W.heap.size W x) (hE : readE (growF 12 os) x.f x.o x.bs.length = 0) :
    Calls Try.prog 5 #[.slice a len cap, .agg #[.int .i64 x.k, .int .i64 x.f, .int .i64 x.o, .int .i64 x.n, .slice x.a x.len x.cap]] W fun e W' => e = .returned (.bool true) ∧ Below W.heap.size W W' := by
  obtain ⟨W1, hW1⟩ : ∃ W1, W1 = W.alloc (.cells #[.int .i64 x.k, .int .i64 x.f, .int .i64 x.o, .int .i64 x.n, .slice x.a x.len x.cap] 25) := ⟨_, rfl⟩
  have bW1 : Below W.heap.size W W1 := by rw [hW1]; exact (Below.refl _ W).alloc (Nat.le_refl _) _
  have x1 : BoxO W1 W.heap.size x := by rw [hW1]; exact BoxO.new W x
  go_enter Try.func5, Try.ntmps5
  go_wp2_with (go_at_call 10; refine held ?_)
  unfold Held
  rw [← hW1]
  clear hW1
  refine (alive_any W1).mono ?_
  rintro e w2 ⟨rfl, b2⟩
  have x2 := x1.below b2
  have bW2 := bW1.trans (b2.mono bW1.size)
  have h2 := (h.below bW2).mono bW2.size
  clear bW1 b2 x1
  go_wp2_with (go_at_call 11; refine held ?_)
  unfold Held
  refine (great_any _ w2 a len cap os h2).mono ?_
  rintro e w3 ⟨rfl, ⟨rfl, hl1, hl2⟩ | rfl⟩
  rotate_left
  · go_wp2
    go_ret
    exact ⟨rfl, bW2⟩
  obtain ⟨c0, c1, c2, c3, c4⟩ := x2.cells
  have hrow := hx.row
  have hxl : x.bs.length = x.len := hrow.1.open.1
  by_cases hl100 : (x.len : Int) > 100
  · have t1 : decide ((x.len : Int) > 100) = true := decide_eq_true hl100
    go_wp2
    go_ret
    exact ⟨rfl, bW2⟩
  have t1 : decide ((x.len : Int) > 100) = false := decide_eq_false hl100
  have kg := grown_any w2 a len cap os h2 hl1 hl2
  go_wp2_with (go_at_call 12; refine held ?_)
  unfold Held
  refine kg.mono ?_
  rintro e w3 ⟨p, g, cp, rfl, hF, hg, hp, b3⟩
  have hGl := growF_len 12 os
  have hGm := growF_mem 12 os
  obtain ⟨fs, hfs⟩ : ∃ fs, fs = growF 12 os := ⟨_, rfl⟩
  rw [← hfs] at hF hGl hGm
  have x3 := x2.below b3
  have bW3 := bW2.trans (b3.mono bW2.size)
  have hgw : W.heap.size ≤ g := Nat.le_trans bW2.size hg
  have HR := Lib.hid hrow
  have h64 := hF.len
  clear kg h2 b3 x2 bW2 h hx hl1 hl2 c0 c1 c2 c3 c4 hg hp hrow
  have K1 := Lib.hid (copy_any p g cp fs w3 hF)
  go_wp2_with (go_at_call 20; refine held ?_)
  unfold Held
  refine Calls.mono K1 ?_
  rintro e w4 ⟨q, g', c', rfl, hq, hg', C4, b4⟩
  have F4 := hF.below b4
  have x4 := x3.below b4
  have B4 := bW3.trans (b4.mono bW3.size)
  have hqg : q ≠ g := by have := hF.ltg; omega
  have hgg : g' ≠ g := by have := hF.ltg; omega
  clear K1 b4 bW3 hq hg' hF x3
  obtain ⟨c0, c1, c2, c3, c4⟩ := x4.cells
  obtain ⟨xk, xf, xo, xn, xa, xl, xc, xs⟩ := x
  simp only at c0 c1 c2 c3 c4 hxl hl100 t1 HR hE ⊢
  rw [← hfs] at hE
  clear hfs
  obtain ⟨i, hi, o, m, ef, hn, eo, en, hom⟩ := readE_zero hE
  subst ef eo
  obtain rfl : m = xl := by omega
  have k2 := write_any p g cp fs i o xa m xc xs w4.heap.size w4 F4 ((Row8.below HR B4).mono B4.size) (by omega)
  have e2 := writeF_of hi hn o xs (by omega)
  rw [hE, e2] at k2
  have K2 := Lib.hid k2
  have hpl := putB_len (h64.at hi) o xs (by omega)
  obtain ⟨P, hP⟩ : ∃ P, P = putB fs[i].b o xs := ⟨_, rfl⟩
  have hf1 : Len64 (fs.set i (⟨P, fs[i].n⟩ : Fr)) := by rw [hP]; exact Len64.set h64 i (x := ⟨putB fs[i].b o xs, fs[i].n⟩) hpl
  rw [← hP] at K2 hpl
  have HP := Lib.hid hP
  have HN := Lib.hid hn
  have u1 : decide ((o : Int) ≥ 0) = true := by simp
  have u2 : decide ((o : Int) ≤ 64) = true := by simp; omega
  have u3 : decide ((m : Int) ≤ 64 - (o : Int)) = true := by simp; omega
  have hu0 := usedF_len fs
  have hum := fun x => usedF_mem (fs := fs) (x := x)
  have ku := fun (W' : World) (hf : FrAt W' q g' c' fs) => used_any q g' c' fs W' hf
  obtain ⟨U, hU⟩ : ∃ U, U = usedF fs := ⟨_, rfl⟩
  rw [← hU] at ku hu0
  simp only [← hU] at hum
  have HU := Lib.hid hum
  have KU := Lib.hid ku
  have hsm := (hGm.sm _ (List.getElem_mem hi)).1
  have kr := fun (W' : World) (hf : FrAt W' q g' c' fs) => by
    have := refs_any q g' c' fs i W' hf
    rw [okF_at hi, decide_eq_true hn, if_pos rfl, frAt_at hi] at this
    exact this
  have hpos : decide (fs[i].n > 0) = true := by simp; omega
  obtain ⟨N, hN⟩ : ∃ N, N = fs[i].n := ⟨_, rfl⟩
  obtain ⟨f1, hf1e⟩ : ∃ f1, f1 = fs.set i (⟨P, fs[i].n⟩ : Fr) := ⟨_, rfl⟩
  rw [← hN] at kr hpos
  rw [← hf1e] at K2 hf1
  have HF1 := Lib.hid hf1e
  have KR := Lib.hid kr
  clear k2 e2 hE hP hn hf1e hum ku hU kr hN hsm hGm
  go_wp2_with (go_at_call 18; refine held ?_)
  unfold Held
  refine Calls.mono K2 ?_
  rintro e w5 ⟨rfl, F5, hw5⟩
  have C5 := C4.other (p := p) (cap := cp) (fs := fs) hqg hgg hw5
  have x5 := x4.fr F4 hw5
  have B5 := B4.trans (below_of_wr hw5 hgw B4.size)
  clear K2 hw5 B4 C4 F4 x4 c0 c1 c2 c3 c4
  obtain ⟨c0, c1, c2, c3, c4⟩ := x5.cells
  go_wp2_with (go_at_call 21; refine held ?_)
  unfold Held
  refine Calls.mono ((show ∀ W' (hf : FrAt W' q g' c' fs), _ from KU) w5 C5) ?_
  rintro e w6 ⟨v6, rfl, o6, b6⟩
  have C6 := C5.below b6
  have F6 := F5.below b6
  have x6 := x5.below b6
  have B6 := B5.trans (b6.mono B5.size)
  obtain ⟨ua, uc, rfl, hop⟩ := own_open o6
  clear KU C5 F5 x5 B5 b6 c0 c1 c2 c3 c4
  go_wp2_with fail
  go_loopw [11, 12, 13, 14, 15, 63] (fun _ _ _ _ _ x wr => ∃ (j : Nat), x = .int .i64 (j : Int) ∧ j ≤ U.length ∧ Below w6.heap.size w6 wr) (fun _ _ _ _ _ x _ => U.length - (intOf x).toNat)
  case atStart => exact ⟨0, rfl, Nat.zero_le _, Below.refl _ _⟩
  case round =>
    obtain ⟨j, rfl, hj, hb⟩ := hrel
    have hCr := C6.below hb
    have hFr := F6.below hb
    have xr := x6.below hb
    have orr := row_below o6 hb
    have Br := B6.trans (hb.mono B6.size)
    obtain ⟨c0, c1, c2, c3, c4⟩ := xr.cells
    simp only at c0 c1 c2 c3 c4
    by_cases hlt : j < U.length
    rotate_left
    · have t6 : decide ((j : Int) < ((U.length : Nat) : Int)) = false := by simp; omega
      clear orr o6 C6 F6 x6 B6 hb hFr xr hop
      go_wp2_with (go_at_call 19; refine held ?_)
      unfold Held
      refine Calls.mono ((show ∀ W' (hf : FrAt W' q g' c' fs), _ from KR) _ hCr) ?_
      rintro e w7 ⟨rfl, rfl⟩
      go_wp2
      go_ret
      exact ⟨rfl, Br⟩
    have t6 : decide ((j : Int) < ((U.length : Nat) : Int)) = true := by simp; omega
    obtain ⟨ub, rfl, hub, hcc, hcm⟩ := hop (by omega)
    simp only [maxLen] at hcm
    have d1 : wr.cell? ⟨ub, j, none⟩ = some (.int .i64 U[j]) := by
      rw [orr.cellAt j (by omega), List.getElem?_map, List.getElem?_eq_getElem hlt]; rfl
    obtain ⟨y, hy, he, hny⟩ := ((show ∀ x, x ∈ U ↔ _ from HU) U[j]).1 (List.getElem_mem hlt)
    rw [he] at d1
    have l1 := readL_all h64 hy hny
    have e1 := readE_of hy hny (show 0 + 64 ≤ 64 by omega)
    have hyl : y < f1.length := by rw [show f1 = _ from HF1, List.length_set]; exact hy
    have hny1 : f1[y].n ≠ 0 := by
      simp only [show f1 = _ from HF1, List.getElem_set]
      split
      · exact HN
      · exact hny
    have l2 := readL_all hf1 hyl hny1
    have e2 := readE_of hyl hny1 (show 0 + 64 ≤ 64 by omega)
    have k3 := fun (W' : World) (hf : FrAt W' q g' c' fs) => by
      have := read_any q g' c' fs y 0 64 W' hf
      rw [show readE fs y 0 64 = 0 from e1, l1] at this
      exact this
    have k4 := fun (W' : World) (hf : FrAt W' p g cp f1) => by
      have := read_any p g cp f1 y 0 64 W' hf
      rw [show readE f1 y 0 64 = 0 from e2, l2] at this
      exact this
    have ha64 := h64.at hy
    have hb64 := hf1.at hyl
    have hab : f1[y].b = if y = i then P else fs[y].b := by
      simp only [show f1 = _ from HF1, List.getElem_set]
      by_cases e : i = y
      · rw [if_pos e, if_pos e.symm]
      · rw [if_neg e, if_neg (fun h => e h.symm)]
    have hPe : y = i → putB fs[y].b o xs = P := fun e => by subst e; exact (show P = _ from HP).symm
    obtain ⟨A, hA⟩ : ∃ A, A = fs[y].b := ⟨_, rfl⟩
    obtain ⟨Bb, hBb⟩ : ∃ Bb, Bb = f1[y].b := ⟨_, rfl⟩
    rw [← hA] at k3 ha64 hab hPe
    rw [← hBb] at k4 hb64 hab
    rw [ha64] at k3
    rw [hb64] at k4
    have K3 := Lib.hid k3
    have K4 := Lib.hid k4
    have HAB := Lib.hid hab
    have HPE := Lib.hid hPe
    have HA64 := Lib.hid ha64
    have HB64 := Lib.hid hb64
    have HB := Lib.hid (And.intro hb hj)
    have HBr := Lib.hid Br
    have hxlt : W.heap.size < wr.heap.size := xr.tag.lt
    clear k3 k4 l1 e1 l2 e2 hny1 hny hyl hab hPe hA hBb he ha64 hb64 orr o6 C6 F6 x6 B6 hb hj hop
    go_wp2_with (go_at_call 13; refine held ?_)
    unfold Held
    refine Calls.mono ((show ∀ W' (hf : FrAt W' q g' c' fs), _ from K3) _ hCr) ?_
    rintro e w7 ⟨v7, rfl, o7, b7⟩
    have hF7 := hFr.below b7
    have x7 := xr.below b7
    have bb7 := Below.trans HB.1 (b7.mono (Below.size HB.1))
    obtain ⟨a7, c7, rfl, hop7⟩ := own_open o7
    have HL7 := Lib.hid o7.lt
    have HB7 := Lib.hid b7
    clear K3 hFr xr hCr b7 c0 c1 c2 c3 c4 Br
    go_wp2_with (go_at_call 13; refine held ?_)
    unfold Held
    refine Calls.mono ((show ∀ W' (hf : FrAt W' p g cp f1), _ from K4) _ hF7) ?_
    rintro e w8 ⟨v8, rfl, o8, b8⟩
    have x8 := x7.below b8
    have bb8 := bb7.trans (b8.mono bb7.size)
    have o7' := row_below o7 b8
    have HB8 := Lib.hid (Below.trans HBr ((Below.trans HB7 (b8.mono (Below.size HB7))).mono (Below.size HBr)))
    obtain ⟨a8, c8, rfl, _⟩ := own_open o8
    have hsz : w6.heap.size ≤ wr.heap.size := Below.size HB.1
    clear K4 hF7 x7 b8 o7 bb7
    obtain ⟨c0, c1, c2, c3, c4⟩ := x8.cells
    simp only at c0 c1 c2 c3 c4
    by_cases hyi : y = i
    rotate_left
    · have t7 : ((y : Int) == (i : Int)) = false := by simp; omega
      have hAB : Bb = A := by rw [show Bb = _ from HAB, if_neg hyi]
      rw [hAB] at o8
      have cv1 := OwnBytes.conv (show w8.ownsRow _ _ _ _ A.length _ by rw [show A.length = 64 from HA64]; exact o7')
      have cv2 := OwnBytes.conv (show w8.ownsRow _ _ _ _ A.length _ by rw [show A.length = 64 from HA64]; exact o8)
      clear o7' o8 hAB hop7 hyi
      go_wp2_with fail
      go_roundw
      case rel => exact ⟨j + 1, by go_num, by have := HB.2; omega, bb8⟩
      case measure => simp [intOf]; have := HB.2; omega
    · subst hyi
      have hAB : Bb = P := by rw [show Bb = _ from HAB, if_pos rfl]
      have hPA : putB A o xs = P := (show _ → _ from HPE) rfl
      rw [hAB] at o8
      obtain ⟨B7, rfl, hB71, hB72, hB73⟩ := hop7 (by omega)
      simp only [maxLen] at hB73
      have hlt7 : B7 < w7.heap.size := ((show ∀ b, (Value.slice (some ⟨B7, 0, none⟩) 64 c7).ownBlock = some b → _ ∧ _ from HL7) B7 rfl).2
      have ho64 : o ≤ 64 := by omega
      obtain ⟨sq, hsq⟩ := sliced_at (some ⟨B7, 0, none⟩) o 64 c7
      have hsqin := sliced_in B7 o 64 c7
      have hXc := fun (W' : World) (hw : Wr (· = B7) (· = B7) w8 W') => BoxO.cells (show BoxO W' W.heap.size ⟨xk, y, o, xn, xa, m, xc, xs⟩ from (hw.block _ x8.tag.lt (by omega)).trans x8)
      have o7d : w8.drew.ownsRow wr.heap.size 5 1 (.slice (some ⟨B7, 0, none⟩) 64 c7) 64 (A.map (Value.int .u8)) := ownsRow_same o7' (fun _ _ => rfl)
      have o8d : w8.drew.ownsRow w7.heap.size 5 1 (.slice a8 64 c8) 64 (P.map (Value.int .u8)) := ownsRow_same o8 (fun _ _ => rfl)
      obtain ⟨cur, hcur, hfit, oput⟩ := own_put (zs := xs) o7d o (by omega)
      rw [hPA] at oput
      have hP64 : P.length = 64 := hpl
      have HR8 := Lib.hid (Row8.below HR HB8)
      have HXC := Lib.hid hXc
      have HSQ := Lib.hid hsq
      clear hXc hsq x8 o7' o8 hop7 hPA hAB
      go_wp2_with fail
      clear c0 c1 c2 c3 c4
      by_cases hm0 : m = 0
      · obtain rfl : xs = [] := List.eq_nil_of_length_eq_zero (by omega)
        have HM0 := Lib.hid hm0
        clear hm0
        have eput : (w8.drew.setRow B7 (cur.toList.take o ++ ([] : List Int).map (Value.int .u8) ++ cur.toList.drop (o + (([] : List Int).map (Value.int .u8)).length)).toArray) = w8.drew := by
          rw [List.map_nil, List.append_nil, List.length_nil, Nat.add_zero, List.take_append_drop, Array.toArray_toList]
          exact setRow_self w8.drew B7 cur 5 (0, 0) hcur
        rw [eput] at oput
        clear eput
        refine wp_region_anyV (GrowsBut (· = B7)) (by kernel_rfl) 7 rfl ?_
        first
          | (refine anyV_val 0 (GrowsBut.pre _) rfl (by kernel_rfl) (by kernel_rfl) (by kernel_rfl) (by rfl) (v := ?av1) (fun W hW => ?ay1) (fun K hK => ?ar1); case ay1 => (obtain ⟨q0, q1, q2, q3, q4⟩ := (show ∀ W', Wr (· = B7) (· = B7) w8 W' → _ from HXC) W (Wr.undrew hW); go_simp; first | done | rfl))
          | refine anyV_skip 0 (GrowsBut.pre _) rfl (by kernel_rfl) (by kernel_rfl) (by kernel_rfl) (by rfl) (fun K hK => ?_)
        go_simp
        refine hK _ ?_
        clear hK K
        first
          | (refine anyV_val 1 (GrowsBut.pre _) rfl (by kernel_rfl) (by kernel_rfl) (by kernel_rfl) (by rfl) (v := ?av2) (fun W hW => ?ay2) (fun K hK => ?ar2); case ay2 => (obtain ⟨q0, q1, q2, q3, q4⟩ := (show ∀ W', Wr (· = B7) (· = B7) w8 W' → _ from HXC) W (Wr.undrew hW); go_simp; first | done | rfl))
          | refine anyV_skip 1 (GrowsBut.pre _) rfl (by kernel_rfl) (by kernel_rfl) (by kernel_rfl) (by rfl) (fun K hK => ?_)
        go_simp
        refine hK _ ?_
        clear hK K
        first
          | (refine anyV_val 2 (GrowsBut.pre _) rfl (by kernel_rfl) (by kernel_rfl) (by kernel_rfl) (by rfl) (v := ?av3) (fun W hW => ?ay3) (fun K hK => ?ar3); case ay3 => (obtain ⟨q0, q1, q2, q3, q4⟩ := (show ∀ W', Wr (· = B7) (· = B7) w8 W' → _ from HXC) W (Wr.undrew hW); go_simp; first | done | rfl))
          | refine anyV_skip 2 (GrowsBut.pre _) rfl (by kernel_rfl) (by kernel_rfl) (by kernel_rfl) (by rfl) (fun K hK => ?_)
        go_simp
        refine hK _ ?_
        clear hK K
        refine anyV_val 3 (GrowsBut.pre _) rfl (by kernel_rfl) (by kernel_rfl) (by kernel_rfl) (by rfl) (v := (.slice sq (64 - o) (c7 - o))) (fun W hW => ?ay4) (fun K hK => ?ar4)
        case ay4 => (exact exec_slice 23 (.tmp 97) (some (.tmp 99)) none rfl (some ⟨B7, 0, none⟩) 64 c7 o 64 rfl (.inr ⟨_, rfl, rfl⟩) (.inl ⟨rfl, rfl⟩) (by kernel_rfl) (by kernel_rfl) ho64 (Nat.le_refl _) hB72 _ HSQ)
        go_simp
        refine hK _ ?_
        clear hK K
        first
          | (refine anyV_val 4 (GrowsBut.pre _) rfl (by kernel_rfl) (by kernel_rfl) (by kernel_rfl) (by rfl) (v := ?av5) (fun W hW => ?ay5) (fun K hK => ?ar5); case ay5 => (obtain ⟨q0, q1, q2, q3, q4⟩ := (show ∀ W', Wr (· = B7) (· = B7) w8 W' → _ from HXC) W (Wr.undrew hW); go_simp; first | done | rfl))
          | refine anyV_skip 4 (GrowsBut.pre _) rfl (by kernel_rfl) (by kernel_rfl) (by kernel_rfl) (by rfl) (fun K hK => ?_)
        go_simp
        refine hK _ ?_
        clear hK K
        first
          | (refine anyV_val 5 (GrowsBut.pre _) rfl (by kernel_rfl) (by kernel_rfl) (by kernel_rfl) (by rfl) (v := ?av6) (fun W hW => ?ay6) (fun K hK => ?ar6); case ay6 => (obtain ⟨q0, q1, q2, q3, q4⟩ := (show ∀ W', Wr (· = B7) (· = B7) w8 W' → _ from HXC) W (Wr.undrew hW); go_simp; first | done | rfl))
          | refine anyV_skip 5 (GrowsBut.pre _) rfl (by kernel_rfl) (by kernel_rfl) (by kernel_rfl) (by rfl) (fun K hK => ?_)
        go_simp
        refine hK _ ?_
        clear hK K
        refine anyV_only 6 rfl (by kernel_rfl) (by rfl) (fun K hK => ?_)
        refine upV_copy0 (.tmp 100) (.tmp 102) 23 rfl 5 Try.underlying23 infoB sq (64 - o) (c7 - o) rfl xa m xc rfl HM0 ?_
        refine hK _ _ ((GrowsBut.pre _).refl _) ?_
        clear hK K
        refine anyV_frame (fun K hK => ?_)
        go_simp
        refine hK _ ?_
        clear hK K
        refine anyV_done (by kernel_rfl) ?_
        have cv1 := OwnBytes.conv (show w8.drew.ownsRow _ _ _ _ P.length _ by rw [hP64]; exact oput)
        have cv2 := OwnBytes.conv (show w8.drew.ownsRow _ _ _ _ P.length _ by rw [hP64]; exact o8d)
        have bb9 : Below w6.heap.size w6 w8.drew := ⟨bb8.os, bb8.tape, bb8.output, bb8.size, bb8.block⟩
        clear oput o8d o7d hcur HXC HSQ HR8
        obtain ⟨W9, hW9⟩ : ∃ W9, W9 = w8.drew := ⟨_, rfl⟩
        rw [← hW9] at cv1 cv2 bb9 ⊢
        clear hW9
        go_wp2_with fail
        go_roundw
        case rel => exact ⟨j + 1, by go_num, by have := HB.2; omega, bb9⟩
        case measure => simp [intOf]; have := HB.2; omega
      · have hsm := hsqin (by omega) hB72
        rcases Row8.vals (show Row8 W.heap.size w8 (.slice xa m xc) xs from HR8) with ⟨h0, _⟩ | ⟨xb, xoff, rfl, hxv⟩
        · exact absurd h0 hm0
        have hxv' : ∀ j u, (xs.map (Value.int .u8))[j]? = some u → w8.drew.cell? ⟨xb, xoff + j, none⟩ = some u := fun j u hu => hxv j u hu
        have hone := u8_one xs
        have hml : (xs.map (Value.int .u8)).length = m := by rw [List.length_map]; exact hxl
        have hfit' : o + m ≤ cur.size := by omega
        obtain ⟨W9, hW9⟩ : ∃ W9, W9 = (w8.drew.setRow B7 (cur.toList.take o ++ xs.map (Value.int .u8) ++ cur.toList.drop (o + (xs.map (Value.int .u8)).length)).toArray) := ⟨_, rfl⟩
        have hw9 : Wr (· = B7) (· = B7) w8.drew W9 := by rw [hW9]; exact (Wr.refl (· = B7) w8.drew).setRow (.inl rfl) _
        rw [← hW9] at oput
        have HW9 := Lib.hid hW9
        clear hW9 hxv
        refine wp_region_anyV (GrowsBut (· = B7)) (by kernel_rfl) 7 rfl ?_
        first
          | (refine anyV_val 0 (GrowsBut.pre _) rfl (by kernel_rfl) (by kernel_rfl) (by kernel_rfl) (by rfl) (v := ?av7) (fun W hW => ?ay7) (fun K hK => ?ar7); case ay7 => (obtain ⟨q0, q1, q2, q3, q4⟩ := (show ∀ W', Wr (· = B7) (· = B7) w8 W' → _ from HXC) W (Wr.undrew hW); go_simp; first | done | rfl))
          | refine anyV_skip 0 (GrowsBut.pre _) rfl (by kernel_rfl) (by kernel_rfl) (by kernel_rfl) (by rfl) (fun K hK => ?_)
        go_simp
        refine hK _ ?_
        clear hK K
        first
          | (refine anyV_val 1 (GrowsBut.pre _) rfl (by kernel_rfl) (by kernel_rfl) (by kernel_rfl) (by rfl) (v := ?av8) (fun W hW => ?ay8) (fun K hK => ?ar8); case ay8 => (obtain ⟨q0, q1, q2, q3, q4⟩ := (show ∀ W', Wr (· = B7) (· = B7) w8 W' → _ from HXC) W (Wr.undrew hW); go_simp; first | done | rfl))
          | refine anyV_skip 1 (GrowsBut.pre _) rfl (by kernel_rfl) (by kernel_rfl) (by kernel_rfl) (by rfl) (fun K hK => ?_)
        go_simp
        refine hK _ ?_
        clear hK K
        first
          | (refine anyV_val 2 (GrowsBut.pre _) rfl (by kernel_rfl) (by kernel_rfl) (by kernel_rfl) (by rfl) (v := ?av9) (fun W hW => ?ay9) (fun K hK => ?ar9); case ay9 => (obtain ⟨q0, q1, q2, q3, q4⟩ := (show ∀ W', Wr (· = B7) (· = B7) w8 W' → _ from HXC) W (Wr.undrew hW); go_simp; first | done | rfl))
          | refine anyV_skip 2 (GrowsBut.pre _) rfl (by kernel_rfl) (by kernel_rfl) (by kernel_rfl) (by rfl) (fun K hK => ?_)
        go_simp
        refine hK _ ?_
        clear hK K
        refine anyV_val 3 (GrowsBut.pre _) rfl (by kernel_rfl) (by kernel_rfl) (by kernel_rfl) (by rfl) (v := (.slice (some ⟨B7, o, none⟩) (64 - o) (c7 - o))) (fun W hW => ?ay10) (fun K hK => ?ar10)
        case ay10 => (exact exec_slice 23 (.tmp 97) (some (.tmp 99)) none rfl (some ⟨B7, 0, none⟩) 64 c7 o 64 rfl (.inr ⟨_, rfl, rfl⟩) (.inl ⟨rfl, rfl⟩) (by kernel_rfl) (by kernel_rfl) ho64 (Nat.le_refl _) hB72 _ hsm)
        go_simp
        refine hK _ ?_
        clear hK K
        first
          | (refine anyV_val 4 (GrowsBut.pre _) rfl (by kernel_rfl) (by kernel_rfl) (by kernel_rfl) (by rfl) (v := ?av11) (fun W hW => ?ay11) (fun K hK => ?ar11); case ay11 => (obtain ⟨q0, q1, q2, q3, q4⟩ := (show ∀ W', Wr (· = B7) (· = B7) w8 W' → _ from HXC) W (Wr.undrew hW); go_simp; first | done | rfl))
          | refine anyV_skip 4 (GrowsBut.pre _) rfl (by kernel_rfl) (by kernel_rfl) (by kernel_rfl) (by rfl) (fun K hK => ?_)
        go_simp
        refine hK _ ?_
        clear hK K
        first
          | (refine anyV_val 5 (GrowsBut.pre _) rfl (by kernel_rfl) (by kernel_rfl) (by kernel_rfl) (by rfl) (v := ?av12) (fun W hW => ?ay12) (fun K hK => ?ar12); case ay12 => (obtain ⟨q0, q1, q2, q3, q4⟩ := (show ∀ W', Wr (· = B7) (· = B7) w8 W' → _ from HXC) W (Wr.undrew hW); go_simp; first | done | rfl))
          | refine anyV_skip 5 (GrowsBut.pre _) rfl (by kernel_rfl) (by kernel_rfl) (by kernel_rfl) (by rfl) (fun K hK => ?_)
        go_simp
        refine hK _ ?_
        clear hK K
        refine anyV_only 6 rfl (by kernel_rfl) (by rfl) (fun K hK => ?_)
        refine upV_copy (.tmp 100) (.tmp 102) 23 rfl 5 Try.underlying23 infoB B7 o (64 - o) (c7 - o) rfl cur 5 hcur xb xoff m xc (xs.map (Value.int .u8)) rfl hml hone hxv' (by omega) hfit' ?_
        rw [show w8.drew.setRow B7 _ = W9 from (show W9 = _ from HW9).symm]
        refine hK _ _ hw9 ?_
        clear hK K
        refine anyV_frame (fun K hK => ?_)
        go_simp
        refine hK _ ?_
        clear hK K
        refine anyV_done (by kernel_rfl) ?_
        have o8e : W9.ownsRow w7.heap.size 5 1 (.slice a8 64 c8) 64 (P.map (Value.int .u8)) := ownsRow_same o8d fun b hb => hw9.block b (o8d.lt b hb).2 (by have := (o8d.lt b hb).1; omega)
        have cv1 := OwnBytes.conv (show W9.ownsRow _ _ _ _ P.length _ by rw [hP64]; exact oput)
        have cv2 := OwnBytes.conv (show W9.ownsRow _ _ _ _ P.length _ by rw [hP64]; exact o8e)
        have bb9 : Below w6.heap.size w6 W9 := bb8.trans (below_of_wr (Wr.undrew hw9) (by omega) bb8.size)
        clear oput o8d o7d o8e hcur HXC HSQ HR8 HW9 hw9 hxv'
        go_wp2_with fail
        go_roundw
        case rel => exact ⟨j + 1, by go_num, by have := HB.2; omega, bb9⟩
        case measure => simp [intOf]; have := HB.2; omega
set_option maxRecDepth 100000 in
set_option maxHeartbeats 8000000 in
theorem apart_out (W : World) (a : Option Addr) (len cap : Nat) (os : List OpM) (h : IsOps W.heap.size W a len cap os) (x : OpM) (hx : IsOp W.heap.size W x) (hE : readE (growF 12 os) x.f x.o x.bs.length ≠ 0) :
    Calls Try.prog 5 #[.slice a len cap, .agg #[.int .i64 x.k, .int .i64 x.f, .int .i64 x.o, .int .i64 x.n, .slice x.a x.len x.cap]] W fun e W' => e = .returned (.bool true) ∧ Below W.heap.size W W' := by
  obtain ⟨W1, hW1⟩ : ∃ W1, W1 = W.alloc (.cells #[.int .i64 x.k, .int .i64 x.f, .int .i64 x.o, .int .i64 x.n, .slice x.a x.len x.cap] 25) := ⟨_, rfl⟩
  have bW1 : Below W.heap.size W W1 := by rw [hW1]; exact (Below.refl _ W).alloc (Nat.le_refl _) _
  have x1 : BoxO W1 W.heap.size x := by rw [hW1]; exact BoxO.new W x
  go_enter Try.func5, Try.ntmps5
  go_wp2_with (go_at_call 10; refine held ?_)
  unfold Held
  rw [← hW1]
  clear hW1
  refine (alive_any W1).mono ?_
  rintro e w2 ⟨rfl, b2⟩
  have x2 := x1.below b2
  have bW2 := bW1.trans (b2.mono bW1.size)
  have h2 := (h.below bW2).mono bW2.size
  clear bW1 b2 x1
  go_wp2_with (go_at_call 11; refine held ?_)
  unfold Held
  refine (great_any _ w2 a len cap os h2).mono ?_
  rintro e w3 ⟨rfl, ⟨rfl, hl1, hl2⟩ | rfl⟩
  rotate_left
  · go_wp2
    go_ret
    exact ⟨rfl, bW2⟩
  obtain ⟨c0, c1, c2, c3, c4⟩ := x2.cells
  have hrow := hx.row
  have hxl : x.bs.length = x.len := hrow.1.open.1
  by_cases hl100 : (x.len : Int) > 100
  · have t1 : decide ((x.len : Int) > 100) = true := decide_eq_true hl100
    go_wp2
    go_ret
    exact ⟨rfl, bW2⟩
  have t1 : decide ((x.len : Int) > 100) = false := decide_eq_false hl100
  have kg := grown_any w2 a len cap os h2 hl1 hl2
  go_wp2_with (go_at_call 12; refine held ?_)
  unfold Held
  refine kg.mono ?_
  rintro e w3 ⟨p, g, cp, rfl, hF, hg, hp, b3⟩
  have hGl := growF_len 12 os
  have hGm := growF_mem 12 os
  obtain ⟨fs, hfs⟩ : ∃ fs, fs = growF 12 os := ⟨_, rfl⟩
  rw [← hfs] at hF hGl hGm
  have x3 := x2.below b3
  have bW3 := bW2.trans (b3.mono bW2.size)
  have hgw : W.heap.size ≤ g := Nat.le_trans bW2.size hg
  have HR := Lib.hid hrow
  have h64 := hF.len
  clear kg h2 b3 x2 bW2 h hx hl1 hl2 c0 c1 c2 c3 c4 hg hp hrow
  have K1 := Lib.hid (copy_any p g cp fs w3 hF)
  go_wp2_with (go_at_call 20; refine held ?_)
  unfold Held
  refine Calls.mono K1 ?_
  rintro e w4 ⟨q, g', c', rfl, hq, hg', C4, b4⟩
  have F4 := hF.below b4
  have x4 := x3.below b4
  have B4 := bW3.trans (b4.mono bW3.size)
  have hqg : q ≠ g := by have := hF.ltg; omega
  have hgg : g' ≠ g := by have := hF.ltg; omega
  clear K1 b4 bW3 hq hg' hF x3
  obtain ⟨c0, c1, c2, c3, c4⟩ := x4.cells
  obtain ⟨xk, xf, xo, xn, xa, xl, xc, xs⟩ := x
  simp only at c0 c1 c2 c3 c4 hxl hl100 t1 HR hE ⊢
  rw [← hfs] at hE
  clear hfs
  have k2 := write_any p g cp fs xf xo xa xl xc xs w4.heap.size w4 F4 ((Row8.below HR B4).mono B4.size) (by omega)
  have e2 : writeF fs xf xo xs = fs := if_neg hE
  rw [e2] at k2
  have hEt : (readE fs xf xo xs.length == 0) = false := by simpa using hE
  obtain ⟨E, hEe⟩ : ∃ E, E = readE fs xf xo xs.length := ⟨_, rfl⟩
  rw [← hEe] at k2 hEt
  have K2 := Lib.hid k2
  have hu0 := usedF_len fs
  have hum := fun x => usedF_mem (fs := fs) (x := x)
  have ku := fun (W' : World) (hf : FrAt W' q g' c' fs) => used_any q g' c' fs W' hf
  obtain ⟨U, hU⟩ : ∃ U, U = usedF fs := ⟨_, rfl⟩
  rw [← hU] at ku hu0
  simp only [← hU] at hum
  have HU := Lib.hid hum
  have KU := Lib.hid ku
  have kr := fun (W' : World) (hf : FrAt W' q g' c' fs) => refs_any q g' c' fs xf W' hf
  have KR := Lib.hid kr
  have hways : (okF fs xf = false ∧ inF xo xl = true) ∨ inF xo xl = false := by
    cases h1 : inF xo xl with
    | false => exact .inr rfl
    | true =>
      refine .inl ⟨?_, rfl⟩
      cases h2 : okF fs xf with
      | false => rfl
      | true =>
        exfalso
        apply hE
        unfold readE
        rw [h2, if_pos rfl, hxl, h1, if_pos rfl]
  have hways2 : (okF fs xf = false ∧ decide (xo ≥ 0) = true ∧ decide (xo ≤ 64) = true ∧ decide ((xl : Int) ≤ 64 - xo) = true) ∨ (decide (xo ≥ 0) = false) ∨ (decide (xo ≥ 0) = true ∧ decide (xo ≤ 64) = false) ∨ (decide (xo ≥ 0) = true ∧ decide (xo ≤ 64) = true ∧ decide ((xl : Int) ≤ 64 - xo) = false) := by
    rcases hways with ⟨h1, h2⟩ | h2
    · obtain ⟨h3, h4, h5, h6⟩ := of_decide_eq_true h2
      exact .inl ⟨h1, decide_eq_true h3, decide_eq_true h5, decide_eq_true h6⟩
    · right
      by_cases h3 : xo ≥ 0
      · by_cases h4 : xo ≤ 64
        · exact .inr (.inr ⟨decide_eq_true h3, decide_eq_true h4, decide_eq_false fun h => (of_decide_eq_false h2) ⟨h3, by omega, h4, h⟩⟩)
        · exact .inr (.inl ⟨decide_eq_true h3, decide_eq_false h4⟩)
      · exact .inl (decide_eq_false h3)
  clear k2 e2 hE hEe hum ku hU kr hGm hways
  rcases hways2 with ⟨hok, u1, u2, u3⟩ | hbad
  · obtain ⟨o, rfl⟩ : ∃ o : Nat, xo = o := ⟨xo.toNat, by have := of_decide_eq_true u1; omega⟩
    have ho64 : o ≤ 64 := by have := of_decide_eq_true u2; omega
    have kr2 := fun (W' : World) (hf : FrAt W' q g' c' fs) => by
      have := (show ∀ W' (hf : FrAt W' q g' c' fs), _ from KR) W' hf
      rw [hok, if_neg (by decide)] at this
      exact this
    have KR2 := Lib.hid kr2
    have hne : ∀ (y : Nat) (hy : y < fs.length), fs[y].n ≠ 0 → ((y : Int) == xf) = false := fun y hy hn => by
      rw [beq_eq_false_iff_ne]
      rintro rfl
      rw [okF_at hy, decide_eq_true hn] at hok
      cases hok
    have HNE := Lib.hid hne
    clear kr2 KR hok hne
    go_wp2_with (go_at_call 18; refine held ?_)
    unfold Held
    refine Calls.mono K2 ?_
    rintro e w5 ⟨rfl, F5, hw5⟩
    have C5 := C4.other (p := p) (cap := cp) (fs := fs) hqg hgg hw5
    have x5 := x4.fr F4 hw5
    have B5 := B4.trans (below_of_wr hw5 hgw B4.size)
    clear K2 hw5 B4 C4 F4 x4 c0 c1 c2 c3 c4
    obtain ⟨c0, c1, c2, c3, c4⟩ := x5.cells
    go_wp2_with (go_at_call 21; refine held ?_)
    unfold Held
    refine Calls.mono ((show ∀ W' (hf : FrAt W' q g' c' fs), _ from KU) w5 C5) ?_
    rintro e w6 ⟨v6, rfl, o6, b6⟩
    have C6 := C5.below b6
    have F6 := F5.below b6
    have x6 := x5.below b6
    have B6 := B5.trans (b6.mono B5.size)
    obtain ⟨ua, uc, rfl, hop⟩ := own_open o6
    clear KU C5 F5 x5 B5 b6 c0 c1 c2 c3 c4
    go_wp2_with fail
    go_loopw [11, 12, 13, 14, 15, 63] (fun _ _ _ _ _ x wr => ∃ (j : Nat), x = .int .i64 (j : Int) ∧ j ≤ U.length ∧ Below w6.heap.size w6 wr) (fun _ _ _ _ _ x _ => U.length - (intOf x).toNat)
    case atStart => exact ⟨0, rfl, Nat.zero_le _, Below.refl _ _⟩
    case round =>
      obtain ⟨j, rfl, hj, hb⟩ := hrel
      have hCr := C6.below hb
      have hFr := F6.below hb
      have xr := x6.below hb
      have orr := row_below o6 hb
      have Br := B6.trans (hb.mono B6.size)
      obtain ⟨c0, c1, c2, c3, c4⟩ := xr.cells
      simp only at c0 c1 c2 c3 c4
      by_cases hlt : j < U.length
      rotate_left
      · have t6 : decide ((j : Int) < ((U.length : Nat) : Int)) = false := by simp; omega
        clear orr o6 C6 F6 x6 B6 hb hFr xr hop
        go_wp2_with (go_at_call 19; refine held ?_)
        unfold Held
        refine Calls.mono ((show ∀ W' (hf : FrAt W' q g' c' fs), _ from KR2) _ hCr) ?_
        rintro e w7 ⟨rfl, rfl⟩
        go_wp2
        go_ret
        exact ⟨rfl, Br⟩
      have t6 : decide ((j : Int) < ((U.length : Nat) : Int)) = true := by simp; omega
      obtain ⟨ub, rfl, hub, hcc, hcm⟩ := hop (by omega)
      simp only [maxLen] at hcm
      have d1 : wr.cell? ⟨ub, j, none⟩ = some (.int .i64 U[j]) := by
        rw [orr.cellAt j (by omega), List.getElem?_map, List.getElem?_eq_getElem hlt]; rfl
      obtain ⟨y, hy, he, hny⟩ := ((show ∀ x, x ∈ U ↔ _ from HU) U[j]).1 (List.getElem_mem hlt)
      rw [he] at d1
      have l1 := readL_all h64 hy hny
      have e1 := readE_of hy hny (show 0 + 64 ≤ 64 by omega)
      have k3 := fun (W' : World) (hf : FrAt W' q g' c' fs) => by
        have := read_any q g' c' fs y 0 64 W' hf
        rw [show readE fs y 0 64 = 0 from e1, l1] at this
        exact this
      have k4 := fun (W' : World) (hf : FrAt W' p g cp fs) => by
        have := read_any p g cp fs y 0 64 W' hf
        rw [show readE fs y 0 64 = 0 from e1, l1] at this
        exact this
      have ha64 := h64.at hy
      have t7 := (show ∀ (y : Nat) (hy : y < fs.length), fs[y].n ≠ 0 → _ from HNE) y hy hny
      obtain ⟨A, hA⟩ : ∃ A, A = fs[y].b := ⟨_, rfl⟩
      rw [← hA] at k3 k4 ha64
      rw [ha64] at k3 k4
      have K3 := Lib.hid k3
      have K4 := Lib.hid k4
      have HA64 := Lib.hid ha64
      have HB := Lib.hid (And.intro hb hj)
      clear k3 k4 l1 e1 hny hA he ha64 orr o6 C6 F6 x6 B6 hb hj hop
      go_wp2_with (go_at_call 13; refine held ?_)
      unfold Held
      refine Calls.mono ((show ∀ W' (hf : FrAt W' q g' c' fs), _ from K3) _ hCr) ?_
      rintro e w7 ⟨v7, rfl, o7, b7⟩
      have hF7 := hFr.below b7
      have x7 := xr.below b7
      have bb7 := Below.trans HB.1 (b7.mono (Below.size HB.1))
      obtain ⟨a7, c7, rfl, hop7⟩ := own_open o7
      clear K3 hFr xr hCr b7 c0 c1 c2 c3 c4 Br hop7
      go_wp2_with (go_at_call 13; refine held ?_)
      unfold Held
      refine Calls.mono ((show ∀ W' (hf : FrAt W' p g cp fs), _ from K4) _ hF7) ?_
      rintro e w8 ⟨v8, rfl, o8, b8⟩
      have x8 := x7.below b8
      have bb8 := bb7.trans (b8.mono bb7.size)
      have o7' := row_below o7 b8
      obtain ⟨a8, c8, rfl, _⟩ := own_open o8
      clear K4 hF7 x7 b8 o7 bb7
      obtain ⟨c0, c1, c2, c3, c4⟩ := x8.cells
      simp only at c0 c1 c2 c3 c4
      have cv1 := OwnBytes.conv (show w8.ownsRow _ _ _ _ A.length _ by rw [show A.length = 64 from HA64]; exact o7')
      have cv2 := OwnBytes.conv (show w8.ownsRow _ _ _ _ A.length _ by rw [show A.length = 64 from HA64]; exact o8)
      clear o7' o8 x8
      go_wp2_with fail
      go_roundw
      case rel => exact ⟨j + 1, by go_num, by have := HB.2; omega, bb8⟩
      case measure => simp [intOf]; have := HB.2; omega
  · rcases hbad with u1 | ⟨u1, u2⟩ | ⟨u1, u2, u3⟩
    rotate_left
    rotate_left
    obtain ⟨o, rfl⟩ : ∃ o : Nat, xo = o := ⟨xo.toNat, by have := of_decide_eq_true u1; omega⟩
    have ho64 : o ≤ 64 := by have := of_decide_eq_true u2; omega
    all_goals
      go_wp2_with (go_at_call 18; refine held ?_)
      unfold Held
      refine Calls.mono K2 ?_
      rintro e w5 ⟨rfl, F5, hw5⟩
      have C5 := C4.other (p := p) (cap := cp) (fs := fs) hqg hgg hw5
      have x5 := x4.fr F4 hw5
      have B5 := B4.trans (below_of_wr hw5 hgw B4.size)
      clear K2 hw5 B4 C4 F4 x4 c0 c1 c2 c3 c4
      obtain ⟨c0, c1, c2, c3, c4⟩ := x5.cells
      go_wp2_with (go_at_call 21; refine held ?_)
      unfold Held
      refine Calls.mono ((show ∀ W' (hf : FrAt W' q g' c' fs), _ from KU) w5 C5) ?_
      rintro e w6 ⟨v6, rfl, o6, b6⟩
      have C6 := C5.below b6
      have F6 := F5.below b6
      have x6 := x5.below b6
      have B6 := B5.trans (b6.mono B5.size)
      obtain ⟨ua, uc, rfl, hop⟩ := own_open o6
      clear KU C5 F5 x5 B5 b6 c0 c1 c2 c3 c4
      go_wp2_with fail
      go_loopw [11, 12, 13, 14, 15, 63] (fun _ _ _ _ _ x wr => ∃ (j : Nat), x = .int .i64 (j : Int) ∧ j ≤ U.length ∧ Below w6.heap.size w6 wr) (fun _ _ _ _ _ x _ => U.length - (intOf x).toNat)
      case atStart => exact ⟨0, rfl, Nat.zero_le _, Below.refl _ _⟩
      case round =>
        obtain ⟨j, rfl, hj, hb⟩ := hrel
        have hCr := C6.below hb
        have hFr := F6.below hb
        have xr := x6.below hb
        have orr := row_below o6 hb
        have Br := B6.trans (hb.mono B6.size)
        obtain ⟨c0, c1, c2, c3, c4⟩ := xr.cells
        simp only at c0 c1 c2 c3 c4
        by_cases hlt : j < U.length
        rotate_left
        · have t6 : decide ((j : Int) < ((U.length : Nat) : Int)) = false := by simp; omega
          clear orr o6 C6 F6 x6 B6 hb hFr xr hop
          go_wp2
          go_ret
          exact ⟨rfl, Br⟩
        have t6 : decide ((j : Int) < ((U.length : Nat) : Int)) = true := by simp; omega
        obtain ⟨ub, rfl, hub, hcc, hcm⟩ := hop (by omega)
        simp only [maxLen] at hcm
        have d1 : wr.cell? ⟨ub, j, none⟩ = some (.int .i64 U[j]) := by
          rw [orr.cellAt j (by omega), List.getElem?_map, List.getElem?_eq_getElem hlt]; rfl
        obtain ⟨y, hy, he, hny⟩ := ((show ∀ x, x ∈ U ↔ _ from HU) U[j]).1 (List.getElem_mem hlt)
        rw [he] at d1
        have l1 := readL_all h64 hy hny
        have e1 := readE_of hy hny (show 0 + 64 ≤ 64 by omega)
        have k3 := fun (W' : World) (hf : FrAt W' q g' c' fs) => by
          have := read_any q g' c' fs y 0 64 W' hf
          rw [show readE fs y 0 64 = 0 from e1, l1] at this
          exact this
        have k4 := fun (W' : World) (hf : FrAt W' p g cp fs) => by
          have := read_any p g cp fs y 0 64 W' hf
          rw [show readE fs y 0 64 = 0 from e1, l1] at this
          exact this
        have ha64 := h64.at hy
        obtain ⟨A, hA⟩ : ∃ A, A = fs[y].b := ⟨_, rfl⟩
        rw [← hA] at k3 k4 ha64
        rw [ha64] at k3 k4
        have K3 := Lib.hid k3
        have K4 := Lib.hid k4
        have HA64 := Lib.hid ha64
        have HB := Lib.hid (And.intro hb hj)
        clear k3 k4 l1 e1 hny hA he ha64 orr o6 C6 F6 x6 B6 hb hj hop
        go_wp2_with (go_at_call 13; refine held ?_)
        unfold Held
        refine Calls.mono ((show ∀ W' (hf : FrAt W' q g' c' fs), _ from K3) _ hCr) ?_
        rintro e w7 ⟨v7, rfl, o7, b7⟩
        have hF7 := hFr.below b7
        have x7 := xr.below b7
        have bb7 := Below.trans HB.1 (b7.mono (Below.size HB.1))
        obtain ⟨a7, c7, rfl, hop7⟩ := own_open o7
        clear K3 hFr xr hCr b7 c0 c1 c2 c3 c4 Br hop7
        go_wp2_with (go_at_call 13; refine held ?_)
        unfold Held
        refine Calls.mono ((show ∀ W' (hf : FrAt W' p g cp fs), _ from K4) _ hF7) ?_
        rintro e w8 ⟨v8, rfl, o8, b8⟩
        have x8 := x7.below b8
        have bb8 := bb7.trans (b8.mono bb7.size)
        have o7' := row_below o7 b8
        obtain ⟨a8, c8, rfl, _⟩ := own_open o8
        clear K4 hF7 x7 b8 o7 bb7
        obtain ⟨c0, c1, c2, c3, c4⟩ := x8.cells
        simp only at c0 c1 c2 c3 c4
        have cv1 := OwnBytes.conv (show w8.ownsRow _ _ _ _ A.length _ by rw [show A.length = 64 from HA64]; exact o7')
        have cv2 := OwnBytes.conv (show w8.ownsRow _ _ _ _ A.length _ by rw [show A.length = 64 from HA64]; exact o8)
        clear o7' o8 x8
        by_cases hyf : (y : Int) = xf
        · have t7 : ((y : Int) == xf) = true := by simpa using hyf
          clear hyf
          go_wp2_with fail
          go_roundw
          case rel => exact ⟨j + 1, by go_num, by have := HB.2; omega, bb8⟩
          case measure => simp [intOf]; have := HB.2; omega
        · have t7 : ((y : Int) == xf) = false := by simpa using hyf
          clear hyf
          go_wp2_with fail
          go_roundw
          case rel => exact ⟨j + 1, by go_num, by have := HB.2; omega, bb8⟩
          case measure => simp [intOf]; have := HB.2; omega
theorem framesApart_any (W : World) (a : Option Addr) (len cap : Nat) (os : List OpM) (h : IsOps W.heap.size W a len cap os) (x : OpM) (hx : IsOp W.heap.size W x) :
    Calls Try.prog 5 #[.slice a len cap, .agg #[.int .i64 x.k, .int .i64 x.f, .int .i64 x.o, .int .i64 x.n, .slice x.a x.len x.cap]] W fun e W' => e = .returned (.bool true) ∧ Below W.heap.size W W' := by
  by_cases hE : readE (growF 12 os) x.f x.o x.bs.length = 0
  · exact apart_in W a len cap os h x hx hE
  · exact apart_out W a len cap os h x hx hE
end Go.Proofs.Ytdacdfnfbknndaa
