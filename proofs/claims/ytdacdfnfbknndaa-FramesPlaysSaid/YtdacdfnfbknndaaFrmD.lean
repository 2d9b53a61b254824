/- The walks of used, Used, Free. -/
import Derived.Test.YtdacdfnfbknndaaFrmC
import Derived.Test.YtdacdfnfbknndaaAppendInt
import Derived.Test.YtdacdfnfbknndaaRowSlice
import Derived.Deep.WholeRow
import Derived.BigFrameIn
import Derived.BigRegionIn
import Derived.Lib.AppendZerosOnto
import Derived.Lib.Walk
import Derived.LoopIn
import Derived.LoopNIn
import Derived.Maps.OwnIn
import Derived.OwnWalkIn
import Derived.RangeFuncBox
import Derived.RangeFuncLeaves
import Derived.Shelf.Abstract
import Derived.TacticsInMore
namespace Go.Proofs.Ytdacdfnfbknndaa
open Go Go.RowKit Go.Shelf
attribute [local go_sem] Oper.semAt_some
set_option linter.unusedVariables false
set_option linter.unnecessarySimpa false
set_option linter.unusedSimpArgs false
theorem run_loadVar_at {P : Program} (w : World) (g off : Nat) (ty : TypeId) (cs : List Value) (d : TypeDesc) (hc : ∀ j v, cs[j]? = some v → w.cell? ⟨g, off + j, none⟩ = some v)
    (hu : P.underlying ty = some d) (hd : (match d with | .struct _ | .array _ _ => true | _ => false) = true) (hi : (P.info? ty).map (·.size) = some cs.length) :
    (loadVar ty ⟨g, off, none⟩).run P w = .ok (.agg cs.toArray) w := by
  have hl : (loadCells ⟨g, off, none⟩ cs.length).run P w = .ok cs.toArray w :=
    run_loadCells_list (P := P) w ⟨g, off, none⟩ cs (fun j v hv => by
      have hadd : (⟨g, off, none⟩ : Addr).add j = ⟨g, off + j, none⟩ := by unfold Addr.add; split <;> simp_all
      rw [hadd]; exact hc j v hv)
  cases hq : P.info? ty with
  | none => simp [hq] at hi
  | some i =>
    have hs : i.size = cs.length := by simpa [hq] using hi
    have hagg : (isAgg ty).run P w = .ok true w := by
      unfold isAgg
      rw [Sem.run_bind, run_underlying hu w]
      cases d <;> simp_all
    simp [loadVar, Sem.run_bind, hagg, sizeOf, typeInfo, hq, hs, hl]
section
variable {F : Fence} {nF : Nat} {P : Program} {ops : Array Oper} {Q : Exit → Act → World → Prop} {a : Act} {w : World} {rest : List Oper} {o : Oper}
theorem wpListIn_load_at (hgd : o.guard = none) (ty : TypeId) (x : Operand) (ho : o.op = .load ty x)
    (g off : Nat) (hx : a.eval x = .pointer (some ⟨g, off, none⟩)) (cs : List Value) (d : TypeDesc) (hc : ∀ j v, cs[j]? = some v → w.cell? ⟨g, off + j, none⟩ = some v)
    (hu : P.underlying ty = some d) (hd : (match d with | .struct _ | .array _ _ => true | _ => false) = true) (hi : (P.info? ty).map (·.size) = some cs.length)
    (h : wpListIn F nF P ops Q rest (a.put o.dst (.agg cs.toArray)) w) : wpListIn F nF P ops Q (o :: rest) a w := by
  refine wpListIn_plain hgd fun K hK => ?_
  unfold Oper.wpIn
  refine ⟨by simp [Oper.about, ho], ?_⟩
  rw [Oper.semAt_plain F _ _ (by rw [ho]; intro c hc'; cases hc')]
  simp only [execOp, ho, hx, Instr.loadAt, Instr.sureAddr, Sem.run_bind, Sem.run_pure, Result.andThen_ok, run_loadVar_at w g off ty cs d hc hu hd hi]
  exact hK _ _ h
theorem wpListIn_store_row (hgd : o.guard = none) (ty : TypeId) (x y : Operand) (ho : o.op = .store ty x y)
    (g : Nat) (cells : Array Value) (hx : a.eval x = .pointer (some ⟨g, 0, none⟩)) (hy : a.eval y = .agg cells)
    (t : TypeId) (old : Array Value) (hg : w.heap[g]? = some (.cells old t (0, 0))) (hi : (P.info? ty).map (·.size) = some cells.size)
    (hold : old.size = cells.size) (h1 : cells.all (·.oneCell') = true)
    (h : wpListIn F nF P ops Q rest (a.put o.dst undef) (w.setRow g cells)) : wpListIn F nF P ops Q (o :: rest) a w := by
  refine wpListIn_plain hgd fun K hK => ?_
  unfold Oper.wpIn
  refine ⟨by simp [Oper.about, ho], ?_⟩
  rw [Oper.semAt_plain F _ _ (by rw [ho]; intro c hc'; cases hc')]
  simp only [execOp, ho, hx, hy, Instr.storeAt, Instr.sureAddr, Sem.run_bind, Sem.run_pure, Result.andThen_ok, run_storeVar_row w g t ty old cells hg hi hold h1]
  exact hK _ _ h
theorem at_loadIn {t : TypeId} {x : Operand} (ho : o.op = .load t x) (h : Held (wpListIn F nF P ops Q (o :: rest) a w)) : wpListIn F nF P ops Q (o :: rest) a w := h
theorem at_storeIn {t : TypeId} {x y : Operand} (ho : o.op = .store t x y) (h : Held (wpListIn F nF P ops Q (o :: rest) a w)) : wpListIn F nF P ops Q (o :: rest) a w := h
end
/-- those that are taken, up to the j-th -/
def usedTo (fs : List Fr) (j : Nat) : List Int := ((List.range j).filter (fun i : Nat => decide ((frAt fs (i : Int)).n ≠ 0))).map Int.ofNat
def usedF (fs : List Fr) : List Int := usedTo fs fs.length
theorem usedTo_succ (fs : List Fr) (j : Nat) : usedTo fs (j + 1) = usedTo fs j ++ (if (frAt fs j).n ≠ 0 then [(j : Int)] else []) := by
  unfold usedTo
  rw [List.range_succ, List.filter_append, List.map_append]
  congr 1
  by_cases h : (frAt fs j).n ≠ 0
  · rw [if_pos h]; simp [h]
  · rw [if_neg h]; simp [h]
theorem usedTo_len (fs : List Fr) (j : Nat) : (usedTo fs j).length ≤ j := by
  unfold usedTo
  rw [List.length_map]
  exact Nat.le_trans (List.length_filter_le _ _) (by rw [List.length_range]; exact Nat.le_refl _)
theorem usedTo_pre (fs : List Fr) (j m : Nat) (h : j ≤ m) : ∃ r, usedTo fs m = usedTo fs j ++ r := by
  induction m with
  | zero => exact ⟨[], by rw [show j = 0 by omega]; simp⟩
  | succ m ih =>
    by_cases hj : j = m + 1
    · exact ⟨[], by rw [hj]; simp⟩
    · obtain ⟨r, hr⟩ := ih (by omega)
      exact ⟨r ++ _, by rw [usedTo_succ, hr, List.append_assoc]⟩
theorem usedTo_at (fs : List Fr) (j : Nat) (h : j < fs.length) (hn : fs[j].n ≠ 0) : ∃ hl : (usedTo fs j).length < (usedF fs).length, (usedF fs)[(usedTo fs j).length] = (j : Int) := by
  obtain ⟨r, hr⟩ := usedTo_pre fs (j + 1) fs.length h
  rw [usedTo_succ, frAt_at h, if_pos hn] at hr
  have hr' : usedF fs = usedTo fs j ++ ([(j : Int)] ++ r) := by rw [← List.append_assoc]; exact hr
  have hl : (usedTo fs j).length < (usedF fs).length := by rw [hr']; simp
  refine ⟨hl, ?_⟩
  have : (usedF fs)[(usedTo fs j).length]? = some (j : Int) := by
    rw [hr', List.getElem?_append_right (Nat.le_refl _), Nat.sub_self]; rfl
  rw [List.getElem?_eq_getElem hl] at this
  injection this
set_option maxRecDepth 100000 in
set_option maxHeartbeats 4000000 in
theorem used1_iter (B1 p g cap : Nat) (fs : List Fr) (w : World) (h1 : B1 < w.heap.size) (c1 : w.cell? ⟨B1, 0, none⟩ = some (.pointer (some ⟨p, 0, none⟩))) (hf : FrAt w p g cap fs) :
    Iter Try.prog 43 #[.pointer (some ⟨B1, 0, none⟩)] (fun x : Int => #[.int .i64 x]) (fun b => b = B1 ∨ b = p ∨ b = g) (usedF fs) w := by
  intro l J Jx S0 W hW hJ hJx hlt hX hY h0
  have C1 : W.cell? ⟨B1, 0, none⟩ = some (.pointer (some ⟨p, 0, none⟩)) := (hW.cell (p := ⟨B1, 0, none⟩) h1).trans c1
  have hF : FrAt W p g cap fs := hf.below hW
  have hWs := hW.size
  have x1 : ¬ S0 B1 := hX _ (.inl rfl)
  have xp : ¬ S0 p := hX _ (.inr (.inl rfl))
  have xg : ¬ S0 g := hX _ (.inr (.inr rfl))
  have lp := hF.ltp
  have lg := hF.ltg
  have cp := hF.c0
  have hsm := hF.sm
  obtain ⟨hcl, hcm⟩ := hF.caps
  simp only [maxLen] at hcm
  have hz := zeroFr
  obtain ⟨Z, hZ⟩ : ∃ Z, Z = (encF ⟨zeros, 0⟩).toArray := ⟨_, rfl⟩
  have hZl : Z.size = 65 := by rw [hZ]; rfl
  rw [← hZ] at hz
  clear hZ
  refine (callsIn_wide (n := 101)).1 ?_
  refine callsIn_of_wp Try.func43 rfl trivial ?_ rfl
  simp only [Try.ntmps43, List.size_toArray, List.length_cons, List.length_nil, Nat.reduceAdd, Nat.reduceSub, Array.replicate_succ, Array.replicate_zero, List.push_toArray, List.append_toArray, List.nil_append, List.cons_append]
  refine wideScope ?_
  gi_wp2
  refine wpIn_label ?_
  gi_wp2
  gi_loopw [3, 4, 12] (fun _ _ i wr => ∃ (j : Nat) (S : Nat → Prop), i = .int .i64 (j : Int) ∧ j ≤ fs.length ∧ J (usedTo fs j).length S wr ∧ Wr S0 S W wr) (fun _ _ i _ => fs.length - (intOf i).toNat)
  case atStart => exact ⟨0, S0, rfl, Nat.zero_le _, h0, Wr.refl _ _⟩
  case round =>
    obtain ⟨j, S, rfl, hj, hJs, hw⟩ := hrel
    by_cases hlj : j < fs.length
    · have t1 : decide ((j : Int) < ((fs.length : Nat) : Int)) = true := by simp; omega
      have hws := hw.size
      have hFr : FrAt wr p g cap fs := hF.same (hw.block p lp xp) (hw.block g lg xg)
      have hcs := hFr.cells j hlj
      have h64 := hFr.len.at hlj
      obtain ⟨X, hX'⟩ : ∃ X, X = fs[j] := ⟨_, rfl⟩
      rw [← hX'] at hcs h64
      have HX := Lib.hid hX'
      have HC := Lib.hid hcs
      have htk := usedTo_succ fs j
      rw [frAt_at hlj, ← hX'] at htk
      have hat := fun hn => usedTo_at fs j hlj hn
      rw [← hX'] at hat
      clear hX' hcs hFr
      gi_wp2_with ((fail_if_success (unfold Held)); refine at_loadIn (t := 67) rfl ?_)
      unfold Held
      refine wpListIn_load_at rfl 67 (.tmp 15) rfl g (j * 65) rfl (encF X) _ HC Try.underlying67 rfl (infoFr.trans (by rw [encF_len h64])) ?_
      have c64 : (wr.alloc (.cells (encF X).toArray 67)).cell? ⟨wr.heap.size, 64, none⟩ = some (.int .i64 X.n) := by
        rw [cell_of_row _ _ _ _ _ _ (World.alloc_heap_new _ _)]
        have := encF_count h64
        simpa using this
      have hEl : (encF X).toArray.size = 65 := by rw [List.size_toArray]; exact encF_len h64
      have hEo := encF_one X
      obtain ⟨E, hE⟩ : ∃ E, E = (encF X).toArray := ⟨_, rfl⟩
      rw [← hE] at c64 hEl hEo ⊢
      clear hE HC
      gi_wp2_with ((fail_if_success (unfold Held)); refine at_storeIn (t := 67) rfl ?_)
      unfold Held
      refine wpListIn_store_row rfl 67 (.tmp 4) (.tmp 16) rfl wr.heap.size E rfl rfl 67 Z (World.alloc_heap_new _ _) (infoFr.trans (by rw [hEl])) (by rw [hZl, hEl]) hEo ?_
      rw [World.setRow_alloc_new]
      obtain ⟨O, hO⟩ : ∃ O, O = Obj.cells E 67 := ⟨_, rfl⟩
      have sS : SameOn (fun b => b < W.heap.size ∨ S b) wr (wr.alloc O) := ⟨rfl, rfl, rfl, by simp, fun b hb => Below.heap_alloc _ _ _ (hb.elim (fun h => by omega) (fun h => hlt _ _ _ hJs b h))⟩
      have hJz := hJ _ _ _ _ hJs sS
      have hwz : Wr S0 S W (wr.alloc O) := hw.alloc O
      rw [← hO] at c64 ⊢
      obtain ⟨V, hV⟩ : ∃ V, V = wr.alloc O := ⟨_, rfl⟩
      rw [← hV] at c64 hJz hwz ⊢
      clear hz hZl hEl hEo hO sS hV hJs hw
      by_cases hn : X.n = 0
      · have t2 : (X.n == 0) = true := by simpa using hn
        rw [if_neg (fun h => h hn), List.append_nil] at htk
        have HT := Lib.hid htk
        clear hn htk hat
        gi_wp2
        go_roundw
        case rel => exact ⟨j + 1, S, rfl, by omega, by rw [show usedTo fs (j + 1) = usedTo fs j from HT]; exact hJz, hwz⟩
        case measure => simp [intOf]; omega
      · have t2 : (X.n == 0) = false := by simpa using hn
        rw [if_pos hn] at htk
        obtain ⟨hc1, hc2⟩ := hat hn
        have hlen : (usedTo fs (j + 1)).length = (usedTo fs j).length + 1 := by rw [htk]; simp
        obtain ⟨c, hc⟩ : ∃ c, c = (usedTo fs j).length := ⟨_, rfl⟩
        obtain ⟨fn, tmps, assign, body, hy, hR⟩ := hY _ hc1 S _ hJz
        rw [hc2] at hy
        rw [← hc] at hR hlen
        have hc3 : c + 1 ≤ (usedF fs).length := by rw [hc]; exact hc1
        have HL := Lib.hid hlen
        clear hc2 hc1 htk hlen hat hn hJz
        gi_wp2
        refine hR.mono ?_
        rintro e W3 (⟨rfl, S', hJ3, hw3⟩ | ⟨rfl, S', hJx3, hw3⟩)
        · have hw' := hwz.trans hw3
          clear hy hR hc
          gi_wp2
          go_roundw
          case rel => exact ⟨j + 1, S', rfl, by omega, by rw [show (usedTo fs (j + 1)).length = c + 1 from HL]; exact hJ3, hw'⟩
          case measure => simp [intOf]; omega
        · clear hy hR hc
          gi_wp2
          simp only [Exit.noGoto]
          refine bodyPost_ret (results_none rfl _ _ _) rfl ?_
          exact ⟨⟨_, rfl⟩, .inr ⟨c + 1, S', hc3, hJx3⟩⟩
    · have t1 : decide ((j : Int) < ((fs.length : Nat) : Int)) = false := by simp; omega
      obtain rfl : j = fs.length := by omega
      gi_wp2
      simp only [Exit.noGoto]
      go_end0
      exact ⟨⟨_, rfl⟩, .inl ⟨S, hJs⟩⟩
set_option maxHeartbeats 1000000 in
theorem used_in (F : Fence) (n : Nat) (hF : F.fn 40) (hro : F.round = none) (p : Option Addr) (w : World) :
    CallsIn F n Try.prog 40 #[.pointer p] w fun e w' =>
      e = .returned (.func (.func 43) #[] #[.pointer (some ⟨w.heap.size, 0, none⟩)]) ∧ w' = w.alloc (.cells #[.pointer p] 28) := by
  refine callsIn_of_wp Try.func40 rfl hF ?_ hro
  simp only [Try.ntmps40, List.size_toArray, List.length_cons, List.length_nil, Nat.reduceAdd, Nat.reduceSub, Array.replicate_succ, Array.replicate_zero, List.push_toArray, List.append_toArray, List.nil_append, List.cons_append]
  gi_wp2
  go_ret
  exact ⟨by simp, rfl⟩
theorem info_i64 : (Try.prog.info? 3).map (fun i => (i.zero, i.size, i.bytes)) = some (some (.int .i64 0), 1, 8) := by kernel_rfl
/-- used() of the memory at pt hands out these, one by one -/
def Handed (w : World) (pt : Option Addr) (K : List Int) (Y : Nat → Prop) : Prop :=
  (∀ b, Y b → b < w.heap.size) ∧ ∀ (B1 : Nat) (W' : World), Below w.heap.size w W' → B1 < W'.heap.size → W'.cell? ⟨B1, 0, none⟩ = some (.pointer pt) →
    Iter Try.prog 43 #[.pointer (some ⟨B1, 0, none⟩)] (fun x : Int => #[.int .i64 x]) (fun b => b = B1 ∨ Y b) K W'
theorem handed_fr {w : World} {p g cap : Nat} {fs : List Fr} (h : FrAt w p g cap fs) : Handed w (some ⟨p, 0, none⟩) (usedF fs) (fun b => b = p ∨ b = g) :=
  ⟨fun b hb => hb.elim (fun e => by subst e; exact h.ltp) (fun e => by subst e; exact h.ltg), fun B1 W' hb h1 c1 => used1_iter B1 p g cap fs W' h1 c1 (h.below hb)⟩
set_option maxRecDepth 100000 in
set_option maxHeartbeats 4000000 in
theorem Used_gen (pt : Option Addr) (w : World) (K : List Int) (Y : Nat → Prop) (hit : Handed w pt K Y) (hKl : K.length ≤ 1000000) :
    Calls Try.prog 21 #[.pointer pt] w fun e w' => ∃ v, e = .returned v ∧ w'.ownsRow w.heap.size 3 1 v K.length (K.map (Value.int .i64)) ∧ Below w.heap.size w w' := by
  obtain ⟨i0, hi, hz0, hz1, hz2⟩ := info_parts info_i64
  refine (callsIn_wide (n := 102)).1 ?_
  refine callsIn_of_wp_marks Try.func21 rfl trivial ?_ rfl
  simp only [Try.ntmps21, List.size_toArray, List.length_cons, List.length_nil, Nat.reduceAdd, Nat.reduceSub, Array.replicate_succ, Array.replicate_zero, List.push_toArray, List.append_toArray, List.nil_append, List.cons_append]
  have hch : Fence.wide.fn 40 := trivial
  gi_wp2_with (gi_at_call 40; refine (used_in Fence.wide _ trivial rfl _ _).mono ?_; rintro e w' ⟨rfl, rfl⟩)
  obtain ⟨W3, hW3⟩ : ∃ W3, W3 = (w.alloc (.cells #[.slice none 0 0] 46)).alloc (.cells #[.pointer pt] 28) := ⟨_, rfl⟩
  have sz : W3.heap.size = w.heap.size + 2 := by rw [hW3]; simp
  have bW : Below w.heap.size w W3 := by rw [hW3]; exact ((Below.refl _ w).alloc (Nat.le_refl _) _).alloc (by simp) _
  have bO : Boxed W3 w.heap.size 46 (.slice none 0 0) := by
    rw [hW3]
    exact (Boxed.new w 46 (.slice none 0 0)).alloc _
  have bS : Boxed W3 (w.heap.size + 1) 28 (.pointer pt) := by
    rw [hW3]
    have := Boxed.new (w.alloc (.cells #[.slice none 0 0] 46)) 28 (.pointer pt)
    rwa [World.size_alloc] at this
  obtain ⟨hYl, hit⟩ := hit
  have hit := hit (w.heap.size + 1) W3 bW (by omega) bS.cell
  rw [← hW3]
  clear hW3
  refine range_law (gf := 43) rfl (enters_of Try.func43 (by kernel_rfl) rfl)
    hit (fun _ => rfl)
    (fun n S A => ∃ v, S = (fun b => b = w.heap.size ∨ v.ownBlock = some b) ∧ Boxed A w.heap.size 46 v ∧ A.ownsRow w.heap.size 3 1 v n ((K.take n).map (Value.int .i64)) ∧ Below w.heap.size w A)
    (fun c n S A => False)
    (fun b => b = w.heap.size) ?hX ?hI ?hIx ?hlt ?h0
    (fun x => { tmps := #[.pointer pt, undef, .slice none 0 0, .pointer (some ⟨w.heap.size, 0, none⟩), .int .i64 x, .pointer pt, .func (.func 43) #[] #[.pointer (some ⟨w.heap.size + 1, 0, none⟩)], .int .i64 x, undef, undef, undef, undef, undef], defers := [] }) ?assign ?body ?done ?stop
  case hX =>
    rintro b (rfl | hb)
    · exact ⟨by omega, fun h => by omega⟩
    · have := hYl b hb
      exact ⟨by omega, fun h => by omega⟩
  case hI =>
    rintro n S A A' ⟨v, rfl, h1, h3, h6⟩ hs
    exact ⟨v, rfl, (hs.block _ (.inr (.inl rfl))).trans h1, ownsRow_same h3 (fun b hb => hs.block b (.inr (.inr hb))), h6.trans (hs.below (fun b hb => .inl (by omega)))⟩
  case hIx =>
    rintro c n S A A' h
    exact h.elim
  case hlt =>
    rintro n S A ⟨v, rfl, h1, h3, h6⟩ b (rfl | hb)
    · exact h1.lt
    · exact (h3.lt b hb).2
  case h0 =>
    refine ⟨.slice none 0 0, ?_, bO, World.ownsRow_nil _ _ _ _, bW⟩
    funext b; simp [Value.ownBlock]
  case assign =>
    intro l' x A K' hK'
    gi_wp2
    exact hK'
  case body =>
    rintro l' n hn S A ⟨v, rfl, h1, h3, h6⟩
    obtain ⟨x, hx⟩ : ∃ x, x = K[n] := ⟨_, rfl⟩
    rw [← hx]
    have c1 := h1.cell
    have hsA := h6.size
    have hcn : ∀ j u, [Value.int .i64 x][j]? = some u → (A.alloc (.cells #[.int .i64 x] 3)).cell? ((⟨A.heap.size, 0, none⟩ : Addr).add j) = some u := cell_one_new _ _ _
    have HX := Lib.hid hx
    have HN := Lib.hid hcn
    clear hx hcn
    gi_wp2_with (gi_at_builtin; refine held ?_)
    unfold Held
    refine wpListIn_append_own_at _ rfl _ _ 46 rfl w.heap.size 3 i0 (.int .i64 0) 1 8 Try.underlying46 hi hz0 hz1 hz2 rfl (by decide) v n _ rfl (h3.alloc _) ⟨A.heap.size, 0, none⟩ 1 1 [.int .i64 x] rfl rfl HN (by simp [Value.oneCell']) (by simp only [maxLen]; omega) (by omega) (by rw [World.size_alloc]; omega) ?_
    intro v' w1 hown' hgrow hnil hv
    obtain ⟨g', cap', rfl⟩ := ownsRow_succ hown'
    obtain ⟨hv1, hv2, hr2, hk2, hb2⟩ := h1.appended (by decide) h3 hsA (by omega) hown' hgrow
    have hc1 := hv1.cell
    have hf1 := hv1.frozen
    gi_wp2
    have hx : x = K[n] := HX
    refine ⟨fun b => b = w.heap.size ∨ (Value.slice (some ⟨g', 0, none⟩) (n + 1) cap').ownBlock = some b, ⟨_, rfl, hv2, ?_, h6.trans hb2⟩, ?_⟩
    · rw [List.take_succ_eq_append_getElem hn, List.map_append, ← hx]; exact hr2
    · refine ((((Wr.refl (fun b => b = w.heap.size ∨ v.ownBlock = some b) A).alloc (.cells #[.int .i64 x] 3)).grown hgrow (fun b hb => .inl (.inr hb))).setCell (p := ⟨w.heap.size, 0, none⟩) (.inl (.inl rfl)) _).to ?_
      rintro b (rfl | hb)
      · exact .inl (.inl rfl)
      · rcases hv with hv | hv
        · exact .inl (.inr (by rw [← hv]; exact hb))
        · rw [hv, World.size_alloc] at hb
          injection hb with hb
          exact .inr (by omega)
  case done =>
    rintro D S A hD hS ⟨v, rfl, h1, h3, h7⟩ hK
    rw [List.take_length] at h3
    have c2 := h1.cell
    gi_wp2
    refine ⟨by simp, .inl ⟨_, _, rfl, run_takeDeferred hK, ?_⟩⟩
    refine ⟨v, by simp [results, Try.results21, go_sem], ⟨v, rfl, ?_, h7.trans (SameOn.below (SameOn.putObj (p := fun b => b < w.heap.size) _ _ _ (by show ¬ D < w.heap.size; omega)) (fun b hb => hb))⟩⟩
    exact ownsRow_same h3 fun b hb => World.putObj_heap_other (fun e => hS (by subst e; exact .inr hb))
  case stop =>
    rintro D c n S A hD hS hk h
    exact h.elim
theorem usedF_len (fs : List Fr) : (usedF fs).length ≤ fs.length := usedTo_len fs _
theorem used_any (p g cap : Nat) (fs : List Fr) (w : World) (h : FrAt w p g cap fs) :
    Calls Try.prog 21 #[.pointer (some ⟨p, 0, none⟩)] w fun e w' => ∃ v, e = .returned v ∧ w'.ownsRow w.heap.size 3 1 v (usedF fs).length ((usedF fs).map (Value.int .i64)) ∧ Below w.heap.size w w' :=
  Used_gen _ w _ _ (handed_fr h) (by have := usedF_len fs; have := h.sm; omega)
theorem sl_own {W : World} {base : Nat} {e : TypeId} {sz : Nat} {u : Value} {n : Nat} {xs : List Value} (h : W.ownsRow base e sz u n xs) : ∃ a cap, u = .slice a n cap := by
  rcases h.2 with ⟨h1, h2⟩ | ⟨g, cap, cur, h1, _⟩
  · exact ⟨none, 0, by rw [h1, h2]⟩
  · exact ⟨_, cap, h1⟩
set_option maxHeartbeats 1000000 in
theorem free_any (p g cap : Nat) (fs : List Fr) (w : World) (h : FrAt w p g cap fs) :
    Calls Try.prog 22 #[.pointer (some ⟨p, 0, none⟩)] w fun e w' => e = .returned (.int .i64 ((fs.length : Int) - ((usedF fs).length : Int))) ∧ Below w.heap.size w w' := by
  have K1 := Lib.hid (len_any p g cap fs w h)
  have K2 := Lib.hid (used_any p g cap fs w h)
  have hsm := h.sm
  have hul := usedF_len fs
  obtain ⟨U, hU⟩ : ∃ U, U = usedF fs := ⟨_, rfl⟩
  rw [← hU] at K2 hul ⊢
  clear h hU
  go_enter Try.func22, Try.ntmps22
  go_wp2_with (go_at_call 27; refine held ?_)
  unfold Held
  refine Calls.mono K1 ?_
  rintro e w2 ⟨rfl, rfl⟩
  go_wp2_with (go_at_call 21; refine held ?_)
  unfold Held
  refine Calls.mono K2 ?_
  rintro e w3 ⟨v, rfl, ho, hb⟩
  obtain ⟨a, c, rfl⟩ := sl_own ho
  clear ho K1 K2
  go_wp2
  go_ret
  exact ⟨rfl, hb⟩
end Go.Proofs.Ytdacdfnfbknndaa
