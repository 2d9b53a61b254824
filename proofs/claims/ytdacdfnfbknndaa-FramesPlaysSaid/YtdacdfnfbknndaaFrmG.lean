/- The walk of Double. -/
import Derived.Test.YtdacdfnfbknndaaFrmF
namespace Go.Proofs.Ytdacdfnfbknndaa
open Go Go.RowKit
attribute [local go_sem] upV_value upV_skip upV_enter
set_option linter.unusedVariables false
set_option linter.unnecessarySimpa false
set_option linter.unusedSimpArgs false
section
variable {P : Program} {o : Oper} {a : Act} {w : World}
theorem exec_load_at (ty : TypeId) (x : Operand) (ho : o.op = .load ty x) (g off : Nat) (hx : a.eval x = .pointer (some ⟨g, off, none⟩)) (cs : List Value) (d : TypeDesc) (hc : ∀ j v, cs[j]? = some v → w.cell? ⟨g, off + j, none⟩ = some v)
    (hu : P.underlying ty = some d) (hd : (match d with | .struct _ | .array _ _ => true | _ => false) = true) (hi : (P.info? ty).map (·.size) = some cs.length) :
    (execOp a.eval o).run P w = .ok (.value (.agg cs.toArray)) w := by
  unfold execOp
  simp only [ho, hx, Instr.loadAt, Instr.sureAddr, Sem.run_bind, Sem.run_pure, Result.andThen_ok, run_loadVar_at w g off ty cs d hc hu hd hi]
theorem upV_store_at {K : Value → World → Prop} (ty : TypeId) (x y : Operand) (ho : o.op = .store ty x y)
    (g off : Nat) (cells : Array Value) (hx : a.eval x = .pointer (some ⟨g, off, none⟩)) (hy : a.eval y = .agg cells)
    (t : TypeId) (cur : Array Value) (hg : w.heap[g]? = some (.cells cur t (0, 0))) (hi : (P.info? ty).map (·.size) = some cells.size)
    (hfit : off + cells.size ≤ cur.size) (h1 : cells.all (·.oneCell') = true)
    (h : K undef (w.setRow g (cur.toList.take off ++ cells.toList ++ cur.toList.drop (off + cells.size)).toArray)) : upV P K ((execOp a.eval o).run P w) := by
  have hs := run_storeCells_at (P := P) g off t cells.toList 0 cur w hg (by simpa using hfit) (fun v hv => (Array.all_eq_true_iff_forall_mem.1 h1) v (by simpa using hv))
  have hv : (storeVar ty ⟨g, off, none⟩ (.agg cells)).run P w = .ok () (w.setRow g (cur.toList.take off ++ cells.toList ++ cur.toList.drop (off + cells.size)).toArray) := by
    cases hq : P.info? ty with
    | none => simp [hq] at hi
    | some i =>
      have hs2 : cells.size = i.size := by simp [hq] at hi; omega
      simp only [Nat.add_zero, Array.length_toList] at hs
      simp [storeVar, sizeOf, typeInfo, hq, Value.cells, hs2]
      rw [hs2] at hs
      simpa using hs
  unfold execOp
  simp only [ho, hx, hy, Instr.storeAt, Instr.sureAddr, Sem.run_bind, Sem.run_pure, Result.andThen_ok, hv]
  exact h
end
def dblL (fs : List Fr) (k : Int) : List Fr := if okF fs k then (match takeF fs with | none => fs | some n => fs.set n ⟨(frAt fs k).b, 1⟩) else fs
def dblV (fs : List Fr) (k : Int) : Int := if okF fs k then takeV fs else 0
def dblE (fs : List Fr) (k : Int) : Int := if okF fs k then takeE fs else 41
theorem encF_drop64 {x : Fr} (h : x.b.length = 64) : (encF x).drop 64 = [.int .i64 x.n] := by
  unfold encF
  rw [List.drop_append_of_le_length (by rw [List.length_map]; omega), List.drop_eq_nil_of_le (by rw [List.length_map]; omega), List.nil_append]
theorem infoP : (Try.prog.info? 65).map (·.size) = some 64 := by kernel_rfl
set_option maxRecDepth 100000 in
set_option maxHeartbeats 4000000 in
theorem double_any (p g cap : Nat) (fs : List Fr) (k : Int) (W : World) (h : FrAt W p g cap fs) :
    Calls Try.prog 17 #[.pointer (some ⟨p, 0, none⟩), .int .i64 k] W fun e W' => e = .returned (.tuple #[.int .i64 (dblV fs k), .int .i64 (dblE fs k)]) ∧ FrAt W' p g cap (dblL fs k) ∧ Wr (· = g) (· = g) W W' := by
  have km := may_any p g cap fs k W h
  cases hk : okF fs k with
  | false =>
    rw [hk] at km
    have K := Lib.hid km
    have e1 : dblV fs k = 0 ∧ dblE fs k = 41 ∧ dblL fs k = fs := by unfold dblV dblE dblL; rw [hk]; exact ⟨rfl, rfl, rfl⟩
    rw [e1.1, e1.2.1, e1.2.2]
    have HF := h
    clear km hk e1 h
    go_enter Try.func17, Try.ntmps17
    go_wp2_with (go_at_call 30; refine held ?_)
    unfold Held
    refine Calls.mono K ?_
    rintro e w2 ⟨rfl, rfl⟩
    simp only [Bool.false_eq_true, if_false]
    go_wp2
    go_ret2
    exact ⟨rfl, HF, Wr.refl _ _⟩
  | true =>
    rw [hk] at km
    have K := Lib.hid km
    clear km
    have kt := take_any p g cap fs W h
    obtain ⟨i, hi, rfl, hn⟩ := okF_true hk
    cases ht : takeF fs with
    | none =>
      have e1 : dblV fs i = 0 ∧ dblE fs i = 40 ∧ dblL fs i = fs ∧ takeV fs = 0 ∧ takeE fs = 40 ∧ takeL fs = fs := by unfold dblV dblE dblL takeV takeE takeL; rw [hk, ht]; exact ⟨rfl, rfl, rfl, rfl, rfl, rfl⟩
      rw [e1.1, e1.2.1, e1.2.2.1]
      rw [e1.2.2.2.1, e1.2.2.2.2.1, e1.2.2.2.2.2] at kt
      have KT := Lib.hid kt
      clear hk e1 h kt ht
      go_enter Try.func17, Try.ntmps17
      go_wp2_with (go_at_call 30; refine held ?_)
      unfold Held
      refine Calls.mono K ?_
      rintro e w2 ⟨rfl, rfl⟩
      simp only [if_true]
      go_wp2_with (go_at_call 23; refine held ?_)
      unfold Held
      refine Calls.mono KT ?_
      rintro e w3 ⟨rfl, hT⟩
      have HT := Lib.hid hT
      clear hT KT K
      go_wp2
      go_ret2
      exact ⟨rfl, HT⟩
    | some n =>
      obtain ⟨hnl, hn0, _⟩ := takeF_some ht
      have e1 : dblV fs i = n ∧ dblE fs i = 0 ∧ dblL fs i = fs.set n ⟨fs[i].b, 1⟩ ∧ takeV fs = n ∧ takeE fs = 0 ∧ takeL fs = fs.set n ⟨fs[n].b, 1⟩ := by
        unfold dblV dblE dblL takeV takeE takeL
        rw [hk, ht]
        simp only [if_true]
        rw [frAt_at hi, frAt_at hnl]
        simp
      rw [e1.1, e1.2.1, e1.2.2.1]
      rw [e1.2.2.2.1, e1.2.2.2.2.1, e1.2.2.2.2.2] at kt
      have KT := Lib.hid kt
      have hni : n ≠ i := fun e => by subst e; exact hn hn0
      obtain ⟨fs1, hfs1⟩ : ∃ fs1, fs1 = fs.set n (⟨fs[n].b, 1⟩ : Fr) := ⟨_, rfl⟩
      have hl1 : fs1.length = fs.length := by rw [hfs1, List.length_set]
      have hi1 : i < fs1.length := by rw [hl1]; exact hi
      have hn1 : n < fs1.length := by rw [hl1]; exact hnl
      have hgi : fs1[i] = fs[i] := by simp only [hfs1]; exact List.getElem_set_ne hni (by simpa using hi)
      have hgn : fs1[n] = ⟨fs[n].b, 1⟩ := by simp only [hfs1]; exact List.getElem_set_self (by simpa using hnl)
      have hss : fs1.set n (⟨fs[i].b, 1⟩ : Fr) = fs.set n ⟨fs[i].b, 1⟩ := by rw [hfs1, List.set_set]
      rw [← hfs1] at KT
      clear hk e1 h kt ht hfs1
      go_enter Try.func17, Try.ntmps17
      go_wp2_with (go_at_call 30; refine held ?_)
      unfold Held
      refine Calls.mono K ?_
      rintro e w2 ⟨rfl, rfl⟩
      simp only [if_true]
      go_wp2_with (go_at_call 23; refine held ?_)
      unfold Held
      refine Calls.mono KT ?_
      rintro e w3 ⟨rfl, h3, hw3⟩
      have hsm := h3.sm
      obtain ⟨hcl, hcm⟩ := h3.caps
      simp only [maxLen] at hcm
      obtain ⟨cur, hcur, _⟩ := h3.cur
      have h64i := h3.len.at hi1
      have h64n := h3.len.at hn1
      rw [hgi] at h64i
      obtain ⟨hT1, hT2, hfit⟩ := h3.drew.write n hn1 0 (fs[i].b.map (Value.int .u8)) (by rw [List.length_map]; omega) ⟨fs[i].b, 1⟩ h64i (by
        rw [List.take_zero, List.nil_append, List.length_map, h64i, Nat.zero_add, encF_drop64 h64n, hgn]; rfl) cur hcur
      rw [hss] at hT1
      have hvi : ∀ W', Grows w3 W' → ∀ j v, (fs[i].b.map (Value.int .u8))[j]? = some v → W'.cell? ⟨g, i * 65 + j, none⟩ = some v := fun W' hW j v hj => by
        have hjl := (List.getElem?_eq_some_iff.1 hj).1
        rw [List.length_map] at hjl
        refine (h3.below hW).cells i hi1 j v ?_
        rw [hgi]
        unfold encF
        rw [List.getElem?_append_left (by rw [List.length_map]; omega)]
        exact hj
      have cv : ∀ W', Grows w3 W' → W'.cell? ⟨p, 0, none⟩ = some (.slice (some ⟨g, 0, none⟩) fs.length cap) := fun W' hW => by rw [← hl1]; exact (h3.below hW).c0
      obtain ⟨BL, hBL⟩ : ∃ BL, BL = fs[i].b.map (Value.int .u8) := ⟨_, rfl⟩
      have hBl : BL.length = 64 := by rw [hBL, List.length_map, h64i]
      have hB1 : BL.toArray.all (·.oneCell') = true := by
        rw [hBL, Array.all_eq_true_iff_forall_mem]
        intro v hv
        exact u8_one _ v (by simpa using hv)
      rw [← hBL] at hT1 hT2 hfit hvi
      obtain ⟨W9, hW9⟩ : ∃ W9, W9 = w3.drew.setRow g (cur.toList.take (n * 65 + 0) ++ BL ++ cur.toList.drop (n * 65 + 0 + BL.length)).toArray := ⟨_, rfl⟩
      rw [← hW9] at hT1 hT2
      have HT := Lib.hid (And.intro hT1 (Wr.trans hw3.drew hT2))
      have HW9 := Lib.hid hW9
      have HVI := Lib.hid hvi
      have HCV := Lib.hid cv
      rw [hl1] at hi1 hn1 hsm hcl
      clear hT1 hT2 hw3 hW9 hvi cv h3 K KT hgi hgn hss h64n hBL hn hn0
      go_wp2_with fail
      refine wp_region_anyZ Grows 13 3 (by kernel_rfl) rfl ?_
      first
        | (refine anyZ_val 0 (Grows.pre) (by kernel_rfl) (by decide) rfl (by kernel_rfl) (by kernel_rfl) (by kernel_rfl) (by rfl) (v := ?av1) (fun W hW => ?ay1) (fun K hK => ?ar1); case ay1 => (have q1 := (show ∀ W', Grows w3 W' → _ from HCV) W (below_undrew hW); go_simp; first | done | rfl))
        | refine anyZ_skip 0 (Grows.pre) (by kernel_rfl) (by decide) rfl (by kernel_rfl) (by kernel_rfl) (by kernel_rfl) (by rfl) (fun K hK => ?_)
      go_simp
      refine hK _ ?_
      clear hK K
      first
        | (refine anyZ_val 1 (Grows.pre) (by kernel_rfl) (by decide) rfl (by kernel_rfl) (by kernel_rfl) (by kernel_rfl) (by rfl) (v := ?av2) (fun W hW => ?ay2) (fun K hK => ?ar2); case ay2 => (have q1 := (show ∀ W', Grows w3 W' → _ from HCV) W (below_undrew hW); go_simp; first | done | rfl))
        | refine anyZ_skip 1 (Grows.pre) (by kernel_rfl) (by decide) rfl (by kernel_rfl) (by kernel_rfl) (by kernel_rfl) (by rfl) (fun K hK => ?_)
      go_simp
      refine hK _ ?_
      clear hK K
      first
        | (refine anyZ_val 2 (Grows.pre) (by kernel_rfl) (by decide) rfl (by kernel_rfl) (by kernel_rfl) (by kernel_rfl) (by rfl) (v := ?av3) (fun W hW => ?ay3) (fun K hK => ?ar3); case ay3 => (have q1 := (show ∀ W', Grows w3 W' → _ from HCV) W (below_undrew hW); go_simp; first | done | rfl))
        | refine anyZ_skip 2 (Grows.pre) (by kernel_rfl) (by decide) rfl (by kernel_rfl) (by kernel_rfl) (by kernel_rfl) (by rfl) (fun K hK => ?_)
      go_simp
      refine hK _ ?_
      clear hK K
      first
        | (refine anyZ_val 3 (Grows.pre) (by kernel_rfl) (by decide) rfl (by kernel_rfl) (by kernel_rfl) (by kernel_rfl) (by rfl) (v := ?av4) (fun W hW => ?ay4) (fun K hK => ?ar4); case ay4 => (have q1 := (show ∀ W', Grows w3 W' → _ from HCV) W (below_undrew hW); go_simp; first | done | rfl))
        | refine anyZ_skip 3 (Grows.pre) (by kernel_rfl) (by decide) rfl (by kernel_rfl) (by kernel_rfl) (by kernel_rfl) (by rfl) (fun K hK => ?_)
      go_simp
      refine hK _ ?_
      clear hK K
      first
        | (refine anyZ_val 4 (Grows.pre) (by kernel_rfl) (by decide) rfl (by kernel_rfl) (by kernel_rfl) (by kernel_rfl) (by rfl) (v := ?av5) (fun W hW => ?ay5) (fun K hK => ?ar5); case ay5 => (have q1 := (show ∀ W', Grows w3 W' → _ from HCV) W (below_undrew hW); go_simp; first | done | rfl))
        | refine anyZ_skip 4 (Grows.pre) (by kernel_rfl) (by decide) rfl (by kernel_rfl) (by kernel_rfl) (by kernel_rfl) (by rfl) (fun K hK => ?_)
      go_simp
      refine hK _ ?_
      clear hK K
      first
        | (refine anyZ_val 5 (Grows.pre) (by kernel_rfl) (by decide) rfl (by kernel_rfl) (by kernel_rfl) (by kernel_rfl) (by rfl) (v := ?av6) (fun W hW => ?ay6) (fun K hK => ?ar6); case ay6 => (have q1 := (show ∀ W', Grows w3 W' → _ from HCV) W (below_undrew hW); go_simp; first | done | rfl))
        | refine anyZ_skip 5 (Grows.pre) (by kernel_rfl) (by decide) rfl (by kernel_rfl) (by kernel_rfl) (by kernel_rfl) (by rfl) (fun K hK => ?_)
      go_simp
      refine hK _ ?_
      clear hK K
      first
        | (refine anyZ_val 6 (Grows.pre) (by kernel_rfl) (by decide) rfl (by kernel_rfl) (by kernel_rfl) (by kernel_rfl) (by rfl) (v := ?av7) (fun W hW => ?ay7) (fun K hK => ?ar7); case ay7 => (have q1 := (show ∀ W', Grows w3 W' → _ from HCV) W (below_undrew hW); go_simp; first | done | rfl))
        | refine anyZ_skip 6 (Grows.pre) (by kernel_rfl) (by decide) rfl (by kernel_rfl) (by kernel_rfl) (by kernel_rfl) (by rfl) (fun K hK => ?_)
      go_simp
      refine hK _ ?_
      clear hK K
      first
        | (refine anyZ_val 7 (Grows.pre) (by kernel_rfl) (by decide) rfl (by kernel_rfl) (by kernel_rfl) (by kernel_rfl) (by rfl) (v := ?av8) (fun W hW => ?ay8) (fun K hK => ?ar8); case ay8 => (have q1 := (show ∀ W', Grows w3 W' → _ from HCV) W (below_undrew hW); go_simp; first | done | rfl))
        | refine anyZ_skip 7 (Grows.pre) (by kernel_rfl) (by decide) rfl (by kernel_rfl) (by kernel_rfl) (by kernel_rfl) (by rfl) (fun K hK => ?_)
      go_simp
      refine hK _ ?_
      clear hK K
      first
        | (refine anyZ_val 8 (Grows.pre) (by kernel_rfl) (by decide) rfl (by kernel_rfl) (by kernel_rfl) (by kernel_rfl) (by rfl) (v := ?av9) (fun W hW => ?ay9) (fun K hK => ?ar9); case ay9 => (have q1 := (show ∀ W', Grows w3 W' → _ from HCV) W (below_undrew hW); go_simp; first | done | rfl))
        | refine anyZ_skip 8 (Grows.pre) (by kernel_rfl) (by decide) rfl (by kernel_rfl) (by kernel_rfl) (by kernel_rfl) (by rfl) (fun K hK => ?_)
      go_simp
      refine hK _ ?_
      clear hK K
      first
        | (refine anyZ_val 9 (Grows.pre) (by kernel_rfl) (by decide) rfl (by kernel_rfl) (by kernel_rfl) (by kernel_rfl) (by rfl) (v := ?av10) (fun W hW => ?ay10) (fun K hK => ?ar10); case ay10 => (have q1 := (show ∀ W', Grows w3 W' → _ from HCV) W (below_undrew hW); go_simp; first | done | rfl))
        | refine anyZ_skip 9 (Grows.pre) (by kernel_rfl) (by decide) rfl (by kernel_rfl) (by kernel_rfl) (by kernel_rfl) (by rfl) (fun K hK => ?_)
      go_simp
      refine hK _ ?_
      clear hK K
      first
        | (refine anyZ_val 10 (Grows.pre) (by kernel_rfl) (by decide) rfl (by kernel_rfl) (by kernel_rfl) (by kernel_rfl) (by rfl) (v := ?av11) (fun W hW => ?ay11) (fun K hK => ?ar11); case ay11 => (have q1 := (show ∀ W', Grows w3 W' → _ from HCV) W (below_undrew hW); go_simp; first | done | rfl))
        | refine anyZ_skip 10 (Grows.pre) (by kernel_rfl) (by decide) rfl (by kernel_rfl) (by kernel_rfl) (by kernel_rfl) (by rfl) (fun K hK => ?_)
      go_simp
      refine hK _ ?_
      clear hK K
      first
        | (refine anyZ_val 11 (Grows.pre) (by kernel_rfl) (by decide) rfl (by kernel_rfl) (by kernel_rfl) (by kernel_rfl) (by rfl) (v := ?av12) (fun W hW => ?ay12) (fun K hK => ?ar12); case ay12 => (have q1 := (show ∀ W', Grows w3 W' → _ from HCV) W (below_undrew hW); go_simp; first | done | rfl))
        | refine anyZ_skip 11 (Grows.pre) (by kernel_rfl) (by decide) rfl (by kernel_rfl) (by kernel_rfl) (by kernel_rfl) (by rfl) (fun K hK => ?_)
      go_simp
      refine hK _ ?_
      clear hK K
      refine anyZ_val 12 (Grows.pre) (by kernel_rfl) (by decide) rfl (by kernel_rfl) (by kernel_rfl) (by kernel_rfl) (by rfl) (v := .agg BL.toArray) (fun W hW => ?ay13) (fun K hK => ?ar13)
      case ay13 => (exact exec_load_at 65 (.tmp 34) rfl g (i * 65) rfl BL _ ((show ∀ W', Grows w3 W' → _ from HVI) W (below_undrew hW)) Try.underlying65 rfl (infoP.trans (by rw [hBl])))
      go_simp
      refine hK _ ?_
      clear hK K
      refine anyZ_done (by kernel_rfl) ?_
      refine wpAny_only 13 rfl (by kernel_rfl) (by rfl) (fun K hK => ?_)
      go_simp
      refine hK _ _ ?_
      clear hK K
      refine wpAny_frame (fun K hK => ?_)
      go_simp
      refine hK _ ?_
      clear hK K
      refine wpAny_only 14 rfl (by kernel_rfl) (by rfl) (fun K hK => ?_)
      go_simp
      refine hK _ _ ?_
      clear hK K
      refine wpAny_frame (fun K hK => ?_)
      go_simp
      refine hK _ ?_
      clear hK K
      refine wpAny_only 15 rfl (by kernel_rfl) (by rfl) (fun K hK => ?_)
      refine upV_store_at 65 (.tmp 37) (.tmp 35) rfl g (n * 65) BL.toArray rfl rfl 67 cur hcur (infoP.trans (by rw [List.size_toArray, hBl])) (by rw [List.size_toArray]; exact hfit) hB1 ?_
      refine hK _ _ ?_
      clear hK K
      refine wpAny_frame (fun K hK => ?_)
      go_simp
      refine hK _ ?_
      clear hK K
      refine wpAny_done (by kernel_rfl) ?_
      rw [show w3.drew.setRow g (cur.toList.take (n * 65) ++ BL.toArray.toList ++ cur.toList.drop (n * 65 + BL.toArray.size)).toArray = W9 from (show W9 = _ from HW9).symm]
      clear HW9 HVI HCV hcur
      go_wp2
      go_ret2
      exact ⟨rfl, HT⟩
end Go.Proofs.Ytdacdfnfbknndaa
