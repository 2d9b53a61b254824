/- The walks of slices.Clone at bytes, Read, Write. -/
import Derived.Test.YtdacdfnfbknndaaFrmD
import Derived.Test.YtdacdfnfbknndaaBuilt
namespace Go.Proofs.Ytdacdfnfbknndaa
open Go Go.RowKit
attribute [local go_sem] upV_value upV_skip upV_enter
set_option linter.unusedVariables false
set_option linter.unnecessarySimpa false
set_option linter.unusedSimpArgs false
theorem u8_one (zs : List Int) : ∀ u ∈ zs.map (Value.int .u8), u.oneCell' = true := by
  intro u hu
  obtain ⟨z, _, rfl⟩ := List.mem_map.1 hu
  rfl
set_option maxRecDepth 100000 in
set_option maxHeartbeats 1000000 in
theorem clone8_any (b off m cap : Nat) (zs : List Int) (hz : zs.length = m) (hm : m ≤ 1000000) (w : World) (hc : ∀ j u, (zs.map (Value.int .u8))[j]? = some u → w.cell? ⟨b, off + j, none⟩ = some u) (hb : b < w.heap.size) :
    Calls Try.prog 32 #[.slice (some ⟨b, off, none⟩) m cap] w fun e w' => ∃ v, e = .returned v ∧ w'.ownsRow w.heap.size 5 1 v zs.length (zs.map (Value.int .u8)) ∧ Below w.heap.size w w' := by
  obtain ⟨i0, hi, hz0, hz1, hz2⟩ := info_parts info_u8
  have qn := fun (a : Option Addr) (n c : Nat) (W : World) => Lib.run_eql_slice_nil (P := Try.prog) W 23 5 a n c 0 0 Try.underlying23
  go_enter Try.func32, Try.ntmps32
  go_wp2_with (at_builtin; refine held ?_)
  unfold Held
  have hl0 := World.ownsRow_lit (base := w.heap.size) (e := 5) (size := 1) w #[] 0 (Nat.le_refl _) (by decide) rfl
  obtain ⟨W2, hW2⟩ : ∃ W2, W2 = w.alloc (.cells #[] 5) := ⟨_, rfl⟩
  have bb : Below w.heap.size w W2 := by rw [hW2]; exact (Below.refl _ w).alloc (Nat.le_refl _) _
  rw [← hW2] at hl0 ⊢
  refine wpList_append_vals rfl _ _ 23 rfl w.heap.size 5 i0 _ 1 1 Try.underlying23 hi hz0 hz1 hz2 rfl (by decide) (.slice (some ⟨w.heap.size, 0, none⟩) 0 0) 0 [] rfl hl0 (some ⟨b, off, none⟩) m cap (zs.map (Value.int .u8)) rfl (by rw [List.length_map, hz, Nat.mul_one]) (u8_one zs) (.inr ⟨b, off, rfl, fun j u hj => (cell_same (p := ⟨b, off + j, none⟩) (bb.block b hb) (hc j u hj))⟩) (by omega) (by simp only [maxLen]; omega) bb.size ?_
  intro v1 u1 o1 hg1 hv1
  have b10 : Below w.heap.size w u1 := bb.grown hg1 bb.size (fun b h => by simp [Value.ownBlock] at h; omega)
  rw [Nat.zero_add, List.nil_append, ← hz] at o1
  clear hl0 hW2 bb hg1 hv1
  go_wp2
  go_ret
  exact ⟨_, rfl, o1, b10⟩
theorem slice_lh (g b o m : Nat) (W : World) (h : o + m ≤ 64) (h64 : ¬ o = 64) :
    (Instr.sliceAt 65 (.pointer (some ⟨g, b, none⟩)) (some (.int .i64 (o : Int))) (some (.int .i64 ((o : Int) + (m : Int)))) none).run Try.prog W = .ok (.slice (some ⟨g, b + o, none⟩) m (64 - o)) W := by
  have ha : Try.prog.arrayLen 65 = 64 := rfl
  have hs : ∀ W, (sizeOf (Try.prog.elem 65)).run Try.prog W = .ok 1 W := fun W => by kernel_rfl
  rw [run_sliceAt_array_lh W 65 ⟨g, b, none⟩ Try.underlying65 .i64 .i64 (o : Int) ((o : Int) + (m : Int)) (by omega) (by omega) (by rw [ha]; omega), hs, ha]
  simp only [Result.andThen]
  unfold slicedAt
  rw [show ((o : Int) + (m : Int)).toNat = o + m by omega, Int.toNat_natCast, if_neg (fun e => h64 e.symm), Nat.mul_one, show o + m - o = m by omega, Addr.add_lit]
def readE (fs : List Fr) (k off n : Int) : Int := if okF fs k then (if inF off n then 0 else 2) else 41
def readL (fs : List Fr) (k off n : Int) : List Int := if readE fs k off n = 0 then ((frAt fs k).b.drop off.toNat).take n.toNat else []
theorem inF_true {off n : Int} (h : inF off n = true) : ∃ o m : Nat, off = o ∧ n = m ∧ o + m ≤ 64 := by
  unfold inF at h
  obtain ⟨h1, h2, h3, h4⟩ := of_decide_eq_true h
  exact ⟨off.toNat, n.toNat, by omega, by omega, by omega⟩
set_option maxRecDepth 100000 in
set_option maxHeartbeats 4000000 in
theorem read_any (p g cap : Nat) (fs : List Fr) (k off n : Int) (W : World) (h : FrAt W p g cap fs) :
    Calls Try.prog 13 #[.pointer (some ⟨p, 0, none⟩), .int .i64 k, .int .i64 off, .int .i64 n] W fun e W' => ∃ v, e = .returned (.tuple #[v, .int .i64 (readE fs k off n)]) ∧ W'.ownsRow W.heap.size 5 1 v (readL fs k off n).length ((readL fs k off n).map (Value.int .u8)) ∧ Below W.heap.size W W' := by
  have c0 := h.c0
  have hsm := h.sm
  obtain ⟨hc, hm⟩ := h.caps
  simp only [maxLen] at hm
  have km := may_any p g cap fs k W h
  have ki := Lib.hid (in_any off n)
  cases hk : okF fs k with
  | false =>
    rw [hk] at km
    have K := Lib.hid km
    have e1 : readE fs k off n = 41 := by unfold readE; rw [hk]; rfl
    have e2 : readL fs k off n = [] := by unfold readL; rw [e1]; rfl
    rw [e1, e2]
    clear km hk e1 e2 h
    go_enter Try.func13, Try.ntmps13
    go_wp2_with (go_at_call 30; refine held ?_)
    unfold Held
    refine Calls.mono K ?_
    rintro e w2 ⟨rfl, rfl⟩
    simp only [Bool.false_eq_true, if_false]
    go_wp2
    go_ret2
    exact ⟨_, rfl, World.ownsRow_nil _ _ _ _, Below.refl _ _⟩
  | true =>
    rw [hk] at km
    have K := Lib.hid km
    clear km
    cases hin : inF off n with
    | false =>
      rw [hin] at ki
      have e1 : readE fs k off n = 2 := by unfold readE; rw [hk, hin]; rfl
      have e2 : readL fs k off n = [] := by unfold readL; rw [e1]; rfl
      rw [e1, e2]
      clear hk e1 e2 h hin
      go_enter Try.func13, Try.ntmps13
      go_wp2_with (go_at_call 30; refine held ?_)
      unfold Held
      refine Calls.mono K ?_
      rintro e w2 ⟨rfl, rfl⟩
      simp only [if_true]
      go_wp2_with (go_at_call 31; refine held ?_)
      unfold Held
      refine Calls.mono ((show ∀ W, _ from ki) w2) ?_
      rintro e w3 ⟨rfl, rfl⟩
      go_wp2
      go_ret2
      exact ⟨_, rfl, World.ownsRow_nil _ _ _ _, Below.refl _ _⟩
    | true =>
      rw [hin] at ki
      have e1 : readE fs k off n = 0 := by unfold readE; rw [hk, hin]; rfl
      obtain ⟨i, hi, rfl, hn⟩ := okF_true hk
      obtain ⟨o, m, rfl, rfl, hom⟩ := inF_true hin
      have e2 : readL fs i o m = (fs[i].b.drop o).take m := by unfold readL; rw [e1, if_pos rfl, frAt_at hi]; simp
      have hlen : ((fs[i].b.drop o).take m).length = m := by
        have := h.len.at hi
        rw [List.length_take, List.length_drop]; omega
      have hcs := h.cells i hi
      have hcell : ∀ j u, (((fs[i].b.drop o).take m).map (Value.int .u8))[j]? = some u → W.cell? ⟨g, i * 65 + o + j, none⟩ = some u := fun j u hj => by
        have hjm : j < m := by have := (List.getElem?_eq_some_iff.1 hj).1; rwa [List.length_map, hlen] at this
        rw [Nat.add_assoc]
        refine hcs (o + j) u ?_
        rw [encF_byte (h.len.at hi) _ (by omega), ← hj, List.getElem?_map, List.getElem?_take, if_pos hjm, List.getElem?_drop, List.getElem?_eq_getElem (by have := h.len.at hi; omega)]
        rfl
      have hgl := h.ltg
      rw [e1, e2]
      obtain ⟨L, hL⟩ : ∃ L, L = (fs[i].b.drop o).take m := ⟨_, rfl⟩
      rw [← hL] at hlen hcell ⊢
      have hcl := Lib.hid (clone8_any g (i * 65 + o) m (64 - o) L hlen (by omega) W hcell hgl)
      have hc0 : m = 0 → Calls Try.prog 32 #[.slice (some ⟨g, i * 65, none⟩) m (64 - o)] W fun e w' => ∃ v, e = .returned v ∧ w'.ownsRow W.heap.size 5 1 v L.length (L.map (Value.int .u8)) ∧ Below W.heap.size W w' := fun hm0 => by
        obtain rfl : L = [] := List.eq_nil_of_length_eq_zero (by omega)
        exact clone8_any g (i * 65) m (64 - o) [] (by simp; omega) (by omega) W (fun j u hj => by simp at hj) hgl
      clear hk hin h hn e1 e2 hcell hcs hL
      have tb : ((o : Int) + (m : Int)).toNat = o + m := by omega
      by_cases h64 : o = 64
      · have HC0 := Lib.hid (hc0 (by omega))
        obtain rfl : m = 0 := by omega
        subst h64
        clear hc0
        go_enter Try.func13, Try.ntmps13
        go_wp2_with (go_at_call 30; refine held ?_)
        unfold Held
        refine Calls.mono K ?_
        rintro e w2 ⟨rfl, rfl⟩
        simp only [if_true]
        go_wp2_with (go_at_call 31; refine held ?_)
        unfold Held
        refine Calls.mono ((show ∀ W, _ from ki) w2) ?_
        rintro e w3 ⟨rfl, rfl⟩
        go_wp2_with (go_at_call 32; refine held ?_)
        unfold Held
        refine Calls.mono HC0 ?_
        rintro e w4 ⟨v, rfl, ho, hb⟩
        clear HC0 hcl K ki
        go_wp2
        go_ret2
        exact ⟨_, rfl, ho, hb⟩
      · have h64' : ¬ 64 = o := fun e => h64 e.symm
        have hsl := fun W => slice_lh g (i * 65) o m W hom h64
        clear hc0
        go_enter Try.func13, Try.ntmps13
        go_wp2_with (go_at_call 30; refine held ?_)
        unfold Held
        refine Calls.mono K ?_
        rintro e w2 ⟨rfl, rfl⟩
        simp only [if_true]
        go_wp2_with (go_at_call 31; refine held ?_)
        unfold Held
        refine Calls.mono ((show ∀ W, _ from ki) w2) ?_
        rintro e w3 ⟨rfl, rfl⟩
        go_wp2_with (go_at_call 32; refine held ?_)
        unfold Held
        refine Calls.mono hcl ?_
        rintro e w4 ⟨v, rfl, ho, hb⟩
        clear hcl K ki
        go_wp2
        go_ret2
        exact ⟨_, rfl, ho, hb⟩
theorem slice_l (g b o : Nat) (W : World) (h : o < 64) :
    (Instr.sliceAt 65 (.pointer (some ⟨g, b, none⟩)) (some (.int .i64 (o : Int))) none none).run Try.prog W = .ok (.slice (some ⟨g, b + o, none⟩) (64 - o) (64 - o)) W := by
  have ha : Try.prog.arrayLen 65 = 64 := rfl
  have hs : ∀ W, (sizeOf (Try.prog.elem 65)).run Try.prog W = .ok 1 W := fun W => by kernel_rfl
  rw [run_sliceAt_array_l W 65 ⟨g, b, none⟩ Try.underlying65 .i64 (o : Int) (by omega) (by rw [ha]; omega), hs, ha]
  simp only [Result.andThen]
  unfold slicedAt
  rw [Int.toNat_natCast, if_neg (by omega), Nat.mul_one, Addr.add_lit]
section
variable {P : Program} {ops : Array Oper} {rest : List Oper} {o : Oper} {a : Act} {w : World} {Q : Exit → Act → World → Prop}
theorem at_copy {xs : Array Operand} {ts : Array TypeId} (ho : o.op = .call { callee := .builtin .copy, args := xs, argTypes := ts }) (h : Held (wpList P ops Q (o :: rest) a w)) : wpList P ops Q (o :: rest) a w := h
/-- copy(within a block, values) -/
theorem wpList_copy_vals (hgd : o.guard = none) (x y : Operand) (t : TypeId) (ho : o.op = .call { callee := .builtin .copy, args := #[x, y], argTypes := #[t, t] })
    (e : TypeId) (ht : P.underlying t = some (.slice e)) (hs : (P.info? e).map (·.size) = some 1)
    (g off dLen dCap : Nat) (hx : a.eval x = .slice (some ⟨g, off, none⟩) dLen dCap) (cur : Array Value) (t2 : TypeId) (hg : w.heap[g]? = some (.cells cur t2 (0, 0)))
    (p : Option Addr) (m c : Nat) (vs : List Value) (hy : a.eval y = .slice p m c) (hl : vs.length = m) (h1 : ∀ u ∈ vs, u.oneCell' = true)
    (hr : (m = 0 ∧ vs = []) ∨ ∃ b o2, p = some ⟨b, o2, none⟩ ∧ ∀ j u, vs[j]? = some u → w.cell? ⟨b, o2 + j, none⟩ = some u) (hm : m ≤ dLen) (hfit : off + m ≤ cur.size)
    (h : wpList P ops Q rest (a.put o.dst (goInt m)) (w.setRow g (cur.toList.take off ++ vs ++ cur.toList.drop (off + vs.length)).toArray)) :
    wpList P ops Q (o :: rest) a w := by
  have hrun : (Builtin.copy_ #[t, t] o.type #[.slice (some ⟨g, off, none⟩) dLen dCap, .slice p m c]).run P w = .ok (goInt m) (w.setRow g (cur.toList.take off ++ vs ++ cur.toList.drop (off + vs.length)).toArray) := by
    rcases hr with ⟨rfl, rfl⟩ | ⟨b, o2, rfl, hc⟩
    · have hw : w.setRow g (cur.toList.take off ++ [] ++ cur.toList.drop (off + ([] : List Value).length)).toArray = w := by
        rw [List.append_nil, List.length_nil, Nat.add_zero, List.take_append_drop, Array.toArray_toList]
        exact setRow_self w g cur t2 (0, 0) hg
      rw [hw]
      cases hq : P.info? e with
      | none => simp [hq] at hs
      | some i => cases p <;> simp [Builtin.copy_, run_underlying ht, Builtin.lenOf, Builtin.firstCells, sizeOf, typeInfo, hq, storeCells, loadCells, loadCellsFrom]
    · have := run_copy_row (P := P) w t t o.type e g off dLen dCap ⟨b, o2, none⟩ m c cur t2 vs ht hs hg (by show _ = min m dLen; omega) (fun j v hj => by rw [Addr.add_lit]; exact hc j v hj) (by omega) h1
      rw [this, hl]
  refine wpList_plain hgd fun K hK => ?_
  unfold Oper.wp execOp
  simp only [ho, resolve, invoke, builtin, Sem.run_bind, Sem.run_pure, Result.andThen_ok, List.map_toArray, List.map_cons, List.map_nil, hx, hy, hrun]
  exact hK _ _ h
end
def putB (b : List Int) (o : Nat) (zs : List Int) : List Int := b.take o ++ zs ++ b.drop (o + zs.length)
theorem putB_len {b : List Int} (hb : b.length = 64) (o : Nat) (zs : List Int) (h : o + zs.length ≤ 64) : (putB b o zs).length = 64 := by
  unfold putB
  simp only [List.length_append, List.length_take, List.length_drop, hb]; omega
theorem putB_enc {x : Fr} (hb : x.b.length = 64) (o : Nat) (zs : List Int) (h : o + zs.length ≤ 64) :
    (encF x).take o ++ zs.map (Value.int .u8) ++ (encF x).drop (o + (zs.map (Value.int .u8)).length) = encF ⟨putB x.b o zs, x.n⟩ := by
  unfold encF putB
  rw [List.length_map]
  rw [List.take_append_of_le_length (by rw [List.length_map]; omega), List.drop_append_of_le_length (by rw [List.length_map]; omega)]
  simp only [List.map_append, List.map_take, List.map_drop, List.append_assoc]
def writeF (fs : List Fr) (k off : Int) (zs : List Int) : List Fr := if readE fs k off zs.length = 0 then fs.set k.toNat ⟨putB (frAt fs k).b off.toNat zs, (frAt fs k).n⟩ else fs
theorem Row8.vals {n : Nat} {W : World} {a : Option Addr} {len cap : Nat} {zs : List Int} (h : Row8 n W (.slice a len cap) zs) :
    (len = 0 ∧ zs.map (Value.int .u8) = []) ∨ ∃ b off, a = some ⟨b, off, none⟩ ∧ ∀ j u, (zs.map (Value.int .u8))[j]? = some u → W.cell? ⟨b, off + j, none⟩ = some u := by
  rcases h.1 with ⟨a', c', h1, rfl⟩ | ⟨b, off, c', h1, _, _, _, hc⟩
  · injection h1 with _ e2 _
    exact .inl ⟨e2, rfl⟩
  · injection h1 with e1 e2 _
    subst e1 e2
    refine .inr ⟨b, off, rfl, fun j u hj => ?_⟩
    obtain ⟨hl, he⟩ := List.getElem?_eq_some_iff.1 hj
    rw [List.length_map] at hl
    rw [hc j hl, getD_at _ _ hl, ← he, List.getElem_map]
theorem Row8.len {n : Nat} {W : World} {a : Option Addr} {len cap : Nat} {zs : List Int} (h : Row8 n W (.slice a len cap) zs) : zs.length = len := by
  obtain ⟨a', c', h1⟩ := h.slice
  injection h1 with _ e2 _
  exact e2.symm
theorem infoB : (Try.prog.info? 5).map (·.size) = some 1 := by kernel_rfl
set_option maxRecDepth 100000 in
set_option maxHeartbeats 4000000 in
theorem write_any (p g cap : Nat) (fs : List Fr) (k off : Int) (sa : Option Addr) (sl sc : Nat) (zs : List Int) (n : Nat) (W : World) (h : FrAt W p g cap fs) (hz : Row8 n W (.slice sa sl sc) zs) (hsl : sl ≤ 1000000) :
    Calls Try.prog 18 #[.pointer (some ⟨p, 0, none⟩), .int .i64 k, .int .i64 off, .slice sa sl sc] W fun e W' => e = .returned (.int .i64 (readE fs k off zs.length)) ∧ FrAt W' p g cap (writeF fs k off zs) ∧ Wr (· = g) (· = g) W W' := by
  have c0 := h.c0
  have hsm := h.sm
  obtain ⟨hc, hm⟩ := h.caps
  simp only [maxLen] at hm
  have hzl := hz.len
  have km := may_any p g cap fs k W h
  have ki := Lib.hid (in_any off (sl : Int))
  cases hk : okF fs k with
  | false =>
    rw [hk] at km
    have K := Lib.hid km
    have e1 : readE fs k off zs.length = 41 := by unfold readE; rw [hk]; rfl
    have e2 : writeF fs k off zs = fs := by unfold writeF; rw [e1]; rfl
    rw [e1, e2]
    have HF := h
    clear km hk e1 e2 h hz
    go_enter Try.func18, Try.ntmps18
    go_wp2_with (go_at_call 30; refine held ?_)
    unfold Held
    refine Calls.mono K ?_
    rintro e w2 ⟨rfl, rfl⟩
    simp only [Bool.false_eq_true, if_false]
    go_wp2
    go_ret
    exact ⟨rfl, HF, Wr.refl _ _⟩
  | true =>
    rw [hk] at km
    have K := Lib.hid km
    clear km
    cases hin : inF off sl with
    | false =>
      rw [hin] at ki
      have e1 : readE fs k off zs.length = 2 := by unfold readE; rw [hk, hzl, hin]; rfl
      have e2 : writeF fs k off zs = fs := by unfold writeF; rw [e1]; rfl
      rw [e1, e2]
      have HF := h
      clear hk e1 e2 h hin hz
      go_enter Try.func18, Try.ntmps18
      go_wp2_with (go_at_call 30; refine held ?_)
      unfold Held
      refine Calls.mono K ?_
      rintro e w2 ⟨rfl, rfl⟩
      simp only [if_true]
      go_wp2_with (go_at_call 31; refine held ?_)
      unfold Held
      refine Calls.mono ((show ∀ W, _ from ki) w2) ?_
      rintro e w3 ⟨rfl, rfl⟩
      go_wp2
      go_ret
      exact ⟨rfl, HF, Wr.refl _ _⟩
    | true =>
      rw [hin] at ki
      have e1 : readE fs k off zs.length = 0 := by unfold readE; rw [hk, hzl, hin]; rfl
      obtain ⟨i, hi, rfl, hn⟩ := okF_true hk
      obtain ⟨o, m, rfl, hsm2, hom⟩ := inF_true hin
      obtain rfl : sl = m := by omega
      have e2 : writeF fs i o zs = fs.set i ⟨putB fs[i].b o zs, fs[i].n⟩ := by unfold writeF; rw [e1, if_pos rfl, frAt_at hi]; simp
      rw [e1, e2]
      obtain ⟨cur, hcur, _⟩ := h.cur
      have h64 := h.len.at hi
      obtain ⟨hT1, hT2, hfit⟩ := h.write i hi o (zs.map (Value.int .u8)) (by rw [List.length_map]; omega) ⟨putB fs[i].b o zs, fs[i].n⟩ (putB_len h64 o zs (by omega)) (putB_enc h64 o zs (by omega)) cur hcur
      rw [List.length_map, hzl] at hfit
      have hv := hz.vals
      obtain ⟨W9, hW9⟩ : ∃ W9, W9 = W.setRow g (cur.toList.take (i * 65 + o) ++ zs.map (Value.int .u8) ++ cur.toList.drop (i * 65 + o + (zs.map (Value.int .u8)).length)).toArray := ⟨_, rfl⟩
      rw [← hW9] at hT1 hT2
      have HT := Lib.hid (And.intro hT1 hT2)
      have HW9 := Lib.hid hW9
      clear hW9
      have HV := Lib.hid hv
      have hml : (zs.map (Value.int .u8)).length = sl := by rw [List.length_map, hzl]
      have hone := Lib.hid (u8_one zs)
      clear hk hin e1 e2 hz hv hT1 hT2 h hn hsm2 h64
      by_cases ho64 : o = 64
      · obtain rfl : sl = 0 := by omega
        subst ho64
        have hzn : zs = [] := List.eq_nil_of_length_eq_zero hzl
        subst hzn
        have hw : W.setRow g (cur.toList.take (i * 65) ++ [] ++ cur.toList.drop (i * 65 + ([] : List Value).length)).toArray = W.setRow g (cur.toList.take (i * 65 + 64) ++ ([] : List Int).map (Value.int .u8) ++ cur.toList.drop (i * 65 + 64 + (([] : List Int).map (Value.int .u8)).length)).toArray := by
          simp only [List.map_nil, List.append_nil, List.length_nil, Nat.add_zero, List.take_append_drop]
        have HW := Lib.hid hw
        clear hw
        go_enter Try.func18, Try.ntmps18
        go_wp2_with (go_at_call 30; refine held ?_)
        unfold Held
        refine Calls.mono K ?_
        rintro e w2 ⟨rfl, rfl⟩
        simp only [if_true]
        go_wp2_with (go_at_call 31; refine held ?_)
        unfold Held
        refine Calls.mono ((show ∀ W, _ from ki) w2) ?_
        rintro e w3 ⟨rfl, rfl⟩
        go_wp2_with ((fail_if_success (unfold Held)); refine at_copy rfl ?_)
        unfold Held
        refine wpList_copy_vals rfl _ _ 23 rfl 5 Try.underlying23 infoB g (i * 65) 0 0 rfl cur 67 hcur sa 0 sc [] rfl rfl (by simp) (.inl ⟨rfl, rfl⟩) (Nat.le_refl _) (by omega) ?_
        rw [show w3.setRow g _ = W9 from (show w3.setRow g _ = _ from HW).trans (show W9 = _ from HW9).symm]
        clear K ki HV hcur hone HW HW9
        go_wp2
        go_ret
        exact ⟨rfl, HT⟩
      · have hsl2 := fun W => slice_l g (i * 65) o W (by omega)
        go_enter Try.func18, Try.ntmps18
        go_wp2_with (go_at_call 30; refine held ?_)
        unfold Held
        refine Calls.mono K ?_
        rintro e w2 ⟨rfl, rfl⟩
        simp only [if_true]
        go_wp2_with (go_at_call 31; refine held ?_)
        unfold Held
        refine Calls.mono ((show ∀ W, _ from ki) w2) ?_
        rintro e w3 ⟨rfl, rfl⟩
        go_wp2_with ((fail_if_success (unfold Held)); refine at_copy rfl ?_)
        unfold Held
        refine wpList_copy_vals rfl _ _ 23 rfl 5 Try.underlying23 infoB g (i * 65 + o) (64 - o) (64 - o) rfl cur 67 hcur sa sl sc (zs.map (Value.int .u8)) rfl hml hone HV (by omega) hfit ?_
        rw [show w3.setRow g _ = W9 from (show W9 = _ from HW9).symm]
        clear K ki HV hcur hone HW9
        go_wp2
        go_ret
        exact ⟨rfl, HT⟩
end Go.Proofs.Ytdacdfnfbknndaa
