/- Own texts of this seat, one behind the other (part 2 of 9). -/
import Derived.Test.YtejcandhijdnhaaGreatMN01
import Derived.Lib.SlBytesConst
import Derived.WalkSpells
import Derived.WalkLawsBesides
import Derived.OwnWalk
import Derived.Laws.OwnMore
import Derived.BigRegion
import Derived.Orders
import Derived.Still
import Derived.Tactics
import Derived.BigFrameIn
import Derived.RegionIn
import Derived.Deep.Cut
import Derived.Deep.CutRange
import Derived.Deep.CutBlock
import Derived.Deep.RegionWith
import Derived.Maps.AppendAt
import Derived.Great.BuildSlice
import Derived.Deep.WholeRow

/- The walk of tlv.Bytes and of the chapter's first examples. -/
namespace Go.Proofs.YtejcandhijdnhaaGreat
open Go Go.RowKit
set_option linter.unusedVariables false
set_option linter.unnecessarySimpa false
theorem below_step {A B C : World} (h : Below A.heap.size A B) (k : Below B.heap.size B C) : Below A.heap.size A C := h.trans (k.mono h.size)
def outB (f : Forest) : List Int := if f.sizeL 1 0 < 0 then [] else f.layF
set_option maxHeartbeats 1000000 in
theorem tbytes_any (f : Forest) (W : World) (a : Option Addr) (len cap : Nat) (h : SlF W.heap.size W a len cap f) (hc : f.cnt ≤ 20000) :
    Calls Tryz.prog 64 #[.slice a len cap] W fun e W' => ∃ v, e = .returned (.tuple #[v, .int .i64 (tlvE f)]) ∧ W'.ownsRow W.heap.size 5 1 v (outB f).length ((outB f).map (Value.int .u8)) ∧ Below W.heap.size W W' := by
  have kc := check_any f W a len cap h hc
  have kl := fun (W1 : World) (hb : Below W.heap.size W W1) => lay_any f W1 a len cap ((h.below hb).mono hb.size) hc
  go_enter Tryz.func64, Tryz.ntmps64
  go_wp2_with (go_at_call 90; refine held ?_)
  unfold Held
  refine kc.mono ?_
  rintro e w1 ⟨rfl, b1⟩
  by_cases h0 : f.sizeL 1 0 < 0
  · have e1 : tlvE f = 220 := by unfold tlvE; rw [if_pos h0]
    have e2 : outB f = [] := by unfold outB; rw [if_pos h0]
    rw [e1]
    have E1 := Lib.hid e1
    have E2 := Lib.hid e2
    clear e1 e2
    go_wp2
    go_ret2
    have e1 : tlvE f = 220 := E1
    have e2 : outB f = [] := E2
    exact ⟨_, by rw [e1]; rfl, by rw [e2]; exact World.ownsRow_nil _ _ _ _, b1⟩
  · have e1 : tlvE f = 0 := by unfold tlvE; rw [if_neg h0]
    have e2 : outB f = f.layF := by unfold outB; rw [if_neg h0]
    rw [e1]
    have E1 := Lib.hid e1
    have E2 := Lib.hid e2
    have k2 := kl w1 b1
    clear kl kc e1 e2
    go_wp2_with (go_at_call 91; refine held ?_)
    unfold Held
    refine k2.mono ?_
    rintro e w2 ⟨v, rfl, o2, b2⟩
    have o3 : w2.ownsRow W.heap.size 5 1 v f.layF.length (f.layF.map (Value.int .u8)) := by
      have hb := b1.size
      refine ⟨o2.1, ?_⟩
      rcases o2.2 with h | ⟨g, cap, cur, h0, h1, h2⟩
      · exact .inl h
      · exact .inr ⟨g, cap, cur, h0, by omega, h2⟩
    have b3 := below_step b1 b2
    clear k2 o2
    go_wp2
    go_ret2
    have e1 : tlvE f = 0 := E1
    have e2 : outB f = f.layF := E2
    exact ⟨_, by rw [e1]; rfl, by rw [e2]; exact o3, b3⟩
def F1 : Forest := .cons 1 [97, 98] .nil .nil
def F2 : Forest := .cons 129 [] F1 .nil
theorem F1_out : outB F1 = [1, 2, 0, 0, 0, 97, 98] := by decide
theorem F2_out : outB F2 = [129, 7, 0, 0, 0, 1, 2, 0, 0, 0, 97, 98] := by decide
theorem F1_str : ((strOfNums [1, 2, 0, 0, 0, 97, 98]).toList == [1, 2, 0, 0, 0, 97, 98]) = true := by rw [ByteArray.toList_eq]; decide
theorem F2_str : ((strOfNums [129, 7, 0, 0, 0, 1, 2, 0, 0, 0, 97, 98]).toList == [129, 7, 0, 0, 0, 1, 2, 0, 0, 0, 97, 98]) = true := by rw [ByteArray.toList_eq]; decide
theorem F1_e : tlvE F1 = 0 := by decide
theorem F2_e : tlvE F2 = 0 := by decide
/-- one field, laid by a composite literal -/
theorem one_field (W : World) (n : Nat) (t : Int) (a : Option Addr) (len cap : Nat) (bs : List Int) (ka : Option Addr) (kl kc : Nat) (k : Forest) (ht1 : -9223372036854775808 ≤ t) (ht2 : t ≤ 9223372036854775807)
    (hb : Row8 W.heap.size W (.slice a len cap) bs) (hbl : bs.length ≤ 140737488351232) (hk : SlF W.heap.size W ka kl kc k) :
    SlF (W.alloc (.cells #[.int .i64 t, .slice a len cap, .slice ka kl kc] 66)).heap.size (W.alloc (.cells #[.int .i64 t, .slice a len cap, .slice ka kl kc] 66)) (some ⟨W.heap.size, 0, none⟩) 1 1 (.cons t bs k .nil) := by
  have bb : Below W.heap.size W (W.alloc (.cells #[.int .i64 t, .slice a len cap, .slice ka kl kc] 66)) := (Below.refl _ W).alloc (Nat.le_refl _) _
  obtain ⟨h7, h8⟩ := (hk.below bb).mono bb.size
  refine ⟨rfl, .inr ⟨W.heap.size, 0, rfl, by simp, Nat.le_refl _, by decide, a, len, cap, ka, kl, kc, ?_, ?_, ?_, ht1, ht2, ⟨(hb.below bb).mono bb.size, hbl⟩, h7, h8, trivial⟩⟩
  · rw [World.cell?_alloc_mark]; rfl
  · rw [World.cell?_alloc_mark]; rfl
  · rw [World.cell?_alloc_mark]; rfl
theorem slF_none (n : Nat) (W : World) : SlF n W none 0 0 .nil := ⟨rfl, .inl rfl⟩
theorem row8_none (n : Nat) (W : World) : Row8 n W (.slice none 0 0) [] := ⟨.inl ⟨_, _, rfl, rfl⟩, by simp⟩
end Go.Proofs.YtejcandhijdnhaaGreat

/- append(own, fields...): the values that a row of fields is made of. -/
namespace Go.Proofs.YtejcandhijdnhaaGreat
open Go Go.RowKit
set_option linter.unusedVariables false
set_option linter.unnecessarySimpa false
theorem info_tlv : (Tryz.prog.info? 66).map (fun i => (i.zero, i.size, i.bytes)) = some (some (.agg #[.int .i64 0, .slice none 0 0, .slice none 0 0]), 3, 56) := by kernel_rfl
/-- these values, wherever they lie, are these fields -/
def Reloc (n : Nat) (W : World) (f : Forest) (vs : List Value) : Prop := ∀ (W' : World) (n' b off : Nat), Below n W W' → n ≤ n' → (∀ j u, vs[j]? = some u → W'.cell? ⟨b, off + j, none⟩ = some u) → RowF n' W' f b off
theorem RowF.vals {n : Nat} {W : World} : ∀ (f : Forest) (b off : Nat), RowF n W f b off →
    ∃ vs : List Value, vs.length = f.length * 3 ∧ (∀ u ∈ vs, u.oneCell' = true) ∧ (∀ j u, vs[j]? = some u → W.cell? ⟨b, off + j, none⟩ = some u) ∧ Reloc n W f vs
  | .nil, b, off, _ => ⟨[], rfl, by simp, by simp, fun _ _ _ _ _ _ _ => trivial⟩
  | .cons t bs k r, b, off, h => by
    obtain ⟨a, len, cap, ka, kl, kc, h1, h2, h3, h4, h5, h6, h7, h8, h9⟩ := h
    obtain ⟨vs, v1, v2, v3, v4⟩ := RowF.vals r b (off + 3) h9
    refine ⟨.int .i64 t :: .slice a len cap :: .slice ka kl kc :: vs, ?_, ?_, ?_, ?_⟩
    · simp only [List.length_cons, Forest.length, v1]; omega
    · intro u hu
      simp only [List.mem_cons] at hu
      rcases hu with rfl | rfl | rfl | hu
      · rfl
      · rfl
      · rfl
      · exact v2 u hu
    · intro j u hj
      match j, hj with
      | 0, hj => simp at hj; rw [← hj]; exact h1
      | 1, hj => simp at hj; rw [← hj]; exact h2
      | 2, hj => simp at hj; rw [← hj]; exact h3
      | j + 3, hj =>
        simp only [List.getElem?_cons_succ] at hj
        rw [show off + (j + 3) = off + 3 + j by omega]; exact v3 j u hj
    · intro W' n' b' off' hb hn hc
      refine ⟨a, len, cap, ka, kl, kc, hc 0 _ rfl, hc 1 _ rfl, hc 2 _ rfl, h4, h5, ⟨(h6.1.below hb).mono hn, h6.2⟩, h7, ?_, v4 W' n' b' (off' + 3) hb hn fun j u hj => ?_⟩
      · rcases h8 with h8 | ⟨b2, o2, g1, g2, g3, g4, g5⟩
        · exact .inl h8
        · exact .inr ⟨b2, o2, g1, Nat.lt_of_lt_of_le g2 hn, g3, g4, RowF.mono hn k b2 o2 (RowF.below hb k b2 o2 g2 g5)⟩
      · rw [show off' + 3 + j = off' + (j + 3) by omega]
        exact hc (j + 3) u (by simpa using hj)
theorem SlF.vals {n : Nat} {W : World} {a : Option Addr} {len cap : Nat} {f : Forest} (h : SlF n W a len cap f) :
    ∃ vs : List Value, vs.length = len * 3 ∧ (∀ u ∈ vs, u.oneCell' = true) ∧ Reloc n W f vs ∧ ((len = 0 ∧ vs = []) ∨ ∃ b off, a = some ⟨b, off, none⟩ ∧ ∀ j u, vs[j]? = some u → W.cell? ⟨b, off + j, none⟩ = some u) := by
  obtain ⟨hl, h0 | ⟨b, off, g1, g2, g3, g4, g5⟩⟩ := h
  · refine ⟨[], by simp; omega, by simp, ?_, .inl ⟨h0, rfl⟩⟩
    cases f with
    | nil => exact fun _ _ _ _ _ _ _ => trivial
    | cons t bs k r => simp [Forest.length] at hl; omega
  · obtain ⟨vs, v1, v2, v3, v4⟩ := RowF.vals f b off g5
    exact ⟨vs, by rw [v1, hl], v2, v4, .inr ⟨b, off, g1, v3⟩⟩
theorem RowF.app {n : Nat} {W : World} : ∀ (f g : Forest) (b off : Nat), RowF n W f b off → RowF n W g b (off + f.length * 3) → RowF n W (f.app g) b off
  | .nil, g, b, off, _, h => by simpa [Forest.length, Forest.app] using h
  | .cons t bs k r, g, b, off, hf, hg => by
    obtain ⟨a, len, cap, ka, kl, kc, h1, h2, h3, h4, h5, h6, h7, h8, h9⟩ := hf
    exact ⟨a, len, cap, ka, kl, kc, h1, h2, h3, h4, h5, h6, h7, h8, RowF.app r g b (off + 3) h9 (by rw [show off + 3 + r.length * 3 = off + (Forest.cons t bs k r).length * 3 by simp only [Forest.length]; omega]; exact hg)⟩
section
variable {P : Program} {ops : Array Oper} {rest : List Oper} {o : Oper} {a : Act} {w : World} {Q : Exit → Act → World → Prop}
theorem wpList_append_vals (hgd : o.guard = none) (s x : Operand) (t : TypeId) (ho : o.op = .call { callee := .builtin .append, args := #[s, x], argTypes := #[t, t] })
    (base : Nat) (e : TypeId) (i : TypeInfo) (z : Value) (size bytes : Nat) (ht : P.underlying t = some (.slice e)) (hi : P.info? e = some i) (hz : i.zero = some z) (hsize : i.size = size) (hby : i.bytes = bytes) (hzs : z.cells.size = size) (hsz : 0 < size)
    (v : Value) (n : Nat) (xs : List Value) (hs : a.eval s = v) (hown : w.ownsRow base e size v n xs)
    (p : Option Addr) (m c : Nat) (vs : List Value) (hx : a.eval x = .slice p m c) (hl : vs.length = m * size) (h1 : ∀ u ∈ vs, u.oneCell' = true)
    (hr : (m = 0 ∧ vs = []) ∨ ∃ b off, p = some ⟨b, off, none⟩ ∧ ∀ j u, vs[j]? = some u → w.cell? ⟨b, off + j, none⟩ = some u) (hsm : (n + m) * bytes ≤ 140737488355328) (hnm : n + m ≤ maxLen) (hbase : base ≤ w.heap.size)
    (h : ∀ v' w', w'.ownsRow base e size v' (n + m) (xs ++ vs) → w.grownBy w' v.ownBlock → (v'.ownBlock = v.ownBlock ∨ v'.ownBlock = some w.heap.size) → wpList P ops Q rest (a.put o.dst v') w') :
    wpList P ops Q (o :: rest) a w := by
  have key : ∀ ad, p = some ad → (∀ j u, vs[j]? = some u → w.cell? (ad.add j) = some u) → wpList P ops Q (o :: rest) a w := fun ad hp hc => by
    subst hp
    exact wpList_append_own_at (w := w) hgd s x t ho base e i z size bytes ht hi hz hsize hby hzs hsz v n _ hs hown ad m c vs hx hl hc h1 hnm hsm hbase (fun v' w' h2 h3 _ h5 => h v' w' h2 h3 h5)
  rcases hr with ⟨rfl, rfl⟩ | ⟨b, off, rfl, hc⟩
  · cases p with
    | some ad => exact key ad rfl (fun j u hj => by simp at hj)
    | none =>
      refine wpList_plain hgd fun K hK => ?_
      have hr : (Builtin.append_ #[t, t] o.type #[v, .slice none 0 c]).run P w = .ok v w := by
        rcases hown.2 with ⟨rfl, rfl⟩ | ⟨g, cap, cur, rfl, _, _, hnc, _⟩
        · simp [Builtin.append_, run_underlying ht, sizeOf, typeInfo, hi, Builtin.lenOf, Builtin.firstCells]
        · simp [Builtin.append_, run_underlying ht, sizeOf, typeInfo, hi, Builtin.lenOf, Builtin.firstCells, hnc, storeCells]
      unfold Oper.wp execOp
      simp only [ho, resolve, invoke, builtin, Sem.run_bind, Sem.run_pure, Result.andThen_ok, List.map_toArray, List.map_cons, List.map_nil, hs, hx, hr]
      exact hK _ _ (h v w (by simpa using hown) ⟨rfl, rfl, rfl, Nat.le_refl _, fun _ _ _ => rfl⟩ (.inl rfl))
  · refine key _ rfl (fun j u hj => ?_)
    rw [show (⟨b, off, none⟩ : Addr).add j = ⟨b, off + j, none⟩ from Addr.add_lit ..]
    exact hc j u hj
end
end Go.Proofs.YtejcandhijdnhaaGreat

/- The walk of slices.Equal and tlv.Same. -/
namespace Go.Proofs.YtejcandhijdnhaaGreat
open Go Go.RowKit
set_option linter.unusedVariables false
set_option linter.unnecessarySimpa false
theorem take_next {xs ys : List Int} {k : Nat} (h : xs.take k = ys.take k) (h1 : k < xs.length) (h2 : k < ys.length) (he : xs[k] = ys[k]) : xs.take (k + 1) = ys.take (k + 1) := by
  rw [List.take_succ_eq_append_getElem h1, List.take_succ_eq_append_getElem h2, h, he]
end Go.Proofs.YtejcandhijdnhaaGreat

/- A region that draws its order and holds calls that make memory: what only reads is taken first; a call is met where it alone may come up. -/
namespace Go.Proofs.YtejcandhijdnhaaGreat
open Go Go.RowKit
set_option linter.unusedVariables false
section
variable {P : Program} {ops : Array Oper} {md : Region.Mode} {R : World → World → Prop}
/-- how the world may go on -/
structure Pre (R : World → World → Prop) : Prop where
  refl : ∀ w, R w w
  trans : ∀ {a b c}, R a b → R b c → R a c
def upV (P : Program) (K : Value → World → Prop) : Result Next → Prop
  | .ok (.value v) w' => K v w'
  | .ok .skip w' => K undef w'
  | .ok (.enter f args) w' => Calls P f args w' fun e w'' => ∃ v, e = .returned v ∧ K v w''
  | _ => False
theorem upV_value (K : Value → World → Prop) (v : Value) (w : World) : upV P K (.ok (.value v) w) = K v w := rfl
theorem upV_skip (K : Value → World → Prop) (w : World) : upV P K (.ok .skip w) = K undef w := rfl
theorem upV_enter (K : Value → World → Prop) (f : FuncId) (args : Array Value) (w : World) : upV P K (.ok (.enter f args) w) = Calls P f args w fun e w'' => ∃ v, e = .returned v ∧ K v w'' := rfl
theorem upV_mono {K K' : Value → World → Prop} (h : ∀ v w, K v w → K' v w) {r : Result Next} (hh : upV P K r) : upV P K' r := by
  cases r with
  | ok n w' =>
    cases n <;> simp only [upV] at hh ⊢
    case enter f args => exact hh.mono fun e w'' ⟨v, he, hk⟩ => ⟨v, he, h _ _ hk⟩
    all_goals exact h _ _ hh
  | halt x w' => simp only [upV] at hh
def opV (P : Program) (ops : Array Oper) (o : Oper) (K : Value → World → Prop) (a : Act) (w : World) : Prop :=
  if Region.wanted o (yielded ops a.tmps) then upV P K ((execOp a.eval o).run P w) else K undef w
theorem opV_mono {o : Oper} {K K' : Value → World → Prop} {a : Act} {w : World} (h : ∀ v w, K v w → K' v w) (hh : opV P ops o K a w) : opV P ops o K' a w := by
  unfold opV at *
  split
  · rename_i hw; simp only [hw, if_true] at hh; exact upV_mono h hh
  · rename_i hw; simp only [hw] at hh; exact h _ _ hh
theorem wpOp_of_opV {i : Nat} {o : Oper} {K : Act → World → Prop} {a : Act} {w : World} {Q : Exit → Act → World → Prop} (hi : ops[i]? = some o) (hh : opV P ops o (fun v w' => K (a.put o.dst v) w') a w) : wpOp P ops Q i K a w := by
  unfold wpOp opV at *
  simp only [hi]
  split
  · rename_i hw
    simp only [hw, if_true] at hh
    refine .inl ?_
    unfold Oper.wp
    generalize (execOp a.eval o).run P w = r at *
    cases r with
    | ok n w' =>
      cases n <;> simp only [upV] at hh <;> simp only [Oper.upon]
      case enter f args => exact hh.mono fun e w'' ⟨v, he, hk⟩ => by subst he; exact hk
      all_goals exact hh
    | halt x w' => simp only [upV] at hh
  · rename_i hw; simp only [hw] at hh; exact hh
theorem opV_put {oi oj : Oper} {v : Value} {K : Value → World → Prop} {a : Act} {w : World} (hap : oi.apart ops oj = true) (hsj : ∀ cs b, oj.op ≠ .select cs b)
    (h : opV P ops oj K (a.put oi.dst v) w) : opV P ops oj K a w := by
  obtain ⟨h1, h2, h3⟩ := Oper.apart_spec hap
  unfold opV at *
  rw [wanted_put oj a oi.dst v h1, execOp_put oj hsj a oi.dst v h1] at h
  exact h
def anyV (R : World → World → Prop) (P : Program) (md : Region.Mode) (ops : Array Oper) (L : Act → World → Prop) : Nat → Array Bool → Act → World → Prop
  | 0, listed, a, w => Region.ready md ops listed = [] ∧ L a w
  | f + 1, listed, a, w => (Region.ready md ops listed = [] → L a w) ∧
    ∀ i ∈ Region.ready md ops listed, ∃ o, ops[i]? = some o ∧ opV P ops o (fun v w' => R w w' ∧ anyV R P md ops L f (listed.setIfInBounds i true) (a.put o.dst v) w') a w
theorem wpAny_of_anyV {L : Act → World → Prop} {Q : Exit → Act → World → Prop} (hL : ∀ a w, L a w → Q .normal a w) : ∀ (f : Nat) (listed : Array Bool) (a : Act) (w : World), anyV R P md ops L f listed a w → wpAny P md ops Q f listed a w
  | 0, _, _, _, h => ⟨h.1, hL _ _ h.2⟩
  | f + 1, listed, a, w, h => ⟨fun h0 => hL _ _ (h.1 h0), fun i hi => by
      obtain ⟨o, ho, hop⟩ := h.2 i hi
      exact wpOp_of_opV ho (opV_mono (fun v w' hk => wpAny_of_anyV hL f _ _ _ hk.2) hop)⟩
theorem opV_of_yields {o : Oper} {v : Value} {a : Act} {w : World} {K : Value → World → Prop} (hy : YieldsAt P ops w o v a) (h : K v w) : opV P ops o K a w := by
  unfold opV
  rcases hy with ⟨hw, hv | ⟨hv, rfl⟩ | ⟨f, args, hv, hc⟩⟩ | ⟨hw, rfl⟩
  · simp only [hw, if_true, hv, upV]; exact h
  · simp only [hw, if_true, hv, upV]; exact h
  · simp only [hw, if_true, hv, upV]; exact hc.mono fun e w'' ⟨he, hw'⟩ => ⟨v, he, by rw [hw']; exact h⟩
  · simp only [hw, Bool.false_eq_true, if_false]; exact h
theorem anyV_first {L : Act → World → Prop} {i : Nat} {oi : Oper} {v : Value} (hR : Pre R) (hi : ops[i]? = some oi) (hsel : ∀ (j : Nat) (o : Oper) cs b, ops[j]? = some o → o.op ≠ .select cs b) :
    ∀ (fuel : Nat) (listed : Array Bool) (a : Act) (w : World),
      (∀ j oj, ops[j]? = some oj → j ≠ i → listed.getD j true = false → (∀ e ∈ oj.after, Region.binds md e = true → e.on ≠ i) → oi.apart ops oj = true) →
      i ∈ Region.ready md ops listed → (∀ W, R w W → YieldsAt P ops W oi v a) →
      anyV R P md ops L fuel (listed.setIfInBounds i true) (a.put oi.dst v) w → anyV R P md ops L (fuel + 1) listed a w := by
  intro fuel
  induction fuel with
  | zero =>
    intro listed a w _ hr hy H
    refine ⟨fun h => (by rw [h] at hr; cases hr), fun j hj => ?_⟩
    by_cases hji : j = i
    · subst hji; exact ⟨oi, hi, opV_of_yields (hy w (hR.refl w)) ⟨hR.refl w, H⟩⟩
    · have := ready_mono hj hji
      rw [H.1] at this
      cases this
  | succ fuel ih =>
    intro listed a w hfree hr hy H
    refine ⟨fun h => (by rw [h] at hr; cases hr), fun j hj => ?_⟩
    by_cases hji : j = i
    · subst hji; exact ⟨oi, hi, opV_of_yields (hy w (hR.refl w)) ⟨hR.refl w, H⟩⟩
    · obtain ⟨oj, hoj, h1⟩ := H.2 j (ready_mono hj hji)
      obtain ⟨hjun, oj', hoj', hall⟩ := mem_ready.1 hj
      obtain rfl : oj' = oj := Option.some.inj (hoj'.symm.trans hoj)
      have hnot : ∀ e ∈ oj'.after, Region.binds md e = true → e.on ≠ i := fun e he hb heq => by
        have h1 := hall e he hb
        have h0 := (mem_ready.1 hr).1
        rw [heq] at h1
        rcases Nat.lt_or_ge i listed.size with h' | h'
        · simp [h'] at h0 h1; rw [h0] at h1; cases h1
        · simp [Array.getElem?_eq_none h'] at h1
      have hap := hfree j oj' hoj hji hjun hnot
      obtain ⟨p1, p2, p3⟩ := Oper.apart_spec hap
      have h2 := opV_put hap (fun cs b => hsel j oj' cs b hoj) h1
      have hfree' : ∀ k ok, ops[k]? = some ok → k ≠ i → (listed.setIfInBounds j true).getD k true = false →
          (∀ e ∈ ok.after, Region.binds md e = true → e.on ≠ i) → oi.apart ops ok = true := fun k ok hk hki hun hno => by
        refine hfree k ok hk hki ?_ hno
        by_cases hjk : j = k
        · subst hjk; exact hjun
        · rw [getD_set_ne true hjk] at hun; exact hun
      refine ⟨oj', hoj, opV_mono (fun u w' h3 => ⟨h3.1, ih (listed.setIfInBounds j true) _ w' hfree' (ready_mono hr (Ne.symm hji)) (fun W hW => ?_) ?_⟩) h2⟩
      · exact (hy W (hR.trans h3.1 hW)).of_same (execOp_put oi (fun cs b => hsel i oi cs b hi) a oj'.dst u p3) (wanted_put oi a oj'.dst u p3)
      · have := h3.2
        rw [Array.setIfInBounds_comm _ _ hji, ← Act.put_comm a v u p2]
        exact this
/-- an operation that only reads is taken first -/
theorem anyV_val {L : Act → World → Prop} (i : Nat) {o : Oper} {v : Value} {fuel : Nat} {listed : Array Bool} {a : Act} {w : World} (hR : Pre R) (hi : ops[i]? = some o)
    (hs : Region.noSelect ops = true) (hf : Region.free md ops listed i = true) (hr : (Region.ready md ops listed).contains i = true) (hw : Region.wanted o (yielded ops a.tmps) = true)
    (hy : ∀ W, R w W → (execOp a.eval o).run P W = .ok (.value v) W)
    (h : ∀ K : Act → Prop, (∀ a', anyV R P md ops L fuel (listed.setIfInBounds i true) a' w → K a') → K (a.put o.dst v)) : anyV R P md ops L (fuel + 1) listed a w :=
  anyV_first hR hi (Region.noSelect_spec hs) fuel listed a w (Region.free_spec hi hf) (by simpa using hr) (fun W hW => .inl ⟨hw, .inl (hy W hW)⟩) (h _ fun _ h => h)
/-- an operation that is not wanted -/
theorem anyV_skip {L : Act → World → Prop} (i : Nat) {o : Oper} {fuel : Nat} {listed : Array Bool} {a : Act} {w : World} (hR : Pre R) (hi : ops[i]? = some o)
    (hs : Region.noSelect ops = true) (hf : Region.free md ops listed i = true) (hr : (Region.ready md ops listed).contains i = true) (hw : Region.wanted o (yielded ops a.tmps) = false)
    (h : ∀ K : Act → Prop, (∀ a', anyV R P md ops L fuel (listed.setIfInBounds i true) a' w → K a') → K (a.put o.dst undef)) : anyV R P md ops L (fuel + 1) listed a w :=
  anyV_first hR hi (Region.noSelect_spec hs) fuel listed a w (Region.free_spec hi hf) (by simpa using hr) (fun W hW => .inr ⟨hw, rfl⟩) (h _ fun _ h => h)
/-- an operation that alone may come up -/
theorem anyV_only {L : Act → World → Prop} (i : Nat) {o : Oper} {fuel : Nat} {listed : Array Bool} {a : Act} {w : World} (hi : ops[i]? = some o) (hr : Region.ready md ops listed = [i])
    (hw : Region.wanted o (yielded ops a.tmps) = true)
    (h : ∀ K : Value → World → Prop, (∀ v w', R w w' → anyV R P md ops L fuel (listed.setIfInBounds i true) (a.put o.dst v) w' → K v w') → upV P K ((execOp a.eval o).run P w)) : anyV R P md ops L (fuel + 1) listed a w := by
  refine ⟨fun h0 => (by rw [hr] at h0; cases h0), fun j hj => ?_⟩
  rw [hr] at hj
  obtain rfl : j = i := by simpa using hj
  refine ⟨o, hi, ?_⟩
  unfold opV
  rw [hw, if_pos rfl]
  exact h _ fun v w' h1 h2 => ⟨h1, h2⟩
theorem anyV_done {L : Act → World → Prop} {listed : Array Bool} {a : Act} {w : World} (hr : Region.ready md ops listed = []) (h : L a w) : anyV R P md ops L 0 listed a w := ⟨hr, h⟩
/-- put, in a frame that is written out -/
theorem anyV_frame {L : Act → World → Prop} {f : Nat} {listed : Array Bool} {a : Act} {w : World} (h : ∀ K : Act → Prop, (∀ a', anyV R P md ops L f listed a' w → K a') → K a) : anyV R P md ops L f listed a w := h _ fun _ h => h
end
/-- THE LAW -/
theorem wp_region_anyV {P : Program} (R : World → World → Prop) {id : Nat} {Q : Exit → Act → World → Prop} {a : Act} {w : World} {ops : Array Oper} (hm : P.follows .mixedOrders = true) (n : Nat) (hn : ops.size = n)
    (h : anyV R P .any ops (fun a w => Q .normal a w) n (Array.replicate n false) a w.drew) : (Code.region id ops true).wp P Q a w := by
  subst hn
  exact wp_region_any hm (wpAny_of_anyV (fun _ _ h => h) _ _ _ _ h)
/-- new blocks alone -/
def Grows (w w' : World) : Prop := Below w.heap.size w w'
theorem Grows.pre : Pre Grows := ⟨fun w => Below.refl _ w, fun {a b c} h k => h.trans (k.mono h.size)⟩
/-- new blocks, and the blocks S -/
def GrowsBut (S : Nat → Prop) (w w' : World) : Prop := Wr S S w w'
theorem GrowsBut.pre (S : Nat → Prop) : Pre (GrowsBut S) := ⟨fun w => Wr.refl _ w, fun {a b c} h k => Wr.trans h k⟩
theorem Wr.undrew {S S' : Nat → Prop} {A B : World} (h : Wr S S' A.drew B) : Wr S S' A B := ⟨h.os, h.tape, h.output, h.size, h.block, h.new⟩
theorem below_undrew {n : Nat} {A B : World} (h : Below n A.drew B) : Below n A B := ⟨h.os, h.tape, h.output, h.size, h.block⟩
theorem below_of_wrS {n : Nat} {S S' : Nat → Prop} {A B : World} (h : Wr S S' A B) (hS : ∀ b, b < n → ¬ S b) (hn : n ≤ A.heap.size) : Below n A B :=
  ⟨h.os, h.tape, h.output, h.size, fun b hb => h.block b (by omega) (hS b hb)⟩
theorem Wr.after {S : Nat → Prop} {A B C : World} (h : Below A.heap.size A B) (k : Wr S S B C) : Wr S S A C := Wr.trans (Wr.of_below h) k
theorem Wr.widen {S S' : Nat → Prop} {A B : World} (h : Wr S S A B) (hs : ∀ b, S b → S' b) : Wr S' S' A B :=
  ⟨h.os, h.tape, h.output, h.size, fun b hb hn => h.block b hb (fun h' => hn (hs b h')), fun b h => .inl h⟩
end Go.Proofs.YtejcandhijdnhaaGreat

/- The walk of slices.Clone; what twin owes. -/
namespace Go.Proofs.YtejcandhijdnhaaGreat
open Go Go.RowKit
attribute [local go_sem] upV_value upV_skip upV_enter
set_option linter.unusedVariables false
set_option linter.unnecessarySimpa false
set_option maxRecDepth 100000 in
set_option maxHeartbeats 1000000 in
theorem clone_any (a : Option Addr) (len cap : Nat) (zs : List Int) (w : World) (n : Nat) (hn : n ≤ w.heap.size) (hr : Row8 n w (.slice a len cap) zs) (hsm : zs.length ≤ 1000000000) :
    Calls Tryz.prog 19 #[.slice a len cap] w fun e w' => ∃ v, e = .returned v ∧ w'.ownsRow w.heap.size 5 1 v len (zs.map (Value.int .u8)) ∧ Below w.heap.size w w' := by
  obtain ⟨i0, hi, hz0, hz1, hz2⟩ := info_parts info_u8
  have e1 := hr.1.open.1
  have qn := fun (a : Option Addr) (n c : Nat) (W : World) => Lib.run_eql_slice_nil (P := Tryz.prog) W 22 5 a n c 0 0 Tryz.underlying22
  cases a with
  | none =>
    have h0 : len = 0 := by
      rcases hr.1 with ⟨_, _, h, _⟩ | ⟨_, _, _, h, _⟩
      · injection h
      · injection h with h; cases h
    subst h0
    have hz : zs = [] := List.eq_nil_of_length_eq_zero e1
    subst hz
    go_enter Tryz.func19, Tryz.ntmps19
    go_wp2
    go_ret
    exact ⟨_, rfl, World.ownsRow_nil _ _ _ _, Below.refl _ _⟩
  | some p =>
    go_enter Tryz.func19, Tryz.ntmps19
    go_wp2_with (at_builtin; refine held ?_)
    unfold Held
    have hl0 := World.ownsRow_lit (base := w.heap.size) (e := 5) (size := 1) w #[] 0 (Nat.le_refl _) (by decide) rfl
    obtain ⟨W2, hW2⟩ : ∃ W2, W2 = w.alloc (.cells #[] 5) := ⟨_, rfl⟩
    have bb : Below w.heap.size w W2 := by rw [hW2]; exact (Below.refl _ w).alloc (Nat.le_refl _) _
    rw [← hW2] at hl0 ⊢
    refine wpList_append_row rfl _ _ 22 rfl w.heap.size 5 i0 Tryz.underlying22 hi hz0 hz1 hz2 (.slice (some ⟨w.heap.size, 0, none⟩) 0 0) 0 [] rfl hl0 (some p) len cap n zs rfl (hr.1.below ⟨bb.os, bb.tape, bb.output, bb.size, fun q hq => bb.block q (by omega)⟩) (by omega) bb.size ?_
    intro v1 u1 o1 hg1 hv1
    have b10 : Below w.heap.size w u1 := bb.grown hg1 bb.size (fun b h => by simp [Value.ownBlock] at h; omega)
    rw [Nat.zero_add, List.nil_append] at o1
    clear hl0 hW2 bb hg1 hv1
    go_wp2
    go_ret
    exact ⟨_, rfl, o1, b10⟩
end Go.Proofs.YtejcandhijdnhaaGreat

/- A region whose last operations stand behind all others (a store behind what it stores): the first part by AnyV's way, the rest one by one. -/
namespace Go.Proofs.YtejcandhijdnhaaGreat
open Go Go.RowKit
set_option linter.unusedVariables false
section
variable {P : Program} {ops : Array Oper} {md : Region.Mode} {R : World → World → Prop}
/-- z stands behind all that lie ahead of it -/
def behind (md : Region.Mode) (ops : Array Oper) (z : Nat) : Bool :=
  match ops[z]? with
  | some oz => (List.range z).all fun k => oz.after.toList.any fun e => Region.binds md e && (e.on == k)
  | none => false
theorem behind_spec {z i : Nat} (h : behind md ops z = true) (hi : i < z) : ∃ oz, ops[z]? = some oz ∧ ∃ e ∈ oz.after, Region.binds md e = true ∧ e.on = i := by
  unfold behind at h
  cases hz : ops[z]? with
  | none => rw [hz] at h; cases h
  | some oz =>
    rw [hz] at h
    have h1 := List.all_eq_true.1 h i (List.mem_range.2 hi)
    obtain ⟨e, he, h2⟩ := List.any_eq_true.1 h1
    simp only [Bool.and_eq_true, beq_iff_eq] at h2
    exact ⟨oz, rfl, e, by simpa using he, h2.1, h2.2⟩
def anyZ (R : World → World → Prop) (P : Program) (md : Region.Mode) (ops : Array Oper) (z : Nat) (L : Array Bool → Act → World → Prop) : Nat → Array Bool → Act → World → Prop
  | 0, listed, a, w => Region.ready md ops listed = [z] ∧ L listed a w
  | f + 1, listed, a, w => Region.ready md ops listed ≠ [] ∧
    ∀ i ∈ Region.ready md ops listed, ∃ o, ops[i]? = some o ∧ opV P ops o (fun v w' => R w w' ∧ anyZ R P md ops z L f (listed.setIfInBounds i true) (a.put o.dst v) w') a w
theorem wpAny_of_anyZ {z r : Nat} {Q : Exit → Act → World → Prop} : ∀ (f : Nat) (listed : Array Bool) (a : Act) (w : World), anyZ R P md ops z (wpAny P md ops Q r) f listed a w → wpAny P md ops Q (f + r) listed a w
  | 0, _, _, _, h => by rw [Nat.zero_add]; exact h.2
  | f + 1, listed, a, w, h => by
    rw [show f + 1 + r = (f + r) + 1 by omega]
    exact ⟨fun h0 => absurd h0 h.1, fun i hi => by
      obtain ⟨o, ho, hop⟩ := h.2 i hi
      exact wpOp_of_opV ho (opV_mono (fun v w' hk => wpAny_of_anyZ f _ _ _ hk.2) hop)⟩
theorem anyZ_first {z : Nat} {L : Array Bool → Act → World → Prop} {i : Nat} {oi : Oper} {v : Value} (hR : Pre R) (hz : behind md ops z = true) (hiz : i < z) (hi : ops[i]? = some oi) (hsel : ∀ (j : Nat) (o : Oper) cs b, ops[j]? = some o → o.op ≠ .select cs b) :
    ∀ (fuel : Nat) (listed : Array Bool) (a : Act) (w : World),
      (∀ j oj, ops[j]? = some oj → j ≠ i → listed.getD j true = false → (∀ e ∈ oj.after, Region.binds md e = true → e.on ≠ i) → oi.apart ops oj = true) →
      i ∈ Region.ready md ops listed → (∀ W, R w W → YieldsAt P ops W oi v a) →
      anyZ R P md ops z L fuel (listed.setIfInBounds i true) (a.put oi.dst v) w → anyZ R P md ops z L (fuel + 1) listed a w := by
  intro fuel
  induction fuel with
  | zero =>
    intro listed a w _ hr hy H
    refine ⟨fun h => (by rw [h] at hr; cases hr), fun j hj => ?_⟩
    by_cases hji : j = i
    · subst hji; exact ⟨oi, hi, opV_of_yields (hy w (hR.refl w)) ⟨hR.refl w, H⟩⟩
    · have := ready_mono hj hji
      rw [H.1] at this
      obtain rfl : j = z := by simpa using this
      obtain ⟨oz, hoz, e, he, hb, heq⟩ := behind_spec hz hiz
      obtain ⟨_, oj', hoj', hall⟩ := mem_ready.1 hj
      obtain rfl : oj' = oz := Option.some.inj (hoj'.symm.trans hoz)
      have h1 := hall e he hb
      have h0 := (mem_ready.1 hr).1
      rw [heq] at h1
      exfalso
      rcases Nat.lt_or_ge i listed.size with h' | h'
      · simp [h'] at h0 h1; rw [h0] at h1; cases h1
      · simp [Array.getElem?_eq_none h'] at h1
  | succ fuel ih =>
    intro listed a w hfree hr hy H
    refine ⟨fun h => (by rw [h] at hr; cases hr), fun j hj => ?_⟩
    by_cases hji : j = i
    · subst hji; exact ⟨oi, hi, opV_of_yields (hy w (hR.refl w)) ⟨hR.refl w, H⟩⟩
    · obtain ⟨oj, hoj, h1⟩ := H.2 j (ready_mono hj hji)
      obtain ⟨hjun, oj', hoj', hall⟩ := mem_ready.1 hj
      obtain rfl : oj' = oj := Option.some.inj (hoj'.symm.trans hoj)
      have hnot : ∀ e ∈ oj'.after, Region.binds md e = true → e.on ≠ i := fun e he hb heq => by
        have h1 := hall e he hb
        have h0 := (mem_ready.1 hr).1
        rw [heq] at h1
        rcases Nat.lt_or_ge i listed.size with h' | h'
        · simp [h'] at h0 h1; rw [h0] at h1; cases h1
        · simp [Array.getElem?_eq_none h'] at h1
      have hap := hfree j oj' hoj hji hjun hnot
      obtain ⟨p1, p2, p3⟩ := Oper.apart_spec hap
      have h2 := opV_put hap (fun cs b => hsel j oj' cs b hoj) h1
      have hfree' : ∀ k ok, ops[k]? = some ok → k ≠ i → (listed.setIfInBounds j true).getD k true = false →
          (∀ e ∈ ok.after, Region.binds md e = true → e.on ≠ i) → oi.apart ops ok = true := fun k ok hk hki hun hno => by
        refine hfree k ok hk hki ?_ hno
        by_cases hjk : j = k
        · subst hjk; exact hjun
        · rw [getD_set_ne true hjk] at hun; exact hun
      refine ⟨oj', hoj, opV_mono (fun u w' h3 => ⟨h3.1, ih (listed.setIfInBounds j true) _ w' hfree' (ready_mono hr (Ne.symm hji)) (fun W hW => ?_) ?_⟩) h2⟩
      · exact (hy W (hR.trans h3.1 hW)).of_same (execOp_put oi (fun cs b => hsel i oi cs b hi) a oj'.dst u p3) (wanted_put oi a oj'.dst u p3)
      · have := h3.2
        rw [Array.setIfInBounds_comm _ _ hji, ← Act.put_comm a v u p2]
        exact this
/-- an operation that only reads is taken first -/
theorem anyZ_val {z : Nat} {L : Array Bool → Act → World → Prop} (i : Nat) {o : Oper} {v : Value} {fuel : Nat} {listed : Array Bool} {a : Act} {w : World} (hR : Pre R) (hz : behind md ops z = true) (hiz : i < z) (hi : ops[i]? = some o)
    (hs : Region.noSelect ops = true) (hf : Region.free md ops listed i = true) (hr : (Region.ready md ops listed).contains i = true) (hw : Region.wanted o (yielded ops a.tmps) = true)
    (hy : ∀ W, R w W → (execOp a.eval o).run P W = .ok (.value v) W)
    (h : ∀ K : Act → Prop, (∀ a', anyZ R P md ops z L fuel (listed.setIfInBounds i true) a' w → K a') → K (a.put o.dst v)) : anyZ R P md ops z L (fuel + 1) listed a w :=
  anyZ_first hR hz hiz hi (Region.noSelect_spec hs) fuel listed a w (Region.free_spec hi hf) (by simpa using hr) (fun W hW => .inl ⟨hw, .inl (hy W hW)⟩) (h _ fun _ h => h)
/-- an operation that is not wanted -/
theorem anyZ_skip {z : Nat} {L : Array Bool → Act → World → Prop} (i : Nat) {o : Oper} {fuel : Nat} {listed : Array Bool} {a : Act} {w : World} (hR : Pre R) (hz : behind md ops z = true) (hiz : i < z) (hi : ops[i]? = some o)
    (hs : Region.noSelect ops = true) (hf : Region.free md ops listed i = true) (hr : (Region.ready md ops listed).contains i = true) (hw : Region.wanted o (yielded ops a.tmps) = false)
    (h : ∀ K : Act → Prop, (∀ a', anyZ R P md ops z L fuel (listed.setIfInBounds i true) a' w → K a') → K (a.put o.dst undef)) : anyZ R P md ops z L (fuel + 1) listed a w :=
  anyZ_first hR hz hiz hi (Region.noSelect_spec hs) fuel listed a w (Region.free_spec hi hf) (by simpa using hr) (fun W hW => .inr ⟨hw, rfl⟩) (h _ fun _ h => h)
/-- an operation that alone may come up -/
theorem anyZ_only {z : Nat} {L : Array Bool → Act → World → Prop} (i : Nat) {o : Oper} {fuel : Nat} {listed : Array Bool} {a : Act} {w : World} (hi : ops[i]? = some o) (hr : Region.ready md ops listed = [i])
    (hw : Region.wanted o (yielded ops a.tmps) = true)
    (h : ∀ K : Value → World → Prop, (∀ v w', R w w' → anyZ R P md ops z L fuel (listed.setIfInBounds i true) (a.put o.dst v) w' → K v w') → upV P K ((execOp a.eval o).run P w)) : anyZ R P md ops z L (fuel + 1) listed a w := by
  refine ⟨fun h0 => (by rw [hr] at h0; cases h0), fun j hj => ?_⟩
  rw [hr] at hj
  obtain rfl : j = i := by simpa using hj
  refine ⟨o, hi, ?_⟩
  unfold opV
  rw [hw, if_pos rfl]
  exact h _ fun v w' h1 h2 => ⟨h1, h2⟩
theorem anyZ_done {z : Nat} {L : Array Bool → Act → World → Prop} {listed : Array Bool} {a : Act} {w : World} (hr : Region.ready md ops listed = [z]) (h : L listed a w) : anyZ R P md ops z L 0 listed a w := ⟨hr, h⟩
theorem anyZ_frame {z : Nat} {L : Array Bool → Act → World → Prop} {f : Nat} {listed : Array Bool} {a : Act} {w : World} (h : ∀ K : Act → Prop, (∀ a', anyZ R P md ops z L f listed a' w → K a') → K a) : anyZ R P md ops z L f listed a w := h _ fun _ h => h
/-- the rest, one by one -/
theorem wpAny_only {Q : Exit → Act → World → Prop} (i : Nat) {o : Oper} {fuel : Nat} {listed : Array Bool} {a : Act} {w : World} (hi : ops[i]? = some o) (hr : Region.ready md ops listed = [i])
    (hw : Region.wanted o (yielded ops a.tmps) = true)
    (h : ∀ K : Value → World → Prop, (∀ v w', wpAny P md ops Q fuel (listed.setIfInBounds i true) (a.put o.dst v) w' → K v w') → upV P K ((execOp a.eval o).run P w)) : wpAny P md ops Q (fuel + 1) listed a w := by
  refine ⟨fun h0 => (by rw [hr] at h0; cases h0), fun j hj => ?_⟩
  rw [hr] at hj
  obtain rfl : j = i := by simpa using hj
  refine wpOp_of_opV hi ?_
  unfold opV
  rw [hw, if_pos rfl]
  exact h _ fun v w' h2 => h2
theorem wpAny_frame {Q : Exit → Act → World → Prop} {f : Nat} {listed : Array Bool} {a : Act} {w : World} (h : ∀ K : Act → Prop, (∀ a', wpAny P md ops Q f listed a' w → K a') → K a) : wpAny P md ops Q f listed a w := h _ fun _ h => h
theorem wpAny_done {Q : Exit → Act → World → Prop} {listed : Array Bool} {a : Act} {w : World} (hr : Region.ready md ops listed = []) (h : Q .normal a w) : wpAny P md ops Q 0 listed a w := ⟨hr, h⟩
end
/-- THE LAW: n operations, the first z in any order, the rest one by one -/
theorem wp_region_anyZ {P : Program} (R : World → World → Prop) (z r : Nat) {id : Nat} {Q : Exit → Act → World → Prop} {a : Act} {w : World} {ops : Array Oper} (hm : P.follows .mixedOrders = true) (hn : ops.size = z + r)
    (h : anyZ R P .any ops z (wpAny P .any ops Q r) z (Array.replicate (z + r) false) a w.drew) : (Code.region id ops true).wp P Q a w := by
  rw [← hn] at h
  exact wp_region_any hm (by have := wpAny_of_anyZ _ _ _ _ h; rw [← hn] at this; exact this)
end Go.Proofs.YtejcandhijdnhaaGreat

/- append(own, values...), as AnyV meets it. -/
namespace Go.Proofs.YtejcandhijdnhaaGreat
open Go Go.RowKit
set_option linter.unusedVariables false
section
variable {P : Program} {o : Oper} {a : Act} {w : World}
theorem run_append_vals (s x : Operand) (t : TypeId) (ho : o.op = .call { callee := .builtin .append, args := #[s, x], argTypes := #[t, t] })
    (base : Nat) (e : TypeId) (i : TypeInfo) (z : Value) (size bytes : Nat) (ht : P.underlying t = some (.slice e)) (hi : P.info? e = some i) (hz : i.zero = some z) (hsize : i.size = size) (hby : i.bytes = bytes) (hzs : z.cells.size = size) (hsz : 0 < size)
    (v : Value) (n : Nat) (xs : List Value) (hs : a.eval s = v) (hown : w.ownsRow base e size v n xs)
    (p : Option Addr) (m c : Nat) (vs : List Value) (hx : a.eval x = .slice p m c) (hl : vs.length = m * size) (h1 : ∀ u ∈ vs, u.oneCell' = true)
    (hr : (m = 0 ∧ vs = []) ∨ ∃ b off, p = some ⟨b, off, none⟩ ∧ ∀ j u, vs[j]? = some u → w.cell? ⟨b, off + j, none⟩ = some u) (hsm : (n + m) * bytes ≤ 140737488355328) (hnm : n + m ≤ maxLen) (hbase : base ≤ w.heap.size) :
    ∃ v' w', (execOp a.eval o).run P w = .ok (.value v') w' ∧ w'.ownsRow base e size v' (n + m) (xs ++ vs) ∧ w.grownBy w' v.ownBlock ∧ (v'.ownBlock = v.ownBlock ∨ v'.ownBlock = some w.heap.size) := by
  have key : ∀ ad, p = some ad → (∀ j u, vs[j]? = some u → w.cell? (ad.add j) = some u) → ∃ v' w', (execOp a.eval o).run P w = .ok (.value v') w' ∧ w'.ownsRow base e size v' (n + m) (xs ++ vs) ∧ w.grownBy w' v.ownBlock ∧ (v'.ownBlock = v.ownBlock ∨ v'.ownBlock = some w.heap.size) := fun ad hp hc => by
    subst hp
    obtain ⟨v', w', hrun, h2, h3, _, h5⟩ := run_append_own_at w base t o.type e i z size bytes ht hi hz hsize hby hzs hsz v n xs hown ad m c vs hl hc h1 hnm hsm hbase
    refine ⟨v', w', ?_, h2, h3, h5⟩
    unfold execOp
    simp only [ho, resolve, invoke, builtin, Sem.run_bind, Sem.run_pure, Result.andThen_ok, List.map_toArray, List.map_cons, List.map_nil, hs, hx, hrun]
  rcases hr with ⟨rfl, rfl⟩ | ⟨b, off, rfl, hc⟩
  · cases p with
    | some ad => exact key ad rfl (fun j u hj => by simp at hj)
    | none =>
      have hr : (Builtin.append_ #[t, t] o.type #[v, .slice none 0 c]).run P w = .ok v w := by
        rcases hown.2 with ⟨rfl, rfl⟩ | ⟨g, cap, cur, rfl, _, _, hnc, _⟩
        · simp [Builtin.append_, run_underlying ht, sizeOf, typeInfo, hi, Builtin.lenOf, Builtin.firstCells]
        · simp [Builtin.append_, run_underlying ht, sizeOf, typeInfo, hi, Builtin.lenOf, Builtin.firstCells, hnc, storeCells]
      refine ⟨v, w, ?_, by simpa using hown, ⟨rfl, rfl, rfl, Nat.le_refl _, fun _ _ _ => rfl⟩, .inl rfl⟩
      unfold execOp
      simp only [ho, resolve, invoke, builtin, Sem.run_bind, Sem.run_pure, Result.andThen_ok, List.map_toArray, List.map_cons, List.map_nil, hs, hx, hr]
  · refine key _ rfl (fun j u hj => ?_)
    rw [show (⟨b, off, none⟩ : Addr).add j = ⟨b, off + j, none⟩ from Addr.add_lit ..]
    exact hc j u hj
theorem upV_append_vals {K : Value → World → Prop} (s x : Operand) (t : TypeId) (ho : o.op = .call { callee := .builtin .append, args := #[s, x], argTypes := #[t, t] })
    (base : Nat) (e : TypeId) (i : TypeInfo) (z : Value) (size bytes : Nat) (ht : P.underlying t = some (.slice e)) (hi : P.info? e = some i) (hz : i.zero = some z) (hsize : i.size = size) (hby : i.bytes = bytes) (hzs : z.cells.size = size) (hsz : 0 < size)
    (v : Value) (n : Nat) (xs : List Value) (hs : a.eval s = v) (hown : w.ownsRow base e size v n xs)
    (p : Option Addr) (m c : Nat) (vs : List Value) (hx : a.eval x = .slice p m c) (hl : vs.length = m * size) (h1 : ∀ u ∈ vs, u.oneCell' = true)
    (hr : (m = 0 ∧ vs = []) ∨ ∃ b off, p = some ⟨b, off, none⟩ ∧ ∀ j u, vs[j]? = some u → w.cell? ⟨b, off + j, none⟩ = some u) (hsm : (n + m) * bytes ≤ 140737488355328) (hnm : n + m ≤ maxLen) (hbase : base ≤ w.heap.size)
    (h : ∀ v' w', w'.ownsRow base e size v' (n + m) (xs ++ vs) → w.grownBy w' v.ownBlock → (v'.ownBlock = v.ownBlock ∨ v'.ownBlock = some w.heap.size) → K v' w') : upV P K ((execOp a.eval o).run P w) := by
  obtain ⟨v', w', hrun, h2, h3, h5⟩ := run_append_vals (a := a) (o := o) s x t ho base e i z size bytes ht hi hz hsize hby hzs hsz v n xs hs hown p m c vs hx hl h1 hr hsm hnm hbase
  rw [hrun]
  exact h v' w' h2 h3 h5
theorem upV_store_one {K : Value → World → Prop} (ty : TypeId) (x y : Operand) (ho : o.op = .store ty x y) (g : Nat) (hx : a.eval x = .pointer (some ⟨g, 0, none⟩)) (v : Value) (hy : a.eval y = v) (h1 : v.oneCell' = true)
    (t : TypeId) (old : Value) (hg : w.heap[g]? = some (.cells #[old] t (0, 0))) (hi : (P.info? ty).map (·.size) = some 1) (h : K undef (w.setRow g #[v])) : upV P K ((execOp a.eval o).run P w) := by
  subst hy
  unfold execOp
  simp only [ho, hx, Instr.storeAt, Instr.sureAddr, Sem.run_bind, Sem.run_pure, Result.andThen_ok, run_storeVar_one w g t ty old _ hg hi h1]
  exact h
theorem Wr.setRow {S S' : Nat → Prop} {A B : World} (h : Wr S S' A B) {g : Nat} (hp : S g ∨ A.heap.size ≤ g) (cs : Array Value) : Wr S S' A (B.setRow g cs) :=
  ⟨h.os, h.tape, h.output, by rw [size_setRow]; exact h.size, fun b hb hs => (setRow_other B g b cs (fun e => by subst e; exact hp.elim hs (fun h2 => by omega))).trans (h.block b hb hs), h.new⟩
end
end Go.Proofs.YtejcandhijdnhaaGreat

/- Fields that a call made: these values, wherever they lie, are these fields, if some blocks are as they were. What twin owes. -/
namespace Go.Proofs.YtejcandhijdnhaaGreat
open Go Go.RowKit
set_option linter.unusedVariables false
set_option linter.unnecessarySimpa false
/-- these values, wherever they lie, are these fields, if the blocks S are as they were -/
def RelocS (S : Nat → Prop) (W : World) (f : Forest) (vs : List Value) : Prop :=
  ∀ (W' : World) (n' b off : Nat), (∀ x, S x → W'.heap[x]? = W.heap[x]?) → (∀ x, S x → x < n') → (∀ j u, vs[j]? = some u → W'.cell? ⟨b, off + j, none⟩ = some u) → RowF n' W' f b off
section
variable {S T : Nat → Prop} {W W2 : World} {f g : Forest} {vs us : List Value}
theorem RelocS.nil : RelocS S W .nil [] := fun _ _ _ _ _ _ _ => trivial
theorem RelocS.keep (h : RelocS S W f vs) (hs : ∀ x, S x → W2.heap[x]? = W.heap[x]?) : RelocS S W2 f vs := fun W' n' b off h1 h2 h3 => h W' n' b off (fun x hx => (h1 x hx).trans (hs x hx)) h2 h3
theorem RelocS.widen (h : RelocS S W f vs) (hs : ∀ x, S x → T x) : RelocS T W f vs := fun W' n' b off h1 h2 h3 => h W' n' b off (fun x hx => h1 x (hs x hx)) (fun x hx => h2 x (hs x hx)) h3
theorem RelocS.app (h : RelocS S W f vs) (k : RelocS S W g us) (hl : vs.length = f.length * 3) : RelocS S W (f.app g) (vs ++ us) := fun W' n' b off h1 h2 h3 => by
  refine RowF.app f g b off (h W' n' b off h1 h2 fun j u hj => h3 j u ?_) (k W' n' b (off + f.length * 3) h1 h2 fun j u hj => ?_)
  · rw [List.getElem?_append_left (List.getElem?_eq_some_iff.1 hj).1]; exact hj
  · rw [Nat.add_assoc]
    refine h3 (f.length * 3 + j) u ?_
    rw [List.getElem?_append_right (by omega), hl, Nat.add_sub_cancel_left]; exact hj
theorem RelocS.one {t : Int} {a : Option Addr} {len cap : Nat} {bs : List Int} {ka : Option Addr} {kl kc : Nat} {k : Forest} (ht1 : -9223372036854775808 ≤ t) (ht2 : t ≤ 9223372036854775807) (hbl : bs.length ≤ 140737488351232)
    (hb : ∀ (W' : World) (n' : Nat), (∀ x, S x → W'.heap[x]? = W.heap[x]?) → (∀ x, S x → x < n') → Row8 n' W' (.slice a len cap) bs) (hk : ∀ (W' : World) (n' : Nat), (∀ x, S x → W'.heap[x]? = W.heap[x]?) → (∀ x, S x → x < n') → SlF n' W' ka kl kc k) :
    RelocS S W (.cons t bs k .nil) [.int .i64 t, .slice a len cap, .slice ka kl kc] := fun W' n' b off h1 h2 h3 => by
  obtain ⟨q1, q2⟩ := hk W' n' h1 h2
  exact ⟨a, len, cap, ka, kl, kc, h3 0 _ rfl, h3 1 _ rfl, h3 2 _ rfl, ht1, ht2, ⟨hb W' n' h1 h2, hbl⟩, q1, q2, trivial⟩
end
/-- a row of bytes, in another world -/
theorem own_row8 {W : World} {base : Nat} {v : Value} {n : Nat} {bs : List Int} (h : W.ownsRow base 5 1 v n (bs.map (Value.int .u8))) (hb : ∀ z ∈ bs, 0 ≤ z ∧ z ≤ 255) (W' : World) (n' : Nat) (hs : ∀ b, v.ownBlock = some b → W'.heap[b]? = W.heap[b]? ∧ b < n') : Row8 n' W' v bs := by
  have h' := ownsRow_same h fun b hb => (hs b hb).1
  refine ⟨?_, hb⟩
  rcases (RowI.of_own h').2 with h1 | ⟨b, off, cap, e, h2, h3, h4, h5⟩
  · exact .inl h1
  · refine .inr ⟨b, off, cap, e, ?_, h3, h4, h5⟩
    exact (hs b (by rw [e]; simp [Value.ownBlock])).2
/-- a row of fields, in another world -/
theorem own_slF {S : Nat → Prop} {W : World} {base : Nat} {ka : Option Addr} {kl kc : Nat} {f : Forest} {vs : List Value} (h : W.ownsRow base 66 3 (.slice ka kl kc) kl vs) (hr : RelocS S W f vs) (hl : f.length = kl)
    (W' : World) (n' : Nat) (hs : ∀ x, S x ∨ (Value.slice ka kl kc).ownBlock = some x → W'.heap[x]? = W.heap[x]? ∧ x < n') : SlF n' W' ka kl kc f := by
  refine ⟨hl, ?_⟩
  by_cases h0 : kl = 0
  · exact .inl h0
  · have h' := ownsRow_same h fun b hb => (hs b (.inr hb)).1
    have hvl := h'.1
    rcases h.2 with ⟨_, h1⟩ | ⟨g, cap, cur, e, h2, h3, h4, h5, _⟩
    · exact absurd h1 h0
    · injection e with e1 _ e3
      subst e1 e3
      refine .inr ⟨g, 0, rfl, (hs g (.inr rfl)).2, h4, h5, hr W' n' g 0 (fun x hx => (hs x (.inl hx)).1) (fun x hx => (hs x (.inl hx)).2) fun j u hj => ?_⟩
      have hjl := (List.getElem?_eq_some_iff.1 hj).1
      rw [Nat.zero_add, h'.cellAt j (by omega), hj]
section
variable {P : Program} {ops : Array Oper} {md : Region.Mode} {R : World → World → Prop} {o : Oper} {a : Act} {w : World}
theorem upV_store_row {K : Value → World → Prop} (ty : TypeId) (x y : Operand) (ho : o.op = .store ty x y) (g : Nat) (cells : Array Value) (hx : a.eval x = .pointer (some ⟨g, 0, none⟩)) (hy : a.eval y = .agg cells)
    (t : TypeId) (old : Array Value) (hg : w.heap[g]? = some (.cells old t (0, 0))) (hi : (P.info? ty).map (·.size) = some cells.size)
    (hold : old.size = cells.size) (h1 : cells.all (·.oneCell') = true) (h : K undef (w.setRow g cells)) : upV P K ((execOp a.eval o).run P w) := by
  unfold execOp
  simp only [ho, hx, hy, Instr.storeAt, Instr.sureAddr, Sem.run_bind, Sem.run_pure, Result.andThen_ok, run_storeVar_row w g t ty old cells hg hi hold h1]
  exact h
theorem wpList_store_row {rest : List Oper} {Q : Exit → Act → World → Prop} (hgd : o.guard = none) (ty : TypeId) (x y : Operand) (ho : o.op = .store ty x y) (g : Nat) (cells : Array Value) (hx : a.eval x = .pointer (some ⟨g, 0, none⟩)) (hy : a.eval y = .agg cells)
    (t : TypeId) (old : Array Value) (hg : w.heap[g]? = some (.cells old t (0, 0))) (hi : (P.info? ty).map (·.size) = some cells.size)
    (hold : old.size = cells.size) (h1 : cells.all (·.oneCell') = true) (h : wpList P ops Q rest (a.put o.dst undef) (w.setRow g cells)) : wpList P ops Q (o :: rest) a w := by
  refine wpList_plain hgd fun K hK => ?_
  unfold Oper.wp execOp
  simp only [ho, hx, hy, Instr.storeAt, Instr.sureAddr, Sem.run_bind, Sem.run_pure, Result.andThen_ok, run_storeVar_row w g t ty old cells hg hi hold h1]
  exact hK _ _ h
theorem at_store {rest : List Oper} {Q : Exit → Act → World → Prop} {t : TypeId} {x y : Operand} (ho : o.op = .store t x y) (h : Held (wpList P ops Q (o :: rest) a w)) : wpList P ops Q (o :: rest) a w := h
/-- two operations may come up: both ways -/
theorem anyV_two {L : Act → World → Prop} (i j : Nat) {oi oj : Oper} {fuel : Nat} {listed : Array Bool} (hi : ops[i]? = some oi) (hj : ops[j]? = some oj) (hr : Region.ready md ops listed = [i, j])
    (hwi : Region.wanted oi (yielded ops a.tmps) = true) (hwj : Region.wanted oj (yielded ops a.tmps) = true)
    (h1 : ∀ K : Value → World → Prop, (∀ v w', R w w' → anyV R P md ops L fuel (listed.setIfInBounds i true) (a.put oi.dst v) w' → K v w') → upV P K ((execOp a.eval oi).run P w))
    (h2 : ∀ K : Value → World → Prop, (∀ v w', R w w' → anyV R P md ops L fuel (listed.setIfInBounds j true) (a.put oj.dst v) w' → K v w') → upV P K ((execOp a.eval oj).run P w)) : anyV R P md ops L (fuel + 1) listed a w := by
  refine ⟨fun h0 => (by rw [hr] at h0; cases h0), fun q hq => ?_⟩
  rw [hr] at hq
  simp only [List.mem_cons, List.not_mem_nil, or_false] at hq
  rcases hq with rfl | rfl
  · refine ⟨oi, hi, ?_⟩
    unfold opV
    rw [hwi, if_pos rfl]
    exact h1 _ fun v w' h3 h4 => ⟨h3, h4⟩
  · refine ⟨oj, hj, ?_⟩
    unfold opV
    rw [hwj, if_pos rfl]
    exact h2 _ fun v w' h3 h4 => ⟨h3, h4⟩
end
def TwinOK (k : Forest) : Prop := ∀ (W : World) (n : Nat) (t : Int) (a : Option Addr) (len cap : Nat) (bs : List Int) (ka : Option Addr) (kl kc : Nat), n ≤ W.heap.size → -9223372036854775808 ≤ t → t ≤ 9223372036854775807 → Row8 n W (.slice a len cap) bs → SlF n W ka kl kc k → 1 + bs.length + k.cnt ≤ 20000 →
  Calls Tryz.prog 59 #[.agg #[.int .i64 t, .slice a len cap, .slice ka kl kc]] W fun e W' => ∃ (a' : Option Addr) (len' cap' : Nat) (ka' : Option Addr) (kl' kc' : Nat), e = .returned (.agg #[.int .i64 t, .slice a' len' cap', .slice ka' kl' kc']) ∧
    RelocS (fun x => W.heap.size ≤ x ∧ x < W'.heap.size) W' (.cons t bs k .nil) [.int .i64 t, .slice a' len' cap', .slice ka' kl' kc'] ∧ (∀ (W2 : World) (n' : Nat), (∀ x, W.heap.size ≤ x ∧ x < W'.heap.size → W2.heap[x]? = W'.heap[x]?) → (∀ x, W.heap.size ≤ x ∧ x < W'.heap.size → x < n') → Row8 n' W2 (.slice a' len' cap') bs ∧ SlF n' W2 ka' kl' kc' k) ∧ Below W.heap.size W W'
end Go.Proofs.YtejcandhijdnhaaGreat

/- The walk of tlv.twin. -/
namespace Go.Proofs.YtejcandhijdnhaaGreat
open Go Go.RowKit
attribute [local go_sem] upV_value upV_skip upV_enter
set_option linter.unusedVariables false
set_option linter.unnecessarySimpa false
set_option linter.unusedSimpArgs false
def zT : Array Value := #[.int .i64 0, .slice none 0 0, .slice none 0 0]
theorem infoT : (Tryz.prog.info? 66).map (·.size) = some 3 := by kernel_rfl
theorem agg3_one (t : Int) (a : Option Addr) (l c : Nat) (ka : Option Addr) (kl kc : Nat) : (#[Value.int .i64 t, .slice a l c, .slice ka kl kc] : Array Value).all (·.oneCell') = true := by simp [Value.oneCell']
theorem belowPre (n : Nat) : Pre (Below n) := ⟨fun w => Below.refl _ w, fun h k => h.trans k⟩
theorem below_setRow {n : Nat} {A B : World} (h : Below n A B) {g : Nat} (hg : n ≤ g) (cs : Array Value) : Below n A (B.setRow g cs) :=
  ⟨h.os, h.tape, h.output, by rw [size_setRow]; exact h.size, fun b hb => (setRow_other B g b cs (by omega)).trans (h.block b hb)⟩
theorem own_mono {base base' : Nat} {e : TypeId} {size : Nat} {W W' : World} {v : Value} {n : Nat} {xs : List Value} (h : W.ownsRow base e size v n xs) (hb : base' ≤ base) (hs : ∀ b, v.ownBlock = some b → W'.heap[b]? = W.heap[b]?) : W'.ownsRow base' e size v n xs := by
  refine ⟨h.1, ?_⟩
  rcases h.2 with h | ⟨g, cap, cur, rfl, h2, h3, h4⟩
  · exact .inl h
  · exact .inr ⟨g, cap, cur, rfl, Nat.le_trans hb h2, (hs g rfl).trans h3, h4⟩
/-- the fields, parted at the j-th -/
theorem Forest.app_cons (F : Forest) (t : Int) (b : List Int) (k r : Forest) : (F.app (.cons t b k .nil)).app r = F.app (.cons t b k r) := by
  induction F with
  | nil => rfl
  | cons t' b' k' r' _ ih => simp only [Forest.app, ih]
theorem Forest.allKids_app {P : Forest → Prop} : ∀ (F G : Forest), (F.app G).AllKids P → G.AllKids P
  | .nil, _, h => h
  | .cons _ _ _ r, G, h => Forest.allKids_app r G h.2
theorem Forest.cnt_app : ∀ (F G : Forest), (F.app G).cnt = F.cnt + G.cnt
  | .nil, _ => by simp [Forest.app, Forest.cnt]
  | .cons _ _ _ r, G => by simp only [Forest.app, Forest.cnt, Forest.cnt_app r G]; omega
set_option maxRecDepth 100000 in
set_option maxHeartbeats 8000000 in
theorem twin_step (k : Forest) (hk : k.AllKids TwinOK) : TwinOK k := by
  intro W n t a len cap bs ka kl kc hn ht1 ht2 hb hkids hcnt
  obtain ⟨i0, hi0, hz0, hz1, hz2⟩ := info_parts info_tlv
  have hbl : bs.length = len := hb.1.open.1
  have hbb := hb.2
  have bX : ∀ X Y : Obj, Below W.heap.size W ((W.alloc X).alloc Y) := fun X Y => ((Below.refl _ W).alloc (Nat.le_refl _) X).alloc (by simp) Y
  go_enter Tryz.func59, Tryz.ntmps59
  go_upto_region 1 with fail
  obtain ⟨V, hV⟩ : ∃ V, V = (W.alloc (.cells #[.int .i64 t, .slice a len cap, .slice ka kl kc] 66)).alloc (.cells #[.int .i64 0, .slice none 0 0, .slice none 0 0] 66) := ⟨_, rfl⟩
  have bV : Below W.heap.size W V := by rw [hV]; exact bX _ _
  have p1 : V.heap[W.heap.size]? = some (.cells #[.int .i64 t, .slice a len cap, .slice ka kl kc] 66) := by rw [hV]; exact (Below.heap_alloc _ _ _ (by simp)).trans (World.alloc_heap_new _ _)
  have p2 : V.heap[W.heap.size + 1]? = some (.cells #[.int .i64 0, .slice none 0 0, .slice none 0 0] 66) := by
    rw [hV, show W.heap.size + 1 = (W.alloc (.cells #[.int .i64 t, .slice a len cap, .slice ka kl kc] 66)).heap.size from (World.size_alloc ..).symm]; exact World.alloc_heap_new _ _
  have sV : V.heap.size = W.heap.size + 2 := by rw [hV]; simp
  rw [← hV]
  clear hV bX
  have bVn : Below n W V := ⟨bV.os, bV.tape, bV.output, bV.size, fun q hq => bV.block q (by omega)⟩
  go_cut [3] from 6 (fun p wx => ∃ (B : Nat) (va : Option Addr) (vc : Nat), p = .pointer (some ⟨B, 0, none⟩) ∧ V.heap.size ≤ B ∧ wx.heap[B]? = some (.cells #[.int .i64 t, .slice va len vc, .slice none 0 0] 66) ∧ wx.ownsRow V.heap.size 5 1 (.slice va len vc) len (bs.map (Value.int .u8)) ∧ Below V.heap.size V wx)
  case first =>
    have hnV : n ≤ V.heap.size := by omega
    have hxl : W.heap.size < V.heap.size := by omega
    have hbl2 : bs.length ≤ 1000000000 := by omega
    have HX : Hid (∀ W', Below V.heap.size V.drew W' → W'.cell? ⟨W.heap.size, 0, none⟩ = some (.int .i64 t) ∧ W'.cell? ⟨W.heap.size, 1, none⟩ = some (.slice a len cap)) := fun W' hW => by
      have q := (hW.block W.heap.size hxl).trans p1
      exact ⟨by rw [cell_of_row W' _ 0 _ _ _ q]; rfl, by rw [cell_of_row W' _ 1 _ _ _ q]; rfl⟩
    have hrV := hb.below bVn
    clear p1 p2 hk hkids
    refine wp_region_anyV (Below V.heap.size) (by kernel_rfl) 8 rfl ?_
    first
      | (refine anyV_val 0 (belowPre _) rfl (by kernel_rfl) (by kernel_rfl) (by kernel_rfl) (by rfl) (v := ?av1) (fun W hW => ?ay1) (fun K hK => ?ar1); case ay1 => (obtain ⟨z0, z1⟩ := (show ∀ W', Below V.heap.size V.drew W' → _ from HX) W hW; go_simp; first | done | rfl))
      | refine anyV_skip 0 (belowPre _) rfl (by kernel_rfl) (by kernel_rfl) (by kernel_rfl) (by rfl) (fun K hK => ?_)
    go_simp
    refine hK _ ?_
    clear hK K
    first
      | (refine anyV_val 1 (belowPre _) rfl (by kernel_rfl) (by kernel_rfl) (by kernel_rfl) (by rfl) (v := ?av2) (fun W hW => ?ay2) (fun K hK => ?ar2); case ay2 => (obtain ⟨z0, z1⟩ := (show ∀ W', Below V.heap.size V.drew W' → _ from HX) W hW; go_simp; first | done | rfl))
      | refine anyV_skip 1 (belowPre _) rfl (by kernel_rfl) (by kernel_rfl) (by kernel_rfl) (by rfl) (fun K hK => ?_)
    go_simp
    refine hK _ ?_
    clear hK K
    first
      | (refine anyV_val 2 (belowPre _) rfl (by kernel_rfl) (by kernel_rfl) (by kernel_rfl) (by rfl) (v := ?av3) (fun W hW => ?ay3) (fun K hK => ?ar3); case ay3 => (obtain ⟨z0, z1⟩ := (show ∀ W', Below V.heap.size V.drew W' → _ from HX) W hW; go_simp; first | done | rfl))
      | refine anyV_skip 2 (belowPre _) rfl (by kernel_rfl) (by kernel_rfl) (by kernel_rfl) (by rfl) (fun K hK => ?_)
    go_simp
    refine hK _ ?_
    clear hK K
    first
      | (refine anyV_val 3 (belowPre _) rfl (by kernel_rfl) (by kernel_rfl) (by kernel_rfl) (by rfl) (v := ?av4) (fun W hW => ?ay4) (fun K hK => ?ar4); case ay4 => (obtain ⟨z0, z1⟩ := (show ∀ W', Below V.heap.size V.drew W' → _ from HX) W hW; go_simp; first | done | rfl))
      | refine anyV_skip 3 (belowPre _) rfl (by kernel_rfl) (by kernel_rfl) (by kernel_rfl) (by rfl) (fun K hK => ?_)
    go_simp
    refine hK _ ?_
    clear hK K
    refine anyV_two 4 6 rfl rfl (by kernel_rfl) (by rfl) (by rfl) (fun K hK => ?wayA) (fun K hK => ?wayB)
    case wayA =>
      go_simp
      refine (clone_any a len cap bs V.drew n hnV (hrV.same fun _ _ => rfl) hbl2).mono ?_
      rintro e w3 ⟨v, rfl, o3, b3⟩
      obtain ⟨va, vc, rfl, hva⟩ := ownsRow_slice o3
      have b3' : Below V.heap.size V w3 := below_undrew b3
      refine ⟨_, rfl, hK _ _ b3 ?_⟩
      clear hK K
      refine anyV_frame (fun K hK => ?_)
      go_simp
      refine hK _ ?_
      clear hK K
      first
        | (refine anyV_val 5 (belowPre _) rfl (by kernel_rfl) (by kernel_rfl) (by kernel_rfl) (by rfl) (v := ?av5) (fun W hW => ?ay5) (fun K hK => ?ar5); case ay5 => (go_simp; first | done | rfl))
        | refine anyV_skip 5 (belowPre _) rfl (by kernel_rfl) (by kernel_rfl) (by kernel_rfl) (by rfl) (fun K hK => ?_)
      go_simp
      refine hK _ ?_
      clear hK K
      refine anyV_only 6 rfl (by kernel_rfl) (by rfl) (fun K hK => ?_)
      go_simp
      refine hK _ _ ((Below.refl _ w3).alloc b3'.size _) ?_
      clear hK K
      refine anyV_frame (fun K hK => ?_)
      go_simp
      refine hK _ ?_
      clear hK K
      refine anyV_only 7 rfl (by kernel_rfl) (by rfl) (fun K hK => ?_)
      refine upV_store_row 66 (.tmp 3) (.tmp 11) rfl w3.heap.size #[.int .i64 t, .slice va len vc, .slice none 0 0] rfl rfl 66 zT (World.alloc_heap_new w3 _) infoT rfl (agg3_one ..) ?_
      refine hK _ _ (below_setRow (Below.refl _ _) b3'.size _) ?_
      clear hK K
      refine anyV_frame (fun K hK => ?_)
      go_simp
      refine hK _ ?_
      clear hK K
      refine anyV_done (by kernel_rfl) ?_
      go_wp2_with fail
      go_meet
      obtain ⟨W5, hW5⟩ : ∃ W5, W5 = (w3.alloc (.cells zT 66)).setRow w3.heap.size #[.int .i64 t, .slice va len vc, .slice none 0 0] := ⟨_, rfl⟩
      have e5 : W5.heap[w3.heap.size]? = some (.cells #[.int .i64 t, .slice va len vc, .slice none 0 0] 66) := by rw [hW5]; exact setRow_heap _ _ _ _ _ _ (World.alloc_heap_new w3 _)
      have b5 : Below w3.heap.size w3 W5 := by rw [hW5]; exact below_setRow ((Below.refl _ w3).alloc (Nat.le_refl _) _) (Nat.le_refl _) _
      refine ⟨w3.heap.size, va, vc, rfl, b3'.size, ?_⟩
      rw [show (w3.alloc (Obj.cells #[Value.int IntKind.i64 0, Value.slice none 0 0, Value.slice none 0 0] 66)).setRow w3.heap.size #[.int .i64 t, .slice va len vc, .slice none 0 0] = W5 from hW5.symm]
      exact ⟨e5, ownsRow_same o3 fun b hb => b5.block b (o3.lt b hb).2, b3'.trans (b5.mono b3'.size)⟩
    case wayB =>
      obtain ⟨V2, hV2⟩ : ∃ V2, V2 = (V.alloc (.cells #[.int .i64 0, .slice none 0 0, .slice none 0 0] 66)).drew := ⟨_, rfl⟩
      have bV2 : Below V.heap.size V.drew V2 := by
        have h : Below V.heap.size V (V.alloc (.cells #[.int .i64 0, .slice none 0 0, .slice none 0 0] 66)) := (Below.refl _ _).alloc (Nat.le_refl _) _
        rw [hV2]
        exact ⟨h.os, h.tape, h.output, h.size, h.block⟩
      have eV2 : V2.heap[V.heap.size]? = some (.cells zT 66) := by rw [hV2]; exact World.alloc_heap_new V _
      have sV2 : V2.heap.size = V.heap.size + 1 := by rw [hV2]; show (V.alloc _).heap.size = _; simp
      go_simp
      rw [← hV2]
      try rw [← sV]
      have HSV := Lib.hid sV
      have sV2' : V.heap.size < V2.heap.size := by omega
      clear hV2 sV sV2
      refine hK _ _ bV2 ?_
      clear hK K
      refine anyV_frame (fun K hK => ?_)
      go_simp
      refine hK _ ?_
      clear hK K
      refine anyV_only 4 rfl (by kernel_rfl) (by rfl) (fun K hK => ?_)
      go_simp
      refine (clone_any a len cap bs V2 n (by omega) ((show Row8 n V.drew _ _ from hrV.same fun _ _ => rfl).same fun q hq => bV2.block q (by have := hrV.lt q hq; omega)) hbl2).mono ?_
      rintro e w3 ⟨v, rfl, o3, b3⟩
      obtain ⟨va, vc, rfl, hva⟩ := ownsRow_slice o3
      have b3' : Below V.heap.size V2 w3 := b3.mono (by omega)
      have e3 : w3.heap[V.heap.size]? = some (.cells zT 66) := (b3.block V.heap.size (by omega)).trans eV2
      refine ⟨_, rfl, hK _ _ b3' ?_⟩
      clear hK K
      refine anyV_frame (fun K hK => ?_)
      go_simp
      refine hK _ ?_
      clear hK K
      first
        | (refine anyV_val 5 (belowPre _) rfl (by kernel_rfl) (by kernel_rfl) (by kernel_rfl) (by rfl) (v := ?av6) (fun W hW => ?ay6) (fun K hK => ?ar6); case ay6 => (go_simp; first | done | rfl))
        | refine anyV_skip 5 (belowPre _) rfl (by kernel_rfl) (by kernel_rfl) (by kernel_rfl) (by rfl) (fun K hK => ?_)
      go_simp
      refine hK _ ?_
      clear hK K
      refine anyV_only 7 rfl (by kernel_rfl) (by rfl) (fun K hK => ?_)
      refine upV_store_row 66 (.tmp 3) (.tmp 11) rfl V.heap.size #[.int .i64 t, .slice va len vc, .slice none 0 0] rfl rfl 66 zT e3 infoT rfl (agg3_one ..) ?_
      refine hK _ _ (below_setRow (Below.refl _ _) (Nat.le_refl _) _) ?_
      clear hK K
      refine anyV_frame (fun K hK => ?_)
      go_simp
      refine hK _ ?_
      clear hK K
      refine anyV_done (by kernel_rfl) ?_
      go_wp2_with fail
      go_meet
      refine ⟨V.heap.size, va, vc, rfl, Nat.le_refl _, setRow_heap _ _ _ _ _ _ e3, ?_, ?_⟩
      · refine own_mono (ownsRow_same o3 fun b hb => setRow_other _ _ _ _ (by have := (o3.lt b hb).1; omega)) (by omega) fun _ _ => rfl
      · have := below_setRow (bV2.trans b3') (Nat.le_refl _) #[.int .i64 t, .slice va len vc, .slice none 0 0]
        exact ⟨this.os, this.tape, this.output, this.size, this.block⟩
  case rest =>
    obtain ⟨B, va, vc, rfl, hB, eB, oB, bB⟩ := hcut
    have bWc : Below W.heap.size W wc := bV.trans (bB.mono bV.size)
    have e1 := (bB.block W.heap.size (by omega)).trans p1
    have e2 := (bB.block (W.heap.size + 1) (by omega)).trans p2
    have y2 : wc.cell? ⟨W.heap.size, 2, none⟩ = some (.slice ka kl kc) := by rw [cell_of_row wc _ 2 _ _ _ e1]; rfl
    have lB : B < wc.heap.size := (Array.getElem?_eq_some_iff.1 eB).1
    have hVn : V.heap.size ≤ wc.heap.size := bB.size
    have hva : ∀ b, (Value.slice va len vc).ownBlock = some b → b ≠ B := fun b hb h => by
      subst h
      rcases oB.2 with ⟨h1, _⟩ | ⟨g, cap', cur, h1, _, h3, _⟩
      · rw [h1] at hb; simp [Value.ownBlock] at hb
      · rw [h1] at hb
        obtain rfl : g = b := by simpa [Value.ownBlock] using hb
        rw [eB] at h3
        injection h3 with h3; injection h3 with _ h3 _
        exact absurd h3 (by decide)
    have hW1 : W.heap.size + 1 < V.heap.size := by omega
    have hkc : k.cnt ≤ 20000 := by omega
    have hksm := hkids.small
    obtain ⟨hkl, hkr⟩ := hkids
    have hkll := Forest.length_le_cnt k
    clear p1 p2 bV e1
    go_wp2_with fail
    go_loopw [15] (fun x wr => ∃ (j : Nat) (F G : Forest) (vk : Value) (vs : List Value) (S : Nat → Prop), x = .int .i64 (j : Int) ∧ j + G.length = kl ∧ Hid (k = F.app G ∧ F.length = j ∧ G.AllKids TwinOK) ∧ (0 < G.length → ∃ b2 o2, ka = some ⟨b2, o2, none⟩ ∧ kl ≤ kc ∧ kc ≤ maxLen ∧ RowF n W G b2 (o2 + j * 3) ∧ b2 < n) ∧
      wr.heap[B]? = some (.cells #[.int .i64 t, .slice va len vc, vk] 66) ∧ wr.ownsRow V.heap.size 5 1 (.slice va len vc) len (bs.map (Value.int .u8)) ∧ wr.ownsRow V.heap.size 66 3 vk j vs ∧ RelocS S wr F vs ∧ (∀ x, S x → V.heap.size ≤ x ∧ x < wr.heap.size ∧ x ≠ B ∧ vk.ownBlock ≠ some x) ∧ vk.ownBlock ≠ some B ∧ (∀ b, (Value.slice va len vc).ownBlock = some b → b ≠ B ∧ vk.ownBlock ≠ some b) ∧ Below V.heap.size wc wr) (fun x _ => kl - (intOf x).toNat)
    case atStart =>
      refine ⟨0, .nil, k, .slice none 0 0, [], fun _ => False, rfl, by omega, ⟨rfl, rfl, hk⟩, fun hl => ?_, eB, oB, World.ownsRow_nil _ _ _ _, RelocS.nil, fun x h => h.elim, by simp [Value.ownBlock], fun b hb => ⟨hva b hb, by simp [Value.ownBlock]⟩, Below.refl _ _⟩
      rcases hkr with h0 | ⟨b2, o2, g1, g2, g3, g4, g5⟩
      · omega
      · exact ⟨b2, o2, g1, g3, g4, by simpa using g5, g2⟩
    case round =>
      clear eB oB hkr hk lB y2
      obtain ⟨j, F, G, vk, vs, S, rfl, hjl, hFG, hGr, eB, oB, oK, hR, hS, hKB, hvb, bw⟩ := hrel
      have lB : B < wr.heap.size := (Array.getElem?_eq_some_iff.1 eB).1
      by_cases hlt : j < kl
      · have t1 : decide ((j : Int) < (kl : Int)) = true := by simp; omega
        obtain ⟨b2, o2, rfl, hkc1, hkc2, hrow, hb2⟩ := hGr (by omega)
        simp only [maxLen] at hkc2
        have bWr : Below W.heap.size W wr := bWc.trans (bw.mono (by omega))
        have bnr : Below n W wr := bWr.mono hn
        have hrow' : RowF n wr G b2 (o2 + j * 3) := RowF.below bnr G b2 _ hb2 hrow
        obtain ⟨t', bs', k', r, a1, l1, c1, ka1, kl1, kc1, rfl, q0, q1, q2, hr1, hr2, hrb, hrk, hrr⟩ := hrow'.open (by omega)
        obtain ⟨hkF, hFl, hGk⟩ := (show _ ∧ _ ∧ _ from hFG)
        have hcF : k'.cnt + bs'.length + 1 ≤ k.cnt := by rw [hkF, Forest.cnt_app]; simp only [Forest.cnt]; omega
        have hGl : r.length + 1 = kl - j := by simp only [Forest.length] at hjl; omega
        have hKid : TwinOK k' := hGk.1
        have HFG := Lib.hid (show k = (F.app (.cons t' bs' k' .nil)).app r ∧ (F.app (.cons t' bs' k' .nil)).length = j + 1 ∧ r.AllKids TwinOK from ⟨by rw [Forest.app_cons]; exact hkF, by rw [Forest.length_app]; simp only [Forest.length]; omega, hGk.2⟩)
        have hvl : vs.length = F.length * 3 := by rw [hFl]; exact oK.1
        have hls : j * 3 + 3 ≤ kl * 3 := by omega
        obtain ⟨vka, vkc, rfl, _⟩ := ownsRow_slice oK
        obtain ⟨T3, hT3⟩ : ∃ T3, T3 = wr.heap.size := ⟨_, rfl⟩
        have x3 := fun (O : Obj) => World.alloc_heap_new wr O
        have hRow2 := Lib.hid (show RowF n W r b2 (o2 + (j + 1) * 3) ∧ b2 < n from by
          have hc := hrow
          obtain ⟨_, _, _, _, _, _, _, _, _, _, _, _, _, _, hc'⟩ := hc
          rw [show o2 + (j + 1) * 3 = o2 + j * 3 + 3 by omega]
          exact ⟨hc', hb2⟩)
        clear hGr hFG hGk hkF hrow hrow' hrr
        go_wp2_with ((fail_if_success (unfold Held)); refine at_store (t := 66) rfl ?_)
        unfold Held
        refine wpList_store_row rfl 66 (.tmp 5) (.tmp 18) rfl wr.heap.size #[.int .i64 t', .slice a1 l1 c1, .slice ka1 kl1 kc1] rfl rfl 66 zT (World.alloc_heap_new _ _) infoT rfl (agg3_one ..) ?_
        rw [World.setRow_alloc_new]
        obtain ⟨V4, hV4⟩ : ∃ V4, V4 = wr.alloc (.cells #[.int .i64 t', .slice a1 l1 c1, .slice ka1 kl1 kc1] 66) := ⟨_, rfl⟩
        have x4 : V4.heap[wr.heap.size]? = some (.cells #[.int .i64 t', .slice a1 l1 c1, .slice ka1 kl1 kc1] 66) := by rw [hV4]; exact World.alloc_heap_new _ _
        have b4 : Below wr.heap.size wr V4 := by rw [hV4]; exact (Below.refl _ _).alloc (Nat.le_refl _) _
        have s4 : V4.heap.size = wr.heap.size + 1 := by rw [hV4]; simp
        rw [← hV4]
        have hs4 : wr.heap.size < V4.heap.size := by omega
        clear hV4 s4 x3
        have B4 : V4.heap[B]? = some (.cells #[.int .i64 t, .slice va len vc, .slice vka j vkc] 66) := (b4.block B lB).trans eB
        have o4 := ownsRow_same oK fun b hb => b4.block b (oK.lt b hb).2
        have hg : ∀ b, (Value.slice vka j vkc).ownBlock = some b → V.heap.size ≤ b ∧ b < wr.heap.size := fun b hb => oK.lt b hb
        have hnV4 : n ≤ V4.heap.size := by have := bw.size; omega
        have hrb4 : Row8 n V4.drew (.slice a1 l1 c1) bs' := (hrb.1.below ⟨b4.os, b4.tape, b4.output, b4.size, fun q hq => b4.block q (by have := bw.size; omega)⟩).same fun _ _ => rfl
        have hrk4 : SlF n V4.drew ka1 kl1 kc1 k' := by
          have h : Below n wr V4.drew := ⟨b4.os, b4.tape, b4.output, b4.size, fun q hq => b4.block q (by have := bw.size; omega)⟩
          exact hrk.below h
        have k1 := hKid V4.drew n t' a1 l1 c1 bs' ka1 kl1 kc1 hnV4 hr1 hr2 hrb4 hrk4 (by omega)
        obtain ⟨Sg, hSg⟩ : ∃ Sg : Nat → Prop, Sg = fun b => (Value.slice vka j vkc).ownBlock = some b := ⟨_, rfl⟩
        have hSB : ¬ Sg B := by rw [hSg]; exact hKB
        have hSx : ¬ Sg wr.heap.size := by rw [hSg]; intro h; have := (hg _ h).2; omega
        have HX : Hid (∀ W', Wr Sg Sg V4 W' → W'.cell? ⟨B, 2, none⟩ = some (.slice vka j vkc) ∧ W'.cell? ⟨wr.heap.size, 0, none⟩ = some (.int .i64 t') ∧ W'.cell? ⟨wr.heap.size, 1, none⟩ = some (.slice a1 l1 c1) ∧ W'.cell? ⟨wr.heap.size, 2, none⟩ = some (.slice ka1 kl1 kc1)) := fun W' hW => by
          have z1 := (hW.block B (by omega) hSB).trans B4
          have z2 := (hW.block wr.heap.size hs4 hSx).trans x4
          exact ⟨by rw [cell_of_row W' _ 2 _ _ _ z1]; rfl, by rw [cell_of_row W' _ 0 _ _ _ z2]; rfl, by rw [cell_of_row W' _ 1 _ _ _ z2]; rfl, by rw [cell_of_row W' _ 2 _ _ _ z2]; rfl⟩
        have K1 := Lib.hid k1
        have HEB := Lib.hid eB
        have HOB := Lib.hid oB
        have HOK := Lib.hid oK
        have HRR := Lib.hid hR
        have HS := Lib.hid hS
        have HVB := Lib.hid hvb
        have HBW := Lib.hid bw
        have HB4 := Lib.hid b4
        have HBB4 := Lib.hid B4
        have hbws := bw.size
        have hjk : j ≤ 20000 := by omega
        clear q0 q1 q2 k1 hrb hrk hrb4 hrk4 eB oB oK hR hS hvb bw b4 B4 hKid hcF x4 bWr bnr
        go_wp2_with fail
        refine wp_region_anyZ (GrowsBut Sg) 6 2 (by kernel_rfl) rfl ?_
        first
          | (refine anyZ_val 0 (GrowsBut.pre Sg) (by kernel_rfl) (by decide) rfl (by kernel_rfl) (by kernel_rfl) (by kernel_rfl) (by rfl) (v := ?av7) (fun W hW => ?ay7) (fun K hK => ?ar7); case ay7 => (obtain ⟨z0, z1, z2, z3⟩ := (show ∀ W', Wr Sg Sg V4 W' → _ from HX) W (Wr.undrew hW); go_simp; first | done | rfl))
          | refine anyZ_skip 0 (GrowsBut.pre Sg) (by kernel_rfl) (by decide) rfl (by kernel_rfl) (by kernel_rfl) (by kernel_rfl) (by rfl) (fun K hK => ?_)
        go_simp
        refine hK _ ?_
        clear hK K
        first
          | (refine anyZ_val 1 (GrowsBut.pre Sg) (by kernel_rfl) (by decide) rfl (by kernel_rfl) (by kernel_rfl) (by kernel_rfl) (by rfl) (v := ?av8) (fun W hW => ?ay8) (fun K hK => ?ar8); case ay8 => (obtain ⟨z0, z1, z2, z3⟩ := (show ∀ W', Wr Sg Sg V4 W' → _ from HX) W (Wr.undrew hW); go_simp; first | done | rfl))
          | refine anyZ_skip 1 (GrowsBut.pre Sg) (by kernel_rfl) (by decide) rfl (by kernel_rfl) (by kernel_rfl) (by kernel_rfl) (by rfl) (fun K hK => ?_)
        go_simp
        refine hK _ ?_
        clear hK K
        first
          | (refine anyZ_val 2 (GrowsBut.pre Sg) (by kernel_rfl) (by decide) rfl (by kernel_rfl) (by kernel_rfl) (by kernel_rfl) (by rfl) (v := ?av9) (fun W hW => ?ay9) (fun K hK => ?ar9); case ay9 => (obtain ⟨z0, z1, z2, z3⟩ := (show ∀ W', Wr Sg Sg V4 W' → _ from HX) W (Wr.undrew hW); go_simp; first | done | rfl))
          | refine anyZ_skip 2 (GrowsBut.pre Sg) (by kernel_rfl) (by decide) rfl (by kernel_rfl) (by kernel_rfl) (by kernel_rfl) (by rfl) (fun K hK => ?_)
        go_simp
        refine hK _ ?_
        clear hK K
        refine anyZ_only 3 rfl (by kernel_rfl) (by rfl) (fun K hK => ?_)
        go_simp
        refine Calls.mono K1 ?_
        rintro e w5 ⟨a5, l5, c5, ka5, kl5, kc5, rfl, hR5, _, b5⟩
        have b5' : Below V4.heap.size V4 w5 := below_undrew b5
        refine ⟨_, rfl, hK _ _ (Wr.of_below b5) ?_⟩
        clear hK K
        refine anyZ_frame (fun K hK => ?_)
        go_simp
        refine hK _ ?_
        clear hK K
        refine anyZ_only 4 rfl (by kernel_rfl) (by rfl) (fun K hK => ?_)
        go_simp
        obtain ⟨W6, hW6⟩ : ∃ W6, W6 = w5.alloc (Obj.cells #[.int .i64 t', .slice a5 l5 c5, .slice ka5 kl5 kc5] 66) := ⟨_, rfl⟩
        have b6 : Below w5.heap.size w5 W6 := by rw [hW6]; exact (Below.refl _ _).alloc (Nat.le_refl _) _
        have x6 : W6.heap[w5.heap.size]? = some (.cells #[.int .i64 t', .slice a5 l5 c5, .slice ka5 kl5 kc5] 66) := by rw [hW6]; exact World.alloc_heap_new _ _
        have s6 : W6.heap.size = w5.heap.size + 1 := by rw [hW6]; simp
        have b46 : Below V4.heap.size V4 W6 := b5'.trans (b6.mono b5'.size)
        have o6 := ownsRow_same o4 fun b hb => b46.block b (by have := (hg b hb).2; omega)
        have hs56 : w5.heap.size < W6.heap.size := by omega
        have h45 := b5'.size
        rw [← hW6]
        refine hK _ _ (Wr.of_below b6) ?_
        clear hW6
        clear hK K
        refine anyZ_frame (fun K hK => ?_)
        go_simp
        refine hK _ ?_
        clear hK K
        refine anyZ_only 5 rfl (by kernel_rfl) (by rfl) (fun K hK => ?_)
        refine upV_append_vals (.tmp 20) (.tmp 23) 59 rfl V.heap.size 66 i0 _ 3 56 Tryz.underlying59 hi0 hz0 hz1 hz2 rfl (by decide) (.slice vka j vkc) j vs rfl o6 (some ⟨w5.heap.size, 0, none⟩) 1 1 [.int .i64 t', .slice a5 l5 c5, .slice ka5 kl5 kc5] rfl rfl (by simp [Value.oneCell']) (.inr ⟨_, _, rfl, fun q u hq => by
          have hql := (List.getElem?_eq_some_iff.1 hq).1
          rw [Nat.zero_add, cell_of_row W6 _ q _ _ _ x6, List.getElem?_toArray]
          exact hq⟩) (by omega) (by simp only [maxLen]; omega) (by omega) ?_
        intro v7 w7 o7 g7 hv7
        have hg7 : Wr Sg Sg W6 w7 := Wr.grown (Wr.refl Sg W6) g7 fun b hb => .inl (by rw [hSg]; exact hb)
        have w47 : Wr Sg Sg V4 w7 := (Wr.of_below b46).trans hg7
        have e7 := (w47.block B (by omega) hSB).trans HBB4
        have cc7 : w7.cell? ⟨B, 2, none⟩ = some (.slice vka j vkc) := by rw [cell_of_row w7 _ 2 _ _ _ e7]; rfl
        have ff7 := frozen_of_row w7 B 2 _ _ e7
        obtain ⟨a7, c7, rfl, _⟩ := ownsRow_slice o7
        refine hK _ _ hg7 ?_
        clear hK K
        refine anyZ_frame (fun K hK => ?_)
        go_simp
        refine hK _ ?_
        clear hK K
        refine anyZ_done (by kernel_rfl) ?_
        refine wpAny_only 6 rfl (by kernel_rfl) (by rfl) (fun K hK => ?_)
        go_simp
        refine hK _ _ ?_
        clear hK K
        refine wpAny_frame (fun K hK => ?_)
        go_simp
        refine hK _ ?_
        clear hK K
        refine wpAny_only 7 rfl (by kernel_rfl) (by rfl) (fun K hK => ?_)
        go_simp
        refine hK _ _ ?_
        clear hK K
        refine wpAny_frame (fun K hK => ?_)
        go_simp
        refine hK _ ?_
        clear hK K
        refine wpAny_done (by kernel_rfl) ?_
        obtain ⟨W8, hW8⟩ : ∃ W8, W8 = w7.setCell ⟨B, 2, none⟩ (.slice a7 (j + 1) c7) := ⟨_, rfl⟩
        have e8 : W8.heap[B]? = some (.cells #[.int .i64 t, .slice va len vc, .slice a7 (j + 1) c7] 66) := by rw [hW8]; exact heap_setCell_same _ _ _ _ _ _ e7
        have s8 : w7.heap.size ≤ W8.heap.size := by rw [hW8]; show _ ≤ (w7.heap.modify _ _).size; rw [Array.size_modify]; exact Nat.le_refl _
        have k8 : ∀ b, b ≠ B → W8.heap[b]? = w7.heap[b]? := fun b hb => by rw [hW8]; exact Below.heap_setCell _ _ _ _ hb
        rw [← hW8]
        have h67 := hg7.size
        have hv7' : ∀ b, (Value.slice a7 (j + 1) c7).ownBlock = some b → (Value.slice vka j vkc).ownBlock = some b ∨ b = W6.heap.size := fun b hb => by
          rcases hv7 with h | h
          · rw [h] at hb; exact .inl hb
          · rw [h] at hb; injection hb with hb; exact .inr hb.symm
        -- old blocks
        have keepO : ∀ b, b < wr.heap.size → b ≠ B → (Value.slice vka j vkc).ownBlock ≠ some b → W8.heap[b]? = wr.heap[b]? := fun b h1 h2 h3 => by
          refine (k8 b h2).trans ((w47.block b (by omega) (by rw [hSg]; exact h3)).trans ((show Below wr.heap.size wr V4 from HB4).block b h1))
        have keepN : ∀ b, V4.heap.size ≤ b → b < w5.heap.size → W8.heap[b]? = w5.heap[b]? := fun b h1 h2 => by
          refine (k8 b (by omega)).trans ((hg7.block b (by omega) (by rw [hSg]; intro h; have := (hg b h).2; omega)).trans (b6.block b h2))
        have F1 : Hid (W8.heap[B]? = some (.cells #[.int .i64 t, .slice va len vc, .slice a7 (j + 1) c7] 66) ∧ W8.ownsRow V.heap.size 5 1 (.slice va len vc) len (bs.map (Value.int .u8)) ∧ W8.ownsRow V.heap.size 66 3 (.slice a7 (j + 1) c7) (j + 1) (vs ++ [.int .i64 t', .slice a5 l5 c5, .slice ka5 kl5 kc5]) ∧
            RelocS (fun x => S x ∨ (V4.heap.size ≤ x ∧ x < w5.heap.size)) W8 (F.app (.cons t' bs' k' .nil)) (vs ++ [.int .i64 t', .slice a5 l5 c5, .slice ka5 kl5 kc5]) ∧
            (∀ x, (S x ∨ (V4.heap.size ≤ x ∧ x < w5.heap.size)) → V.heap.size ≤ x ∧ x < W8.heap.size ∧ x ≠ B ∧ (Value.slice a7 (j + 1) c7).ownBlock ≠ some x) ∧ (Value.slice a7 (j + 1) c7).ownBlock ≠ some B ∧ (∀ b, (Value.slice va len vc).ownBlock = some b → b ≠ B ∧ (Value.slice a7 (j + 1) c7).ownBlock ≠ some b) ∧ Below V.heap.size wc W8) := by
          have hS := (show ∀ x, S x → V.heap.size ≤ x ∧ x < wr.heap.size ∧ x ≠ B ∧ (Value.slice vka j vkc).ownBlock ≠ some x from HS)
          have hvb := (show ∀ b, (Value.slice va len vc).ownBlock = some b → b ≠ B ∧ (Value.slice vka j vkc).ownBlock ≠ some b from HVB)
          have oB := (show wr.ownsRow V.heap.size 5 1 (.slice va len vc) len (bs.map (Value.int .u8)) from HOB)
          refine ⟨e8, ownsRow_same oB fun b hb => keepO b (oB.lt b hb).2 (hvb b hb).1 (hvb b hb).2, ownsRow_same o7 fun b hb => k8 b fun e => ?_, RelocS.app ?_ ?_ hvl, ?_, ?_, ?_, ?_⟩
          · subst e
            rcases hv7' b hb with h | h
            · exact hKB h
            · omega
          · exact ((show RelocS S wr F vs from HRR).keep fun x hx => keepO x (hS x hx).2.1 (hS x hx).2.2.1 (hS x hx).2.2.2).widen fun x hx => .inl hx
          · exact (RelocS.keep hR5 fun x hx => keepN x hx.1 hx.2).widen fun x hx => .inr hx
          · rintro x (hx | ⟨h1, h2⟩)
            · refine ⟨(hS x hx).1, by have := (hS x hx).2.1; omega, (hS x hx).2.2.1, fun h => ?_⟩
              rcases hv7' x h with h | h
              · exact (hS x hx).2.2.2 h
              · have := (hS x hx).2.1; omega
            · refine ⟨by omega, by omega, by omega, fun h => ?_⟩
              rcases hv7' x h with h | h
              · have := (hg x h).2; omega
              · omega
          · intro h
            rcases hv7' B h with h | h
            · exact hKB h
            · omega
          · intro b hb
            refine ⟨(hvb b hb).1, fun h => ?_⟩
            rcases hv7' b h with h | h
            · exact (hvb b hb).2 h
            · have := (oB.lt b hb).2; omega
          · have hbw := (show Below V.heap.size wc wr from HBW)
            refine ⟨?_, ?_, ?_, by omega, fun b hb => ?_⟩
            · rw [hW8]; exact (w47.os.trans (show Below wr.heap.size wr V4 from HB4).os).trans hbw.os
            · rw [hW8]; exact (w47.tape.trans (show Below wr.heap.size wr V4 from HB4).tape).trans hbw.tape
            · rw [hW8]; exact (w47.output.trans (show Below wr.heap.size wr V4 from HB4).output).trans hbw.output
            · exact (keepO b (by omega) (by omega) (fun h => by have := (hg b h).1; omega)).trans (hbw.block b hb)
        clear e8 s8 k8 hW8 keepO keepN hv7' o7 g7 hv7 hg7 w47 e7 cc7 ff7 b6 x6 s6 b46 o6 b5 b5' hR5 K1 HEB HOB HOK HRR HS HVB HBW HB4 HBB4 HX o4 hg hSB hSx
        go_wp2_with fail
        go_roundw
        case rel => exact ⟨j + 1, _, r, .slice a7 (j + 1) c7, _, _, by go_num, by omega, HFG, fun _ => ⟨b2, o2, rfl, hkc1, by simp only [maxLen]; omega, hRow2⟩, F1⟩
        case measure => simp [intOf]; omega
      · have t1 : decide ((j : Int) < (kl : Int)) = false := by simp; omega
        have hGn : G = .nil := by
          cases G with
          | nil => rfl
          | cons _ _ _ _ => simp only [Forest.length] at hjl; omega
        subst hGn
        obtain ⟨hkF, hFl, _⟩ := (show _ ∧ _ ∧ _ from hFG)
        rw [Forest.app_nil] at hkF
        subst hkF
        obtain ⟨vka, vkc, rfl, _⟩ := ownsRow_slice oK
        have e2r := (bw.block (W.heap.size + 1) (by omega)).trans e2
        have y0 : wr.cell? ⟨B, 0, none⟩ = some (.int .i64 t) := by rw [cell_of_row wr _ 0 _ _ _ eB]; rfl
        have y1 : wr.cell? ⟨B, 1, none⟩ = some (.slice va len vc) := by rw [cell_of_row wr _ 1 _ _ _ eB]; rfl
        have y2 : wr.cell? ⟨B, 2, none⟩ = some (.slice vka j vkc) := by rw [cell_of_row wr _ 2 _ _ _ eB]; rfl
        clear hFG hGr
        go_wp2_with ((fail_if_success (unfold Held)); refine at_store (t := 66) rfl ?_)
        unfold Held
        refine wpList_store_row rfl 66 (.tmp 2) (.tmp 27) rfl (W.heap.size + 1) #[.int .i64 t, .slice va len vc, .slice vka j vkc] rfl rfl 66 zT e2r infoT rfl (agg3_one ..) ?_
        obtain ⟨W9, hW9⟩ : ∃ W9, W9 = wr.setRow (W.heap.size + 1) #[.int .i64 t, .slice va len vc, .slice vka j vkc] := ⟨_, rfl⟩
        have e9 : W9.heap[W.heap.size + 1]? = some (.cells #[.int .i64 t, .slice va len vc, .slice vka j vkc] 66) := by rw [hW9]; exact setRow_heap _ _ _ _ _ _ e2r
        have k9 : ∀ b, b ≠ W.heap.size + 1 → W9.heap[b]? = wr.heap[b]? := fun b hb => by rw [hW9]; exact setRow_other _ _ _ _ hb
        have s9 : W9.heap.size = wr.heap.size := by rw [hW9]; exact size_setRow _ _ _
        have b9 : Below W.heap.size W W9 := by rw [hW9]; exact below_setRow (bWc.trans (bw.mono (by omega))) (by omega) _
        rw [← hW9]
        have z0 : W9.cell? ⟨W.heap.size + 1, 0, none⟩ = some (.int .i64 t) := by rw [cell_of_row W9 _ 0 _ _ _ e9]; rfl
        have z1 : W9.cell? ⟨W.heap.size + 1, 1, none⟩ = some (.slice va len vc) := by rw [cell_of_row W9 _ 1 _ _ _ e9]; rfl
        have z2 : W9.cell? ⟨W.heap.size + 1, 2, none⟩ = some (.slice vka j vkc) := by rw [cell_of_row W9 _ 2 _ _ _ e9]; rfl
        clear hW9
        have hb9 : ∀ (W' : World) (n' : Nat), (∀ x, (W.heap.size ≤ x ∧ x < W9.heap.size) → W'.heap[x]? = W9.heap[x]?) → (∀ x, (W.heap.size ≤ x ∧ x < W9.heap.size) → x < n') → Row8 n' W' (.slice va len vc) bs := fun W' n' h1 h2 => own_row8 oB hbb W' n' fun b hb => by
          have h3 := oB.lt b hb
          have h4 : W.heap.size ≤ b ∧ b < W9.heap.size := ⟨by omega, by omega⟩
          exact ⟨(h1 b h4).trans (k9 b (by omega)), h2 b h4⟩
        have hk9 : ∀ (W' : World) (n' : Nat), (∀ x, (W.heap.size ≤ x ∧ x < W9.heap.size) → W'.heap[x]? = W9.heap[x]?) → (∀ x, (W.heap.size ≤ x ∧ x < W9.heap.size) → x < n') → SlF n' W' vka j vkc k := fun W' n' h1 h2 => own_slF oK hR hFl W' n' fun x hx => by
          have h4 : V.heap.size ≤ x ∧ x < wr.heap.size := hx.elim (fun h => ⟨(hS x h).1, (hS x h).2.1⟩) (fun h => oK.lt x h)
          have h5 : W.heap.size ≤ x ∧ x < W9.heap.size := ⟨by omega, by omega⟩
          exact ⟨(h1 x h5).trans (k9 x (by omega)), h2 x h5⟩
        have hP : RelocS (fun x => W.heap.size ≤ x ∧ x < W9.heap.size) W9 (.cons t bs k .nil) [.int .i64 t, .slice va len vc, .slice vka j vkc] ∧ (∀ (W2 : World) (n' : Nat), (∀ x, W.heap.size ≤ x ∧ x < W9.heap.size → W2.heap[x]? = W9.heap[x]?) → (∀ x, W.heap.size ≤ x ∧ x < W9.heap.size → x < n') → Row8 n' W2 (.slice va len vc) bs ∧ SlF n' W2 vka j vkc k) ∧ Below W.heap.size W W9 :=
          ⟨RelocS.one ht1 ht2 (by omega) hb9 hk9, fun W2 n' h1 h2 => ⟨hb9 W2 n' h1 h2, hk9 W2 n' h1 h2⟩, b9⟩
        have HP := Lib.hid hP
        clear hP hb9 hk9 eB oB oK hR hS hvb bw y0 y1 y2 e2r
        clear z0 z1 z2
        go_wp2_with fail
        refine bodyPost_ret (results_cell_row rfl _ _ (W.heap.size + 1) 66 #[.int .i64 t, .slice va len vc, .slice vka j vkc] (0, 0) _ rfl e9 Tryz.underlying66 rfl infoT) rfl ?_
        exact ⟨_, _, _, _, _, _, rfl, HP⟩
theorem twin_any (k : Forest) : TwinOK k := Forest.all TwinOK twin_step k
end Go.Proofs.YtejcandhijdnhaaGreat
