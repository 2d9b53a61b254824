/- A region that draws its order and holds calls that make memory: what only reads is taken first; a call is met where it alone may come up. -/
import Derived.Test.YtdlhnipkhlihjaaRow
import Derived.Orders
import Derived.Still
import Derived.Tactics
import Derived.BigFrameIn
import Derived.RegionIn
namespace Go.Proofs.Ytdlhnipkhlihjaa
open Go Go.RowKit
set_option linter.unusedVariables false
section
variable {P : Program} {ops : Array Oper} {md : Region.Mode} {R : World → World → Prop}
/-- how the world may go on -/
structure Pre (R : World → World → Prop) : Prop where
  refl : ∀ w, R w w
  trans : ∀ {a b c}, R a b → R b c → R a c
def upV (P : Program) (K : Value → World → Prop) : Result Next → Prop
  | .ok (.value v) w' => K v w'
  | .ok .skip w' => K undef w'
  | .ok (.enter f args) w' => Calls P f args w' fun e w'' => ∃ v, e = .returned v ∧ K v w''
  | _ => False
theorem upV_value (K : Value → World → Prop) (v : Value) (w : World) : upV P K (.ok (.value v) w) = K v w := rfl
theorem upV_skip (K : Value → World → Prop) (w : World) : upV P K (.ok .skip w) = K undef w := rfl
theorem upV_enter (K : Value → World → Prop) (f : FuncId) (args : Array Value) (w : World) : upV P K (.ok (.enter f args) w) = Calls P f args w fun e w'' => ∃ v, e = .returned v ∧ K v w'' := rfl
theorem upV_mono {K K' : Value → World → Prop} (h : ∀ v w, K v w → K' v w) {r : Result Next} (hh : upV P K r) : upV P K' r := by
  cases r with
  | ok n w' =>
    cases n <;> simp only [upV] at hh ⊢
    case enter f args => exact hh.mono fun e w'' ⟨v, he, hk⟩ => ⟨v, he, h _ _ hk⟩
    all_goals exact h _ _ hh
  | halt x w' => simp only [upV] at hh
def opV (P : Program) (ops : Array Oper) (o : Oper) (K : Value → World → Prop) (a : Act) (w : World) : Prop :=
  if Region.wanted o (yielded ops a.tmps) then upV P K ((execOp a.eval o).run P w) else K undef w
theorem opV_mono {o : Oper} {K K' : Value → World → Prop} {a : Act} {w : World} (h : ∀ v w, K v w → K' v w) (hh : opV P ops o K a w) : opV P ops o K' a w := by
  unfold opV at *
  split
  · rename_i hw; simp only [hw, if_true] at hh; exact upV_mono h hh
  · rename_i hw; simp only [hw] at hh; exact h _ _ hh
theorem wpOp_of_opV {i : Nat} {o : Oper} {K : Act → World → Prop} {a : Act} {w : World} {Q : Exit → Act → World → Prop} (hi : ops[i]? = some o) (hh : opV P ops o (fun v w' => K (a.put o.dst v) w') a w) : wpOp P ops Q i K a w := by
  unfold wpOp opV at *
  simp only [hi]
  split
  · rename_i hw
    simp only [hw, if_true] at hh
    refine .inl ?_
    unfold Oper.wp
    generalize (execOp a.eval o).run P w = r at *
    cases r with
    | ok n w' =>
      cases n <;> simp only [upV] at hh <;> simp only [Oper.upon]
      case enter f args => exact hh.mono fun e w'' ⟨v, he, hk⟩ => by subst he; exact hk
      all_goals exact hh
    | halt x w' => simp only [upV] at hh
  · rename_i hw; simp only [hw] at hh; exact hh
theorem opV_put {oi oj : Oper} {v : Value} {K : Value → World → Prop} {a : Act} {w : World} (hap : oi.apart ops oj = true) (hsj : ∀ cs b, oj.op ≠ .select cs b)
    (h : opV P ops oj K (a.put oi.dst v) w) : opV P ops oj K a w := by
  obtain ⟨h1, h2, h3⟩ := Oper.apart_spec hap
  unfold opV at *
  rw [wanted_put oj a oi.dst v h1, execOp_put oj hsj a oi.dst v h1] at h
  exact h
def anyV (R : World → World → Prop) (P : Program) (md : Region.Mode) (ops : Array Oper) (L : Act → World → Prop) : Nat → Array Bool → Act → World → Prop
  | 0, listed, a, w => Region.ready md ops listed = [] ∧ L a w
  | f + 1, listed, a, w => (Region.ready md ops listed = [] → L a w) ∧
    ∀ i ∈ Region.ready md ops listed, ∃ o, ops[i]? = some o ∧ opV P ops o (fun v w' => R w w' ∧ anyV R P md ops L f (listed.setIfInBounds i true) (a.put o.dst v) w') a w
theorem wpAny_of_anyV {L : Act → World → Prop} {Q : Exit → Act → World → Prop} (hL : ∀ a w, L a w → Q .normal a w) : ∀ (f : Nat) (listed : Array Bool) (a : Act) (w : World), anyV R P md ops L f listed a w → wpAny P md ops Q f listed a w
  | 0, _, _, _, h => ⟨h.1, hL _ _ h.2⟩
  | f + 1, listed, a, w, h => ⟨fun h0 => hL _ _ (h.1 h0), fun i hi => by
      obtain ⟨o, ho, hop⟩ := h.2 i hi
      exact wpOp_of_opV ho (opV_mono (fun v w' hk => wpAny_of_anyV hL f _ _ _ hk.2) hop)⟩
theorem opV_of_yields {o : Oper} {v : Value} {a : Act} {w : World} {K : Value → World → Prop} (hy : YieldsAt P ops w o v a) (h : K v w) : opV P ops o K a w := by
  unfold opV
  rcases hy with ⟨hw, hv | ⟨hv, rfl⟩ | ⟨f, args, hv, hc⟩⟩ | ⟨hw, rfl⟩
  · simp only [hw, if_true, hv, upV]; exact h
  · simp only [hw, if_true, hv, upV]; exact h
  · simp only [hw, if_true, hv, upV]; exact hc.mono fun e w'' ⟨he, hw'⟩ => ⟨v, he, by rw [hw']; exact h⟩
  · simp only [hw, Bool.false_eq_true, if_false]; exact h
theorem anyV_first {L : Act → World → Prop} {i : Nat} {oi : Oper} {v : Value} (hR : Pre R) (hi : ops[i]? = some oi) (hsel : ∀ (j : Nat) (o : Oper) cs b, ops[j]? = some o → o.op ≠ .select cs b) :
    ∀ (fuel : Nat) (listed : Array Bool) (a : Act) (w : World),
      (∀ j oj, ops[j]? = some oj → j ≠ i → listed.getD j true = false → (∀ e ∈ oj.after, Region.binds md e = true → e.on ≠ i) → oi.apart ops oj = true) →
      i ∈ Region.ready md ops listed → (∀ W, R w W → YieldsAt P ops W oi v a) →
      anyV R P md ops L fuel (listed.setIfInBounds i true) (a.put oi.dst v) w → anyV R P md ops L (fuel + 1) listed a w := by
  intro fuel
  induction fuel with
  | zero =>
    intro listed a w _ hr hy H
    refine ⟨fun h => (by rw [h] at hr; cases hr), fun j hj => ?_⟩
    by_cases hji : j = i
    · subst hji; exact ⟨oi, hi, opV_of_yields (hy w (hR.refl w)) ⟨hR.refl w, H⟩⟩
    · have := ready_mono hj hji
      rw [H.1] at this
      cases this
  | succ fuel ih =>
    intro listed a w hfree hr hy H
    refine ⟨fun h => (by rw [h] at hr; cases hr), fun j hj => ?_⟩
    by_cases hji : j = i
    · subst hji; exact ⟨oi, hi, opV_of_yields (hy w (hR.refl w)) ⟨hR.refl w, H⟩⟩
    · obtain ⟨oj, hoj, h1⟩ := H.2 j (ready_mono hj hji)
      obtain ⟨hjun, oj', hoj', hall⟩ := mem_ready.1 hj
      obtain rfl : oj' = oj := Option.some.inj (hoj'.symm.trans hoj)
      have hnot : ∀ e ∈ oj'.after, Region.binds md e = true → e.on ≠ i := fun e he hb heq => by
        have h1 := hall e he hb
        have h0 := (mem_ready.1 hr).1
        rw [heq] at h1
        rcases Nat.lt_or_ge i listed.size with h' | h'
        · simp [h'] at h0 h1; rw [h0] at h1; cases h1
        · simp [Array.getElem?_eq_none h'] at h1
      have hap := hfree j oj' hoj hji hjun hnot
      obtain ⟨p1, p2, p3⟩ := Oper.apart_spec hap
      have h2 := opV_put hap (fun cs b => hsel j oj' cs b hoj) h1
      have hfree' : ∀ k ok, ops[k]? = some ok → k ≠ i → (listed.setIfInBounds j true).getD k true = false →
          (∀ e ∈ ok.after, Region.binds md e = true → e.on ≠ i) → oi.apart ops ok = true := fun k ok hk hki hun hno => by
        refine hfree k ok hk hki ?_ hno
        by_cases hjk : j = k
        · subst hjk; exact hjun
        · rw [getD_set_ne true hjk] at hun; exact hun
      refine ⟨oj', hoj, opV_mono (fun u w' h3 => ⟨h3.1, ih (listed.setIfInBounds j true) _ w' hfree' (ready_mono hr (Ne.symm hji)) (fun W hW => ?_) ?_⟩) h2⟩
      · exact (hy W (hR.trans h3.1 hW)).of_same (execOp_put oi (fun cs b => hsel i oi cs b hi) a oj'.dst u p3) (wanted_put oi a oj'.dst u p3)
      · have := h3.2
        rw [Array.setIfInBounds_comm _ _ hji, ← Act.put_comm a v u p2]
        exact this
/-- an operation that only reads is taken first -/
theorem anyV_val {L : Act → World → Prop} (i : Nat) {o : Oper} {v : Value} {fuel : Nat} {listed : Array Bool} {a : Act} {w : World} (hR : Pre R) (hi : ops[i]? = some o)
    (hs : Region.noSelect ops = true) (hf : Region.free md ops listed i = true) (hr : (Region.ready md ops listed).contains i = true) (hw : Region.wanted o (yielded ops a.tmps) = true)
    (hy : ∀ W, R w W → (execOp a.eval o).run P W = .ok (.value v) W)
    (h : ∀ K : Act → Prop, (∀ a', anyV R P md ops L fuel (listed.setIfInBounds i true) a' w → K a') → K (a.put o.dst v)) : anyV R P md ops L (fuel + 1) listed a w :=
  anyV_first hR hi (Region.noSelect_spec hs) fuel listed a w (Region.free_spec hi hf) (by simpa using hr) (fun W hW => .inl ⟨hw, .inl (hy W hW)⟩) (h _ fun _ h => h)
/-- an operation that is not wanted -/
theorem anyV_skip {L : Act → World → Prop} (i : Nat) {o : Oper} {fuel : Nat} {listed : Array Bool} {a : Act} {w : World} (hR : Pre R) (hi : ops[i]? = some o)
    (hs : Region.noSelect ops = true) (hf : Region.free md ops listed i = true) (hr : (Region.ready md ops listed).contains i = true) (hw : Region.wanted o (yielded ops a.tmps) = false)
    (h : ∀ K : Act → Prop, (∀ a', anyV R P md ops L fuel (listed.setIfInBounds i true) a' w → K a') → K (a.put o.dst undef)) : anyV R P md ops L (fuel + 1) listed a w :=
  anyV_first hR hi (Region.noSelect_spec hs) fuel listed a w (Region.free_spec hi hf) (by simpa using hr) (fun W hW => .inr ⟨hw, rfl⟩) (h _ fun _ h => h)
/-- an operation that alone may come up -/
theorem anyV_only {L : Act → World → Prop} (i : Nat) {o : Oper} {fuel : Nat} {listed : Array Bool} {a : Act} {w : World} (hi : ops[i]? = some o) (hr : Region.ready md ops listed = [i])
    (hw : Region.wanted o (yielded ops a.tmps) = true)
    (h : ∀ K : Value → World → Prop, (∀ v w', R w w' → anyV R P md ops L fuel (listed.setIfInBounds i true) (a.put o.dst v) w' → K v w') → upV P K ((execOp a.eval o).run P w)) : anyV R P md ops L (fuel + 1) listed a w := by
  refine ⟨fun h0 => (by rw [hr] at h0; cases h0), fun j hj => ?_⟩
  rw [hr] at hj
  obtain rfl : j = i := by simpa using hj
  refine ⟨o, hi, ?_⟩
  unfold opV
  rw [hw, if_pos rfl]
  exact h _ fun v w' h1 h2 => ⟨h1, h2⟩
theorem anyV_done {L : Act → World → Prop} {listed : Array Bool} {a : Act} {w : World} (hr : Region.ready md ops listed = []) (h : L a w) : anyV R P md ops L 0 listed a w := ⟨hr, h⟩
/-- put, in a frame that is written out -/
theorem anyV_frame {L : Act → World → Prop} {f : Nat} {listed : Array Bool} {a : Act} {w : World} (h : ∀ K : Act → Prop, (∀ a', anyV R P md ops L f listed a' w → K a') → K a) : anyV R P md ops L f listed a w := h _ fun _ h => h
end
/-- THE LAW -/
theorem wp_region_anyV {P : Program} (R : World → World → Prop) {id : Nat} {Q : Exit → Act → World → Prop} {a : Act} {w : World} {ops : Array Oper} (hm : P.follows .mixedOrders = true) (n : Nat) (hn : ops.size = n)
    (h : anyV R P .any ops (fun a w => Q .normal a w) n (Array.replicate n false) a w.drew) : (Code.region id ops true).wp P Q a w := by
  subst hn
  exact wp_region_any hm (wpAny_of_anyV (fun _ _ h => h) _ _ _ _ h)
/-- new blocks alone -/
def Grows (w w' : World) : Prop := Below w.heap.size w w'
theorem Grows.pre : Pre Grows := ⟨fun w => Below.refl _ w, fun {a b c} h k => h.trans (k.mono h.size)⟩
/-- new blocks, and the blocks S -/
def GrowsBut (S : Nat → Prop) (w w' : World) : Prop := Wr S S w w'
theorem GrowsBut.pre (S : Nat → Prop) : Pre (GrowsBut S) := ⟨fun w => Wr.refl _ w, fun {a b c} h k => Wr.trans h k⟩
theorem Wr.undrew {S S' : Nat → Prop} {A B : World} (h : Wr S S' A.drew B) : Wr S S' A B := ⟨h.os, h.tape, h.output, h.size, h.block, h.new⟩
theorem below_undrew {n : Nat} {A B : World} (h : Below n A.drew B) : Below n A B := ⟨h.os, h.tape, h.output, h.size, h.block⟩
theorem below_of_wrS {n : Nat} {S S' : Nat → Prop} {A B : World} (h : Wr S S' A B) (hS : ∀ b, b < n → ¬ S b) (hn : n ≤ A.heap.size) : Below n A B :=
  ⟨h.os, h.tape, h.output, h.size, fun b hb => h.block b (by omega) (hS b hb)⟩
theorem Wr.after {S : Nat → Prop} {A B C : World} (h : Below A.heap.size A B) (k : Wr S S B C) : Wr S S A C := Wr.trans (Wr.of_below h) k
theorem Wr.widen {S S' : Nat → Prop} {A B : World} (h : Wr S S A B) (hs : ∀ b, S b → S' b) : Wr S' S' A B :=
  ⟨h.os, h.tape, h.output, h.size, fun b hb hn => h.block b hb (fun h' => hn (hs b h')), fun b h => .inl h⟩
end Go.Proofs.Ytdlhnipkhlihjaa
