/- A region whose last operations stand behind all others (a store behind what it stores): the first part by AnyV's way, the rest one by one. -/
import Derived.Test.YtdlhnipkhlihjaaAnyV
namespace Go.Proofs.Ytdlhnipkhlihjaa
open Go Go.RowKit
set_option linter.unusedVariables false
section
variable {P : Program} {ops : Array Oper} {md : Region.Mode} {R : World → World → Prop}
/-- z stands behind all that lie ahead of it -/
def behind (md : Region.Mode) (ops : Array Oper) (z : Nat) : Bool :=
  match ops[z]? with
  | some oz => (List.range z).all fun k => oz.after.toList.any fun e => Region.binds md e && (e.on == k)
  | none => false
theorem behind_spec {z i : Nat} (h : behind md ops z = true) (hi : i < z) : ∃ oz, ops[z]? = some oz ∧ ∃ e ∈ oz.after, Region.binds md e = true ∧ e.on = i := by
  unfold behind at h
  cases hz : ops[z]? with
  | none => rw [hz] at h; cases h
  | some oz =>
    rw [hz] at h
    have h1 := List.all_eq_true.1 h i (List.mem_range.2 hi)
    obtain ⟨e, he, h2⟩ := List.any_eq_true.1 h1
    simp only [Bool.and_eq_true, beq_iff_eq] at h2
    exact ⟨oz, rfl, e, by simpa using he, h2.1, h2.2⟩
def anyZ (R : World → World → Prop) (P : Program) (md : Region.Mode) (ops : Array Oper) (z : Nat) (L : Array Bool → Act → World → Prop) : Nat → Array Bool → Act → World → Prop
  | 0, listed, a, w => Region.ready md ops listed = [z] ∧ L listed a w
  | f + 1, listed, a, w => Region.ready md ops listed ≠ [] ∧
    ∀ i ∈ Region.ready md ops listed, ∃ o, ops[i]? = some o ∧ opV P ops o (fun v w' => R w w' ∧ anyZ R P md ops z L f (listed.setIfInBounds i true) (a.put o.dst v) w') a w
theorem wpAny_of_anyZ {z r : Nat} {Q : Exit → Act → World → Prop} : ∀ (f : Nat) (listed : Array Bool) (a : Act) (w : World), anyZ R P md ops z (wpAny P md ops Q r) f listed a w → wpAny P md ops Q (f + r) listed a w
  | 0, _, _, _, h => by rw [Nat.zero_add]; exact h.2
  | f + 1, listed, a, w, h => by
    rw [show f + 1 + r = (f + r) + 1 by omega]
    exact ⟨fun h0 => absurd h0 h.1, fun i hi => by
      obtain ⟨o, ho, hop⟩ := h.2 i hi
      exact wpOp_of_opV ho (opV_mono (fun v w' hk => wpAny_of_anyZ f _ _ _ hk.2) hop)⟩
theorem anyZ_first {z : Nat} {L : Array Bool → Act → World → Prop} {i : Nat} {oi : Oper} {v : Value} (hR : Pre R) (hz : behind md ops z = true) (hiz : i < z) (hi : ops[i]? = some oi) (hsel : ∀ (j : Nat) (o : Oper) cs b, ops[j]? = some o → o.op ≠ .select cs b) :
    ∀ (fuel : Nat) (listed : Array Bool) (a : Act) (w : World),
      (∀ j oj, ops[j]? = some oj → j ≠ i → listed.getD j true = false → (∀ e ∈ oj.after, Region.binds md e = true → e.on ≠ i) → oi.apart ops oj = true) →
      i ∈ Region.ready md ops listed → (∀ W, R w W → YieldsAt P ops W oi v a) →
      anyZ R P md ops z L fuel (listed.setIfInBounds i true) (a.put oi.dst v) w → anyZ R P md ops z L (fuel + 1) listed a w := by
  intro fuel
  induction fuel with
  | zero =>
    intro listed a w _ hr hy H
    refine ⟨fun h => (by rw [h] at hr; cases hr), fun j hj => ?_⟩
    by_cases hji : j = i
    · subst hji; exact ⟨oi, hi, opV_of_yields (hy w (hR.refl w)) ⟨hR.refl w, H⟩⟩
    · have := ready_mono hj hji
      rw [H.1] at this
      obtain rfl : j = z := by simpa using this
      obtain ⟨oz, hoz, e, he, hb, heq⟩ := behind_spec hz hiz
      obtain ⟨_, oj', hoj', hall⟩ := mem_ready.1 hj
      obtain rfl : oj' = oz := Option.some.inj (hoj'.symm.trans hoz)
      have h1 := hall e he hb
      have h0 := (mem_ready.1 hr).1
      rw [heq] at h1
      exfalso
      rcases Nat.lt_or_ge i listed.size with h' | h'
      · simp [h'] at h0 h1; rw [h0] at h1; cases h1
      · simp [Array.getElem?_eq_none h'] at h1
  | succ fuel ih =>
    intro listed a w hfree hr hy H
    refine ⟨fun h => (by rw [h] at hr; cases hr), fun j hj => ?_⟩
    by_cases hji : j = i
    · subst hji; exact ⟨oi, hi, opV_of_yields (hy w (hR.refl w)) ⟨hR.refl w, H⟩⟩
    · obtain ⟨oj, hoj, h1⟩ := H.2 j (ready_mono hj hji)
      obtain ⟨hjun, oj', hoj', hall⟩ := mem_ready.1 hj
      obtain rfl : oj' = oj := Option.some.inj (hoj'.symm.trans hoj)
      have hnot : ∀ e ∈ oj'.after, Region.binds md e = true → e.on ≠ i := fun e he hb heq => by
        have h1 := hall e he hb
        have h0 := (mem_ready.1 hr).1
        rw [heq] at h1
        rcases Nat.lt_or_ge i listed.size with h' | h'
        · simp [h'] at h0 h1; rw [h0] at h1; cases h1
        · simp [Array.getElem?_eq_none h'] at h1
      have hap := hfree j oj' hoj hji hjun hnot
      obtain ⟨p1, p2, p3⟩ := Oper.apart_spec hap
      have h2 := opV_put hap (fun cs b => hsel j oj' cs b hoj) h1
      have hfree' : ∀ k ok, ops[k]? = some ok → k ≠ i → (listed.setIfInBounds j true).getD k true = false →
          (∀ e ∈ ok.after, Region.binds md e = true → e.on ≠ i) → oi.apart ops ok = true := fun k ok hk hki hun hno => by
        refine hfree k ok hk hki ?_ hno
        by_cases hjk : j = k
        · subst hjk; exact hjun
        · rw [getD_set_ne true hjk] at hun; exact hun
      refine ⟨oj', hoj, opV_mono (fun u w' h3 => ⟨h3.1, ih (listed.setIfInBounds j true) _ w' hfree' (ready_mono hr (Ne.symm hji)) (fun W hW => ?_) ?_⟩) h2⟩
      · exact (hy W (hR.trans h3.1 hW)).of_same (execOp_put oi (fun cs b => hsel i oi cs b hi) a oj'.dst u p3) (wanted_put oi a oj'.dst u p3)
      · have := h3.2
        rw [Array.setIfInBounds_comm _ _ hji, ← Act.put_comm a v u p2]
        exact this
/-- an operation that only reads is taken first -/
theorem anyZ_val {z : Nat} {L : Array Bool → Act → World → Prop} (i : Nat) {o : Oper} {v : Value} {fuel : Nat} {listed : Array Bool} {a : Act} {w : World} (hR : Pre R) (hz : behind md ops z = true) (hiz : i < z) (hi : ops[i]? = some o)
    (hs : Region.noSelect ops = true) (hf : Region.free md ops listed i = true) (hr : (Region.ready md ops listed).contains i = true) (hw : Region.wanted o (yielded ops a.tmps) = true)
    (hy : ∀ W, R w W → (execOp a.eval o).run P W = .ok (.value v) W)
    (h : ∀ K : Act → Prop, (∀ a', anyZ R P md ops z L fuel (listed.setIfInBounds i true) a' w → K a') → K (a.put o.dst v)) : anyZ R P md ops z L (fuel + 1) listed a w :=
  anyZ_first hR hz hiz hi (Region.noSelect_spec hs) fuel listed a w (Region.free_spec hi hf) (by simpa using hr) (fun W hW => .inl ⟨hw, .inl (hy W hW)⟩) (h _ fun _ h => h)
/-- an operation that is not wanted -/
theorem anyZ_skip {z : Nat} {L : Array Bool → Act → World → Prop} (i : Nat) {o : Oper} {fuel : Nat} {listed : Array Bool} {a : Act} {w : World} (hR : Pre R) (hz : behind md ops z = true) (hiz : i < z) (hi : ops[i]? = some o)
    (hs : Region.noSelect ops = true) (hf : Region.free md ops listed i = true) (hr : (Region.ready md ops listed).contains i = true) (hw : Region.wanted o (yielded ops a.tmps) = false)
    (h : ∀ K : Act → Prop, (∀ a', anyZ R P md ops z L fuel (listed.setIfInBounds i true) a' w → K a') → K (a.put o.dst undef)) : anyZ R P md ops z L (fuel + 1) listed a w :=
  anyZ_first hR hz hiz hi (Region.noSelect_spec hs) fuel listed a w (Region.free_spec hi hf) (by simpa using hr) (fun W hW => .inr ⟨hw, rfl⟩) (h _ fun _ h => h)
/-- an operation that alone may come up -/
theorem anyZ_only {z : Nat} {L : Array Bool → Act → World → Prop} (i : Nat) {o : Oper} {fuel : Nat} {listed : Array Bool} {a : Act} {w : World} (hi : ops[i]? = some o) (hr : Region.ready md ops listed = [i])
    (hw : Region.wanted o (yielded ops a.tmps) = true)
    (h : ∀ K : Value → World → Prop, (∀ v w', R w w' → anyZ R P md ops z L fuel (listed.setIfInBounds i true) (a.put o.dst v) w' → K v w') → upV P K ((execOp a.eval o).run P w)) : anyZ R P md ops z L (fuel + 1) listed a w := by
  refine ⟨fun h0 => (by rw [hr] at h0; cases h0), fun j hj => ?_⟩
  rw [hr] at hj
  obtain rfl : j = i := by simpa using hj
  refine ⟨o, hi, ?_⟩
  unfold opV
  rw [hw, if_pos rfl]
  exact h _ fun v w' h1 h2 => ⟨h1, h2⟩
theorem anyZ_done {z : Nat} {L : Array Bool → Act → World → Prop} {listed : Array Bool} {a : Act} {w : World} (hr : Region.ready md ops listed = [z]) (h : L listed a w) : anyZ R P md ops z L 0 listed a w := ⟨hr, h⟩
theorem anyZ_frame {z : Nat} {L : Array Bool → Act → World → Prop} {f : Nat} {listed : Array Bool} {a : Act} {w : World} (h : ∀ K : Act → Prop, (∀ a', anyZ R P md ops z L f listed a' w → K a') → K a) : anyZ R P md ops z L f listed a w := h _ fun _ h => h
/-- the rest, one by one -/
theorem wpAny_only {Q : Exit → Act → World → Prop} (i : Nat) {o : Oper} {fuel : Nat} {listed : Array Bool} {a : Act} {w : World} (hi : ops[i]? = some o) (hr : Region.ready md ops listed = [i])
    (hw : Region.wanted o (yielded ops a.tmps) = true)
    (h : ∀ K : Value → World → Prop, (∀ v w', wpAny P md ops Q fuel (listed.setIfInBounds i true) (a.put o.dst v) w' → K v w') → upV P K ((execOp a.eval o).run P w)) : wpAny P md ops Q (fuel + 1) listed a w := by
  refine ⟨fun h0 => (by rw [hr] at h0; cases h0), fun j hj => ?_⟩
  rw [hr] at hj
  obtain rfl : j = i := by simpa using hj
  refine wpOp_of_opV hi ?_
  unfold opV
  rw [hw, if_pos rfl]
  exact h _ fun v w' h2 => h2
theorem wpAny_frame {Q : Exit → Act → World → Prop} {f : Nat} {listed : Array Bool} {a : Act} {w : World} (h : ∀ K : Act → Prop, (∀ a', wpAny P md ops Q f listed a' w → K a') → K a) : wpAny P md ops Q f listed a w := h _ fun _ h => h
theorem wpAny_done {Q : Exit → Act → World → Prop} {listed : Array Bool} {a : Act} {w : World} (hr : Region.ready md ops listed = []) (h : Q .normal a w) : wpAny P md ops Q 0 listed a w := ⟨hr, h⟩
end
/-- THE LAW: n operations, the first z in any order, the rest one by one -/
theorem wp_region_anyZ {P : Program} (R : World → World → Prop) (z r : Nat) {id : Nat} {Q : Exit → Act → World → Prop} {a : Act} {w : World} {ops : Array Oper} (hm : P.follows .mixedOrders = true) (hn : ops.size = z + r)
    (h : anyZ R P .any ops z (wpAny P .any ops Q r) z (Array.replicate (z + r) false) a w.drew) : (Code.region id ops true).wp P Q a w := by
  rw [← hn] at h
  exact wp_region_any hm (by have := wpAny_of_anyZ _ _ _ _ h; rw [← hn] at this; exact this)
end Go.Proofs.Ytdlhnipkhlihjaa
