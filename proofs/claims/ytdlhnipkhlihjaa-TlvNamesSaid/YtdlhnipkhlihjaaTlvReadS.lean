/- What the walk of tlv.read needs: stores, an own row's last element, AnyZ within a body. -/
import Derived.Test.YtdlhnipkhlihjaaTlvRefRead
import Derived.Test.YtdlhnipkhlihjaaTlvFields
import Derived.Test.YtdlhnipkhlihjaaAnyP
import Derived.OwnWalkIn
namespace Go.Proofs.Ytdlhnipkhlihjaa
open Go Go.RowKit
set_option linter.unusedVariables false
set_option linter.unnecessarySimpa false
set_option linter.unusedSimpArgs false
section
variable {F : Fence} {nF : Nat} {P : Program} {ops : Array Oper} {Q : Exit → Act → World → Prop} {a : Act} {w : World} {rest : List Oper} {o : Oper}
theorem wpListIn_store_row (hgd : o.guard = none) (ty : TypeId) (x y : Operand) (ho : o.op = .store ty x y)
    (g : Nat) (cells : Array Value) (hx : a.eval x = .pointer (some ⟨g, 0, none⟩)) (hy : a.eval y = .agg cells)
    (t : TypeId) (old : Array Value) (hg : w.heap[g]? = some (.cells old t (0, 0))) (hi : (P.info? ty).map (·.size) = some cells.size)
    (hold : old.size = cells.size) (h1 : cells.all (·.oneCell') = true)
    (h : wpListIn F nF P ops Q rest (a.put o.dst undef) (w.setRow g cells)) : wpListIn F nF P ops Q (o :: rest) a w := by
  refine wpListIn_plain hgd fun K hK => ?_
  unfold Oper.wpIn
  refine ⟨by simp [Oper.about, ho], ?_⟩
  rw [Oper.semAt_plain F _ _ (by rw [ho]; intro c hc'; cases hc')]
  simp only [execOp, ho, hx, hy, Instr.storeAt, Instr.sureAddr, Sem.run_bind, Sem.run_pure, Result.andThen_ok, run_storeVar_row w g t ty old cells hg hi hold h1]
  exact hK _ _ h
theorem at_storeIn {t : TypeId} {x y : Operand} (ho : o.op = .store t x y) (h : Held (wpListIn F nF P ops Q (o :: rest) a w)) : wpListIn F nF P ops Q (o :: rest) a w := h
theorem upV_store_at {K : Value → World → Prop} (ty : TypeId) (x y : Operand) (ho : o.op = .store ty x y)
    (g off : Nat) (cells : Array Value) (hx : a.eval x = .pointer (some ⟨g, off, none⟩)) (hy : a.eval y = .agg cells)
    (t : TypeId) (cur : Array Value) (hg : w.heap[g]? = some (.cells cur t (0, 0))) (hi : (P.info? ty).map (·.size) = some cells.size)
    (hfit : off + cells.size ≤ cur.size) (h1 : cells.all (·.oneCell') = true)
    (h : K undef (w.setRow g (cur.toList.take off ++ cells.toList ++ cur.toList.drop (off + cells.size)).toArray)) : upV P K ((execOp a.eval o).run P w) := by
  have hs := run_storeCells_at (P := P) g off t cells.toList 0 cur w hg (by simpa using hfit) (fun v hv => (Array.all_eq_true_iff_forall_mem.1 h1) v (by simpa using hv))
  have hv : (storeVar ty ⟨g, off, none⟩ (.agg cells)).run P w = .ok () (w.setRow g (cur.toList.take off ++ cells.toList ++ cur.toList.drop (off + cells.size)).toArray) := by
    cases hq : P.info? ty with
    | none => simp [hq] at hi
    | some i =>
      have hs2 : cells.size = i.size := by simp [hq] at hi; omega
      simp only [Nat.add_zero, Array.length_toList] at hs
      simp [storeVar, sizeOf, typeInfo, hq, Value.cells, hs2]
      rw [hs2] at hs
      simpa using hs
  unfold execOp
  simp only [ho, hx, hy, Instr.storeAt, Instr.sureAddr, Sem.run_bind, Sem.run_pure, Result.andThen_ok, hv]
  exact h
end
/-- an own row's last element, written anew -/
theorem ownsRow_last {W : World} {base : Nat} {e : TypeId} {size : Nat} {v : Value} {n : Nat} {xs zs ys : List Value} (h : W.ownsRow base e size v (n + 1) (xs ++ zs)) (hx : xs.length = n * size) (hy : ys.length = size) :
    ∃ g cap cur, v = .slice (some ⟨g, 0, none⟩) (n + 1) cap ∧ n + 1 ≤ cap ∧ base ≤ g ∧ W.heap[g]? = some (.cells cur e (0, 0)) ∧ n * size + ys.length ≤ cur.size ∧
      ∀ W' : World, W'.heap[g]? = some (.cells (cur.toList.take (n * size) ++ ys ++ cur.toList.drop (n * size + ys.length)).toArray e (0, 0)) → W'.ownsRow base e size v (n + 1) (xs ++ ys) := by
  rcases h.2 with ⟨_, h0⟩ | ⟨g, cap, cur, hv, h2, h3, h4, h5, h6, h7⟩
  · omega
  · have hs : (n + 1) * size ≤ cap * size := Nat.mul_le_mul_right _ h4
    rw [Nat.succ_mul] at hs
    have hcl : cur.toList.length = cap * size := by rw [Array.length_toList, h6]
    refine ⟨g, cap, cur, hv, h4, h2, h3, by rw [hy, h6]; exact hs, fun W' hW' => ⟨by rw [List.length_append, hx, hy, Nat.succ_mul], .inr ⟨g, cap, _, hv, h2, hW', h4, h5, ?_, ?_⟩⟩⟩
    · simp only [List.size_toArray, List.length_append, List.length_take, List.length_drop, hcl, hy]; omega
    · have h8 : cur.toList.take (n * size) = xs := by
        have h9 := congrArg (List.take (n * size)) h7
        rw [List.take_take, Nat.min_eq_left (by rw [Nat.succ_mul]; omega), List.take_left' hx] at h9
        exact h9
      show List.take _ (_ ++ _ ++ _) = _
      rw [h8, List.take_left' (by rw [List.length_append, hx, hy, Nat.succ_mul])]
/-! AnyZ within a body -/
section
variable {P : Program} {ops : Array Oper} {md : Region.Mode} {R : World → World → Prop}
theorem wpAnyIn_of_anyZ {l m z r : Nat} {Q : Exit → Act → World → Prop} (hd : noDefer ops = true) : ∀ (f : Nat) (listed : Array Bool) (a : Act) (w : World), anyZ R P md ops z (wpAnyIn (Fence.wide.inRound l) m P md ops Q r) f listed a w → wpAnyIn (Fence.wide.inRound l) m P md ops Q (f + r) listed a w
  | 0, _, _, _, h => by rw [Nat.zero_add]; exact h.2
  | f + 1, listed, a, w, h => by
    rw [show f + 1 + r = (f + r) + 1 by omega]
    exact ⟨fun h0 => absurd h0 h.1, fun i hi => by
      obtain ⟨o, ho, hop⟩ := h.2 i hi
      exact wpOpIn_of_opV ho (noDefer_spec hd i o ho) (opV_mono (fun v w' hk => wpAnyIn_of_anyZ hd f _ _ _ hk.2) hop)⟩
/-- THE LAW: the first z in any order under R; from there on under R2 -/
theorem wpIn_region_anyZV {l m : Nat} (R R2 : World → World → Prop) (z r : Nat) {id : Nat} {Q : Exit → Act → World → Prop} {a : Act} {w : World} (hm : P.follows .mixedOrders = true) (hn : ops.size = z + r) (hd : noDefer ops = true)
    (h : anyZ R P .any ops z (fun listed a w => anyV R2 P .any ops (fun a w => Q .normal a w) r listed a w) z (Array.replicate (z + r) false) a w.drew) : (Code.region id ops true).wpIn (Fence.wide.inRound l) m P Q a w := by
  rw [← hn] at h
  refine wpIn_region_any hm ?_
  have h2 : anyZ R P .any ops z (wpAnyIn (Fence.wide.inRound l) m P .any ops Q r) z (Array.replicate ops.size false) a w.drew := by
    revert h
    generalize Array.replicate ops.size false = listed
    generalize w.drew = w'
    generalize hf : z = f
    have key : ∀ (f : Nat) (listed : Array Bool) (a : Act) (w : World), anyZ R P .any ops z (fun listed a w => anyV R2 P .any ops (fun a w => Q .normal a w) r listed a w) f listed a w → anyZ R P .any ops z (wpAnyIn (Fence.wide.inRound l) m P .any ops Q r) f listed a w := by
      intro f
      induction f with
      | zero => intro listed a w h; exact ⟨h.1, wpAnyIn_of_anyV (fun _ _ h => h) hd _ _ _ _ h.2⟩
      | succ f ih => intro listed a w h; exact ⟨h.1, fun i hi => by
          obtain ⟨o, ho, hop⟩ := h.2 i hi
          exact ⟨o, ho, opV_mono (fun v w' hk => ⟨hk.1, ih _ _ _ hk.2⟩) hop⟩⟩
    rw [← hf]
    exact key _ _ _ _
  have h3 := wpAnyIn_of_anyZ hd _ _ _ _ h2
  rw [← hn] at h3
  exact h3
end
end Go.Proofs.Ytdlhnipkhlihjaa
