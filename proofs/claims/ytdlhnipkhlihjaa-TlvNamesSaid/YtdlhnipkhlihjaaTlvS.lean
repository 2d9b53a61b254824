/- Fields that a call made: these values, wherever they lie, are these fields, if some blocks are as they were. What twin owes. -/
import Derived.Test.YtdlhnipkhlihjaaTlvG
import Derived.Test.YtdlhnipkhlihjaaAppendUp
namespace Go.Proofs.Ytdlhnipkhlihjaa
open Go Go.RowKit
set_option linter.unusedVariables false
set_option linter.unnecessarySimpa false
/-- these values, wherever they lie, are these fields, if the blocks S are as they were -/
def RelocS (S : Nat → Prop) (W : World) (f : Forest) (vs : List Value) : Prop :=
  ∀ (W' : World) (n' b off : Nat), (∀ x, S x → W'.heap[x]? = W.heap[x]?) → (∀ x, S x → x < n') → (∀ j u, vs[j]? = some u → W'.cell? ⟨b, off + j, none⟩ = some u) → RowF n' W' f b off
section
variable {S T : Nat → Prop} {W W2 : World} {f g : Forest} {vs us : List Value}
theorem RelocS.nil : RelocS S W .nil [] := fun _ _ _ _ _ _ _ => trivial
theorem RelocS.keep (h : RelocS S W f vs) (hs : ∀ x, S x → W2.heap[x]? = W.heap[x]?) : RelocS S W2 f vs := fun W' n' b off h1 h2 h3 => h W' n' b off (fun x hx => (h1 x hx).trans (hs x hx)) h2 h3
theorem RelocS.widen (h : RelocS S W f vs) (hs : ∀ x, S x → T x) : RelocS T W f vs := fun W' n' b off h1 h2 h3 => h W' n' b off (fun x hx => h1 x (hs x hx)) (fun x hx => h2 x (hs x hx)) h3
theorem RelocS.app (h : RelocS S W f vs) (k : RelocS S W g us) (hl : vs.length = f.length * 3) : RelocS S W (f.app g) (vs ++ us) := fun W' n' b off h1 h2 h3 => by
  refine RowF.app f g b off (h W' n' b off h1 h2 fun j u hj => h3 j u ?_) (k W' n' b (off + f.length * 3) h1 h2 fun j u hj => ?_)
  · rw [List.getElem?_append_left (List.getElem?_eq_some_iff.1 hj).1]; exact hj
  · rw [Nat.add_assoc]
    refine h3 (f.length * 3 + j) u ?_
    rw [List.getElem?_append_right (by omega), hl, Nat.add_sub_cancel_left]; exact hj
theorem RelocS.one {t : Int} {a : Option Addr} {len cap : Nat} {bs : List Int} {ka : Option Addr} {kl kc : Nat} {k : Forest} (ht1 : -9223372036854775808 ≤ t) (ht2 : t ≤ 9223372036854775807) (hbl : bs.length ≤ 140737488351232)
    (hb : ∀ (W' : World) (n' : Nat), (∀ x, S x → W'.heap[x]? = W.heap[x]?) → (∀ x, S x → x < n') → Row8 n' W' (.slice a len cap) bs) (hk : ∀ (W' : World) (n' : Nat), (∀ x, S x → W'.heap[x]? = W.heap[x]?) → (∀ x, S x → x < n') → SlF n' W' ka kl kc k) :
    RelocS S W (.cons t bs k .nil) [.int .i64 t, .slice a len cap, .slice ka kl kc] := fun W' n' b off h1 h2 h3 => by
  obtain ⟨q1, q2⟩ := hk W' n' h1 h2
  exact ⟨a, len, cap, ka, kl, kc, h3 0 _ rfl, h3 1 _ rfl, h3 2 _ rfl, ht1, ht2, ⟨hb W' n' h1 h2, hbl⟩, q1, q2, trivial⟩
end
/-- a row of bytes, in another world -/
theorem own_row8 {W : World} {base : Nat} {v : Value} {n : Nat} {bs : List Int} (h : W.ownsRow base 5 1 v n (bs.map (Value.int .u8))) (hb : ∀ z ∈ bs, 0 ≤ z ∧ z ≤ 255) (W' : World) (n' : Nat) (hs : ∀ b, v.ownBlock = some b → W'.heap[b]? = W.heap[b]? ∧ b < n') : Row8 n' W' v bs := by
  have h' := ownsRow_same h fun b hb => (hs b hb).1
  refine ⟨?_, hb⟩
  rcases (RowI.of_own h').2 with h1 | ⟨b, off, cap, e, h2, h3, h4, h5⟩
  · exact .inl h1
  · refine .inr ⟨b, off, cap, e, ?_, h3, h4, h5⟩
    exact (hs b (by rw [e]; simp [Value.ownBlock])).2
/-- a row of fields, in another world -/
theorem own_slF {S : Nat → Prop} {W : World} {base : Nat} {ka : Option Addr} {kl kc : Nat} {f : Forest} {vs : List Value} (h : W.ownsRow base 30 3 (.slice ka kl kc) kl vs) (hr : RelocS S W f vs) (hl : f.length = kl)
    (W' : World) (n' : Nat) (hs : ∀ x, S x ∨ (Value.slice ka kl kc).ownBlock = some x → W'.heap[x]? = W.heap[x]? ∧ x < n') : SlF n' W' ka kl kc f := by
  refine ⟨hl, ?_⟩
  by_cases h0 : kl = 0
  · exact .inl h0
  · have h' := ownsRow_same h fun b hb => (hs b (.inr hb)).1
    have hvl := h'.1
    rcases h.2 with ⟨_, h1⟩ | ⟨g, cap, cur, e, h2, h3, h4, h5, _⟩
    · exact absurd h1 h0
    · injection e with e1 _ e3
      subst e1 e3
      refine .inr ⟨g, 0, rfl, (hs g (.inr rfl)).2, h4, h5, hr W' n' g 0 (fun x hx => (hs x (.inl hx)).1) (fun x hx => (hs x (.inl hx)).2) fun j u hj => ?_⟩
      have hjl := (List.getElem?_eq_some_iff.1 hj).1
      rw [Nat.zero_add, h'.cellAt j (by omega), hj]
section
variable {P : Program} {ops : Array Oper} {md : Region.Mode} {R : World → World → Prop} {o : Oper} {a : Act} {w : World}
theorem upV_store_row {K : Value → World → Prop} (ty : TypeId) (x y : Operand) (ho : o.op = .store ty x y) (g : Nat) (cells : Array Value) (hx : a.eval x = .pointer (some ⟨g, 0, none⟩)) (hy : a.eval y = .agg cells)
    (t : TypeId) (old : Array Value) (hg : w.heap[g]? = some (.cells old t (0, 0))) (hi : (P.info? ty).map (·.size) = some cells.size)
    (hold : old.size = cells.size) (h1 : cells.all (·.oneCell') = true) (h : K undef (w.setRow g cells)) : upV P K ((execOp a.eval o).run P w) := by
  unfold execOp
  simp only [ho, hx, hy, Instr.storeAt, Instr.sureAddr, Sem.run_bind, Sem.run_pure, Result.andThen_ok, run_storeVar_row w g t ty old cells hg hi hold h1]
  exact h
theorem wpList_store_row {rest : List Oper} {Q : Exit → Act → World → Prop} (hgd : o.guard = none) (ty : TypeId) (x y : Operand) (ho : o.op = .store ty x y) (g : Nat) (cells : Array Value) (hx : a.eval x = .pointer (some ⟨g, 0, none⟩)) (hy : a.eval y = .agg cells)
    (t : TypeId) (old : Array Value) (hg : w.heap[g]? = some (.cells old t (0, 0))) (hi : (P.info? ty).map (·.size) = some cells.size)
    (hold : old.size = cells.size) (h1 : cells.all (·.oneCell') = true) (h : wpList P ops Q rest (a.put o.dst undef) (w.setRow g cells)) : wpList P ops Q (o :: rest) a w := by
  refine wpList_plain hgd fun K hK => ?_
  unfold Oper.wp execOp
  simp only [ho, hx, hy, Instr.storeAt, Instr.sureAddr, Sem.run_bind, Sem.run_pure, Result.andThen_ok, run_storeVar_row w g t ty old cells hg hi hold h1]
  exact hK _ _ h
theorem at_store {rest : List Oper} {Q : Exit → Act → World → Prop} {t : TypeId} {x y : Operand} (ho : o.op = .store t x y) (h : Held (wpList P ops Q (o :: rest) a w)) : wpList P ops Q (o :: rest) a w := h
/-- two operations may come up: both ways -/
theorem anyV_two {L : Act → World → Prop} (i j : Nat) {oi oj : Oper} {fuel : Nat} {listed : Array Bool} (hi : ops[i]? = some oi) (hj : ops[j]? = some oj) (hr : Region.ready md ops listed = [i, j])
    (hwi : Region.wanted oi (yielded ops a.tmps) = true) (hwj : Region.wanted oj (yielded ops a.tmps) = true)
    (h1 : ∀ K : Value → World → Prop, (∀ v w', R w w' → anyV R P md ops L fuel (listed.setIfInBounds i true) (a.put oi.dst v) w' → K v w') → upV P K ((execOp a.eval oi).run P w))
    (h2 : ∀ K : Value → World → Prop, (∀ v w', R w w' → anyV R P md ops L fuel (listed.setIfInBounds j true) (a.put oj.dst v) w' → K v w') → upV P K ((execOp a.eval oj).run P w)) : anyV R P md ops L (fuel + 1) listed a w := by
  refine ⟨fun h0 => (by rw [hr] at h0; cases h0), fun q hq => ?_⟩
  rw [hr] at hq
  simp only [List.mem_cons, List.not_mem_nil, or_false] at hq
  rcases hq with rfl | rfl
  · refine ⟨oi, hi, ?_⟩
    unfold opV
    rw [hwi, if_pos rfl]
    exact h1 _ fun v w' h3 h4 => ⟨h3, h4⟩
  · refine ⟨oj, hj, ?_⟩
    unfold opV
    rw [hwj, if_pos rfl]
    exact h2 _ fun v w' h3 h4 => ⟨h3, h4⟩
end
def TwinOK (k : Forest) : Prop := ∀ (W : World) (n : Nat) (t : Int) (a : Option Addr) (len cap : Nat) (bs : List Int) (ka : Option Addr) (kl kc : Nat), n ≤ W.heap.size → -9223372036854775808 ≤ t → t ≤ 9223372036854775807 → Row8 n W (.slice a len cap) bs → SlF n W ka kl kc k → 1 + bs.length + k.cnt ≤ 20000 →
  Calls Try.prog 28 #[.agg #[.int .i64 t, .slice a len cap, .slice ka kl kc]] W fun e W' => ∃ (a' : Option Addr) (len' cap' : Nat) (ka' : Option Addr) (kl' kc' : Nat), e = .returned (.agg #[.int .i64 t, .slice a' len' cap', .slice ka' kl' kc']) ∧
    RelocS (fun x => W.heap.size ≤ x ∧ x < W'.heap.size) W' (.cons t bs k .nil) [.int .i64 t, .slice a' len' cap', .slice ka' kl' kc'] ∧ (∀ (W2 : World) (n' : Nat), (∀ x, W.heap.size ≤ x ∧ x < W'.heap.size → W2.heap[x]? = W'.heap[x]?) → (∀ x, W.heap.size ≤ x ∧ x < W'.heap.size → x < n') → Row8 n' W2 (.slice a' len' cap') bs ∧ SlF n' W2 ka' kl' kc' k) ∧ Below W.heap.size W W'
end Go.Proofs.Ytdlhnipkhlihjaa
