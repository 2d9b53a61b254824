/- append(own, fields...): the values that a row of fields is made of. -/
import Derived.Test.YtdlhnipkhlihjaaTlvD
import Derived.OwnWalk
import Derived.Laws.OwnMore
namespace Go.Proofs.Ytdlhnipkhlihjaa
open Go Go.RowKit
set_option linter.unusedVariables false
set_option linter.unnecessarySimpa false
theorem info_tlv : (Try.prog.info? 30).map (fun i => (i.zero, i.size, i.bytes)) = some (some (.agg #[.int .i64 0, .slice none 0 0, .slice none 0 0]), 3, 56) := by kernel_rfl
/-- these values, wherever they lie, are these fields -/
def Reloc (n : Nat) (W : World) (f : Forest) (vs : List Value) : Prop := ∀ (W' : World) (n' b off : Nat), Below n W W' → n ≤ n' → (∀ j u, vs[j]? = some u → W'.cell? ⟨b, off + j, none⟩ = some u) → RowF n' W' f b off
theorem RowF.vals {n : Nat} {W : World} : ∀ (f : Forest) (b off : Nat), RowF n W f b off →
    ∃ vs : List Value, vs.length = f.length * 3 ∧ (∀ u ∈ vs, u.oneCell' = true) ∧ (∀ j u, vs[j]? = some u → W.cell? ⟨b, off + j, none⟩ = some u) ∧ Reloc n W f vs
  | .nil, b, off, _ => ⟨[], rfl, by simp, by simp, fun _ _ _ _ _ _ _ => trivial⟩
  | .cons t bs k r, b, off, h => by
    obtain ⟨a, len, cap, ka, kl, kc, h1, h2, h3, h4, h5, h6, h7, h8, h9⟩ := h
    obtain ⟨vs, v1, v2, v3, v4⟩ := RowF.vals r b (off + 3) h9
    refine ⟨.int .i64 t :: .slice a len cap :: .slice ka kl kc :: vs, ?_, ?_, ?_, ?_⟩
    · simp only [List.length_cons, Forest.length, v1]; omega
    · intro u hu
      simp only [List.mem_cons] at hu
      rcases hu with rfl | rfl | rfl | hu
      · rfl
      · rfl
      · rfl
      · exact v2 u hu
    · intro j u hj
      match j, hj with
      | 0, hj => simp at hj; rw [← hj]; exact h1
      | 1, hj => simp at hj; rw [← hj]; exact h2
      | 2, hj => simp at hj; rw [← hj]; exact h3
      | j + 3, hj =>
        simp only [List.getElem?_cons_succ] at hj
        rw [show off + (j + 3) = off + 3 + j by omega]; exact v3 j u hj
    · intro W' n' b' off' hb hn hc
      refine ⟨a, len, cap, ka, kl, kc, hc 0 _ rfl, hc 1 _ rfl, hc 2 _ rfl, h4, h5, ⟨(h6.1.below hb).mono hn, h6.2⟩, h7, ?_, v4 W' n' b' (off' + 3) hb hn fun j u hj => ?_⟩
      · rcases h8 with h8 | ⟨b2, o2, g1, g2, g3, g4, g5⟩
        · exact .inl h8
        · exact .inr ⟨b2, o2, g1, Nat.lt_of_lt_of_le g2 hn, g3, g4, RowF.mono hn k b2 o2 (RowF.below hb k b2 o2 g2 g5)⟩
      · rw [show off' + 3 + j = off' + (j + 3) by omega]
        exact hc (j + 3) u (by simpa using hj)
theorem SlF.vals {n : Nat} {W : World} {a : Option Addr} {len cap : Nat} {f : Forest} (h : SlF n W a len cap f) :
    ∃ vs : List Value, vs.length = len * 3 ∧ (∀ u ∈ vs, u.oneCell' = true) ∧ Reloc n W f vs ∧ ((len = 0 ∧ vs = []) ∨ ∃ b off, a = some ⟨b, off, none⟩ ∧ ∀ j u, vs[j]? = some u → W.cell? ⟨b, off + j, none⟩ = some u) := by
  obtain ⟨hl, h0 | ⟨b, off, g1, g2, g3, g4, g5⟩⟩ := h
  · refine ⟨[], by simp; omega, by simp, ?_, .inl ⟨h0, rfl⟩⟩
    cases f with
    | nil => exact fun _ _ _ _ _ _ _ => trivial
    | cons t bs k r => simp [Forest.length] at hl; omega
  · obtain ⟨vs, v1, v2, v3, v4⟩ := RowF.vals f b off g5
    exact ⟨vs, by rw [v1, hl], v2, v4, .inr ⟨b, off, g1, v3⟩⟩
theorem RowF.app {n : Nat} {W : World} : ∀ (f g : Forest) (b off : Nat), RowF n W f b off → RowF n W g b (off + f.length * 3) → RowF n W (f.app g) b off
  | .nil, g, b, off, _, h => by simpa [Forest.length, Forest.app] using h
  | .cons t bs k r, g, b, off, hf, hg => by
    obtain ⟨a, len, cap, ka, kl, kc, h1, h2, h3, h4, h5, h6, h7, h8, h9⟩ := hf
    exact ⟨a, len, cap, ka, kl, kc, h1, h2, h3, h4, h5, h6, h7, h8, RowF.app r g b (off + 3) h9 (by rw [show off + 3 + r.length * 3 = off + (Forest.cons t bs k r).length * 3 by simp only [Forest.length]; omega]; exact hg)⟩
section
variable {P : Program} {ops : Array Oper} {rest : List Oper} {o : Oper} {a : Act} {w : World} {Q : Exit → Act → World → Prop}
theorem wpList_append_vals (hgd : o.guard = none) (s x : Operand) (t : TypeId) (ho : o.op = .call { callee := .builtin .append, args := #[s, x], argTypes := #[t, t] })
    (base : Nat) (e : TypeId) (i : TypeInfo) (z : Value) (size bytes : Nat) (ht : P.underlying t = some (.slice e)) (hi : P.info? e = some i) (hz : i.zero = some z) (hsize : i.size = size) (hby : i.bytes = bytes) (hzs : z.cells.size = size) (hsz : 0 < size)
    (v : Value) (n : Nat) (xs : List Value) (hs : a.eval s = v) (hown : w.ownsRow base e size v n xs)
    (p : Option Addr) (m c : Nat) (vs : List Value) (hx : a.eval x = .slice p m c) (hl : vs.length = m * size) (h1 : ∀ u ∈ vs, u.oneCell' = true)
    (hr : (m = 0 ∧ vs = []) ∨ ∃ b off, p = some ⟨b, off, none⟩ ∧ ∀ j u, vs[j]? = some u → w.cell? ⟨b, off + j, none⟩ = some u) (hsm : (n + m) * bytes ≤ 140737488355328) (hnm : n + m ≤ maxLen) (hbase : base ≤ w.heap.size)
    (h : ∀ v' w', w'.ownsRow base e size v' (n + m) (xs ++ vs) → w.grownBy w' v.ownBlock → (v'.ownBlock = v.ownBlock ∨ v'.ownBlock = some w.heap.size) → wpList P ops Q rest (a.put o.dst v') w') :
    wpList P ops Q (o :: rest) a w := by
  have key : ∀ ad, p = some ad → (∀ j u, vs[j]? = some u → w.cell? (ad.add j) = some u) → wpList P ops Q (o :: rest) a w := fun ad hp hc => by
    subst hp
    exact wpList_append_own_at (w := w) hgd s x t ho base e i z size bytes ht hi hz hsize hby hzs hsz v n _ hs hown ad m c vs hx hl hc h1 hnm hsm hbase (fun v' w' h2 h3 _ h5 => h v' w' h2 h3 h5)
  rcases hr with ⟨rfl, rfl⟩ | ⟨b, off, rfl, hc⟩
  · cases p with
    | some ad => exact key ad rfl (fun j u hj => by simp at hj)
    | none =>
      refine wpList_plain hgd fun K hK => ?_
      have hr : (Builtin.append_ #[t, t] o.type #[v, .slice none 0 c]).run P w = .ok v w := by
        rcases hown.2 with ⟨rfl, rfl⟩ | ⟨g, cap, cur, rfl, _, _, hnc, _⟩
        · simp [Builtin.append_, run_underlying ht, sizeOf, typeInfo, hi, Builtin.lenOf, Builtin.firstCells]
        · simp [Builtin.append_, run_underlying ht, sizeOf, typeInfo, hi, Builtin.lenOf, Builtin.firstCells, hnc, storeCells]
      unfold Oper.wp execOp
      simp only [ho, resolve, invoke, builtin, Sem.run_bind, Sem.run_pure, Result.andThen_ok, List.map_toArray, List.map_cons, List.map_nil, hs, hx, hr]
      exact hK _ _ (h v w (by simpa using hown) ⟨rfl, rfl, rfl, Nat.le_refl _, fun _ _ _ => rfl⟩ (.inl rfl))
  · refine key _ rfl (fun j u hj => ?_)
    rw [show (⟨b, off, none⟩ : Addr).add j = ⟨b, off + j, none⟩ from Addr.add_lit ..]
    exact hc j u hj
end
end Go.Proofs.Ytdlhnipkhlihjaa
