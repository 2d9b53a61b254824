/- append(own, row...), at any slice of bytes. -/
import Derived.Test.YtdlhnipkhlihjaaRow
import Derived.Maps.AppendAt
import Derived.OwnWalk
import Derived.Laws.OwnMore
namespace Go.Proofs.Ytdlhnipkhlihjaa
open Go Go.RowKit
set_option linter.unusedVariables false
section
variable {P : Program} {ops : Array Oper} {rest : List Oper} {o : Oper} {a : Act} {w : World} {Q : Exit → Act → World → Prop}
theorem wpList_append_row (hgd : o.guard = none) (s x : Operand) (t : TypeId) (ho : o.op = .call { callee := .builtin .append, args := #[s, x], argTypes := #[t, t] })
    (base : Nat) (e : TypeId) (i : TypeInfo) (ht : P.underlying t = some (.slice e)) (hi : P.info? e = some i) (hz : i.zero = some (.int .u8 0)) (hsize : i.size = 1) (hby : i.bytes = 1)
    (v : Value) (n : Nat) (xs : List Int) (hs : a.eval s = v) (hown : w.ownsRow base e 1 v n (xs.map (Value.int .u8)))
    (p : Option Addr) (m c n₀ : Nat) (zs : List Int) (hx : a.eval x = .slice p m c) (hr : RowI .u8 n₀ w (.slice p m c) zs) (hsm : n + m ≤ 140737488355328) (hbase : base ≤ w.heap.size)
    (h : ∀ v' w', w'.ownsRow base e 1 v' (n + m) ((xs ++ zs).map (Value.int .u8)) → w.grownBy w' v.ownBlock → (v'.ownBlock = v.ownBlock ∨ v'.ownBlock = some w.heap.size) → wpList P ops Q rest (a.put o.dst v') w') :
    wpList P ops Q (o :: rest) a w := by
  have hlen := hr.open.1
  have key : ∀ ad, p = some ad → (∀ j u, (zs.map (Value.int .u8))[j]? = some u → w.cell? (ad.add j) = some u) → wpList P ops Q (o :: rest) a w := fun ad hp hc => by
    subst hp
    refine wpList_append_own_at (w := w) hgd s x t ho base e i (.int .u8 0) 1 1 ht hi hz hsize hby rfl (by decide) v n _ hs hown ad m c (zs.map (Value.int .u8)) hx (by simp [hlen]) hc (fun u hu => ?_) (by simp only [maxLen]; omega) (by omega) hbase (fun v' w' h2 h3 _ h5 => h v' w' ?_ h3 h5)
    · obtain ⟨z, _, rfl⟩ := List.mem_map.1 hu
      rfl
    · rw [List.map_append]; exact h2
  rcases hr with ⟨a', c', he, rfl⟩ | ⟨b, off, c', he, hb, h3, h4, hc⟩
  · injection he with e1 e2 e3
    subst e1 e2 e3
    cases p with
    | some ad => exact key ad rfl (fun j u hj => by simp at hj)
    | none =>
      refine wpList_plain hgd fun K hK => ?_
      have hr : (Builtin.append_ #[t, t] o.type #[v, .slice none 0 c]).run P w = .ok v w := by
        rcases hown.2 with ⟨rfl, rfl⟩ | ⟨g, cap, cur, rfl, _, _, hnc, _⟩
        · simp [Builtin.append_, run_underlying ht, sizeOf, typeInfo, hi, Builtin.lenOf, Builtin.firstCells]
        · simp [Builtin.append_, run_underlying ht, sizeOf, typeInfo, hi, Builtin.lenOf, Builtin.firstCells, hnc, storeCells]
      unfold Oper.wp execOp
      simp only [ho, resolve, invoke, builtin, Sem.run_bind, Sem.run_pure, Result.andThen_ok, List.map_toArray, List.map_cons, List.map_nil, hs, hx, hr]
      exact hK _ _ (h v w (by simpa using hown) ⟨rfl, rfl, rfl, Nat.le_refl _, fun _ _ _ => rfl⟩ (.inl rfl))
  · injection he with e1 e2 e3
    refine key _ e1 (fun j u hj => ?_)
    rw [List.getElem?_map] at hj
    cases hz' : zs[j]? with
    | none => simp [hz'] at hj
    | some z =>
      have hjl : j < zs.length := (List.getElem?_eq_some_iff.1 hz').1
      have : zs.getD j 0 = z := by simp [List.getD, hz']
      rw [Addr.add_lit, hc j hjl, this]
      simpa [hz'] using hj
end
end Go.Proofs.Ytdlhnipkhlihjaa
