/- The law's arguments: a slice of calls, and one call, as the walk is told of them. -/
import Derived.Test.YtdacdfnfbknndaaRows
import Derived.Test.YtdacdfnfbknndaaFrmOps
import Derived.Test.YtdacdfnfbknndaaOpenBytes
import Derived.Deep.Slices
import Derived.Deep.Fields
import Derived.ChangeSame
import Derived.ShutString
import Derived.ChangeOld
namespace Go.Proofs.Ytdacdfnfbknndaa
open Go Go.RowKit Go.ChangeShapes Go.WideShapes Go.ChangeAt Go.Deep
set_option linter.unusedVariables false
section
variable {H : Type} {enc : TypeId × Value → H} {w : World} {held : Bool}
/-- the cells of one call -/
theorem open_op {fuel : Nat} {cs : List Value} {x : DataW H × List MemPlace} (h : DataW.trod enc Try.prog w 0 (fun _ => true) held fuel 25 cs = some x) :
    ∃ o : OpM, cs = [.int .i64 o.k, .int .i64 o.f, .int .i64 o.o, .int .i64 o.n, .slice o.a o.len o.cap] ∧ IsOp w.heap.size w o := by
  obtain ⟨xs, n, _, _, hlen, _, hf⟩ := DataW.trod_struct Try.underlying25 h
  rw [show Try.prog.cellsOf 25 = 5 from by kernel_rfl] at hlen
  match cs, hlen with
  | [v0, v1, v2, v3, v4], _ =>
    have k3 : Try.prog.cellsOf 3 = 1 := by kernel_rfl
    have k22 : Try.prog.cellsOf 23 = 1 := by kernel_rfl
    have h0 : DataW.trod enc Try.prog w 0 (fun _ => true) held n 3 (([v0, v1, v2, v3, v4].drop 0).take (Try.prog.cellsOf 3)) = xs[0]? := hf 0 _ rfl
    have h1 : DataW.trod enc Try.prog w 0 (fun _ => true) held n 3 (([v0, v1, v2, v3, v4].drop 1).take (Try.prog.cellsOf 3)) = xs[1]? := hf 1 _ rfl
    have h2 : DataW.trod enc Try.prog w 0 (fun _ => true) held n 3 (([v0, v1, v2, v3, v4].drop 2).take (Try.prog.cellsOf 3)) = xs[2]? := hf 2 _ rfl
    have h3 : DataW.trod enc Try.prog w 0 (fun _ => true) held n 3 (([v0, v1, v2, v3, v4].drop 3).take (Try.prog.cellsOf 3)) = xs[3]? := hf 3 _ rfl
    have h4 : DataW.trod enc Try.prog w 0 (fun _ => true) held n 23 (([v0, v1, v2, v3, v4].drop 4).take (Try.prog.cellsOf 23)) = xs[4]? := hf 4 _ rfl
    have l3 : xs.length = 5 := by assumption
    rw [k3, List.getElem?_eq_getElem (by omega)] at h0 h1 h2 h3
    rw [k22, List.getElem?_eq_getElem (by omega)] at h4
    simp only [List.drop_zero, List.drop_succ_cons, List.take_succ_cons, List.take_zero] at h0 h1 h2 h3 h4
    obtain ⟨z0, e0, _, w0⟩ := DataW.trod_int Try.underlying3 h0
    obtain ⟨z1, e1, _, w1⟩ := DataW.trod_int Try.underlying3 h1
    obtain ⟨z2, e2, _, w2⟩ := DataW.trod_int Try.underlying3 h2
    obtain ⟨z3, e3, _, w3⟩ := DataW.trod_int Try.underlying3 h3
    obtain ⟨a, len, cap, zs, e4, hr⟩ := open_bytes h4
    injection e0 with e0
    injection e1 with e1
    injection e2 with e2
    injection e3 with e3
    subst e0 e1 e2 e3 e4
    exact ⟨⟨z0, z1, z2, z3, a, len, cap, zs⟩, rfl, ⟨hr⟩⟩
theorem open_ops {fuel : Nat} {a : Option Addr} {len cap : Nat} {x : DataW H × List MemPlace} (h : DataW.trod enc Try.prog w 0 (fun _ => true) held fuel 22 [.slice a len cap] = some x) : ∃ os, IsOps w.heap.size w a len cap os := by
  rcases open_slice Try.underlying22 h with ⟨h0, _⟩ | ⟨a', len', cap', m, n, D, Pl, hcs, hb, hl, hm, hmm, hx, hi⟩
  · injection h0 with h0
    injection h0 with e1 e2 e3
    subst e1 e2 e3
    exact ⟨[], rfl, .inl rfl⟩
  · injection hcs with hcs
    injection hcs with e1 e2 e3
    subst e1 e2 e3
    rw [show Try.prog.cellsOf 25 = 5 from by kernel_rfl] at hi
    have hml : len ≤ m := by rw [hmm]; split <;> omega
    by_cases hz : len = 0
    · exact ⟨[], hz.symm, .inl hz⟩
    · obtain ⟨b, off, spot⟩ := a'
      have hspot : spot = none := by
        obtain ⟨cs', hc, ht⟩ := hi 0 (by omega)
        obtain ⟨o, rfl, ho⟩ := open_op ht
        have := World.cell?_spot ((World.cells?_some hc).2.2 0 (by omega))
        simpa [Addr.add] using this
      subst hspot
      have hadd : ∀ k, (⟨b, off, none⟩ : Addr).add k = ⟨b, off + k, none⟩ := fun k => by unfold Addr.add; split <;> simp_all
      have key : ∀ i : Fin len, ∃ o : OpM, w.cell? ⟨b, off + i.1 * 5, none⟩ = some (.int .i64 o.k) ∧ w.cell? ⟨b, off + i.1 * 5 + 1, none⟩ = some (.int .i64 o.f) ∧ w.cell? ⟨b, off + i.1 * 5 + 2, none⟩ = some (.int .i64 o.o) ∧ w.cell? ⟨b, off + i.1 * 5 + 3, none⟩ = some (.int .i64 o.n) ∧ w.cell? ⟨b, off + i.1 * 5 + 4, none⟩ = some (.slice o.a o.len o.cap) ∧ IsOp w.heap.size w o := fun i => by
        obtain ⟨cs', hc, ht⟩ := hi i.1 (by have := i.2; omega)
        obtain ⟨o, rfl, ho⟩ := open_op ht
        obtain ⟨_, _, hat⟩ := World.cells?_some hc
        have c0 := hat 0 (by omega)
        have c1 := hat 1 (by omega)
        have c2 := hat 2 (by omega)
        have c3 := hat 3 (by omega)
        have c4 := hat 4 (by omega)
        rw [add_add, hadd] at c0 c1 c2 c3 c4
        exact ⟨o, c0, c1, c2, c3, c4, ho⟩
      refine ⟨List.ofFn fun i => Classical.choose (key i), by simp, .inr ⟨b, off, rfl, ?_, hl, hm, fun j hj => ?_⟩⟩
      · obtain ⟨o, c0, _⟩ := key ⟨0, by omega⟩
        exact World.block_lt_of_cell? w _ c0
      · have hj' : j < len := by simpa using hj
        have := Classical.choose_spec (key ⟨j, hj'⟩)
        simp only [List.getElem_ofFn]
        exact this
end
end Go.Proofs.Ytdacdfnfbknndaa
