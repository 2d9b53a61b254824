/- The law's arguments: a slice of calls, and one call, as the walk is told of them. -/
import Derived.Test.YtcmcilfopkhipaaRows
import Derived.Test.YtcmcilfopkhipaaPipeOps
import Derived.Deep.Slices
import Derived.Deep.Fields
import Derived.ChangeSame
import Derived.ShutString
import Derived.ChangeOld
namespace Go.Proofs.Ytcmcilfopkhipaa
open Go Go.RowKit Go.ChangeShapes Go.WideShapes Go.ChangeAt Go.Deep
set_option linter.unusedVariables false
section
variable {H : Type} {enc : TypeId × Value → H} {w : World} {held : Bool}
theorem open_bytes {fuel : Nat} {v : Value} {x : DataW H × List MemPlace} (h : DataW.trod enc Try.prog w 0 (fun _ => true) held fuel 22 [v] = some x) :
    ∃ (a : Option Addr) (len cap : Nat) (zs : List Int), v = .slice a len cap ∧ Row8 w.heap.size w (.slice a len cap) zs := by
  rcases open_ints Try.underlying22 Try.underlying5 (by kernel_rfl) h with ⟨hcs, _⟩ | ⟨x, l, c, zs, hcs, _, hl, hm, hz, _, hcell, hwz⟩
  · injection hcs with hcs
    exact ⟨none, 0, 0, [], hcs, ⟨.inl ⟨_, _, rfl, rfl⟩, by simp⟩⟩
  · injection hcs with hcs
    exact ⟨some x, l, c, zs.take l, hcs, IsRow.row8 (.inr ⟨_, rfl, hl, hm, by simpa using hz, hcell, hwz⟩)⟩
/-- the cells of one call -/
theorem open_op {fuel : Nat} {cs : List Value} {x : DataW H × List MemPlace} (h : DataW.trod enc Try.prog w 0 (fun _ => true) held fuel 39 cs = some x) :
    ∃ o : OpV, cs = [.int .i64 o.k, .slice o.a o.len o.cap, .int .i64 o.n, .bool o.w] ∧ IsOp w.heap.size w o := by
  obtain ⟨xs, n, _, _, hlen, _, hf⟩ := DataW.trod_struct Try.underlying39 h
  rw [show Try.prog.cellsOf 39 = 4 from by kernel_rfl] at hlen
  match cs, hlen with
  | [v0, v1, v2, v3], _ =>
    have k3 : Try.prog.cellsOf 3 = 1 := by kernel_rfl
    have k4 : Try.prog.cellsOf 4 = 1 := by kernel_rfl
    have k22 : Try.prog.cellsOf 22 = 1 := by kernel_rfl
    have h0 : DataW.trod enc Try.prog w 0 (fun _ => true) held n 3 (([v0, v1, v2, v3].drop 0).take (Try.prog.cellsOf 3)) = xs[0]? := hf 0 _ rfl
    have h1 : DataW.trod enc Try.prog w 0 (fun _ => true) held n 22 (([v0, v1, v2, v3].drop 1).take (Try.prog.cellsOf 22)) = xs[1]? := hf 1 _ rfl
    have h2 : DataW.trod enc Try.prog w 0 (fun _ => true) held n 3 (([v0, v1, v2, v3].drop 2).take (Try.prog.cellsOf 3)) = xs[2]? := hf 2 _ rfl
    have h3 : DataW.trod enc Try.prog w 0 (fun _ => true) held n 4 (([v0, v1, v2, v3].drop 3).take (Try.prog.cellsOf 4)) = xs[3]? := hf 3 _ rfl
    have l3 : xs.length = 4 := by assumption
    rw [k3, List.getElem?_eq_getElem (by omega)] at h0
    rw [k22, List.getElem?_eq_getElem (by omega)] at h1
    rw [k3, List.getElem?_eq_getElem (by omega)] at h2
    rw [k4, List.getElem?_eq_getElem (by omega)] at h3
    simp only [List.drop_zero, List.drop_succ_cons, List.take_succ_cons, List.take_zero] at h0 h1 h2 h3
    obtain ⟨k, e0, _, w0⟩ := DataW.trod_int Try.underlying3 h0
    obtain ⟨a, len, cap, zs, e1, hr⟩ := open_bytes h1
    obtain ⟨m, e2, _, w2⟩ := DataW.trod_int Try.underlying3 h2
    obtain ⟨b, e3, _⟩ := DataW.trod_bool Try.underlying4 h3
    injection e0 with e0
    injection e2 with e2
    injection e3 with e3
    subst e0 e1 e2 e3
    have b0 := bounds_i64 w0
    have b2 := bounds_i64 w2
    exact ⟨⟨k, a, len, cap, zs, m, b⟩, rfl, hr, by simpa using b0.1, by simpa using b0.2, by simpa using b2.1, by simpa using b2.2⟩
theorem open_st {fuel : Nat} {cs : List Value} {x : DataW H × List MemPlace} (h : DataW.trod enc Try.prog w 0 (fun _ => true) held fuel 36 cs = some x) :
    ∃ o : StV, cs = [.int .i64 o.c, .slice o.a o.len o.cap, .int .i64 o.rd, .int .i64 o.wr] ∧ IsSt w.heap.size w o := by
  obtain ⟨xs, n, _, _, hlen, _, hf⟩ := DataW.trod_struct Try.underlying36 h
  rw [show Try.prog.cellsOf 36 = 4 from by kernel_rfl] at hlen
  match cs, hlen with
  | [v0, v1, v2, v3], _ =>
    have k3 : Try.prog.cellsOf 3 = 1 := by kernel_rfl
    have k22 : Try.prog.cellsOf 22 = 1 := by kernel_rfl
    have h0 : DataW.trod enc Try.prog w 0 (fun _ => true) held n 3 (([v0, v1, v2, v3].drop 0).take (Try.prog.cellsOf 3)) = xs[0]? := hf 0 _ rfl
    have h1 : DataW.trod enc Try.prog w 0 (fun _ => true) held n 22 (([v0, v1, v2, v3].drop 1).take (Try.prog.cellsOf 22)) = xs[1]? := hf 1 _ rfl
    have h2 : DataW.trod enc Try.prog w 0 (fun _ => true) held n 3 (([v0, v1, v2, v3].drop 2).take (Try.prog.cellsOf 3)) = xs[2]? := hf 2 _ rfl
    have h3 : DataW.trod enc Try.prog w 0 (fun _ => true) held n 3 (([v0, v1, v2, v3].drop 3).take (Try.prog.cellsOf 3)) = xs[3]? := hf 3 _ rfl
    have l3 : xs.length = 4 := by assumption
    rw [k3, List.getElem?_eq_getElem (by omega)] at h0
    rw [k22, List.getElem?_eq_getElem (by omega)] at h1
    rw [k3, List.getElem?_eq_getElem (by omega)] at h2
    rw [k3, List.getElem?_eq_getElem (by omega)] at h3
    simp only [List.drop_zero, List.drop_succ_cons, List.take_succ_cons, List.take_zero] at h0 h1 h2 h3
    obtain ⟨k, e0, _, w0⟩ := DataW.trod_int Try.underlying3 h0
    obtain ⟨a, len, cap, zs, e1, hr⟩ := open_bytes h1
    obtain ⟨m, e2, _, w2⟩ := DataW.trod_int Try.underlying3 h2
    obtain ⟨b, e3, _, w3⟩ := DataW.trod_int Try.underlying3 h3
    injection e0 with e0
    injection e2 with e2
    injection e3 with e3
    subst e0 e1 e2 e3
    exact ⟨⟨k, a, len, cap, zs, m, b⟩, rfl, ⟨hr⟩⟩
theorem open_ops {fuel : Nat} {a : Option Addr} {len cap : Nat} {x : DataW H × List MemPlace} (h : DataW.trod enc Try.prog w 0 (fun _ => true) held fuel 37 [.slice a len cap] = some x) : ∃ os, IsOps w.heap.size w a len cap os := by
  rcases open_slice Try.underlying37 h with ⟨h0, _⟩ | ⟨a', len', cap', m, n, D, Pl, hcs, hb, hl, hm, hmm, hx, hi⟩
  · injection h0 with h0
    injection h0 with e1 e2 e3
    subst e1 e2 e3
    exact ⟨[], rfl, .inl rfl⟩
  · injection hcs with hcs
    injection hcs with e1 e2 e3
    subst e1 e2 e3
    rw [show Try.prog.cellsOf 39 = 4 from by kernel_rfl] at hi
    have hml : len ≤ m := by rw [hmm]; split <;> omega
    by_cases hz : len = 0
    · exact ⟨[], hz.symm, .inl hz⟩
    · obtain ⟨b, off, spot⟩ := a'
      have hspot : spot = none := by
        obtain ⟨cs', hc, ht⟩ := hi 0 (by omega)
        obtain ⟨o, rfl, ho⟩ := open_op ht
        have := World.cell?_spot ((World.cells?_some hc).2.2 0 (by omega))
        simpa [Addr.add] using this
      subst hspot
      have hadd : ∀ k, (⟨b, off, none⟩ : Addr).add k = ⟨b, off + k, none⟩ := fun k => by unfold Addr.add; split <;> simp_all
      have key : ∀ i : Fin len, ∃ o : OpV, w.cell? ⟨b, off + i.1 * 4, none⟩ = some (.int .i64 o.k) ∧ w.cell? ⟨b, off + i.1 * 4 + 1, none⟩ = some (.slice o.a o.len o.cap) ∧ w.cell? ⟨b, off + i.1 * 4 + 2, none⟩ = some (.int .i64 o.n) ∧ w.cell? ⟨b, off + i.1 * 4 + 3, none⟩ = some (.bool o.w) ∧ IsOp w.heap.size w o := fun i => by
        obtain ⟨cs', hc, ht⟩ := hi i.1 (by have := i.2; omega)
        obtain ⟨o, rfl, ho⟩ := open_op ht
        obtain ⟨_, _, hat⟩ := World.cells?_some hc
        have c0 := hat 0 (by omega)
        have c1 := hat 1 (by omega)
        have c2 := hat 2 (by omega)
        have c3 := hat 3 (by omega)
        rw [add_add, hadd] at c0 c1 c2 c3
        exact ⟨o, c0, c1, c2, c3, ho⟩
      refine ⟨List.ofFn fun i => Classical.choose (key i), by simp, .inr ⟨b, off, rfl, ?_, hl, hm, fun j hj => ?_⟩⟩
      · obtain ⟨o, c0, _⟩ := key ⟨0, by omega⟩
        exact World.block_lt_of_cell? w _ c0
      · have hj' : j < len := by simpa using hj
        have := Classical.choose_spec (key ⟨j, hj'⟩)
        simp only [List.getElem_ofFn]
        exact this
end
end Go.Proofs.Ytcmcilfopkhipaa
