/- The laws' arguments: a slice of calls, a key, as the walk is told of them. -/
import Derived.Test.YtdnhaappglbooaaRows
import Derived.Test.YtdnhaappglbooaaFutK
import Derived.Test.YtdnhaappglbooaaFutexAgainW
import Derived.Deep.Slices
import Derived.Deep.Fields
import Derived.ChangeSame
import Derived.ShutString
import Derived.ChangeOld
namespace Go.Proofs.Ytdnhaappglbooaa
open Go Go.RowKit Go.ChangeShapes Go.WideShapes Go.ChangeAt Go.Deep
set_option linter.unusedVariables false
section
variable {H : Type} {enc : TypeId × Value → H} {w : World} {held : Bool}
theorem open_key {fuel : Nat} {cs : List Value} {x : DataW H × List MemPlace} (h : DataW.trod enc Try.prog w 0 (fun _ => true) held fuel 33 cs = some x) :
    ∃ k : Ky, cs = [.int .i64 k.p, .int .i64 k.f, .int .i64 k.o] := by
  obtain ⟨xs, n, _, _, hlen, _, hf⟩ := DataW.trod_struct Try.underlying33 h
  rw [show Try.prog.cellsOf 33 = 3 from by kernel_rfl] at hlen
  match cs, hlen with
  | [v0, v1, v2], _ =>
    have k3 : Try.prog.cellsOf 3 = 1 := by kernel_rfl
    have h0 : DataW.trod enc Try.prog w 0 (fun _ => true) held n 3 (([v0, v1, v2].drop 0).take (Try.prog.cellsOf 3)) = xs[0]? := hf 0 _ rfl
    have h1 : DataW.trod enc Try.prog w 0 (fun _ => true) held n 3 (([v0, v1, v2].drop 1).take (Try.prog.cellsOf 3)) = xs[1]? := hf 1 _ rfl
    have h2 : DataW.trod enc Try.prog w 0 (fun _ => true) held n 3 (([v0, v1, v2].drop 2).take (Try.prog.cellsOf 3)) = xs[2]? := hf 2 _ rfl
    have l3 : xs.length = 3 := by assumption
    rw [k3, List.getElem?_eq_getElem (by omega)] at h0
    rw [k3, List.getElem?_eq_getElem (by omega)] at h1
    rw [k3, List.getElem?_eq_getElem (by omega)] at h2
    simp only [List.drop_zero, List.drop_succ_cons, List.take_succ_cons, List.take_zero] at h0 h1 h2
    obtain ⟨k, e0, _, w0⟩ := DataW.trod_int Try.underlying3 h0
    obtain ⟨m, e2, _, w2⟩ := DataW.trod_int Try.underlying3 h1
    obtain ⟨r, e3, _, w3⟩ := DataW.trod_int Try.underlying3 h2
    injection e0 with e0
    injection e2 with e2
    injection e3 with e3
    subst e0 e2 e3
    exact ⟨⟨k, m, r⟩, rfl⟩
def IsKey (n₀ : Nat) (W : World) (k : Ky) : Prop := True
theorem open_keyW {fuel : Nat} {cs : List Value} {x : DataW H × List MemPlace} (h : DataW.trod enc Try.prog w 0 (fun _ => true) held fuel 33 cs = some x) :
    ∃ k : Ky, cs = [.int .i64 k.p, .int .i64 k.f, .int .i64 k.o] ∧ IsKey w.heap.size w k := by
  obtain ⟨k, hk⟩ := open_key h
  exact ⟨k, hk, trivial⟩
/-- the cells of one call -/
theorem open_op {fuel : Nat} {cs : List Value} {x : DataW H × List MemPlace} (h : DataW.trod enc Try.prog w 0 (fun _ => true) held fuel 54 cs = some x) :
    ∃ o : OpF, cs = [.int .i64 o.kind, .int .i64 o.pid, .int .i64 o.k.p, .int .i64 o.k.f, .int .i64 o.k.o, .int .i64 o.n] := by
  obtain ⟨xs, n, _, _, hlen, _, hf⟩ := DataW.trod_struct Try.underlying54 h
  rw [show Try.prog.cellsOf 54 = 6 from by kernel_rfl] at hlen
  match cs, hlen with
  | [v0, v1, v2, v3, v4, v5], _ =>
    have k3 : Try.prog.cellsOf 3 = 1 := by kernel_rfl
    have kk : Try.prog.cellsOf 33 = 3 := by kernel_rfl
    have h0 : DataW.trod enc Try.prog w 0 (fun _ => true) held n 3 (([v0, v1, v2, v3, v4, v5].drop 0).take (Try.prog.cellsOf 3)) = xs[0]? := hf 0 _ rfl
    have h1 : DataW.trod enc Try.prog w 0 (fun _ => true) held n 3 (([v0, v1, v2, v3, v4, v5].drop 1).take (Try.prog.cellsOf 3)) = xs[1]? := hf 1 _ rfl
    have h2 : DataW.trod enc Try.prog w 0 (fun _ => true) held n 33 (([v0, v1, v2, v3, v4, v5].drop 2).take (Try.prog.cellsOf 33)) = xs[2]? := hf 2 _ rfl
    have h3 : DataW.trod enc Try.prog w 0 (fun _ => true) held n 3 (([v0, v1, v2, v3, v4, v5].drop 5).take (Try.prog.cellsOf 3)) = xs[3]? := hf 3 _ rfl
    have l3 : xs.length = 4 := by assumption
    rw [k3, List.getElem?_eq_getElem (by omega)] at h0
    rw [k3, List.getElem?_eq_getElem (by omega)] at h1
    rw [kk, List.getElem?_eq_getElem (by omega)] at h2
    rw [k3, List.getElem?_eq_getElem (by omega)] at h3
    simp only [List.drop_zero, List.drop_succ_cons, List.take_succ_cons, List.take_zero] at h0 h1 h2 h3
    obtain ⟨kd, e0, _, _⟩ := DataW.trod_int Try.underlying3 h0
    obtain ⟨pid, e1, _, _⟩ := DataW.trod_int Try.underlying3 h1
    obtain ⟨k, e2⟩ := open_key h2
    obtain ⟨m, e3, _, _⟩ := DataW.trod_int Try.underlying3 h3
    injection e0 with e0
    injection e1 with e1
    injection e3 with e3
    injection e2 with e2 e4
    injection e4 with e4 e5
    injection e5 with e5 _
    subst e0 e1 e2 e3 e4 e5
    exact ⟨⟨kd, pid, k, m⟩, rfl⟩
theorem open_ops {fuel : Nat} {a : Option Addr} {len cap : Nat} {x : DataW H × List MemPlace} (h : DataW.trod enc Try.prog w 0 (fun _ => true) held fuel 22 [.slice a len cap] = some x) : ∃ os, IsOps w.heap.size w a len cap os := by
  rcases open_slice Try.underlying22 h with ⟨h0, _⟩ | ⟨a', len', cap', m, n, D, Pl, hcs, hb, hl, hm, hmm, hx, hi⟩
  · injection h0 with h0
    injection h0 with e1 e2 e3
    subst e1 e2 e3
    exact ⟨[], rfl, .inl rfl⟩
  · injection hcs with hcs
    injection hcs with e1 e2 e3
    subst e1 e2 e3
    rw [show Try.prog.cellsOf 54 = 6 from by kernel_rfl] at hi
    have hml : len ≤ m := by rw [hmm]; split <;> omega
    by_cases hz : len = 0
    · exact ⟨[], hz.symm, .inl hz⟩
    · obtain ⟨b, off, spot⟩ := a'
      have hspot : spot = none := by
        obtain ⟨cs', hc, ht⟩ := hi 0 (by omega)
        obtain ⟨o, rfl⟩ := open_op ht
        have := World.cell?_spot ((World.cells?_some hc).2.2 0 (by omega))
        simpa [Addr.add] using this
      subst hspot
      have hadd : ∀ k, (⟨b, off, none⟩ : Addr).add k = ⟨b, off + k, none⟩ := fun k => by unfold Addr.add; split <;> simp_all
      have key : ∀ i : Fin len, ∃ o : OpF, CellsO w b (off + i.1 * 6) o := fun i => by
        obtain ⟨cs', hc, ht⟩ := hi i.1 (by have := i.2; omega)
        obtain ⟨o, rfl⟩ := open_op ht
        obtain ⟨_, _, hat⟩ := World.cells?_some hc
        have c0 := hat 0 (by omega)
        have c1 := hat 1 (by omega)
        have c2 := hat 2 (by omega)
        have c3 := hat 3 (by omega)
        have c4 := hat 4 (by omega)
        have c5 := hat 5 (by omega)
        rw [add_add, hadd] at c0 c1 c2 c3 c4 c5
        exact ⟨o, c0, c1, c2, c3, c4, c5⟩
      refine ⟨List.ofFn fun i => Classical.choose (key i), by simp, .inr ⟨b, off, rfl, ?_, hl, hm, fun j hj => ?_⟩⟩
      · obtain ⟨o, c0, _⟩ := key ⟨0, by omega⟩
        exact World.block_lt_of_cell? w _ c0
      · have hj' : j < len := by simpa using hj
        have := Classical.choose_spec (key ⟨j, hj'⟩)
        simp only [List.getElem_ofFn]
        exact this
end
end Go.Proofs.Ytdnhaappglbooaa
