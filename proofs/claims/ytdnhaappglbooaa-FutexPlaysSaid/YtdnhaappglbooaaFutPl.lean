/- The futex and the document's, side by side. -/
import Derived.Test.YtdnhaappglbooaaFutDocD
import Derived.Test.YtdnhaappglbooaaFutexOrderW
namespace Go.Proofs.Ytdnhaappglbooaa
open Go Go.RowKit
set_option linter.unusedVariables false
/-- the futex at q holds a, the document's at d holds b; both lie above n, apart from each other -/
structure St (n : Nat) (W : World) (q d : Nat) (v u : Value) (a b : List Wt) : Prop where
  fut : FutAt W q v a
  doc : DocAt W d u b
  lo : ∀ x, SFut q v x → n ≤ x
  dlo : ∀ x, SFut d u x → n ≤ x
  ap : ∀ x, SFut q v x → ¬ SFut d u x
variable {n : Nat} {W W' : World} {q d : Nat} {v u v' u' : Value} {a b a' b' : List Wt} {S S' : Nat → Prop}
theorem St.same (h : St n W q d v u a b) (hs : ∀ x, SFut q v x ∨ SFut d u x → W'.heap[x]? = W.heap[x]?) : St n W' q d v u a b :=
  ⟨h.fut.same fun x hx => hs x (.inl hx), h.doc.same fun x hx => hs x (.inr hx), h.lo, h.dlo, h.ap⟩
theorem St.below (h : St n W q d v u a b) (hb : Below W.heap.size W W') : St n W' q d v u a b :=
  h.same fun x hx => hb.block x (hx.elim (h.fut.lt x) (h.doc.lt x))
theorem St.futStep (h : St n W q d v u a b) (hn : n ≤ W.heap.size) (hF : FutAt W' q v' a') (hw : Wr (SFut q v) (SFut q v') W W') : St n W' q d v' u a' b ∧ Below n W W' := by
  refine ⟨⟨hF, h.doc.same fun x hx => hw.block x (h.doc.lt x hx) fun hs => h.ap x hs hx, fun x hx => (hw.new x hx).elim (h.lo x) (fun h' => by omega), h.dlo, fun x hx hs => (hw.new x hx).elim (fun h' => h.ap x h' hs) (fun h' => by have := h.doc.lt x hs; omega)⟩, ?_⟩
  exact ⟨hw.os, hw.tape, hw.output, hw.size, fun x hx => hw.block x (by omega) (fun h' => by have := h.lo x h'; omega)⟩
theorem St.docStep (h : St n W q d v u a b) (hn : n ≤ W.heap.size) (hD : DocAt W' d u' b') (hw : Wr (SFut d u) (SFut d u') W W') : St n W' q d v u' a b' ∧ Below n W W' := by
  refine ⟨⟨h.fut.same fun x hx => hw.block x (h.fut.lt x hx) fun hs => h.ap x hx hs, hD, h.lo, fun x hx => (hw.new x hx).elim (h.dlo x) (fun h' => by omega), fun x hx hs => (hw.new x hs).elim (fun h' => h.ap x hx h') (fun h' => by have := h.fut.lt x hx; omega)⟩, ?_⟩
  exact ⟨hw.os, hw.tape, hw.output, hw.size, fun x hx => hw.block x (by omega) (fun h' => by have := h.dlo x h'; omega)⟩
/-- another writer -/
theorem St.other (h : St n W q d v u a b) (h1 : ∀ x, SFut q v x ∨ SFut d u x → ¬ S x) (hw : Wr S S' W W') : St n W' q d v u a b ∧ (∀ x, SFut q v x ∨ SFut d u x → ¬ S' x) := by
  have hl : ∀ x, SFut q v x ∨ SFut d u x → x < W.heap.size := fun x hx => hx.elim (h.fut.lt x) (h.doc.lt x)
  exact ⟨h.same fun x hx => hw.block x (hl x hx) (h1 x hx), fun x hx hs => (hw.new x hs).elim (h1 x hx) fun h' => by have := hl x hx; omega⟩
theorem St.drew (h : St n W q d v u a b) : St n W.drew q d v u a b := h.same fun _ _ => rfl
theorem below_wr {n : Nat} (hn : n ≤ W.heap.size) (hS : ∀ x, S x → n ≤ x) (hw : Wr S S' W W') : Below n W W' ∧ ∀ x, S' x → n ≤ x :=
  ⟨⟨hw.os, hw.tape, hw.output, hw.size, fun x hx => hw.block x (by omega) (fun h' => by have := hS x h'; omega)⟩, fun x hx => (hw.new x hx).elim (hS x) (fun h' => by omega)⟩
/-- a call's own box -/
def BoxO (W : World) (x : Nat) (o : OpF) : Prop := W.heap[x]? = some (.cells #[.int .i64 o.kind, .int .i64 o.pid, .int .i64 o.k.p, .int .i64 o.k.f, .int .i64 o.k.o, .int .i64 o.n] 54)
theorem BoxO.lt {x : Nat} {o : OpF} (h : BoxO W x o) : x < W.heap.size := (Array.getElem?_eq_some_iff.1 h).1
theorem BoxO.below {x : Nat} {o : OpF} (h : BoxO W x o) (hb : Below W.heap.size W W') : BoxO W' x o := (hb.block x h.lt).trans h
theorem BoxO.step {x : Nat} {o : OpF} (h : BoxO W x o) (hx : ¬ S x) (hw : Wr S S' W W') : BoxO W' x o ∧ ¬ S' x :=
  ⟨(hw.block x h.lt hx).trans h, fun hs => (hw.new x hs).elim hx fun h' => by have := h.lt; omega⟩
theorem BoxO.cells {x : Nat} {o : OpF} (h : BoxO W x o) : W.cell? ⟨x, 0, none⟩ = some (.int .i64 o.kind) ∧ W.cell? ⟨x, 1, none⟩ = some (.int .i64 o.pid) ∧ W.cell? ⟨x, 2, none⟩ = some (.int .i64 o.k.p) ∧ W.cell? ⟨x, 3, none⟩ = some (.int .i64 o.k.f) ∧ W.cell? ⟨x, 4, none⟩ = some (.int .i64 o.k.o) ∧ W.cell? ⟨x, 5, none⟩ = some (.int .i64 o.n) :=
  ⟨by rw [cell_of_row _ _ 0 _ _ _ h]; rfl, by rw [cell_of_row _ _ 1 _ _ _ h]; rfl, by rw [cell_of_row _ _ 2 _ _ _ h]; rfl, by rw [cell_of_row _ _ 3 _ _ _ h]; rfl, by rw [cell_of_row _ _ 4 _ _ _ h]; rfl, by rw [cell_of_row _ _ 5 _ _ _ h]; rfl⟩
/-- a key's own box -/
def BoxK (W : World) (x : Nat) (k : Ky) : Prop := W.heap[x]? = some (.cells #[.int .i64 k.p, .int .i64 k.f, .int .i64 k.o] 33)
theorem BoxK.new (W : World) (k : Ky) : BoxK (W.alloc (.cells #[.int .i64 k.p, .int .i64 k.f, .int .i64 k.o] 33)) W.heap.size k := World.alloc_heap_new _ _
theorem BoxK.lt {x : Nat} {k : Ky} (h : BoxK W x k) : x < W.heap.size := (Array.getElem?_eq_some_iff.1 h).1
theorem BoxK.below {x : Nat} {k : Ky} (h : BoxK W x k) (hb : Below W.heap.size W W') : BoxK W' x k := (hb.block x h.lt).trans h
theorem BoxK.cells {x : Nat} {k : Ky} (h : BoxK W x k) : W.cell? ⟨x, 0, none⟩ = some (.int .i64 k.p) ∧ W.cell? ⟨x, 1, none⟩ = some (.int .i64 k.f) ∧ W.cell? ⟨x, 2, none⟩ = some (.int .i64 k.o) :=
  ⟨by rw [cell_of_row _ _ 0 _ _ _ h]; rfl, by rw [cell_of_row _ _ 1 _ _ _ h]; rfl, by rw [cell_of_row _ _ 2 _ _ _ h]; rfl⟩
end Go.Proofs.Ytdnhaappglbooaa
