/- Own texts of this seat, one behind the other (part 1 of 9). -/
import Derived.RangeFuncNested
import Derived.RangeFuncBound
import Derived.RangeFuncCalls
import Derived.RangeFuncLeaves
import Derived.Scope
import Derived.RangeFuncBox
import Derived.Laws.AppendOwn
import Derived.Laws.BytesArg
import Derived.WalkKit
import Derived.ProofKit
import Derived.OpenShut
import Derived.Test.YtejcandhijdnhaaGreatRows
import Derived.Lib.Hide
import Derived.BigFrame
import Derived.Deep.WholeRow
import Derived.Below
import Derived.Deep.Cut
import Derived.Deep.CutRange
import Derived.Deep.CutBlock
import Derived.BigQuiet
import Derived.Deep.QuietTactic
import Derived.WalkSpells
import Derived.WalkLawsBesides
import Derived.OwnWalk
import Derived.Lib.SlBytesConst
import Derived.Maps.AppendAt
import Derived.Laws.OwnMore

/- A range over a function whose elements are known when it begins: what the iterator owes, what the loop's body owes. Each says which blocks it writes. -/
namespace Go.Proofs.YtejcandhijdnhaaGreat
open Go Go.RowKit
set_option linter.unusedVariables false
/-- a goal at which a walk halts -/
def Held (p : Prop) : Prop := p
theorem held {p : Prop} (h : Held p) : p := h
/-- the blocks that p tells are in both worlds the same -/
structure SameOn (p : Nat → Prop) (W W' : World) : Prop where
  os : W'.os = W.os
  tape : W'.tape = W.tape
  output : W'.output = W.output
  size : W.heap.size ≤ W'.heap.size
  block : ∀ b, p b → W'.heap[b]? = W.heap[b]?
/-- whoever may write the blocks S has turned these alone, and laid new ones; S' are what it may write now -/
structure Wr (S S' : Nat → Prop) (W W' : World) : Prop where
  os : W'.os = W.os
  tape : W'.tape = W.tape
  output : W'.output = W.output
  size : W.heap.size ≤ W'.heap.size
  block : ∀ b, b < W.heap.size → ¬ S b → W'.heap[b]? = W.heap[b]?
  new : ∀ b, S' b → S b ∨ W.heap.size ≤ b
theorem SameOn.refl (p : Nat → Prop) (W : World) : SameOn p W W := ⟨rfl, rfl, rfl, Nat.le_refl _, fun _ _ => rfl⟩
theorem SameOn.trans {p : Nat → Prop} {A B C : World} (h : SameOn p A B) (k : SameOn p B C) : SameOn p A C :=
  ⟨k.os.trans h.os, k.tape.trans h.tape, k.output.trans h.output, Nat.le_trans h.size k.size, fun b hb => (k.block b hb).trans (h.block b hb)⟩
theorem SameOn.mono {p q : Nat → Prop} {A B : World} (h : SameOn p A B) (hq : ∀ b, q b → p b) : SameOn q A B := ⟨h.os, h.tape, h.output, h.size, fun b hb => h.block b (hq b hb)⟩
theorem SameOn.below {n : Nat} {p : Nat → Prop} {A B : World} (h : SameOn p A B) (hq : ∀ b, b < n → p b) : Below n A B := ⟨h.os, h.tape, h.output, h.size, fun b hb => h.block b (hq b hb)⟩
theorem SameOn.putObj {p : Nat → Prop} (W : World) (l : Nat) (o : Obj) (hl : ¬ p l) : SameOn p W (W.putObj l o) :=
  ⟨rfl, rfl, rfl, by simp, fun b hb => World.putObj_heap_other (fun e => hl (by rw [← e]; exact hb))⟩
theorem SameOn.of_below {n : Nat} {A B : World} (h : Below n A B) : SameOn (fun b => b < n) A B := ⟨h.os, h.tape, h.output, h.size, h.block⟩
theorem Wr.refl (S : Nat → Prop) (W : World) : Wr S S W W := ⟨rfl, rfl, rfl, Nat.le_refl _, fun _ _ _ => rfl, fun _ h => .inl h⟩
theorem Wr.trans {S S' S'' : Nat → Prop} {A B C : World} (h : Wr S S' A B) (k : Wr S' S'' B C) : Wr S S'' A C :=
  ⟨k.os.trans h.os, k.tape.trans h.tape, k.output.trans h.output, Nat.le_trans h.size k.size,
    fun b hb hs => (k.block b (Nat.lt_of_lt_of_le hb h.size) (fun h' => (h.new b h').elim hs (fun h2 => by omega))).trans (h.block b hb hs),
    fun b hb => (k.new b hb).elim (h.new b) (fun h2 => .inr (Nat.le_trans h.size h2))⟩
theorem Wr.of_below {S : Nat → Prop} {A B : World} (h : Below A.heap.size A B) : Wr S S A B := ⟨h.os, h.tape, h.output, h.size, fun b hb _ => h.block b hb, fun _ h => .inl h⟩
theorem Wr.setCell {S S' : Nat → Prop} {A B : World} (h : Wr S S' A B) {p : Addr} (hp : S p.block ∨ A.heap.size ≤ p.block) (v : Value) : Wr S S' A (B.setCell p v) :=
  ⟨h.os, h.tape, h.output, by show _ ≤ (B.heap.modify _ _).size; rw [Array.size_modify]; exact h.size, fun b hb hs => (Below.heap_setCell B p v b (fun e => by subst e; exact hp.elim hs (fun h2 => by omega))).trans (h.block b hb hs), h.new⟩
theorem Wr.alloc {S S' : Nat → Prop} {A B : World} (h : Wr S S' A B) (o : Obj) : Wr S S' A (B.alloc o) :=
  ⟨h.os, h.tape, h.output, by simp; have := h.size; omega, fun b hb hs => (Below.heap_alloc B o b (Nat.lt_of_lt_of_le hb h.size)).trans (h.block b hb hs), h.new⟩
theorem Wr.drew {S S' : Nat → Prop} {A B : World} (h : Wr S S' A B) : Wr S S' A B.drew := ⟨h.os, h.tape, h.output, h.size, h.block, h.new⟩
theorem Wr.to {S S' S'' : Nat → Prop} {A B : World} (h : Wr S S' A B) (hn : ∀ b, S'' b → S b ∨ A.heap.size ≤ b) : Wr S S'' A B := ⟨h.os, h.tape, h.output, h.size, h.block, hn⟩
theorem Wr.grown {S S' : Nat → Prop} {A B C : World} {row : Option Nat} (h : Wr S S' A B) (hg : B.grownBy C row) (hr : ∀ b, row = some b → S b ∨ A.heap.size ≤ b) : Wr S S' A C :=
  ⟨hg.os.trans h.os, hg.tape.trans h.tape, hg.output.trans h.output, Nat.le_trans h.size hg.size,
    fun b hb hs => (hg.block b (Nat.lt_of_lt_of_le hb h.size) (fun e => (hr b e.symm).elim hs (fun h2 => by omega))).trans (h.block b hb hs), h.new⟩
theorem ownsRow_same {A B : World} {base : Nat} {e : TypeId} {size : Nat} {v : Value} {n : Nat} {xs : List Value} (h : A.ownsRow base e size v n xs) (hs : ∀ b, v.ownBlock = some b → B.heap[b]? = A.heap[b]?) : B.ownsRow base e size v n xs := by
  refine ⟨h.1, ?_⟩
  rcases h.2 with h | ⟨g, cap, cur, rfl, h1, h2, h3⟩
  · exact .inl h
  · exact .inr ⟨g, cap, cur, rfl, h1, (hs g rfl).trans h2, h3⟩
/-- an invariant that minds what lies below B and the blocks S alone -/
def Stable (B : Nat) (I : Nat → (Nat → Prop) → World → Prop) : Prop := ∀ k S W W', I k S W → SameOn (fun b => b < B ∨ S b) W W' → I k S W'
/-- THE ITERATOR's CONTRACT: it hands xs to yield, one by one, until a round says 'no more'. X: the blocks that no round may write. -/
def Iter {α : Type} (P : Program) (g : Nat) (lb : Array Value) (encs : α → Array Value) (X : Nat → Prop) (xs : List α) (w : World) : Prop :=
  ∀ (l : Nat) (J Jx : Nat → (Nat → Prop) → World → Prop) (S0 : Nat → Prop) (W : World), Below w.heap.size w W → Stable W.heap.size J → Stable W.heap.size Jx →
    (∀ k S W, J k S W → ∀ b, S b → b < W.heap.size) → (∀ b, X b → ¬ S0 b) →
    (∀ (k : Nat) (h : k < xs.length) (S : Nat → Prop) (W1 : World), J k S W1 → YieldAt Fence.wide 100 P l (encs xs[k]) W1 fun e W' =>
      (e = .returned (.bool true) ∧ ∃ S', J (k + 1) S' W' ∧ Wr S S' W1 W') ∨ (e = .returned (.bool false) ∧ ∃ S', Jx (k + 1) S' W' ∧ Wr S S' W1 W')) →
    J 0 S0 W →
    Calls P g (#[.func (.yield l) #[] #[]] ++ lb) W fun e W' => (∃ v, e = .returned v) ∧ ((∃ S', J xs.length S' W') ∨ ∃ k S', k ≤ xs.length ∧ Jx k S' W')
/-- how the body of a round may be left -/
def RoundPost (I : Nat → (Nat → Prop) → World → Prop) (Ix : Code → Nat → (Nat → Prop) → World → Prop) (k : Nat) (S : Nat → Prop) (W : World) : Exit → Act → World → Prop
  | .normal, _, W' => ∃ S', I (k + 1) S' W' ∧ Wr S S' W W'
  | .ret, _, W' => ∃ S', Ix .ret (k + 1) S' W' ∧ Wr S S' W W'
  | .exit id, _, W' => ∃ S', Ix (.exit id) (k + 1) S' W' ∧ Wr S S' W W'
  | .goto t, _, W' => ∃ S', Ix (.goto t) (k + 1) S' W' ∧ Wr S S' W W'
  | .panic _, _, _ => False
  | .outgrown, _, _ => False
theorem yield_any {m m' : Nat} {P : Program} {l l' : Nat} {args : Array Value} {W : World} {R : Ending → World → Prop} (h : YieldAt Fence.wide m P l args W R) : YieldAt (Fence.wide.inRound l') m' P l args W R := by
  obtain ⟨fn, tmps, assign, body, h1, h2, h3⟩ := h
  exact ⟨fn, tmps, assign, body, h1, h2, fun c cs _ => h3 c cs (room_wide _)⟩
theorem yield_wide {m m' : Nat} {P : Program} {l : Nat} {args : Array Value} {W : World} {R : Ending → World → Prop} (h : YieldAt Fence.wide m P l args W R) : YieldAt Fence.wide m' P l args W R := by
  obtain ⟨fn, tmps, assign, body, h1, h2, h3⟩ := h
  exact ⟨fn, tmps, assign, body, h1, h2, fun c cs _ => h3 c cs (room_wide _)⟩
theorem callsR {P : Program} {f : FuncId} {args : Array Value} {w : World} {R : Ending → World → Prop} (l n : Nat) (h : Calls P f args w R) : CallsIn (Fence.wide.inRound l) n P f args w R := CallsIn.inRound l (callsIn_wide.2 h)
theorem wideScope {P : Program} {n : Nat} {c : Code} {Q : Exit → Act → World → Prop} {a : Act} {w : World} (h : c.wpIn Fence.wide n P (Exit.noGoto Q) a w) : (Code.scope c).wpIn Fence.wide n P Q a w :=
  wpIn_wide.2 (wp_scope_straight (wpIn_wide.1 h))
variable {P : Program} {n : Nat}
/-- THE LOOP, OUT OF ITS BODY -/
theorem range_law {α : Type} {g : Operand} {ps : Array Tmp} {assign body : Code} {Q : Exit → Act → World → Prop} {a : Act} {w : World}
    {gf : Nat} {lb : Array Value} (hg : a.eval g = .func (.func gf) #[] lb) (eg : ∀ args w, (callFunc gf args).run P w = .ok (.enter gf args) w)
    {encs : α → Array Value} {X : Nat → Prop} {xs : List α} (hseq : Iter P gf lb encs X xs w) (hps : ∀ x, (encs x).size = ps.size)
    (I : Nat → (Nat → Prop) → World → Prop) (Ix : Code → Nat → (Nat → Prop) → World → Prop) (S0 : Nat → Prop)
    (hX : ∀ b, X b → b < w.heap.size ∧ ¬ S0 b) (hI : Stable w.heap.size I) (hIx : ∀ c, Stable w.heap.size (Ix c)) (hlt : ∀ k S W, I k S W → ∀ b, S b → b < W.heap.size) (h0 : I 0 S0 w)
    (a₁ : α → Act)
    (hassign : ∀ (l : Nat) (x : α) (W : World) (K : Act → World → Prop), K (a₁ x) W →
      assign.wpIn (Fence.wide.inRound l) 100 P (Exit.then K (fun _ _ _ => False)) { tmps := (ps.zip (encs x)).foldl (fun t (p, v) => t.setIfInBounds p v) a.tmps, defers := [] } W)
    (hbody : ∀ (l k : Nat) (h : k < xs.length) (S : Nat → Prop) (W : World), I k S W →
      body.wpIn (Fence.wide.inRound l) 100 P (RoundPost I Ix k S W) (a₁ xs[k]) W)
    (hdone : ∀ (D : Nat) (S : Nat → Prop) (W : World), w.heap.size ≤ D → ¬ S D → I xs.length S W → W.heap[D]? = some (.deferred (some [])) →
      Q .normal { a with defers := { target := .collected D, args := #[] } :: a.defers } W)
    (hstop : ∀ (D : Nat) (c : Code) (k : Nat) (S : Nat → Prop) (W : World), w.heap.size ≤ D → ¬ S D → k ≤ xs.length → Ix c k S W → W.heap[D]? = some (.deferred (some [])) →
      c.wpIn Fence.wide n P Q { a with defers := { target := .collected D, args := #[] } :: a.defers } W) :
    (Code.rangeFunc g ps assign body).wpIn Fence.wide n P Q a w := by
  refine wpIn_rangeFunc fun fn hfn => ?_
  obtain ⟨rec, hrec⟩ : ∃ rec : LoopState → Option Code → Loop, rec = fun st pe => { state := st, pending := pe, fn, tmps := a.tmps, params := ps, assign, body, defers := w.heap.size } := ⟨_, rfl⟩
  obtain ⟨V, hV⟩ : ∃ V, V = (w.alloc (.deferred (some []))).alloc (.loop (rec .ready none)) := ⟨_, rfl⟩
  have sV : V.heap.size = w.heap.size + 2 := by rw [hV]; simp
  have lV : V.heap[w.heap.size + 1]? = some (.loop (rec .ready none)) := by
    have := World.alloc_heap_new (w.alloc (.deferred (some []))) (.loop (rec .ready none))
    rw [World.size_alloc] at this; rw [hV]; exact this
  have dV : V.heap[w.heap.size]? = some (.deferred (some [])) := by
    rw [hV]; exact (Below.heap_alloc _ _ _ (by simp)).trans (World.alloc_heap_new w _)
  have bV : Below w.heap.size w V := by rw [hV]; exact ((Below.refl _ w).alloc (Nat.le_refl _) _).alloc (by simp) _
  have s0 : ∀ b, S0 b → b < w.heap.size := hlt _ _ _ h0
  have iV : I 0 S0 V := hI _ _ _ _ h0 ((SameOn.of_below bV).mono fun b hb => hb.elim id (s0 b))
  refine ⟨w.heap.size + 1, [{ target := .collected w.heap.size, args := #[] }], V, { target := .fn (.func gf) lb, args := #[.func (.yield (w.heap.size + 1)) #[] #[]] }, V, gf,
    #[.func (.yield (w.heap.size + 1)) #[] #[]] ++ lb, V, ?_, ?_, fun _ _ => trivial, ?_, fun h => by simp [Fence.wide] at h, callsIn_wide.2 ?_⟩
  · rw [hV, hrec]; exact run_enterLoop_outer _ _ _ _ _
  · simp only [resolve, hg]; simp [go_sem]
  · simp [invoke, go_sem, eg]
  clear hV
  -- the rounds' blocks, with the loop's own two
  obtain ⟨T, hT⟩ : ∃ T : (Nat → Prop) → Nat → Prop, T = fun S b => S b ∨ b = w.heap.size ∨ b = w.heap.size + 1 := ⟨_, rfl⟩
  have T1 : ∀ S b, T S b ↔ (S b ∨ b = w.heap.size ∨ b = w.heap.size + 1) := fun S b => by rw [hT]
  clear hT
  refine (hseq (w.heap.size + 1)
    (fun k S W => ∃ Sc, S = T Sc ∧ I k Sc W ∧ ¬ Sc w.heap.size ∧ ¬ Sc (w.heap.size + 1) ∧ W.heap[w.heap.size + 1]? = some (.loop (rec .ready none)) ∧ W.heap[w.heap.size]? = some (.deferred (some [])))
    (fun k S W => ∃ Sc c, S = T Sc ∧ Ix c k Sc W ∧ ¬ Sc w.heap.size ∧ ¬ Sc (w.heap.size + 1) ∧ W.heap[w.heap.size + 1]? = some (.loop (rec .done (some c))) ∧ W.heap[w.heap.size]? = some (.deferred (some [])))
    (T S0) V bV ?_ ?_ ?_ ?_ ?_ ⟨S0, rfl, iV, fun h => by have := s0 _ h; omega, fun h => by have := s0 _ h; omega, lV, dV⟩).mono ?_
  · rintro k S A A' ⟨Sc, rfl, hi, n1, n2, hl, hd⟩ hs
    exact ⟨Sc, rfl, hI _ _ _ _ hi (hs.mono fun b hb => hb.elim (fun h => .inl (by omega)) (fun h => .inr ((T1 _ _).2 (.inl h)))), n1, n2, (hs.block _ (.inl (by omega))).trans hl, (hs.block _ (.inl (by omega))).trans hd⟩
  · rintro k S A A' ⟨Sc, c, rfl, hi, n1, n2, hl, hd⟩ hs
    exact ⟨Sc, c, rfl, hIx c _ _ _ _ hi (hs.mono fun b hb => hb.elim (fun h => .inl (by omega)) (fun h => .inr ((T1 _ _).2 (.inl h)))), n1, n2, (hs.block _ (.inl (by omega))).trans hl, (hs.block _ (.inl (by omega))).trans hd⟩
  · rintro k S A ⟨Sc, rfl, hi, n1, n2, hl, hd⟩ b hb
    rcases (T1 _ _).1 hb with h | h | h
    · exact hlt _ _ _ hi b h
    · rw [h]; exact (Array.getElem?_eq_some_iff.1 hd).1
    · rw [h]; exact (Array.getElem?_eq_some_iff.1 hl).1
  · intro b hb h
    obtain ⟨h1, h2⟩ := hX b hb
    rcases (T1 _ _).1 h with h3 | h3 | h3
    · exact h2 h3
    · omega
    · omega
  · -- one round
    rintro k hk S W ⟨Sc, rfl, hi, n1, n2, hl, hd⟩
    have hy := run_yield (P := P) (args := encs xs[k]) hl (by rw [hrec]; exact hps _)
    rw [hrec] at hy
    refine ⟨fn, _, assign, body, hy, roundIn_of_wpIn hfn (hassign _ _ W _ ?_)⟩
    clear hy
    have hlt2 : w.heap.size + 1 < W.heap.size := (Array.getElem?_eq_some_iff.1 hl).1
    refine ⟨_, run_beginRound hl (by rw [hrec]), ?_⟩
    obtain ⟨W3, h3⟩ : ∃ W3, W3 = W.putObj (w.heap.size + 1) (.loop { rec .ready none with state := .busy }) := ⟨_, rfl⟩
    have hl3 : W3.heap[w.heap.size + 1]? = some (.loop { rec .ready none with state := .busy }) := by rw [h3]; exact World.putObj_heap_same hlt2
    have hd3 : W3.heap[w.heap.size]? = some (.deferred (some [])) := by rw [h3]; exact (World.putObj_heap_other (by omega)).trans hd
    have hi3 : I k Sc W3 := hI _ _ _ _ hi (by rw [h3]; exact SameOn.putObj _ _ _ (fun h => h.elim (fun h => by omega) n2))
    have wr3 : Wr (T Sc) (T Sc) W W3 := by
      rw [h3]
      exact ⟨rfl, rfl, rfl, by simp, fun b _ hs => World.putObj_heap_other (fun e => hs ((T1 _ _).2 (.inr (.inr e)))), fun b h => .inl h⟩
    rw [← h3]
    clear h3
    have after : ∀ (jump : Option Code) (Sc' : Nat → Prop) (W4 : World), Wr Sc Sc' W3 W4 →
        ∃ W5, W5 = W4.putObj (w.heap.size + 1) (.loop (rec (if jump.isNone then .ready else .done) jump)) ∧ (Instr.endRound (w.heap.size + 1) jump).run P W4 = .ok (.bool jump.isNone) W5 ∧
        ¬ Sc' w.heap.size ∧ ¬ Sc' (w.heap.size + 1) ∧
        W5.heap[w.heap.size + 1]? = some (.loop (rec (if jump.isNone then .ready else .done) jump)) ∧ W5.heap[w.heap.size]? = some (.deferred (some [])) ∧ Wr (T Sc) (T Sc') W W5 := fun jump Sc' W4 hw => by
      have s3 := wr3.size
      have hl4 := (hw.block _ (by omega) n2).trans hl3
      have hd4 := (hw.block _ (by omega) n1).trans hd3
      have m1 : ¬ Sc' w.heap.size := fun h => (hw.new _ h).elim n1 (fun h => by omega)
      have m2 : ¬ Sc' (w.heap.size + 1) := fun h => (hw.new _ h).elim n2 (fun h => by omega)
      have hr := run_endRound (P := P) jump hl4
      have hlt4 := (Array.getElem?_eq_some_iff.1 hl4).1
      rw [hrec] at hr ⊢
      refine ⟨_, rfl, hr, m1, m2, World.putObj_heap_same hlt4, (World.putObj_heap_other (by omega)).trans hd4, ?_⟩
      have w34 : Wr (T Sc) (T Sc') W3 W4 := ⟨hw.os, hw.tape, hw.output, hw.size, fun b hb hs => hw.block b hb (fun h => hs ((T1 _ _).2 (.inl h))),
        fun b hb => ((T1 _ _).1 hb).elim (fun h => (hw.new b h).elim (fun h => .inl ((T1 _ _).2 (.inl h))) .inr) (fun h => .inl ((T1 _ _).2 (.inr h)))⟩
      refine (wr3.trans w34).trans ⟨rfl, rfl, rfl, by simp, fun b _ hs => World.putObj_heap_other (fun e => hs ((T1 _ _).2 (.inr (.inr e)))), fun b h => .inl h⟩
    have leaves : ∀ (c : Code) (Sc' : Nat → Prop) (W4 : World), Ix c (k + 1) Sc' W4 → Wr Sc Sc' W3 W4 → ∃ v W5, (Instr.endRound (w.heap.size + 1) (some c)).run P W4 = .ok v W5 ∧
        (Ending.returned v = .returned (.bool false) ∧ ∃ S', (∃ Sc c, S' = T Sc ∧ Ix c (k + 1) Sc W5 ∧ ¬ Sc w.heap.size ∧ ¬ Sc (w.heap.size + 1) ∧ W5.heap[w.heap.size + 1]? = some (.loop (rec .done (some c))) ∧ W5.heap[w.heap.size]? = some (.deferred (some []))) ∧ Wr (T Sc) S' W W5) :=
      fun c Sc' W4 hi4 hw => by
        obtain ⟨W5, e5, hr, m1, m2, hl5, hd5, hw5⟩ := after (some c) Sc' W4 hw
        exact ⟨_, W5, hr, rfl, T Sc', ⟨Sc', c, rfl, hIx c _ _ _ _ hi4 (by rw [e5]; exact SameOn.putObj _ _ _ (fun h => h.elim (fun h => by omega) m2)), m1, m2, hl5, hd5⟩, hw5⟩
    refine wpIn_mono (hbody _ k hk Sc W3 hi3) fun e a4 W4 hp => ?_
    cases e with
    | normal =>
      obtain ⟨Sc', hi4, hw⟩ := hp
      obtain ⟨W5, e5, hr, m1, m2, hl5, hd5, hw5⟩ := after none Sc' W4 hw
      exact ⟨_, W5, hr, .inl ⟨rfl, T Sc', ⟨Sc', rfl, hI _ _ _ _ hi4 (by rw [e5]; exact SameOn.putObj _ _ _ (fun h => h.elim (fun h => by omega) m2)), m1, m2, hl5, hd5⟩, hw5⟩⟩
    | ret =>
      obtain ⟨Sc', hi4, hw⟩ := hp
      obtain ⟨v, W5, hr, h⟩ := leaves .ret Sc' W4 hi4 hw
      exact ⟨v, W5, hr, .inr h⟩
    | exit id =>
      obtain ⟨Sc', hi4, hw⟩ := hp
      obtain ⟨v, W5, hr, h⟩ := leaves (.exit id) Sc' W4 hi4 hw
      exact ⟨v, W5, hr, .inr h⟩
    | goto t =>
      obtain ⟨Sc', hi4, hw⟩ := hp
      obtain ⟨v, W5, hr, h⟩ := leaves (.goto t) Sc' W4 hi4 hw
      exact ⟨v, W5, hr, .inr h⟩
    | panic ch => exact hp.elim
    | outgrown => exact hp.elim
  · -- behind the iterator
    rintro e W2 ⟨⟨v, rfl⟩, (⟨S', Sc, rfl, hi, n1, n2, hl, hd⟩ | ⟨k, S', hk, Sc, c, rfl, hi, n1, n2, hl, hd⟩)⟩
    · have he := run_endLoop (P := P) hl (by rw [hrec]; simp)
      have hp : (rec .ready none).pending = none := by rw [hrec]
      rw [hp] at he
      exact ⟨none, _, he, hdone _ Sc _ (Nat.le_refl _) n1 (hI _ _ _ _ hi (SameOn.putObj _ _ _ (fun h => h.elim (fun h => by omega) n2))) ((World.putObj_heap_other (by omega)).trans hd)⟩
    · have he := run_endLoop (P := P) hl (by rw [hrec]; simp)
      have hp : (rec .done (some c)).pending = some c := by rw [hrec]
      rw [hp] at he
      exact ⟨some c, _, he, hstop _ c k Sc _ (Nat.le_refl _) n1 hk (hIx c _ _ _ _ hi (SameOn.putObj _ _ _ (fun h => h.elim (fun h => by omega) n2))) ((World.putObj_heap_other (by omega)).trans hd)⟩
end Go.Proofs.YtejcandhijdnhaaGreat

/- Slices of integers: those that came in, those of the call's own. -/
namespace Go.Proofs.YtejcandhijdnhaaGreat
open Go Go.RowKit
set_option linter.unusedVariables false
/-- the block of a slice's cells, if it has some -/
def blockOf : Value → Nat → Prop
  | .slice (some a) len _, b => 0 < len ∧ b = a.block
  | _, _ => False
/-- A SLICE OF INTEGERS zs of kind k; its cells lie below n₀ -/
def RowI (k : IntKind) (n₀ : Nat) (W : World) (sv : Value) (zs : List Int) : Prop :=
  (∃ a cap, sv = .slice a 0 cap ∧ zs = []) ∨ ∃ b off cap, sv = .slice (some ⟨b, off, none⟩) zs.length cap ∧ b < n₀ ∧ zs.length ≤ cap ∧ cap ≤ maxLen ∧ ∀ j, j < zs.length → W.cell? ⟨b, off + j, none⟩ = some (.int k (zs.getD j 0))
theorem cell_same {A B : World} {p : Addr} {v : Value} (h : B.heap[p.block]? = A.heap[p.block]?) (hc : A.cell? p = some v) : B.cell? p = some v := (World.cell?_of_block h).trans hc
theorem RowI.same {k : IntKind} {n₀ : Nat} {A B : World} {sv : Value} {zs : List Int} (h : RowI k n₀ A sv zs) (hs : ∀ b, blockOf sv b → B.heap[b]? = A.heap[b]?) : RowI k n₀ B sv zs := by
  rcases h with h | ⟨b, off, cap, rfl, hb, h1, h2, hc⟩
  · exact .inl h
  · exact .inr ⟨b, off, cap, rfl, hb, h1, h2, fun j hj => cell_same (p := ⟨b, off + j, none⟩) (hs b ⟨by omega, rfl⟩) (hc j hj)⟩
theorem RowI.lt {k : IntKind} {n₀ : Nat} {W : World} {sv : Value} {zs : List Int} (h : RowI k n₀ W sv zs) : ∀ b, blockOf sv b → b < n₀ := by
  rcases h with ⟨a, cap, rfl, rfl⟩ | ⟨b, off, cap, rfl, hb, _⟩
  · intro b hb
    cases a <;> simp [blockOf] at hb
  · rintro _ ⟨_, rfl⟩; exact hb
theorem RowI.mono {k : IntKind} {n m : Nat} {W : World} {sv : Value} {zs : List Int} (h : RowI k n W sv zs) (hm : n ≤ m) : RowI k m W sv zs := by
  rcases h with h | ⟨b, off, cap, h1, hb, h2⟩
  · exact .inl h
  · exact .inr ⟨b, off, cap, h1, by omega, h2⟩
theorem RowI.below {k : IntKind} {n : Nat} {A B : World} {sv : Value} {zs : List Int} (h : RowI k n A sv zs) (hb : Below n A B) : RowI k n B sv zs := h.same fun b hx => hb.block b (h.lt b hx)
theorem RowI.slice {k : IntKind} {n₀ : Nat} {W : World} {sv : Value} {zs : List Int} (h : RowI k n₀ W sv zs) : ∃ a cap, sv = .slice a zs.length cap := by
  rcases h with ⟨a, cap, rfl, rfl⟩ | ⟨b, off, cap, rfl, _⟩
  · exact ⟨_, _, rfl⟩
  · exact ⟨_, _, rfl⟩
/-- the cells, behind a length that is not none -/
theorem RowI.open {k : IntKind} {n₀ : Nat} {W : World} {a : Option Addr} {len cap : Nat} {zs : List Int} (h : RowI k n₀ W (.slice a len cap) zs) :
    zs.length = len ∧ ∃ b off, (0 < len → a = some ⟨b, off, none⟩ ∧ b < n₀ ∧ len ≤ cap ∧ cap ≤ maxLen) ∧ ∀ j, j < len → W.cell? ⟨b, off + j, none⟩ = some (.int k (zs.getD j 0)) := by
  rcases h with ⟨a, c, h, rfl⟩ | ⟨b, off, c, h, hb, h1, h2, hc⟩
  · injection h with e1 e2 e3; subst e1 e2 e3
    exact ⟨rfl, 0, 0, fun h => by omega, fun j h => by omega⟩
  · injection h with e1 e2 e3; subst e1 e2 e3
    exact ⟨rfl, b, off, fun _ => ⟨rfl, hb, h1, h2⟩, hc⟩
theorem getD_at (zs : List Int) (j : Nat) (h : j < zs.length) : zs.getD j 0 = zs[j] := by simp [List.getD, List.getElem?_eq_getElem h]
theorem RowI.of_own {k : IntKind} {base : Nat} {e : TypeId} {W : World} {v : Value} {n : Nat} {zs : List Int} (h : W.ownsRow base e 1 v n (zs.map (Value.int k))) : zs.length = n ∧ RowI k W.heap.size W v zs := by
  have hn : zs.length = n := by have := h.1; simpa using this
  refine ⟨hn, ?_⟩
  subst hn
  have hlt := h.lt
  have hc := fun g => h.cells (g := g)
  rcases h.2 with ⟨rfl, h0⟩ | ⟨g, cap, cur, rfl, h1, h2, h3, h4, _⟩
  · exact .inl ⟨_, _, rfl, List.eq_nil_of_length_eq_zero h0⟩
  · refine .inr ⟨g, 0, cap, rfl, (hlt g rfl).2, h3, h4, fun j hj => ?_⟩
    have := hc g rfl j (.int k (zs.getD j 0)) (by rw [List.getElem?_map, getD_at _ _ hj, List.getElem?_eq_getElem hj]; rfl)
    simpa [Addr.add_lit] using this
/-- WHAT THE WALK IS TOLD OF A SLICE OF INTEGERS THAT CAME IN -/
def IsRow (k : IntKind) (w : World) (a : Option Addr) (len cap : Nat) (zs : List Int) : Prop :=
  (a = none ∧ len = 0 ∧ cap = 0 ∧ zs = []) ∨
  ∃ x, a = some x ∧ len ≤ cap ∧ cap ≤ maxLen ∧ zs.length = cap ∧ (∀ i, i < zs.length → w.cell? (x.add i) = some (.int k (zs.getD i 0))) ∧ ∀ n ∈ zs, (Lit.int k n).wf = true
theorem IsRow.row {k : IntKind} {w : World} {a : Option Addr} {len cap : Nat} {zs : List Int} (h : IsRow k w a len cap zs) : (zs.take len).length = len ∧ RowI k w.heap.size w (.slice a len cap) (zs.take len) ∧ ∀ z ∈ zs.take len, (Lit.int k z).wf = true := by
  rcases h with ⟨rfl, rfl, rfl, rfl⟩ | ⟨x, rfl, hl, hm, hz, hc, hw⟩
  · exact ⟨rfl, .inl ⟨_, _, rfl, rfl⟩, by simp⟩
  · have e : (zs.take len).length = len := by rw [List.length_take]; omega
    refine ⟨e, ?_, fun z h => hw z (List.mem_of_mem_take h)⟩
    by_cases h0 : len = 0
    · subst h0
      exact .inl ⟨_, _, rfl, by simp⟩
    · obtain ⟨b, off, spot⟩ := x
      have hspot : spot = none := by
        have := World.cell?_spot (hc 0 (by omega))
        simpa [Addr.add] using this
      subst hspot
      have c : ∀ i, i < len → w.cell? ⟨b, off + i, none⟩ = some (.int k (zs.getD i 0)) := fun i hi => by
        have := hc i (by omega)
        rwa [show (⟨b, off, none⟩ : Addr).add i = ⟨b, off + i, none⟩ from by unfold Addr.add; split <;> simp_all] at this
      refine .inr ⟨b, off, cap, by rw [e], World.block_lt_of_cell? w _ (c 0 (by omega)), by omega, hm, fun j hj => ?_⟩
      rw [e] at hj
      rw [c j hj]
      simp [List.getD, hj]
theorem wf_u8 {z : Int} (h : (Lit.int .u8 z).wf = true) : 0 ≤ z ∧ z ≤ 255 := bounds_u8 h
/-- A SLICE OF BYTES -/
def Row8 (n₀ : Nat) (W : World) (sv : Value) (zs : List Int) : Prop := RowI .u8 n₀ W sv zs ∧ ∀ z ∈ zs, 0 ≤ z ∧ z ≤ 255
theorem Row8.same {n₀ : Nat} {A B : World} {sv : Value} {zs : List Int} (h : Row8 n₀ A sv zs) (hs : ∀ b, blockOf sv b → B.heap[b]? = A.heap[b]?) : Row8 n₀ B sv zs := ⟨h.1.same hs, h.2⟩
theorem Row8.lt {n₀ : Nat} {W : World} {sv : Value} {zs : List Int} (h : Row8 n₀ W sv zs) : ∀ b, blockOf sv b → b < n₀ := h.1.lt
theorem Row8.mono {n m : Nat} {W : World} {sv : Value} {zs : List Int} (h : Row8 n W sv zs) (hm : n ≤ m) : Row8 m W sv zs := ⟨h.1.mono hm, h.2⟩
theorem Row8.below {n : Nat} {A B : World} {sv : Value} {zs : List Int} (h : Row8 n A sv zs) (hb : Below n A B) : Row8 n B sv zs := ⟨h.1.below hb, h.2⟩
theorem Row8.slice {n₀ : Nat} {W : World} {sv : Value} {zs : List Int} (h : Row8 n₀ W sv zs) : ∃ a cap, sv = .slice a zs.length cap := h.1.slice
theorem IsRow.row8 {w : World} {a : Option Addr} {len cap : Nat} {zs : List Int} (h : IsRow .u8 w a len cap zs) : Row8 w.heap.size w (.slice a len cap) (zs.take len) := ⟨h.row.2.1, fun z hz => bounds_u8 (h.row.2.2 z hz)⟩
/-- string(b) -/
theorem convRow {P : Program} {n₀ : Nat} {W : World} {sv : Value} {zs : List Int} (h : RowI .u8 n₀ W sv zs) (src e dst : TypeId) (hs : P.underlying src = some (.slice e)) (he : P.underlying e = some (.int .u8)) (hd : P.underlying dst = some .string) :
    (convert src dst sv).run P W = .ok (.string (strOfNums zs)) W := by
  rcases h with ⟨a, cap, rfl, rfl⟩ | ⟨b, off, cap, rfl, hb, h1, h2, hc⟩
  · cases a with
    | none => exact run_convert_bytes_nil W src e hs he 0 cap dst hd
    | some a =>
      have hl : (loadCells a 0).run P W = .ok #[] W := run_loadCells_list (P := P) W a [] (fun j v hj => by simp at hj)
      rw [run_convert_bytes_string W src dst e _ 0 cap hs he hd, run_bytesToString W _ 0 cap [] hl]
      rfl
  · exact run_convert_bytes_arg W src e hs he b off zs.length cap zs rfl hc dst hd
end Go.Proofs.YtejcandhijdnhaaGreat

/- Zombies: their cells; laws for loads and comparisons of parts. -/
namespace Go.Proofs.YtejcandhijdnhaaGreat
open Go Go.RowKit
set_option linter.unusedVariables false
set_option linter.unnecessarySimpa false
set_option linter.unusedSimpArgs false
/-- the cells of a process 2 whose parent is 1: its state, its status, what it waits for -/
def procC (st ss wt : Int) : Array Value := #[.int .i64 2, .int .i64 1, .int .i64 st, .int .u32 ss, .int .u32 0, .int .u32 0, .int .u32 0, .int .u32 0, .int .u32 0, .int .u32 0, .int .u32 0, .int .u32 0, .complex .f64 0 0, .complex .f64 0 0, .int .u32 0, .int .u32 0, .int .u32 0, .int .u32 0, .int .u32 0, .int .u32 0, .int .u32 0, .int .u32 0, .int .u32 0, .complex .f64 0 0, .complex .f64 0 0, .int .u32 0, .int .u32 0, .int .u32 0, .int .u32 0, .int .u32 0, .int .u32 0, .int .u32 0, .int .u32 0, .int .u32 0, .int .u32 0, .int .u32 0, .int .u32 0, .int .u32 0, .int .u32 0, .int .u32 0, .int .u32 0, .int .u32 0, .int .u32 0, .int .u32 0, .bool false, .int .i64 wt, .int .i64 0, .int .i64 0, .int .i64 0, .int .i64 0, .int .u32 0, .slice none 0 0, .int .u32 0, .int .i64 0, .slice none 0 0]
def cpuC : Array Value := #[.int .u32 0, .int .u32 0, .int .u32 0, .int .u32 0, .int .u32 0, .int .u32 0, .int .u32 0, .int .u32 0, .complex .f64 0 0, .complex .f64 0 0, .int .u32 0]
def sigC : Array Value := #[.int .u32 0, .int .u32 0, .int .u32 0, .int .u32 0, .int .u32 0, .int .u32 0, .int .u32 0, .int .u32 0, .int .u32 0, .int .u32 0, .int .u32 0, .int .u32 0, .int .u32 0, .int .u32 0, .int .u32 0, .int .u32 0, .int .u32 0, .int .u32 0, .bool false]
theorem eq8 (w : World) : (Op.equalIn 9999 41 (.agg #[.int .u32 0, .int .u32 0, .int .u32 0, .int .u32 0, .int .u32 0, .int .u32 0, .int .u32 0, .int .u32 0]) (.agg #[.int .u32 0, .int .u32 0, .int .u32 0, .int .u32 0, .int .u32 0, .int .u32 0, .int .u32 0, .int .u32 0])).run Tryz.prog w = .ok true w := by kernel_rfl
theorem eq2 (w : World) : (Op.equalIn 9999 43 (.agg #[.complex .f64 0 0, .complex .f64 0 0]) (.agg #[.complex .f64 0 0, .complex .f64 0 0])).run Tryz.prog w = .ok true w := by kernel_rfl
theorem eq16 (w : World) : (Op.equalIn 9999 46 (.agg #[.int .u32 0, .int .u32 0, .int .u32 0, .int .u32 0, .int .u32 0, .int .u32 0, .int .u32 0, .int .u32 0, .int .u32 0, .int .u32 0, .int .u32 0, .int .u32 0, .int .u32 0, .int .u32 0, .int .u32 0, .int .u32 0]) (.agg #[.int .u32 0, .int .u32 0, .int .u32 0, .int .u32 0, .int .u32 0, .int .u32 0, .int .u32 0, .int .u32 0, .int .u32 0, .int .u32 0, .int .u32 0, .int .u32 0, .int .u32 0, .int .u32 0, .int .u32 0, .int .u32 0])).run Tryz.prog w = .ok true w := by kernel_rfl
theorem run_loadVar_at {P : Program} (w : World) (g off : Nat) (ty : TypeId) (cs : List Value) (d : TypeDesc) (hc : ∀ j v, cs[j]? = some v → w.cell? ⟨g, off + j, none⟩ = some v)
    (hu : P.underlying ty = some d) (hd : (match d with | .struct _ | .array _ _ => true | _ => false) = true) (hi : (P.info? ty).map (·.size) = some cs.length) :
    (loadVar ty ⟨g, off, none⟩).run P w = .ok (.agg cs.toArray) w := by
  have hl : (loadCells ⟨g, off, none⟩ cs.length).run P w = .ok cs.toArray w :=
    run_loadCells_list (P := P) w ⟨g, off, none⟩ cs (fun j v hv => by
      have hadd : (⟨g, off, none⟩ : Addr).add j = ⟨g, off + j, none⟩ := by unfold Addr.add; split <;> simp_all
      rw [hadd]; exact hc j v hv)
  cases hq : P.info? ty with
  | none => simp [hq] at hi
  | some i =>
    have hs : i.size = cs.length := by simpa [hq] using hi
    have hagg : (isAgg ty).run P w = .ok true w := by
      unfold isAgg
      rw [Sem.run_bind, run_underlying hu w]
      cases d <;> simp_all
    simp [loadVar, Sem.run_bind, hagg, sizeOf, typeInfo, hq, hs, hl]
section
variable {P : Program} {ops : Array Oper} {Q : Exit → Act → World → Prop} {a : Act} {w : World} {rest : List Oper} {o : Oper}
/-- a load of some cells of a block, at once -/
theorem wpList_load_part (hw : Region.wanted o (yielded ops a.tmps) = true) (ty : TypeId) (x : Operand) (ho : o.op = .load ty x) (g off : Nat) (hx : a.eval x = .pointer (some ⟨g, off, none⟩)) (row part : Array Value) (t : TypeId)
    (hg : w.heap[g]? = some (.cells row t (0, 0))) (hp : (row.toList.drop off).take part.size = part.toList) (d : TypeDesc)
    (hu : P.underlying ty = some d) (hd : (match d with | .struct _ | .array _ _ => true | _ => false) = true) (hi : (P.info? ty).map (·.size) = some part.size)
    (h : wpList P ops Q rest (a.put o.dst (.agg part)) w) : wpList P ops Q (o :: rest) a w := by
  refine BigFrame.wpList_want hw fun K hK => ?_
  have hr := run_loadVar_at (P := P) w g off ty part.toList d (fun j v hj => by
    rw [← hp, List.getElem?_take] at hj
    split at hj
    · rw [List.getElem?_drop] at hj
      rw [cell_of_row w _ (off + j) _ _ _ hg, ← Array.getElem?_toList]
      exact hj
    · cases hj) hu hd (by simpa using hi)
  unfold Oper.wp execOp
  simp only [ho, hx, Instr.loadAt, Instr.sureAddr, Sem.run_bind, Sem.run_pure, Result.andThen_ok, hr]
  exact hK _ _ h
/-- a comparison, reckoned ahead -/
theorem wpList_eq (hw : Region.wanted o (yielded ops a.tmps) = true) (k : BinOp) (t t2 : TypeId) (x y : Operand) (ho : o.op = .binOp k t x y t2) (v : Value) (hq : (eqGuard k t x y (a.eval x) (a.eval y)).run P w = .ok () w) (hr : (binOp k t (a.eval x) (a.eval y)).run P w = .ok v w)
    (h : wpList P ops Q rest (a.put o.dst v) w) : wpList P ops Q (o :: rest) a w := by
  refine BigFrame.wpList_want hw fun K hK => ?_
  unfold Oper.wp execOp
  simp only [ho, Sem.run_bind, Sem.run_pure, Result.andThen_ok, hq, hr]
  exact hK _ _ h
end
theorem at_eq {P : Program} {ops : Array Oper} {rest : List Oper} {o : Oper} {a : Act} {w : World} {Q : Exit → Act → World → Prop} {t t2 : TypeId} {x y : Operand} (ho : o.op = .binOp .eql t x y t2) (h : Held (wpList P ops Q (o :: rest) a w)) : wpList P ops Q (o :: rest) a w := h
theorem infoCpu : (Tryz.prog.info? 45).map (·.size) = some cpuC.size := by kernel_rfl
theorem infoSig : (Tryz.prog.info? 48).map (·.size) = some sigC.size := by kernel_rfl
theorem eqCpu (w : World) : (binOp .eql 45 (.agg cpuC) (.agg cpuC)).run Tryz.prog w = .ok (.bool true) w := by kernel_rfl
theorem guardT1 : Tryz.prog.eqGuardType Tryz.prog.depth 45 = false := by kernel_rfl
theorem guardT2 : Tryz.prog.eqGuardType Tryz.prog.depth 48 = false := by kernel_rfl
theorem eqSig (w : World) : (binOp .eql 48 (.agg sigC) (.agg sigC)).run Tryz.prog w = .ok (.bool true) w := by kernel_rfl
set_option maxHeartbeats 1000000 in
theorem within_any (n a b : Int) (W : World) :
    Calls Tryz.prog 33 #[.int .i64 n, .int .i64 a, .int .i64 b] W fun e W' => e = .returned (.bool (decide (a ≤ n ∧ n ≤ b))) ∧ W' = W := by
  go_enter Tryz.func33, Tryz.ntmps33
  by_cases h1 : a ≤ n
  · have t1 : decide (a ≤ n) = true := by simpa using h1
    by_cases h2 : n ≤ b
    · have t2 : decide (n ≤ b) = true := by simpa using h2
      go_wp2
      go_ret
      exact ⟨by simp [h1, h2], rfl⟩
    · have t2 : decide (n ≤ b) = false := by simpa using h2
      go_wp2
      go_ret
      exact ⟨by simp [h2], rfl⟩
  · have t1 : decide (a ≤ n) = false := by simpa using h1
    go_wp2
    go_ret
    exact ⟨by simp [h1], rfl⟩
end Go.Proofs.YtejcandhijdnhaaGreat

/- Which zombies may be. -/
namespace Go.Proofs.YtejcandhijdnhaaGreat
open Go Go.RowKit
set_option linter.unusedVariables false
set_option linter.unnecessarySimpa false
set_option linter.unusedSimpArgs false
set_option maxRecDepth 100000 in
set_option maxHeartbeats 4000000 in
theorem process_zombie (W : World) :
    Calls Tryz.prog 36 #[.agg (procC 2 7 0)] W fun e W' => e = .returned (.bool true) ∧ Below W.heap.size W W' := by
  obtain ⟨X, hX⟩ : ∃ X, X = procC 2 7 0 := ⟨_, rfl⟩
  rw [← hX]
  have HX := Lib.hid hX
  go_enter Tryz.func36, Tryz.ntmps36
  go_upto_region 1 with fail
  obtain ⟨V, hV⟩ : ∃ V, V = W.alloc (.cells (procC 2 7 0) 54) := ⟨_, rfl⟩
  have bV : Below W.heap.size W V := by rw [hV]; exact (Below.refl _ _).alloc (Nat.le_refl _) _
  have e : V.heap[W.heap.size]? = some (.cells (procC 2 7 0) 54) := by rw [hV]; exact World.alloc_heap_new _ _
  rw [← hV]
  clear hV hX
  have c0 : V.cell? ⟨W.heap.size, 0, none⟩ = some (.int .i64 2) := by rw [cell_of_row V _ 0 _ _ _ e]; rfl
  have c1 : V.cell? ⟨W.heap.size, 1, none⟩ = some (.int .i64 1) := by rw [cell_of_row V _ 1 _ _ _ e]; rfl
  have c2 : V.cell? ⟨W.heap.size, 2, none⟩ = some (.int .i64 2) := by rw [cell_of_row V _ 2 _ _ _ e]; rfl
  have c3 : V.cell? ⟨W.heap.size, 3, none⟩ = some (.int .u32 7) := by rw [cell_of_row V _ 3 _ _ _ e]; rfl
  have c45 : V.cell? ⟨W.heap.size, 45, none⟩ = some (.int .i64 0) := by rw [cell_of_row V _ 45 _ _ _ e]; rfl
  have c46 : V.cell? ⟨W.heap.size, 46, none⟩ = some (.int .i64 0) := by rw [cell_of_row V _ 46 _ _ _ e]; rfl
  have c47 : V.cell? ⟨W.heap.size, 47, none⟩ = some (.int .i64 0) := by rw [cell_of_row V _ 47 _ _ _ e]; rfl
  have c48 : V.cell? ⟨W.heap.size, 48, none⟩ = some (.int .i64 0) := by rw [cell_of_row V _ 48 _ _ _ e]; rfl
  have c49 : V.cell? ⟨W.heap.size, 49, none⟩ = some (.int .i64 0) := by rw [cell_of_row V _ 49 _ _ _ e]; rfl
  have c50 : V.cell? ⟨W.heap.size, 50, none⟩ = some (.int .u32 0) := by rw [cell_of_row V _ 50 _ _ _ e]; rfl
  have c51 : V.cell? ⟨W.heap.size, 51, none⟩ = some (.slice none 0 0) := by rw [cell_of_row V _ 51 _ _ _ e]; rfl
  have c52 : V.cell? ⟨W.heap.size, 52, none⟩ = some (.int .u32 0) := by rw [cell_of_row V _ 52 _ _ _ e]; rfl
  have c53 : V.cell? ⟨W.heap.size, 53, none⟩ = some (.int .i64 0) := by rw [cell_of_row V _ 53 _ _ _ e]; rfl
  have c54 : V.cell? ⟨W.heap.size, 54, none⟩ = some (.slice none 0 0) := by rw [cell_of_row V _ 54 _ _ _ e]; rfl
  go_wp2_with first
    | (go_at_call 33; refine (within_any _ _ _ _).mono ?_; rintro e' w' ⟨rfl, rfl⟩)
    | (refine wpList_load_part (by rfl) 45 (.tmp 36) rfl W.heap.size 4 rfl _ cpuC _ e rfl _ Tryz.underlying45 rfl infoCpu ?_)
    | (refine wpList_load_part (by rfl) 45 (.tmp 42) rfl W.heap.size 15 rfl _ cpuC _ e rfl _ Tryz.underlying45 rfl infoCpu ?_)
    | (refine wpList_load_part (by rfl) 48 (.tmp 48) rfl W.heap.size 26 rfl _ sigC _ e rfl _ Tryz.underlying48 rfl infoSig ?_)
    | (refine wpList_eq (by rfl) .eql 45 _ (.tmp 37) (.tmp 38) rfl _ (run_eqGuard_agg _ _ _ _ _ _ _ guardT1) (eqCpu _) ?_)
    | (refine wpList_eq (by rfl) .eql 45 _ (.tmp 43) (.tmp 44) rfl _ (run_eqGuard_agg _ _ _ _ _ _ _ guardT1) (eqCpu _) ?_)
    | (refine wpList_eq (by rfl) .eql 48 _ (.tmp 49) (.tmp 50) rfl _ (run_eqGuard_agg _ _ _ _ _ _ _ guardT2) (eqSig _) ?_)
  go_ret
  exact ⟨rfl, bV⟩
set_option maxRecDepth 100000 in
set_option maxHeartbeats 4000000 in
theorem process_waits (W : World) :
    Calls Tryz.prog 36 #[.agg (procC 2 7 1)] W fun e W' => e = .returned (.bool false) ∧ Below W.heap.size W W' := by
  obtain ⟨X, hX⟩ : ∃ X, X = procC 2 7 1 := ⟨_, rfl⟩
  rw [← hX]
  have HX := Lib.hid hX
  go_enter Tryz.func36, Tryz.ntmps36
  go_upto_region 1 with fail
  obtain ⟨V, hV⟩ : ∃ V, V = W.alloc (.cells (procC 2 7 1) 54) := ⟨_, rfl⟩
  have bV : Below W.heap.size W V := by rw [hV]; exact (Below.refl _ _).alloc (Nat.le_refl _) _
  have e : V.heap[W.heap.size]? = some (.cells (procC 2 7 1) 54) := by rw [hV]; exact World.alloc_heap_new _ _
  rw [← hV]
  clear hV hX
  have c0 : V.cell? ⟨W.heap.size, 0, none⟩ = some (.int .i64 2) := by rw [cell_of_row V _ 0 _ _ _ e]; rfl
  have c1 : V.cell? ⟨W.heap.size, 1, none⟩ = some (.int .i64 1) := by rw [cell_of_row V _ 1 _ _ _ e]; rfl
  have c2 : V.cell? ⟨W.heap.size, 2, none⟩ = some (.int .i64 2) := by rw [cell_of_row V _ 2 _ _ _ e]; rfl
  have c3 : V.cell? ⟨W.heap.size, 3, none⟩ = some (.int .u32 7) := by rw [cell_of_row V _ 3 _ _ _ e]; rfl
  have c45 : V.cell? ⟨W.heap.size, 45, none⟩ = some (.int .i64 1) := by rw [cell_of_row V _ 45 _ _ _ e]; rfl
  have c46 : V.cell? ⟨W.heap.size, 46, none⟩ = some (.int .i64 0) := by rw [cell_of_row V _ 46 _ _ _ e]; rfl
  have c47 : V.cell? ⟨W.heap.size, 47, none⟩ = some (.int .i64 0) := by rw [cell_of_row V _ 47 _ _ _ e]; rfl
  have c48 : V.cell? ⟨W.heap.size, 48, none⟩ = some (.int .i64 0) := by rw [cell_of_row V _ 48 _ _ _ e]; rfl
  have c49 : V.cell? ⟨W.heap.size, 49, none⟩ = some (.int .i64 0) := by rw [cell_of_row V _ 49 _ _ _ e]; rfl
  have c50 : V.cell? ⟨W.heap.size, 50, none⟩ = some (.int .u32 0) := by rw [cell_of_row V _ 50 _ _ _ e]; rfl
  have c51 : V.cell? ⟨W.heap.size, 51, none⟩ = some (.slice none 0 0) := by rw [cell_of_row V _ 51 _ _ _ e]; rfl
  have c52 : V.cell? ⟨W.heap.size, 52, none⟩ = some (.int .u32 0) := by rw [cell_of_row V _ 52 _ _ _ e]; rfl
  have c53 : V.cell? ⟨W.heap.size, 53, none⟩ = some (.int .i64 0) := by rw [cell_of_row V _ 53 _ _ _ e]; rfl
  have c54 : V.cell? ⟨W.heap.size, 54, none⟩ = some (.slice none 0 0) := by rw [cell_of_row V _ 54 _ _ _ e]; rfl
  go_wp2_with first
    | (go_at_call 33; refine (within_any _ _ _ _).mono ?_; rintro e' w' ⟨rfl, rfl⟩)
    | (refine wpList_load_part (by rfl) 45 (.tmp 36) rfl W.heap.size 4 rfl _ cpuC _ e rfl _ Tryz.underlying45 rfl infoCpu ?_)
    | (refine wpList_load_part (by rfl) 45 (.tmp 42) rfl W.heap.size 15 rfl _ cpuC _ e rfl _ Tryz.underlying45 rfl infoCpu ?_)
    | (refine wpList_load_part (by rfl) 48 (.tmp 48) rfl W.heap.size 26 rfl _ sigC _ e rfl _ Tryz.underlying48 rfl infoSig ?_)
    | (refine wpList_eq (by rfl) .eql 45 _ (.tmp 37) (.tmp 38) rfl _ (run_eqGuard_agg _ _ _ _ _ _ _ guardT1) (eqCpu _) ?_)
    | (refine wpList_eq (by rfl) .eql 45 _ (.tmp 43) (.tmp 44) rfl _ (run_eqGuard_agg _ _ _ _ _ _ _ guardT1) (eqCpu _) ?_)
    | (refine wpList_eq (by rfl) .eql 48 _ (.tmp 49) (.tmp 50) rfl _ (run_eqGuard_agg _ _ _ _ _ _ _ guardT2) (eqSig _) ?_)
  go_ret
  exact ⟨rfl, bV⟩
set_option maxRecDepth 100000 in
set_option maxHeartbeats 4000000 in
theorem process_live (W : World) :
    Calls Tryz.prog 36 #[.agg (procC 1 7 0)] W fun e W' => e = .returned (.bool false) ∧ Below W.heap.size W W' := by
  obtain ⟨X, hX⟩ : ∃ X, X = procC 1 7 0 := ⟨_, rfl⟩
  rw [← hX]
  have HX := Lib.hid hX
  go_enter Tryz.func36, Tryz.ntmps36
  go_upto_region 1 with fail
  obtain ⟨V, hV⟩ : ∃ V, V = W.alloc (.cells (procC 1 7 0) 54) := ⟨_, rfl⟩
  have bV : Below W.heap.size W V := by rw [hV]; exact (Below.refl _ _).alloc (Nat.le_refl _) _
  have e : V.heap[W.heap.size]? = some (.cells (procC 1 7 0) 54) := by rw [hV]; exact World.alloc_heap_new _ _
  rw [← hV]
  clear hV hX
  have c0 : V.cell? ⟨W.heap.size, 0, none⟩ = some (.int .i64 2) := by rw [cell_of_row V _ 0 _ _ _ e]; rfl
  have c1 : V.cell? ⟨W.heap.size, 1, none⟩ = some (.int .i64 1) := by rw [cell_of_row V _ 1 _ _ _ e]; rfl
  have c2 : V.cell? ⟨W.heap.size, 2, none⟩ = some (.int .i64 1) := by rw [cell_of_row V _ 2 _ _ _ e]; rfl
  have c3 : V.cell? ⟨W.heap.size, 3, none⟩ = some (.int .u32 7) := by rw [cell_of_row V _ 3 _ _ _ e]; rfl
  have c45 : V.cell? ⟨W.heap.size, 45, none⟩ = some (.int .i64 0) := by rw [cell_of_row V _ 45 _ _ _ e]; rfl
  have c46 : V.cell? ⟨W.heap.size, 46, none⟩ = some (.int .i64 0) := by rw [cell_of_row V _ 46 _ _ _ e]; rfl
  have c47 : V.cell? ⟨W.heap.size, 47, none⟩ = some (.int .i64 0) := by rw [cell_of_row V _ 47 _ _ _ e]; rfl
  have c48 : V.cell? ⟨W.heap.size, 48, none⟩ = some (.int .i64 0) := by rw [cell_of_row V _ 48 _ _ _ e]; rfl
  have c49 : V.cell? ⟨W.heap.size, 49, none⟩ = some (.int .i64 0) := by rw [cell_of_row V _ 49 _ _ _ e]; rfl
  have c50 : V.cell? ⟨W.heap.size, 50, none⟩ = some (.int .u32 0) := by rw [cell_of_row V _ 50 _ _ _ e]; rfl
  have c51 : V.cell? ⟨W.heap.size, 51, none⟩ = some (.slice none 0 0) := by rw [cell_of_row V _ 51 _ _ _ e]; rfl
  have c52 : V.cell? ⟨W.heap.size, 52, none⟩ = some (.int .u32 0) := by rw [cell_of_row V _ 52 _ _ _ e]; rfl
  have c53 : V.cell? ⟨W.heap.size, 53, none⟩ = some (.int .i64 0) := by rw [cell_of_row V _ 53 _ _ _ e]; rfl
  have c54 : V.cell? ⟨W.heap.size, 54, none⟩ = some (.slice none 0 0) := by rw [cell_of_row V _ 54 _ _ _ e]; rfl
  go_wp2_with first
    | (go_at_call 33; refine (within_any _ _ _ _).mono ?_; rintro e' w' ⟨rfl, rfl⟩)
    | (refine wpList_load_part (by rfl) 45 (.tmp 36) rfl W.heap.size 4 rfl _ cpuC _ e rfl _ Tryz.underlying45 rfl infoCpu ?_)
    | (refine wpList_load_part (by rfl) 45 (.tmp 42) rfl W.heap.size 15 rfl _ cpuC _ e rfl _ Tryz.underlying45 rfl infoCpu ?_)
    | (refine wpList_load_part (by rfl) 48 (.tmp 48) rfl W.heap.size 26 rfl _ sigC _ e rfl _ Tryz.underlying48 rfl infoSig ?_)
    | (refine wpList_eq (by rfl) .eql 45 _ (.tmp 37) (.tmp 38) rfl _ (run_eqGuard_agg _ _ _ _ _ _ _ guardT1) (eqCpu _) ?_)
    | (refine wpList_eq (by rfl) .eql 45 _ (.tmp 43) (.tmp 44) rfl _ (run_eqGuard_agg _ _ _ _ _ _ _ guardT1) (eqCpu _) ?_)
    | (refine wpList_eq (by rfl) .eql 48 _ (.tmp 49) (.tmp 50) rfl _ (run_eqGuard_agg _ _ _ _ _ _ _ guardT2) (eqSig _) ?_)
  go_ret
  exact ⟨rfl, bV⟩
end Go.Proofs.YtejcandhijdnhaaGreat

/- Cells at a block's head: their load at once. -/
namespace Go.Proofs.YtejcandhijdnhaaGreat
open Go Go.RowKit
set_option linter.unusedVariables false
/-- cells at a block's head -/
def ZomAt (W : World) (x : Nat) (X : Array Value) : Prop := x < W.heap.size ∧ ∀ j v, X.toList[j]? = some v → W.cell? ⟨x, 0 + j, none⟩ = some v
theorem ZomAt.below {W W' : World} {x n : Nat} {X : Array Value} (h : ZomAt W x X) (hb : Below n W W') (hn : x < n) : ZomAt W' x X :=
  ⟨Nat.lt_of_lt_of_le h.1 hb.size, fun j v hj => (World.cell?_of_block (a := ⟨x, 0 + j, none⟩) (hb.block x hn)).trans (h.2 j v hj)⟩
theorem ZomAt.of_row {W : World} {x : Nat} {X : Array Value} {t : TypeId} {fr : Nat × Nat} (h : W.heap[x]? = some (.cells X t fr)) : ZomAt W x X :=
  ⟨(Array.getElem?_eq_some_iff.1 h).1, fun j v hj => by
    rw [Nat.zero_add, cell_of_row W _ j _ _ _ h, ← Array.getElem?_toList]; exact hj⟩
section
variable {P : Program} {ops : Array Oper} {Q : Exit → Act → World → Prop} {a : Act} {w : World} {rest : List Oper} {o : Oper}
/-- a load of the cells at a block's head, at once -/
theorem wpList_load_zom (hw : Region.wanted o (yielded ops a.tmps) = true) (ty : TypeId) (x : Operand) (ho : o.op = .load ty x) (g : Nat) (hx : a.eval x = .pointer (some ⟨g, 0, none⟩)) (X : Array Value) (hz : ZomAt w g X) (d : TypeDesc)
    (hu : P.underlying ty = some d) (hd : (match d with | .struct _ | .array _ _ => true | _ => false) = true) (hi : (P.info? ty).map (·.size) = some X.size)
    (h : wpList P ops Q rest (a.put o.dst (.agg X)) w) : wpList P ops Q (o :: rest) a w := by
  refine BigFrame.wpList_want hw fun K hK => ?_
  have hr := run_loadVar_at (P := P) w g 0 ty X.toList d hz.2 hu hd (by simpa using hi)
  unfold Oper.wp execOp
  simp only [ho, hx, Instr.loadAt, Instr.sureAddr, Sem.run_bind, Sem.run_pure, Result.andThen_ok, hr]
  exact hK _ _ h
end
end Go.Proofs.YtejcandhijdnhaaGreat

/- Fields within fields: how many bytes they have, which these are, how many there are. -/
namespace Go.Proofs.YtejcandhijdnhaaGreat
set_option linter.unusedVariables false
/-- fields, one behind the other: a tag, bytes, the fields within; the others -/
inductive Forest
  | nil
  | cons (tag : Int) (bs : List Int) (kids : Forest) (rest : Forest)
namespace Forest
def length : Forest → Nat
  | nil => 0
  | cons _ _ _ r => r.length + 1
def app : Forest → Forest → Forest
  | nil, g => g
  | cons t b k r, g => cons t b k (app r g)
theorem length_app : ∀ f g : Forest, (app f g).length = f.length + g.length
  | nil, g => by simp [app, length]
  | cons _ _ _ r, g => by rw [app, length, length_app r g, length]; omega
theorem app_nil : ∀ f : Forest, app f nil = f
  | nil => rfl
  | cons t b k r => by rw [app, app_nil r]
/-- what holds of the fields within each -/
def AllKids (P : Forest → Prop) : Forest → Prop
  | nil => True
  | cons _ _ k r => P k ∧ AllKids P r
theorem all (P : Forest → Prop) (h : ∀ f, AllKids P f → P f) : ∀ f, P f := by
  have : ∀ f, AllKids P f ∧ P f := by
    intro f
    induction f with
    | nil => exact ⟨trivial, h _ trivial⟩
    | cons t b k r ihk ihr => exact ⟨⟨ihk.2, ihr.1⟩, h _ ⟨ihk.2, ihr.1⟩⟩
  exact fun f => (this f).2
/-- how many fields and bytes -/
def cnt : Forest → Nat
  | nil => 0
  | cons _ b k r => 1 + b.length + cnt k + cnt r
/-- one field may not be, or has so many bytes within -/
def innerOf (tag : Int) (b : List Int) (kl : Nat) (deep : Nat) (ks : Int) : Int :=
  if 128 ≤ tag then (if deep < 8 then ks else 0) else b.length
def bad (tag : Int) (b : List Int) (kl : Nat) (deep : Nat) (ks : Int) : Prop :=
  (128 ≤ tag ∧ ¬ deep < 8 ∧ 0 < kl) ∨ tag < 1 ∨ 255 < tag ∨ (128 ≤ tag ∧ 0 < b.length) ∨ (¬ 128 ≤ tag ∧ 0 < kl) ∨ innerOf tag b kl deep ks < 0
instance (tag : Int) (b : List Int) (kl deep : Nat) (ks : Int) : Decidable (bad tag b kl deep ks) := by unfold bad; infer_instance
/-- how many bytes fields have, that stand so deep, behind so many; -1: they may not be -/
def sizeL : Forest → Nat → Int → Int
  | nil, _, n => n
  | cons t b k r, d, n =>
    let ks := sizeL k (d + 1) 0
    if bad t b k.length d ks then -1
    else if 1048576 < n + (5 + innerOf t b k.length d ks) then -1
    else sizeL r d (n + (5 + innerOf t b k.length d ks))
/-- fields' bytes -/
def layF : Forest → List Int
  | nil => []
  | cons t b k r =>
    let v := if 128 ≤ t then layF k else b
    [t % 256] ++ [(v.length : Int) % 256, (v.length : Int) / 256 % 256, (v.length : Int) / 65536 % 256, (v.length : Int) / 16777216 % 256] ++ v ++ layF r
theorem layF_app : ∀ f g : Forest, layF (app f g) = layF f ++ layF g
  | nil, g => rfl
  | cons t b k r, g => by
    rw [app, layF, layF, layF_app r g]
    simp only [List.append_assoc]
theorem sizeL_ge : ∀ (f : Forest) (d : Nat) (n : Int), 0 ≤ n → sizeL f d n = -1 ∨ n ≤ sizeL f d n
  | nil, d, n, h => .inr (Int.le_refl _)
  | cons t b k r, d, n, h => by
    rw [sizeL]
    by_cases h1 : bad t b k.length d (sizeL k (d + 1) 0)
    · left; rw [if_pos h1]
    · rw [if_neg h1]
      split
      · exact .inl rfl
      · have h2 : 0 ≤ innerOf t b k.length d (sizeL k (d + 1) 0) := by unfold bad at h1; omega
        rcases sizeL_ge r d (n + (5 + innerOf t b k.length d (sizeL k (d + 1) 0))) (by omega) with h3 | h3
        · exact .inl h3
        · exact .inr (by omega)
theorem sizeL_bad {t : Int} {b : List Int} {k r : Forest} {d : Nat} {n : Int} (h : bad t b k.length d (sizeL k (d + 1) 0)) : sizeL (cons t b k r) d n = -1 := by rw [sizeL, if_pos h]
theorem sizeL_big {t : Int} {b : List Int} {k r : Forest} {d : Nat} {n I : Int} (h : ¬ bad t b k.length d (sizeL k (d + 1) 0)) (hI : innerOf t b k.length d (sizeL k (d + 1) 0) = I) (h2 : 1048576 < n + (5 + I)) : sizeL (cons t b k r) d n = -1 := by rw [sizeL, if_neg h, hI, if_pos h2]
theorem sizeL_next {t : Int} {b : List Int} {k r : Forest} {d : Nat} {n I : Int} (h : ¬ bad t b k.length d (sizeL k (d + 1) 0)) (hI : innerOf t b k.length d (sizeL k (d + 1) 0) = I) (h2 : ¬ 1048576 < n + (5 + I)) : sizeL (cons t b k r) d n = sizeL r d (n + (5 + I)) := by rw [sizeL, if_neg h, hI, if_neg h2]
theorem inner_ge {t : Int} {b : List Int} {kl d : Nat} {ks : Int} (h : ¬ bad t b kl d ks) : 0 ≤ innerOf t b kl d ks := by unfold bad at h; omega
theorem sizeL_app : ∀ (f g : Forest) (d : Nat) (n : Int), 0 ≤ n → sizeL (app f g) d n = if sizeL f d n < 0 then -1 else sizeL g d (sizeL f d n)
  | nil, g, d, n, h => by rw [app, sizeL, if_neg (by omega)]
  | cons t b k r, g, d, n, h => by
    rw [app, sizeL, sizeL]
    by_cases h1 : bad t b k.length d (sizeL k (d + 1) 0)
    · simp [h1]
    · have h2 := inner_ge h1
      by_cases h3 : 1048576 < n + (5 + innerOf t b k.length d (sizeL k (d + 1) 0))
      · simp [h1, h3]
      · simp only [h1, h3, ↓reduceIte]
        exact sizeL_app r g d _ (by omega)
theorem sizeL_shift : ∀ (g : Forest) (d : Nat) (n m : Int), 0 ≤ m → m ≤ n → (sizeL g d m < 0 → sizeL g d n < 0) ∧ (0 ≤ sizeL g d m → n + (sizeL g d m - m) ≤ 1048576 → sizeL g d n = n + (sizeL g d m - m))
  | nil, d, n, m, h, h2 => by simp only [sizeL]; omega
  | cons t b k r, d, n, m, h, h2 => by
    rw [sizeL, sizeL]
    by_cases h1 : bad t b k.length d (sizeL k (d + 1) 0)
    · simp [h1]
    · have h3 := inner_ge h1
      simp only [h1, ↓reduceIte]
      generalize innerOf t b k.length d (sizeL k (d + 1) 0) = x at h3 ⊢
      by_cases h4 : 1048576 < m + (5 + x)
      · have h5 : 1048576 < n + (5 + x) := by omega
        simp [h4, h5]
      · rw [if_neg h4]
        have ih := sizeL_shift r d (n + (5 + x)) (m + (5 + x)) (by omega) (by omega)
        have hg := sizeL_ge r d (m + (5 + x)) (by omega)
        by_cases h5 : 1048576 < n + (5 + x)
        · rw [if_pos h5]
          exact ⟨fun _ => by omega, fun h6 h7 => by omega⟩
        · rw [if_neg h5]
          exact ⟨ih.1, fun h6 h7 => by rw [ih.2 h6 (by omega)]; omega⟩
theorem sizeL_le : ∀ (g : Forest) (d : Nat) (n : Int), 0 ≤ n → sizeL g d n ≤ n + 5 * (cnt g : Int)
  | nil, d, n, h => by simp only [sizeL, cnt]; omega
  | cons t b k r, d, n, h => by
    rw [sizeL, cnt]
    by_cases h1 : bad t b k.length d (sizeL k (d + 1) 0)
    · simp only [h1, ↓reduceIte]; omega
    · have h3 := inner_ge h1
      have h4 := sizeL_le k (d + 1) 0 (by omega)
      have h5 : innerOf t b k.length d (sizeL k (d + 1) 0) ≤ b.length + 5 * (cnt k : Int) := by unfold innerOf at h3 ⊢; split <;> (try split) <;> omega
      simp only [h1, ↓reduceIte]
      generalize innerOf t b k.length d (sizeL k (d + 1) 0) = x at h3 h5 ⊢
      split
      · omega
      · have := sizeL_le r d (n + (5 + x)) (by omega)
        omega
/-- the law's sum -/
theorem sizeL_both (f g : Forest) (d : Nat) (hf : cnt f ≤ 10000) (hg : cnt g ≤ 10000) : 0 ≤ sizeL (app f g) d 0 ↔ 0 ≤ sizeL f d 0 ∧ 0 ≤ sizeL g d 0 := by
  rw [sizeL_app f g d 0 (Int.le_refl _)]
  have h1 := sizeL_le f d 0 (Int.le_refl _)
  have h2 := sizeL_le g d 0 (Int.le_refl _)
  by_cases h : sizeL f d 0 < 0
  · rw [if_pos h]; omega
  · rw [if_neg h]
    have h3 := sizeL_shift g d (sizeL f d 0) 0 (Int.le_refl _) (by omega)
    by_cases h4 : sizeL g d 0 < 0
    · have := h3.1 h4; omega
    · have := h3.2 (by omega) (by omega); omega
theorem layF_le : ∀ f : Forest, (layF f).length ≤ 5 * cnt f
  | nil => Nat.le_refl _
  | cons t b k r => by
    have h1 := layF_le k
    have h2 := layF_le r
    rw [layF, cnt]
    simp only [List.length_append, List.length_cons, List.length_nil]
    split <;> omega
theorem cnt_kids {t : Int} {b : List Int} {k r : Forest} {N : Nat} (h : cnt (cons t b k r) ≤ N) : cnt k ≤ N ∧ cnt r ≤ N ∧ b.length ≤ N := by rw [cnt] at h; omega
theorem length_le_cnt : ∀ f : Forest, f.length ≤ cnt f
  | nil => Nat.le_refl _
  | cons t b k r => by have := length_le_cnt r; rw [length, cnt]; omega
end Forest
end Go.Proofs.YtejcandhijdnhaaGreat

/- Fields in memory. -/
namespace Go.Proofs.YtejcandhijdnhaaGreat
open Go Go.RowKit
set_option linter.unusedVariables false
/-- THE CELLS OF FIELDS, from one on -/
def RowF (n₀ : Nat) (W : World) : Forest → Nat → Nat → Prop
  | .nil, _, _ => True
  | .cons t bs k r, b, off => ∃ (a : Option Addr) (len cap : Nat) (ka : Option Addr) (kl kc : Nat),
      W.cell? ⟨b, off, none⟩ = some (.int .i64 t) ∧ W.cell? ⟨b, off + 1, none⟩ = some (.slice a len cap) ∧ W.cell? ⟨b, off + 2, none⟩ = some (.slice ka kl kc) ∧
      -9223372036854775808 ≤ t ∧ t ≤ 9223372036854775807 ∧ (Row8 n₀ W (.slice a len cap) bs ∧ bs.length ≤ 140737488351232) ∧
      k.length = kl ∧ (kl = 0 ∨ ∃ b2 o2, ka = some ⟨b2, o2, none⟩ ∧ b2 < n₀ ∧ kl ≤ kc ∧ kc ≤ maxLen ∧ RowF n₀ W k b2 o2) ∧ RowF n₀ W r b (off + 3)
/-- A SLICE OF FIELDS -/
def SlF (n₀ : Nat) (W : World) (a : Option Addr) (len cap : Nat) (f : Forest) : Prop :=
  f.length = len ∧ (len = 0 ∨ ∃ b off, a = some ⟨b, off, none⟩ ∧ b < n₀ ∧ len ≤ cap ∧ cap ≤ maxLen ∧ RowF n₀ W f b off)
theorem RowF.below {n : Nat} {A B : World} (hb : Below n A B) : ∀ (f : Forest) (b off : Nat), b < n → RowF n A f b off → RowF n B f b off
  | .nil, _, _, _, _ => trivial
  | .cons t bs k r, b, off, hbn, h => by
    obtain ⟨a, len, cap, ka, kl, kc, h1, h2, h3, h4, h5, h6, h7, h8, h9⟩ := h
    refine ⟨a, len, cap, ka, kl, kc, (hb.cell (p := ⟨b, off, none⟩) hbn).trans h1, (hb.cell (p := ⟨b, off + 1, none⟩) hbn).trans h2, (hb.cell (p := ⟨b, off + 2, none⟩) hbn).trans h3, h4, h5, ⟨h6.1.below hb, h6.2⟩, h7, ?_, RowF.below hb r b (off + 3) hbn h9⟩
    rcases h8 with h8 | ⟨b2, o2, g1, g2, g3, g4, g5⟩
    · exact .inl h8
    · exact .inr ⟨b2, o2, g1, g2, g3, g4, RowF.below hb k b2 o2 g2 g5⟩
theorem RowF.mono {n m : Nat} {A : World} (hm : n ≤ m) : ∀ (f : Forest) (b off : Nat), RowF n A f b off → RowF m A f b off
  | .nil, _, _, _ => trivial
  | .cons t bs k r, b, off, h => by
    obtain ⟨a, len, cap, ka, kl, kc, h1, h2, h3, h4, h5, h6, h7, h8, h9⟩ := h
    refine ⟨a, len, cap, ka, kl, kc, h1, h2, h3, h4, h5, ⟨h6.1.mono hm, h6.2⟩, h7, ?_, RowF.mono hm r b (off + 3) h9⟩
    rcases h8 with h8 | ⟨b2, o2, g1, g2, g3, g4, g5⟩
    · exact .inl h8
    · exact .inr ⟨b2, o2, g1, Nat.lt_of_lt_of_le g2 hm, g3, g4, RowF.mono hm k b2 o2 g5⟩
theorem SlF.below {n : Nat} {A B : World} {a : Option Addr} {len cap : Nat} {f : Forest} (h : SlF n A a len cap f) (hb : Below n A B) : SlF n B a len cap f := by
  obtain ⟨h1, h2 | ⟨b, off, g1, g2, g3, g4, g5⟩⟩ := h
  · exact ⟨h1, .inl h2⟩
  · exact ⟨h1, .inr ⟨b, off, g1, g2, g3, g4, RowF.below hb f b off g2 g5⟩⟩
theorem SlF.mono {n m : Nat} {A : World} {a : Option Addr} {len cap : Nat} {f : Forest} (h : SlF n A a len cap f) (hm : n ≤ m) : SlF m A a len cap f := by
  obtain ⟨h1, h2 | ⟨b, off, g1, g2, g3, g4, g5⟩⟩ := h
  · exact ⟨h1, .inl h2⟩
  · exact ⟨h1, .inr ⟨b, off, g1, Nat.lt_of_lt_of_le g2 hm, g3, g4, RowF.mono hm f b off g5⟩⟩
/-- the first of fields, opened -/
theorem RowF.open {n : Nat} {W : World} {f : Forest} {b off : Nat} (h : RowF n W f b off) (hl : 0 < f.length) : ∃ t bs k r a len cap ka kl kc, f = .cons t bs k r ∧
    W.cell? ⟨b, off, none⟩ = some (.int .i64 t) ∧ W.cell? ⟨b, off + 1, none⟩ = some (.slice a len cap) ∧ W.cell? ⟨b, off + 2, none⟩ = some (.slice ka kl kc) ∧
    -9223372036854775808 ≤ t ∧ t ≤ 9223372036854775807 ∧ (Row8 n W (.slice a len cap) bs ∧ bs.length ≤ 140737488351232) ∧ SlF n W ka kl kc k ∧ RowF n W r b (off + 3) := by
  cases f with
  | nil => simp [Forest.length] at hl
  | cons t bs k r =>
    obtain ⟨a, len, cap, ka, kl, kc, h1, h2, h3, h4, h5, h6, h7, h8, h9⟩ := h
    exact ⟨t, bs, k, r, a, len, cap, ka, kl, kc, rfl, h1, h2, h3, h4, h5, h6, ⟨h7, h8⟩, h9⟩
theorem SlF.small {n : Nat} {A : World} {a : Option Addr} {len cap : Nat} {f : Forest} (h : SlF n A a len cap f) : len ≤ 9223372036854775807 := by
  obtain ⟨hl, h | ⟨b, off, h1, h2, h3, h4, hc⟩⟩ := h
  · omega
  · simp only [maxLen] at h4; omega
end Go.Proofs.YtejcandhijdnhaaGreat

/- The walk of the document's Great, of tlv.size and tlv.Check. -/
namespace Go.Proofs.YtejcandhijdnhaaGreat
open Go Go.RowKit
set_option linter.unusedVariables false
set_option linter.unnecessarySimpa false
theorem val_eq {k : IntKind} {a b : Int} (h : a = b) : Value.int k a = .int k b := by rw [h]
/-- what size answers -/
def SizeOK (f : Forest) : Prop := ∀ (W : World) (a : Option Addr) (len cap deep : Nat), SlF W.heap.size W a len cap f → deep ≤ 8 → f.cnt ≤ 20000 →
  Calls Tryz.prog 111 #[.slice a len cap, .int .i64 deep] W fun e W' => e = .returned (.int .i64 (f.sizeL deep 0)) ∧ Below W.heap.size W W'
set_option maxRecDepth 100000 in
set_option maxHeartbeats 4000000 in
theorem size_step (f : Forest) (hk : f.AllKids SizeOK) : SizeOK f := by
  intro W a len cap deep h hd hcnt
  have hs := h.small
  obtain ⟨hl, hc⟩ := h
  go_enter Tryz.func111, Tryz.ntmps111
  go_wp2
  go_loopw [5, 7, 8, 9, 12] (fun n _ _ _ i wr => ∃ (N : Int) (i' : Nat) (G : Forest), n = .int .i64 N ∧ i = .int .i64 (i' : Int) ∧ i' + G.length = len ∧ 0 ≤ N ∧ N ≤ 1048576 ∧ G.cnt ≤ 20000 ∧ Hid (G.sizeL deep N = f.sizeL deep 0) ∧ G.AllKids SizeOK ∧ (∀ b off, a = some ⟨b, off, none⟩ → 0 < len → b < W.heap.size ∧ RowF W.heap.size W G b (off + i' * 3)) ∧ Below W.heap.size W wr) (fun _ _ _ _ i _ => len - (intOf i).toNat)
  case atStart =>
    refine ⟨0, 0, f, rfl, rfl, by omega, by omega, by omega, hcnt, rfl, hk, fun b off ha hlen => ?_, Below.refl _ _⟩
    rcases hc with h0 | ⟨b', off', ha', hb', _, _, hrow⟩
    · omega
    · rw [ha] at ha'; injection ha' with ha'; injection ha' with e1 e2
      subst e1 e2
      exact ⟨hb', by simpa using hrow⟩
  case round =>
    obtain ⟨N, i, G, rfl, rfl, hiG, hN0, hN1, hcG, hV, hkG, hrow, hb0⟩ := hrel
    by_cases hlt : i < len
    rotate_left
    · have t1 : decide ((i : Int) < (len : Int)) = false := by simp; omega
      have hG : G.sizeL deep N = N := by
        cases G with
        | nil => rfl
        | cons t bs k r => simp [Forest.length] at hiG; omega
      have hV2 : N = f.sizeL deep 0 := by rw [← hG]; exact hV
      have HV := Lib.hid hV2
      clear hV2 hV hG hrow
      go_wp2
      go_ret
      exact ⟨by rw [show N = f.sizeL deep 0 from HV]; rfl, hb0⟩
    have t1 : decide ((i : Int) < (len : Int)) = true := by simp; omega
    obtain h0 | ⟨b, off, rfl, hbn, hlc, hcm, _⟩ := hc
    · omega
    obtain ⟨_, hrow2⟩ := hrow b off rfl (by omega)
    obtain ⟨t, bs, k, r, ba, blen, bcap, ka, kl, kc, rfl, c0, c1, c2, ht1, ht2, ⟨hb, hbl⟩, hkids, hr⟩ := (RowF.below hb0 G b _ hbn hrow2).open (by omega)
    have hr' : RowF W.heap.size W r b (off + i * 3 + 3) := by
      obtain ⟨_, _, _, _, _, _, _, _, _, _, _, _, _, _, h⟩ := hrow2
      exact h
    have hbe := hb.1.open.1
    obtain ⟨hkG1, hkG2⟩ := hkG
    have hlw := hb0.size
    have hL : (Forest.cons t bs k r).length = r.length + 1 := rfl
    have hC : (Forest.cons t bs k r).cnt = 1 + bs.length + k.cnt + r.cnt := rfl
    have hkl := hkids.1
    have HR := Lib.hid hr'
    have b1 := fun o => hb0.alloc hlw o
    clear hr hr' hrow hrow2
    by_cases hn : 128 ≤ t
    · have t2 : decide ((128 : Int) ≤ t) = true := by simpa using hn
      have t3 : decide (t < 1) = false := by simp; omega
      by_cases hd8 : deep < 8
      · have t4 : decide ((deep : Int) < 8) = true := by simp; omega
        have kk := hkG1 (wr.alloc (.cells #[.int .i64 t, .slice ba blen bcap, .slice ka kl kc] 66)) ka kl kc (deep + 1) ((hkids.below ((Below.refl _ wr).alloc hlw _)).mono (by simp; omega)) (by omega) (by omega)
        rw [Int.natCast_add] at kk
        have hks1 := Forest.sizeL_ge k (deep + 1) 0 (Int.le_refl _)
        have hks2 := Forest.sizeL_le k (deep + 1) 0 (Int.le_refl _)
        obtain ⟨KS, hKS⟩ : ∃ KS, KS = k.sizeL (deep + 1) 0 := ⟨_, rfl⟩
        rw [← hKS] at kk hks1 hks2
        have bx := b1 (.cells #[.int .i64 t, .slice ba blen bcap, .slice ka kl kc] 66)
        have x0 : (wr.alloc (.cells #[.int .i64 t, .slice ba blen bcap, .slice ka kl kc] 66)).cell? ⟨wr.heap.size, 0, none⟩ = some (.int .i64 t) := by rw [World.cell?_alloc_mark]; rfl
        have x1 : (wr.alloc (.cells #[.int .i64 t, .slice ba blen bcap, .slice ka kl kc] 66)).cell? ⟨wr.heap.size, 1, none⟩ = some (.slice ba blen bcap) := by rw [World.cell?_alloc_mark]; rfl
        have x2 : (wr.alloc (.cells #[.int .i64 t, .slice ba blen bcap, .slice ka kl kc] 66)).cell? ⟨wr.heap.size, 2, none⟩ = some (.slice ka kl kc) := by rw [World.cell?_alloc_mark]; rfl
        have HKS := Lib.hid hKS
        clear hKS
        go_wp2_with (go_at_call 111; refine held ?_)
        unfold Held
        refine kk.mono ?_
        rintro e W2 ⟨rfl, b2⟩
        have y0 := cell_same (p := ⟨wr.heap.size, 0, none⟩) (b2.block wr.heap.size (by simp)) x0
        have y1 := cell_same (p := ⟨wr.heap.size, 1, none⟩) (b2.block wr.heap.size (by simp)) x1
        have y2 := cell_same (p := ⟨wr.heap.size, 2, none⟩) (b2.block wr.heap.size (by simp)) x2
        have b3 : Below W.heap.size W W2 := bx.trans (b2.mono (by simp; omega))
        clear x0 x1 x2 b2 bx kk
        have hKS : KS = k.sizeL (deep + 1) 0 := HKS
        by_cases h255 : 255 < t
        · have t5 : decide ((255 : Int) < t) = true := by simpa using h255
          have hbad : Forest.bad t bs k.length deep (k.sizeL (deep + 1) 0) := .inr (.inr (.inl h255))
          clear hKS
          have HM := Lib.hid (Forest.sizeL_bad (r := r) (n := N) hbad)
          clear hbad
          go_wp2
          go_ret
          exact ⟨by rw [← (show (Forest.cons t bs k r).sizeL deep N = f.sizeL deep 0 from hV), show (Forest.cons t bs k r).sizeL deep N = -1 from HM]; rfl, b3⟩
        have t5 : decide ((255 : Int) < t) = false := by simp; omega
        by_cases hbl0 : 0 < blen
        · have t6 : decide (0 < blen) = true := by simpa using hbl0
          have hbad : Forest.bad t bs k.length deep (k.sizeL (deep + 1) 0) := .inr (.inr (.inr (.inl ⟨hn, by omega⟩)))
          clear hKS
          have HM := Lib.hid (Forest.sizeL_bad (r := r) (n := N) hbad)
          clear hbad
          go_wp2
          go_ret
          exact ⟨by rw [← (show (Forest.cons t bs k r).sizeL deep N = f.sizeL deep 0 from hV), show (Forest.cons t bs k r).sizeL deep N = -1 from HM]; rfl, b3⟩
        have t6 : decide (0 < blen) = false := by simp; omega
        by_cases hks : KS < 0
        · have t7 : decide (KS < 0) = true := by simpa using hks
          have hbad : Forest.bad t bs k.length deep (k.sizeL (deep + 1) 0) := .inr (.inr (.inr (.inr (.inr (by unfold Forest.innerOf; rw [if_pos hn, if_pos hd8, ← hKS]; exact hks)))))
          clear hKS
          have HM := Lib.hid (Forest.sizeL_bad (r := r) (n := N) hbad)
          clear hbad
          go_wp2
          go_ret
          exact ⟨by rw [← (show (Forest.cons t bs k r).sizeL deep N = f.sizeL deep 0 from hV), show (Forest.cons t bs k r).sizeL deep N = -1 from HM]; rfl, b3⟩
        have t7 : decide (KS < 0) = false := by simp; omega
        have hnb : ¬ Forest.bad t bs k.length deep (k.sizeL (deep + 1) 0) := by unfold Forest.bad Forest.innerOf; rw [if_pos hn, if_pos hd8, ← hKS]; omega
        have hI : Forest.innerOf t bs k.length deep (k.sizeL (deep + 1) 0) = KS := by unfold Forest.innerOf; rw [if_pos hn, if_pos hd8, ← hKS]
        by_cases hbig : 1048576 < N + (5 + KS)
        · have t9 : decide ((1048576 : Int) < N + (5 + KS)) = true := by simp; omega
          have HM := Lib.hid (Forest.sizeL_big (r := r) hnb hI hbig)
          clear hnb hI hbig hKS
          go_wp2
          go_ret
          exact ⟨by rw [← (show (Forest.cons t bs k r).sizeL deep N = f.sizeL deep 0 from hV), show (Forest.cons t bs k r).sizeL deep N = -1 from HM]; rfl, b3⟩
        · have t9 : decide ((1048576 : Int) < N + (5 + KS)) = false := by simp; omega
          have hnx := Forest.sizeL_next (r := r) hnb hI hbig
          have hV2 : r.sizeL deep (N + (5 + KS)) = f.sizeL deep 0 := by rw [← hnx]; exact hV
          have HV2 := Lib.hid hV2
          have hI0 : 0 ≤ KS := by omega
          have hbg : N + (5 + KS) ≤ 1048576 := by omega
          clear hnb hI hbig hnx hV2 hKS
          go_wp2
          go_roundw
          case rel =>
            refine ⟨N + (5 + KS), i + 1, r, val_eq (by omega), by go_num, by omega, by omega, hbg, by omega, HV2, hkG2, fun b' off' ha hlen => ?_, b3⟩
            injection ha with ha; injection ha with q1 q2; subst q1 q2
            refine ⟨hbn, ?_⟩
            rw [show off + (i + 1) * 3 = off + i * 3 + 3 by omega]; exact HR
          case measure => simp [intOf]; omega
      · have t4 : decide ((deep : Int) < 8) = false := by simp; omega
        have bx := b1 (.cells #[.int .i64 t, .slice ba blen bcap, .slice ka kl kc] 66)
        by_cases hk0 : 0 < kl
        · have t8 : decide (0 < kl) = true := by simpa using hk0
          have hbad : Forest.bad t bs k.length deep (k.sizeL (deep + 1) 0) := .inl ⟨hn, hd8, by omega⟩
          have HM := Lib.hid (Forest.sizeL_bad (r := r) (n := N) hbad)
          clear hbad
          go_wp2
          go_ret
          exact ⟨by rw [← (show (Forest.cons t bs k r).sizeL deep N = f.sizeL deep 0 from hV), show (Forest.cons t bs k r).sizeL deep N = -1 from HM]; rfl, bx⟩
        have t8 : decide (0 < kl) = false := by simp; omega
        by_cases h255 : 255 < t
        · have t5 : decide ((255 : Int) < t) = true := by simpa using h255
          have hbad : Forest.bad t bs k.length deep (k.sizeL (deep + 1) 0) := .inr (.inr (.inl h255))
          have HM := Lib.hid (Forest.sizeL_bad (r := r) (n := N) hbad)
          clear hbad
          go_wp2
          go_ret
          exact ⟨by rw [← (show (Forest.cons t bs k r).sizeL deep N = f.sizeL deep 0 from hV), show (Forest.cons t bs k r).sizeL deep N = -1 from HM]; rfl, bx⟩
        have t5 : decide ((255 : Int) < t) = false := by simp; omega
        by_cases hbl0 : 0 < blen
        · have t6 : decide (0 < blen) = true := by simpa using hbl0
          have hbad : Forest.bad t bs k.length deep (k.sizeL (deep + 1) 0) := .inr (.inr (.inr (.inl ⟨hn, by omega⟩)))
          have HM := Lib.hid (Forest.sizeL_bad (r := r) (n := N) hbad)
          clear hbad
          go_wp2
          go_ret
          exact ⟨by rw [← (show (Forest.cons t bs k r).sizeL deep N = f.sizeL deep 0 from hV), show (Forest.cons t bs k r).sizeL deep N = -1 from HM]; rfl, bx⟩
        have t6 : decide (0 < blen) = false := by simp; omega
        have hnb : ¬ Forest.bad t bs k.length deep (k.sizeL (deep + 1) 0) := by unfold Forest.bad Forest.innerOf; rw [if_pos hn, if_neg hd8]; omega
        have hI : Forest.innerOf t bs k.length deep (k.sizeL (deep + 1) 0) = 0 := by unfold Forest.innerOf; rw [if_pos hn, if_neg hd8]
        by_cases hbig : 1048576 < N + (5 + 0)
        · have t9 : decide ((1048576 : Int) < N + 5) = true := by simp; omega
          have HM := Lib.hid (Forest.sizeL_big (r := r) hnb hI hbig)
          clear hnb hI hbig
          go_wp2
          go_ret
          exact ⟨by rw [← (show (Forest.cons t bs k r).sizeL deep N = f.sizeL deep 0 from hV), show (Forest.cons t bs k r).sizeL deep N = -1 from HM]; rfl, bx⟩
        · have t9 : decide ((1048576 : Int) < N + 5) = false := by simp; omega
          have hnx := Forest.sizeL_next (r := r) hnb hI hbig
          have hV2 : r.sizeL deep (N + (5 + 0)) = f.sizeL deep 0 := by rw [← hnx]; exact hV
          have HV2 := Lib.hid hV2
          have hI0 : 0 ≤ 0 := by omega
          have hbg : N + (5 + 0) ≤ 1048576 := by omega
          clear hnb hI hbig hnx hV2
          go_wp2
          go_roundw
          case rel =>
            refine ⟨N + (5 + 0), i + 1, r, val_eq (by omega), by go_num, by omega, by omega, hbg, by omega, HV2, hkG2, fun b' off' ha hlen => ?_, bx⟩
            injection ha with ha; injection ha with q1 q2; subst q1 q2
            refine ⟨hbn, ?_⟩
            rw [show off + (i + 1) * 3 = off + i * 3 + 3 by omega]; exact HR
          case measure => simp [intOf]; omega
    · have t2 : decide ((128 : Int) ≤ t) = false := by simp; omega
      have bx := b1 (.cells #[.int .i64 t, .slice ba blen bcap, .slice ka kl kc] 66)
      by_cases h1 : t < 1
      · have t3 : decide (t < 1) = true := by simpa using h1
        have hbad : Forest.bad t bs k.length deep (k.sizeL (deep + 1) 0) := .inr (.inl h1)
        have HM := Lib.hid (Forest.sizeL_bad (r := r) (n := N) hbad)
        clear hbad
        go_wp2
        go_ret
        exact ⟨by rw [← (show (Forest.cons t bs k r).sizeL deep N = f.sizeL deep 0 from hV), show (Forest.cons t bs k r).sizeL deep N = -1 from HM]; rfl, bx⟩
      have t3 : decide (t < 1) = false := by simp; omega
      have t5 : decide ((255 : Int) < t) = false := by simp; omega
      by_cases hk0 : 0 < kl
      · have t8 : decide (0 < kl) = true := by simpa using hk0
        have hbad : Forest.bad t bs k.length deep (k.sizeL (deep + 1) 0) := .inr (.inr (.inr (.inr (.inl ⟨hn, by omega⟩))))
        have HM := Lib.hid (Forest.sizeL_bad (r := r) (n := N) hbad)
        clear hbad
        go_wp2
        go_ret
        exact ⟨by rw [← (show (Forest.cons t bs k r).sizeL deep N = f.sizeL deep 0 from hV), show (Forest.cons t bs k r).sizeL deep N = -1 from HM]; rfl, bx⟩
      have t8 : decide (0 < kl) = false := by simp; omega
      have hnb : ¬ Forest.bad t bs k.length deep (k.sizeL (deep + 1) 0) := by unfold Forest.bad Forest.innerOf; rw [if_neg hn]; omega
      have hI : Forest.innerOf t bs k.length deep (k.sizeL (deep + 1) 0) = (blen : Int) := by unfold Forest.innerOf; rw [if_neg hn, hbe]
      by_cases hbig : 1048576 < N + (5 + (blen : Int))
      · have t9 : decide ((1048576 : Int) < N + (5 + (blen : Int))) = true := by simp; omega
        have HM := Lib.hid (Forest.sizeL_big (r := r) hnb hI hbig)
        clear hnb hI hbig
        go_wp2
        go_ret
        exact ⟨by rw [← (show (Forest.cons t bs k r).sizeL deep N = f.sizeL deep 0 from hV), show (Forest.cons t bs k r).sizeL deep N = -1 from HM]; rfl, bx⟩
      · have t9 : decide ((1048576 : Int) < N + (5 + (blen : Int))) = false := by simp; omega
        have hnx := Forest.sizeL_next (r := r) hnb hI hbig
        have hV2 : r.sizeL deep (N + (5 + (blen : Int))) = f.sizeL deep 0 := by rw [← hnx]; exact hV
        have HV2 := Lib.hid hV2
        have hI0 : 0 ≤ (blen : Int) := by omega
        have hbg : N + (5 + (blen : Int)) ≤ 1048576 := by omega
        clear hnb hI hbig hnx hV2
        go_wp2
        go_roundw
        case rel =>
          refine ⟨N + (5 + (blen : Int)), i + 1, r, val_eq (by omega), by go_num, by omega, by omega, hbg, by omega, HV2, hkG2, fun b' off' ha hlen => ?_, bx⟩
          injection ha with ha; injection ha with q1 q2; subst q1 q2
          refine ⟨hbn, ?_⟩
          rw [show off + (i + 1) * 3 = off + i * 3 + 3 by omega]; exact HR
        case measure => simp [intOf]; omega
end Go.Proofs.YtejcandhijdnhaaGreat

/- The bytes of a word: word.split and word.Bytes. -/
namespace Go.Proofs.YtejcandhijdnhaaGreat
open Go Go.ChangeShapes Go.WideShapes Go.ChangeAt Go.RowKit
/-- the bytes of a word -/
def bytesL (x : Nat) : List Int := [(x : Int) % 256, (x : Int) / 256 % 256, (x : Int) / 65536 % 256, (x : Int) / 16777216]
set_option maxHeartbeats 400000 in
theorem split_any (x : Nat) (w : World) (hx : x < 4294967296) :
    Calls Tryz.prog 74 #[.int .u32 x] w fun e w' => e = .returned (.agg #[.int .u8 ((x : Int) % 256), .int .u8 ((x : Int) / 256 % 256), .int .u8 ((x : Int) / 65536 % 256), .int .u8 ((x : Int) / 16777216)]) ∧
      w' = w.alloc (.cells #[.int .u8 ((x : Int) % 256), .int .u8 ((x : Int) / 256 % 256), .int .u8 ((x : Int) / 65536 % 256), .int .u8 ((x : Int) / 16777216)] 138) := by
  go_enter Tryz.func74, Tryz.ntmps74
  go_wp2
  exact bodyPost_ret (v := .agg #[.int .u8 ((x : Int) % 256), .int .u8 ((x : Int) / 256 % 256), .int .u8 ((x : Int) / 65536 % 256), .int .u8 ((x : Int) / 16777216)]) (by simp [results, Tryz.results74, go_sem]) rfl ⟨rfl, rfl⟩
/-- the block of a word's bytes -/
def bytesO (x : Nat) : Obj := .cells #[.int .u8 ((x : Int) % 256), .int .u8 ((x : Int) / 256 % 256), .int .u8 ((x : Int) / 65536 % 256), .int .u8 ((x : Int) / 16777216)] 138
set_option maxHeartbeats 400000 in
theorem bytes_any (x : Nat) (w : World) (hx : x < 4294967296) :
    Calls Tryz.prog 31 #[.int .u32 x] w fun e w' => e = .returned (.slice (some ⟨w.heap.size + 1, 0, none⟩) 4 4) ∧ w' = (w.alloc (bytesO x)).alloc (bytesO x) := by
  go_enter Tryz.func31, Tryz.ntmps31
  go_wp2_with (go_at_call 74; refine (split_any _ _ hx).mono ?_; rintro e w1 ⟨rfl, rfl⟩)
  go_ret
  exact ⟨rfl, rfl⟩
end Go.Proofs.YtejcandhijdnhaaGreat

/- Rows that a function built, and their strings. -/
namespace Go.Proofs.YtejcandhijdnhaaGreat
open Go Go.RowKit
set_option linter.unusedVariables false
set_option linter.unnecessarySimpa false
theorem info_u8 : (Tryz.prog.info? 5).map (fun i => (i.zero, i.size, i.bytes)) = some (some (.int .u8 0), 1, 1) := by kernel_rfl
theorem ownsRow_slice {W : World} {base : Nat} {e : TypeId} {size : Nat} {v : Value} {n : Nat} {xs : List Value} (h : W.ownsRow base e size v n xs) : ∃ a cap, v = .slice a n cap ∧ (n = 0 ∨ ∃ g', a = some ⟨g', 0, none⟩ ∧ v.ownBlock = some g') := by
  rcases h.2 with ⟨rfl, h0⟩ | ⟨g', cap, cur, rfl, h1, h2, h3, h4, _⟩
  · exact ⟨none, 0, by rw [h0], .inl h0⟩
  · exact ⟨_, _, rfl, .inr ⟨g', rfl, rfl⟩⟩
theorem Row8.built (W : World) (t : TypeId) (fr : Nat × Nat) (zs : List Int) (hz : ∀ z ∈ zs, 0 ≤ z ∧ z ≤ 255) (hm : zs.length ≤ maxLen) (cs : Array Value) (hcs : cs = (zs.map (Value.int .u8)).toArray) (n : Nat) (hn : n = zs.length) :
    Row8 (W.alloc (.cells cs t fr)).heap.size (W.alloc (.cells cs t fr)) (.slice (some ⟨W.heap.size, 0, none⟩) n n) zs := by
  subst hcs hn
  refine ⟨.inr ⟨W.heap.size, 0, zs.length, rfl, by simp, Nat.le_refl _, hm, fun j hj => ?_⟩, hz⟩
  rw [Nat.zero_add, World.cell?_alloc_mark, getD_at _ _ hj]
  simp [hj]
theorem OwnBytes.conv {base : Nat} {zs : List Int} {v : Value} {W : World} (h : W.ownsRow base 5 1 v zs.length (zs.map (Value.int .u8))) :
    (convert 22 9 v).run Tryz.prog W = .ok (.string (strOfNums zs)) W :=
  convRow (RowI.of_own h).2 22 5 9 Tryz.underlying22 Tryz.underlying5 Tryz.underlying9
theorem below_of_wr {n g : Nat} {A B : World} (h : Wr (· = g) (· = g) A B) (hg : n ≤ g) (hn : n ≤ A.heap.size) : Below n A B :=
  ⟨h.os, h.tape, h.output, h.size, fun b hb => h.block b (by omega) (by omega)⟩
end Go.Proofs.YtejcandhijdnhaaGreat

/- append(own, row...), at any slice of bytes. -/
namespace Go.Proofs.YtejcandhijdnhaaGreat
open Go Go.RowKit
set_option linter.unusedVariables false
section
variable {P : Program} {ops : Array Oper} {rest : List Oper} {o : Oper} {a : Act} {w : World} {Q : Exit → Act → World → Prop}
theorem wpList_append_row (hgd : o.guard = none) (s x : Operand) (t : TypeId) (ho : o.op = .call { callee := .builtin .append, args := #[s, x], argTypes := #[t, t] })
    (base : Nat) (e : TypeId) (i : TypeInfo) (ht : P.underlying t = some (.slice e)) (hi : P.info? e = some i) (hz : i.zero = some (.int .u8 0)) (hsize : i.size = 1) (hby : i.bytes = 1)
    (v : Value) (n : Nat) (xs : List Int) (hs : a.eval s = v) (hown : w.ownsRow base e 1 v n (xs.map (Value.int .u8)))
    (p : Option Addr) (m c n₀ : Nat) (zs : List Int) (hx : a.eval x = .slice p m c) (hr : RowI .u8 n₀ w (.slice p m c) zs) (hsm : n + m ≤ 140737488355328) (hbase : base ≤ w.heap.size)
    (h : ∀ v' w', w'.ownsRow base e 1 v' (n + m) ((xs ++ zs).map (Value.int .u8)) → w.grownBy w' v.ownBlock → (v'.ownBlock = v.ownBlock ∨ v'.ownBlock = some w.heap.size) → wpList P ops Q rest (a.put o.dst v') w') :
    wpList P ops Q (o :: rest) a w := by
  have hlen := hr.open.1
  have key : ∀ ad, p = some ad → (∀ j u, (zs.map (Value.int .u8))[j]? = some u → w.cell? (ad.add j) = some u) → wpList P ops Q (o :: rest) a w := fun ad hp hc => by
    subst hp
    refine wpList_append_own_at (w := w) hgd s x t ho base e i (.int .u8 0) 1 1 ht hi hz hsize hby rfl (by decide) v n _ hs hown ad m c (zs.map (Value.int .u8)) hx (by simp [hlen]) hc (fun u hu => ?_) (by simp only [maxLen]; omega) (by omega) hbase (fun v' w' h2 h3 _ h5 => h v' w' ?_ h3 h5)
    · obtain ⟨z, _, rfl⟩ := List.mem_map.1 hu
      rfl
    · rw [List.map_append]; exact h2
  rcases hr with ⟨a', c', he, rfl⟩ | ⟨b, off, c', he, hb, h3, h4, hc⟩
  · injection he with e1 e2 e3
    subst e1 e2 e3
    cases p with
    | some ad => exact key ad rfl (fun j u hj => by simp at hj)
    | none =>
      refine wpList_plain hgd fun K hK => ?_
      have hr : (Builtin.append_ #[t, t] o.type #[v, .slice none 0 c]).run P w = .ok v w := by
        rcases hown.2 with ⟨rfl, rfl⟩ | ⟨g, cap, cur, rfl, _, _, hnc, _⟩
        · simp [Builtin.append_, run_underlying ht, sizeOf, typeInfo, hi, Builtin.lenOf, Builtin.firstCells]
        · simp [Builtin.append_, run_underlying ht, sizeOf, typeInfo, hi, Builtin.lenOf, Builtin.firstCells, hnc, storeCells]
      unfold Oper.wp execOp
      simp only [ho, resolve, invoke, builtin, Sem.run_bind, Sem.run_pure, Result.andThen_ok, List.map_toArray, List.map_cons, List.map_nil, hs, hx, hr]
      exact hK _ _ (h v w (by simpa using hown) ⟨rfl, rfl, rfl, Nat.le_refl _, fun _ _ _ => rfl⟩ (.inl rfl))
  · injection he with e1 e2 e3
    refine key _ e1 (fun j u hj => ?_)
    rw [List.getElem?_map] at hj
    cases hz' : zs[j]? with
    | none => simp [hz'] at hj
    | some z =>
      have hjl : j < zs.length := (List.getElem?_eq_some_iff.1 hz').1
      have : zs.getD j 0 = z := by simp [List.getD, hz']
      rw [Addr.add_lit, hc j hjl, this]
      simpa [hz'] using hj
end
end Go.Proofs.YtejcandhijdnhaaGreat

/- The walk of tlv.Check, tlv.lay and tlv.Bytes. -/
namespace Go.Proofs.YtejcandhijdnhaaGreat
open Go Go.RowKit
set_option linter.unusedVariables false
set_option linter.unnecessarySimpa false
theorem size_any (f : Forest) : SizeOK f := Forest.all SizeOK size_step f
def tlvE (f : Forest) : Int := if f.sizeL 1 0 < 0 then 220 else 0
set_option maxHeartbeats 1000000 in
theorem check_any (f : Forest) (W : World) (a : Option Addr) (len cap : Nat) (h : SlF W.heap.size W a len cap f) (hc : f.cnt ≤ 20000) :
    Calls Tryz.prog 90 #[.slice a len cap] W fun e W' => e = .returned (.int .i64 (tlvE f)) ∧ Below W.heap.size W W' := by
  have ks := size_any f W a len cap 1 h (by decide) hc
  unfold tlvE
  obtain ⟨S, hS⟩ : ∃ S, S = f.sizeL 1 0 := ⟨_, rfl⟩
  rw [← hS] at ks ⊢
  clear hS
  go_enter Tryz.func90, Tryz.ntmps90
  go_wp2_with (go_at_call 111; refine held ?_)
  unfold Held
  refine ks.mono ?_
  rintro e w1 ⟨rfl, b1⟩
  by_cases h0 : S < 0
  · have t1 : decide (S < 0) = true := by simpa using h0
    go_wp2
    go_ret
    exact ⟨rfl, b1⟩
  · have t1 : decide (S < 0) = false := by simpa using h0
    go_wp2
    go_ret
    exact ⟨rfl, b1⟩
def LayOK (f : Forest) : Prop := ∀ (W : World) (a : Option Addr) (len cap : Nat), SlF W.heap.size W a len cap f → f.cnt ≤ 20000 →
  Calls Tryz.prog 91 #[.slice none 0 0, .slice a len cap] W fun e W' => ∃ v, e = .returned v ∧ W'.ownsRow W.heap.size 5 1 v f.layF.length (f.layF.map (Value.int .u8)) ∧ Below W.heap.size W W'
theorem one_new8 (W : World) (x : Int) : ∀ j u, [Value.int .u8 x][j]? = some u → (W.alloc (.cells #[.int .u8 x] 5)).cell? ((⟨W.heap.size, 0, none⟩ : Addr).add j) = some u := cell_one_new _ _ _
theorem bytesL_len (x : Nat) (h : x < 4294967296) : bytesL x = [(x : Int) % 256, (x : Int) / 256 % 256, (x : Int) / 65536 % 256, (x : Int) / 16777216 % 256] := by
  unfold bytesL
  rw [show (x : Int) / 16777216 % 256 = (x : Int) / 16777216 by omega]
theorem bytesL_byte (x : Nat) (h : x < 4294967296) : ∀ z ∈ bytesL x, 0 ≤ z ∧ z ≤ 255 := by
  intro z hz
  simp only [bytesL, List.mem_cons, List.not_mem_nil, or_false] at hz
  omega
set_option maxRecDepth 100000 in
set_option maxHeartbeats 8000000 in
theorem lay_step (f : Forest) (hk : f.AllKids LayOK) : LayOK f := by
  intro W a len cap h hcnt
  obtain ⟨i0, hi, hz0, hz1, hz2⟩ := info_parts info_u8
  have hs := h.small
  obtain ⟨hl, hc⟩ := h
  go_enter Tryz.func91, Tryz.ntmps91
  go_wp2
  go_loopw [0, 6, 7, 10] (fun out _ _ i wr => ∃ (i' : Nat) (G : Forest) (P : List Int), i = .int .i64 (i' : Int) ∧ i' + G.length = len ∧ G.cnt ≤ 20000 ∧ P.length + 5 * G.cnt ≤ 100000 ∧ Hid (P ++ G.layF = f.layF) ∧ G.AllKids LayOK ∧ (∀ b off, a = some ⟨b, off, none⟩ → 0 < len → b < W.heap.size ∧ RowF W.heap.size W G b (off + i' * 3)) ∧ wr.ownsRow W.heap.size 5 1 out P.length (P.map (Value.int .u8)) ∧ Below W.heap.size W wr) (fun _ _ _ i _ => len - (intOf i).toNat)
  case atStart =>
    refine ⟨0, f, [], rfl, by omega, hcnt, by simp; omega, rfl, hk, fun b off ha hlen => ?_, World.ownsRow_nil _ _ _ _, Below.refl _ _⟩
    rcases hc with h0 | ⟨b', off', ha', hb', _, _, hrow⟩
    · omega
    · rw [ha] at ha'; injection ha' with ha'; injection ha' with e1 e2
      subst e1 e2
      exact ⟨hb', by simpa using hrow⟩
  case round =>
    obtain ⟨i, G, P, rfl, hiG, hcG, hPG, hV, hkG, hrow, hown, hb0⟩ := hrel
    by_cases hlt : i < len
    rotate_left
    · have t1 : decide ((i : Int) < (len : Int)) = false := by simp; omega
      have hG : G = .nil := by
        cases G with
        | nil => rfl
        | cons t bs k r => simp [Forest.length] at hiG; omega
      subst hG
      have hP : P = f.layF := by rw [← (show P ++ Forest.nil.layF = f.layF from hV), Forest.layF, List.append_nil]
      rw [hP] at hown
      clear hV hrow hP
      go_wp2
      go_ret
      exact ⟨_, rfl, hown, hb0⟩
    have t1 : decide ((i : Int) < (len : Int)) = true := by simp; omega
    obtain h0 | ⟨b, off, rfl, hbn, hlc, hcm, _⟩ := hc
    · omega
    obtain ⟨_, hrow2⟩ := hrow b off rfl (by omega)
    obtain ⟨t, bs, k, r, ba, blen, bcap, ka, kl, kc, rfl, c0, c1, c2, ht1, ht2, ⟨hb, hbl⟩, hkids, hr⟩ := (RowF.below hb0 G b _ hbn hrow2).open (by omega)
    have hr' : RowF W.heap.size W r b (off + i * 3 + 3) := by
      obtain ⟨_, _, _, _, _, _, _, _, _, _, _, _, _, _, h⟩ := hrow2
      exact h
    have hbe := hb.1.open.1
    obtain ⟨hkG1, hkG2⟩ := hkG
    have hlw := hb0.size
    have hL : (Forest.cons t bs k r).length = r.length + 1 := rfl
    have hC : (Forest.cons t bs k r).cnt = 1 + bs.length + k.cnt + r.cnt := rfl
    have hlk := Forest.layF_le k
    have HR := Lib.hid hr'
    obtain ⟨X, hX⟩ : ∃ X, X = Obj.cells #[.int .i64 t, .slice ba blen bcap, .slice ka kl kc] 66 := ⟨_, rfl⟩
    have bx : Below W.heap.size W (wr.alloc X) := hb0.alloc hlw _
    have hownx := hown.alloc X
    have hownx0 := fun q hq => (hown.lt q hq).2
    have hownx0 := fun q hq => (hown.lt q hq).2
    have hownx0 := fun q hq => (hown.lt q hq).2
    have hownx0 := fun q hq => (hown.lt q hq).2
    have x0 : (wr.alloc X).cell? ⟨wr.heap.size, 0, none⟩ = some (.int .i64 t) := by rw [hX, World.cell?_alloc_mark]; rfl
    have hVL : P ++ (([t % 256] ++ bytesL ((if 128 ≤ t then k.layF else bs).length) ++ (if 128 ≤ t then k.layF else bs)) ++ r.layF) = f.layF := by
      rw [← (show P ++ (Forest.cons t bs k r).layF = f.layF from hV), Forest.layF, bytesL_len _ (by split <;> omega)]
    have hsx : (wr.alloc X).heap.size = wr.heap.size + 1 := by simp
    clear hr hr' hrow hrow2 hV hown
    by_cases hn : 128 ≤ t
    · have t2 : decide ((128 : Int) ≤ t) = true := by simpa using hn
      rw [if_pos hn] at hVL
      have HVL := Lib.hid hVL
      have kk := hkG1 (wr.alloc X) ka kl kc ((hkids.below ((Below.refl _ wr).alloc hlw _)).mono (by simp; omega)) (by omega)
      have kx : (wr.alloc X).cell? ⟨wr.heap.size, 0, none⟩ = some (.int .i64 t) := x0
      clear hVL
      go_wp2_with (go_at_call 91; refine held ?_)
      unfold Held
      rw [← hX]
      refine kk.mono ?_
      rintro e w2 ⟨v7, rfl, o7, b7⟩
      obtain ⟨va, vc, rfl, hva⟩ := ownsRow_slice o7
      have hvr := (RowI.of_own o7).2
      have hvb : ∀ q, blockOf (.slice va k.layF.length vc) q → wr.heap.size + 1 ≤ q := fun q hq => by
        rcases hva with h0 | ⟨g', rfl, hg'⟩
        · cases va with
          | none => exact hq.elim
          | some x => have := hq.1; omega
        · have h2 := (o7.lt g' hg').1
          have h3 : q = g' := hq.2
          omega
      have own2 := ownsRow_same hownx fun q hq => b7.block q (hownx.lt q hq).2
      have bel2 : Below W.heap.size W w2 := bx.trans (b7.mono (by omega))
      have y0 := cell_same (p := ⟨wr.heap.size, 0, none⟩) (b7.block wr.heap.size (by omega)) x0
      have hownw := fun q hq => (hownx0 q hq)
      have b7s := b7.size
      clear kk kx o7 b7 x0
      have nb0 : ∀ q, blockOf (.slice va k.layF.length vc) q → u0.ownBlock ≠ some q := (fun q hq e => by have h1 := hvb q hq; have h2 := hownw q e; omega)
      have hn1 := Lib.hid (one_new8 (w2) (t % 256))
      have hsw := bel2.size
      go_wp2_with (at_builtin; refine held ?_)
      unfold Held
      try skip
      refine wpList_append_own_at _ rfl _ _ 22 rfl W.heap.size 5 i0 (.int .u8 0) 1 1 Tryz.underlying22 hi hz0 hz1 hz2 rfl (by decide) _ P.length _ (by rfl) (own2.alloc _) ⟨(w2).heap.size, 0, none⟩ 1 1 [.int .u8 (t % 256)] (by rfl) rfl hn1 (by simp [Value.oneCell']) (by simp only [maxLen]; omega) (by omega) (by simp; omega) ?_
      intro v1 u1 o1 g1 _ hv1
      have d1 : Below W.heap.size W u1 := (bel2.alloc hsw (.cells #[.int .u8 (t % 256)] 5)).grown g1 (by simp; omega) (fun q hq => (own2.lt q hq).1)
      have r1 : RowI .u8 (w2).heap.size u1 (.slice va k.layF.length vc) k.layF := hvr.same fun q hq => (g1.block q (by have := hvr.lt q hq; simp; omega) (fun e => nb0 q hq e.symm)).trans (Below.heap_alloc _ _ _ (hvr.lt q hq))
      have s1 := d1.size
      have s1' : (w2).heap.size ≤ u1.heap.size := by have := g1.size; simp at this; omega
      clear hn1
      go_wp2_with (go_at_call 31; refine held ?_)
      unfold Held
      refine (bytes_any (k.layF.length) u1 (by omega)).mono ?_
      rintro e u2 ⟨rfl, hu2⟩
      have bq : Below u1.heap.size u1 u2 := by rw [hu2]; exact ((Below.refl _ u1).alloc (Nat.le_refl _) _).alloc (by simp) _
      have hrB : Row8 u2.heap.size u2 (.slice (some ⟨u1.heap.size + 1, 0, none⟩) 4 4) (bytesL (k.layF.length)) := by
        have := Row8.built (u1.alloc (bytesO (k.layF.length))) 138 (0, 0) (bytesL (k.layF.length)) (bytesL_byte _ (by omega)) (by simp [bytesL, maxLen]) _ rfl 4 rfl
        rw [hu2, show u1.heap.size + 1 = (u1.alloc (bytesO (k.layF.length))).heap.size from (World.size_alloc ..).symm]; exact this
      have o2 := ownsRow_same o1 fun q hq => bq.block q (o1.lt q hq).2
      have d2 : Below W.heap.size W u2 := d1.trans (bq.mono s1)
      have r2 : RowI .u8 (w2).heap.size u2 (.slice va k.layF.length vc) k.layF := r1.same fun q hq => bq.block q (by have := r1.lt q hq; omega)
      have s2 := d2.size
      have bqs := bq.size
      clear hu2
      go_wp2_with (at_builtin; refine held ?_)
      unfold Held
      refine wpList_append_row rfl _ _ 22 rfl W.heap.size 5 i0 Tryz.underlying22 hi hz0 hz1 hz2 v1 (P.length + 1) (P ++ [t % 256]) rfl (by rw [List.map_append]; exact o2) _ 4 4 u2.heap.size (bytesL (k.layF.length)) rfl hrB.1 (by omega) s2 ?_
      intro v2 u3 o3 g3 hv3
      have d3 : Below W.heap.size W u3 := d2.grown g3 s2 (fun q hq => (o2.lt q hq).1)
      have nb1 : ∀ q, blockOf (.slice va k.layF.length vc) q → v1.ownBlock ≠ some q := fun q hq e => by
        have h1 := hvb q hq
        have h2 := hvr.lt q hq
        rcases hv1 with h3 | h3
        · rw [h3] at e; have h4 := hownw q e; omega
        · rw [h3] at e; injection e with e; simp at e; omega
      have r3 : RowI .u8 (w2).heap.size u3 (.slice va k.layF.length vc) k.layF := r2.same fun q hq => g3.block q (by have := r2.lt q hq; omega) (fun e => nb1 q hq e.symm)
      have s3 := d3.size
      clear hrB o2 bq
      go_wp2_with (at_builtin; refine held ?_)
      unfold Held
      refine wpList_append_row rfl _ _ 22 rfl W.heap.size 5 i0 Tryz.underlying22 hi hz0 hz1 hz2 v2 (P.length + 1 + 4) ((P ++ [t % 256]) ++ bytesL (k.layF.length)) rfl o3 va k.layF.length vc (w2).heap.size k.layF rfl r3 (by omega) s3 ?_
      intro v3 u4 o4 g4 hv4
      have d4 : Below W.heap.size W u4 := d3.grown g4 s3 (fun q hq => (o3.lt q hq).1)
      have hPl : (((P ++ [t % 256]) ++ bytesL (k.layF.length)) ++ k.layF).length = P.length + 1 + 4 + k.layF.length := by
        rw [List.length_append, List.length_append, List.length_append]; rfl
      have hVf : (((P ++ [t % 256]) ++ bytesL (k.layF.length)) ++ k.layF) ++ r.layF = f.layF := by
        rw [← HVL]; simp only [List.append_assoc]
      have HVF := Lib.hid hVf
      have HPL := Lib.hid hPl
      clear o3 g4 hv4 g3 hv3 hVf hPl
      go_wp2
      go_roundw
      case rel =>
        have hPl : (((P ++ [t % 256]) ++ bytesL (k.layF.length)) ++ k.layF).length = P.length + 1 + 4 + k.layF.length := HPL
        refine ⟨i + 1, r, ((P ++ [t % 256]) ++ bytesL (k.layF.length)) ++ k.layF, by go_num, by omega, by omega, by omega, HVF, hkG2, fun b' off' ha hlen => ?_, by rw [hPl]; exact o4, d4⟩
        injection ha with ha; injection ha with q1 q2; subst q1 q2
        refine ⟨hbn, ?_⟩
        rw [show off + (i + 1) * 3 = off + i * 3 + 3 by omega]; exact HR
      case measure => simp [intOf]; omega
    · have t2 : decide ((128 : Int) ≤ t) = false := by simp; omega
      rw [if_neg hn] at hVL
      rw [hbe] at hVL
      have HVL := Lib.hid hVL
      have hvr : RowI .u8 (wr.alloc X).heap.size (wr.alloc X) (.slice ba blen bcap) bs := (hb.1.below ((Below.refl _ wr).alloc hlw X)).mono (by simp; omega)
      clear hVL
      have nb0 : ∀ q, blockOf (.slice ba blen bcap) q → u0.ownBlock ≠ some q := (fun q hq e => by have h1 := hb.1.lt q hq; have h2 := (hownx.lt q e).1; omega)
      have hn1 := Lib.hid (one_new8 (wr.alloc X) (t % 256))
      have hsw := bx.size
      go_wp2_with (at_builtin; refine held ?_)
      unfold Held
      rw [← hX, ← hsx]
      refine wpList_append_own_at _ rfl _ _ 22 rfl W.heap.size 5 i0 (.int .u8 0) 1 1 Tryz.underlying22 hi hz0 hz1 hz2 rfl (by decide) _ P.length _ (by rfl) (hownx.alloc _) ⟨(wr.alloc X).heap.size, 0, none⟩ 1 1 [.int .u8 (t % 256)] (by rfl) rfl hn1 (by simp [Value.oneCell']) (by simp only [maxLen]; omega) (by omega) (by simp; omega) ?_
      intro v1 u1 o1 g1 _ hv1
      have d1 : Below W.heap.size W u1 := (bx.alloc hsw (.cells #[.int .u8 (t % 256)] 5)).grown g1 (by simp; omega) (fun q hq => (hownx.lt q hq).1)
      have r1 : RowI .u8 (wr.alloc X).heap.size u1 (.slice ba blen bcap) bs := hvr.same fun q hq => (g1.block q (by have := hvr.lt q hq; simp; omega) (fun e => nb0 q hq e.symm)).trans (Below.heap_alloc _ _ _ (hvr.lt q hq))
      have s1 := d1.size
      have s1' : (wr.alloc X).heap.size ≤ u1.heap.size := by have := g1.size; simp at this; omega
      clear hn1
      go_wp2_with (go_at_call 31; refine held ?_)
      unfold Held
      refine (bytes_any (blen) u1 (by omega)).mono ?_
      rintro e u2 ⟨rfl, hu2⟩
      have bq : Below u1.heap.size u1 u2 := by rw [hu2]; exact ((Below.refl _ u1).alloc (Nat.le_refl _) _).alloc (by simp) _
      have hrB : Row8 u2.heap.size u2 (.slice (some ⟨u1.heap.size + 1, 0, none⟩) 4 4) (bytesL (blen)) := by
        have := Row8.built (u1.alloc (bytesO (blen))) 138 (0, 0) (bytesL (blen)) (bytesL_byte _ (by omega)) (by simp [bytesL, maxLen]) _ rfl 4 rfl
        rw [hu2, show u1.heap.size + 1 = (u1.alloc (bytesO (blen))).heap.size from (World.size_alloc ..).symm]; exact this
      have o2 := ownsRow_same o1 fun q hq => bq.block q (o1.lt q hq).2
      have d2 : Below W.heap.size W u2 := d1.trans (bq.mono s1)
      have r2 : RowI .u8 (wr.alloc X).heap.size u2 (.slice ba blen bcap) bs := r1.same fun q hq => bq.block q (by have := r1.lt q hq; omega)
      have s2 := d2.size
      have bqs := bq.size
      clear hu2
      go_wp2_with (at_builtin; refine held ?_)
      unfold Held
      refine wpList_append_row rfl _ _ 22 rfl W.heap.size 5 i0 Tryz.underlying22 hi hz0 hz1 hz2 v1 (P.length + 1) (P ++ [t % 256]) rfl (by rw [List.map_append]; exact o2) _ 4 4 u2.heap.size (bytesL (blen)) rfl hrB.1 (by omega) s2 ?_
      intro v2 u3 o3 g3 hv3
      have d3 : Below W.heap.size W u3 := d2.grown g3 s2 (fun q hq => (o2.lt q hq).1)
      have nb1 : ∀ q, blockOf (.slice ba blen bcap) q → v1.ownBlock ≠ some q := fun q hq e => by
        have h1 := hb.1.lt q hq
        have h2 := (o1.lt q e).1
        omega
      have r3 : RowI .u8 (wr.alloc X).heap.size u3 (.slice ba blen bcap) bs := r2.same fun q hq => g3.block q (by have := r2.lt q hq; omega) (fun e => nb1 q hq e.symm)
      have s3 := d3.size
      clear hrB o2 bq
      go_wp2_with (at_builtin; refine held ?_)
      unfold Held
      refine wpList_append_row rfl _ _ 22 rfl W.heap.size 5 i0 Tryz.underlying22 hi hz0 hz1 hz2 v2 (P.length + 1 + 4) ((P ++ [t % 256]) ++ bytesL (blen)) rfl o3 ba blen bcap (wr.alloc X).heap.size bs rfl r3 (by omega) s3 ?_
      intro v3 u4 o4 g4 hv4
      have d4 : Below W.heap.size W u4 := d3.grown g4 s3 (fun q hq => (o3.lt q hq).1)
      have hPl : (((P ++ [t % 256]) ++ bytesL (blen)) ++ bs).length = P.length + 1 + 4 + blen := by
        rw [List.length_append, List.length_append, List.length_append, hbe]; rfl
      have hVf : (((P ++ [t % 256]) ++ bytesL (blen)) ++ bs) ++ r.layF = f.layF := by
        rw [← HVL]; simp only [List.append_assoc]
      have HVF := Lib.hid hVf
      have HPL := Lib.hid hPl
      clear o3 g4 hv4 g3 hv3 hVf hPl
      go_wp2
      go_roundw
      case rel =>
        have hPl : (((P ++ [t % 256]) ++ bytesL (blen)) ++ bs).length = P.length + 1 + 4 + blen := HPL
        refine ⟨i + 1, r, ((P ++ [t % 256]) ++ bytesL (blen)) ++ bs, by go_num, by omega, by omega, by omega, HVF, hkG2, fun b' off' ha hlen => ?_, by rw [hPl]; exact o4, d4⟩
        injection ha with ha; injection ha with q1 q2; subst q1 q2
        refine ⟨hbn, ?_⟩
        rw [show off + (i + 1) * 3 = off + i * 3 + 3 by omega]; exact HR
      case measure => simp [intOf]; omega
theorem lay_any (f : Forest) : LayOK f := Forest.all LayOK lay_step f
end Go.Proofs.YtejcandhijdnhaaGreat
