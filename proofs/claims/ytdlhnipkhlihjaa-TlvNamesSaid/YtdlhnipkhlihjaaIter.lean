/- A range over a function whose elements are known when it begins: what the iterator owes, what the loop's body owes. Each says which blocks it writes. -/
import Derived.RangeFuncNested
import Derived.RangeFuncBound
import Derived.RangeFuncCalls
import Derived.RangeFuncLeaves
import Derived.Scope
import Derived.RangeFuncBox
import Derived.Laws.AppendOwn
namespace Go.Proofs.Ytdlhnipkhlihjaa
open Go Go.RowKit
set_option linter.unusedVariables false
/-- a goal at which a walk halts -/
def Held (p : Prop) : Prop := p
theorem held {p : Prop} (h : Held p) : p := h
/-- the blocks that p tells are in both worlds the same -/
structure SameOn (p : Nat → Prop) (W W' : World) : Prop where
  os : W'.os = W.os
  tape : W'.tape = W.tape
  output : W'.output = W.output
  size : W.heap.size ≤ W'.heap.size
  block : ∀ b, p b → W'.heap[b]? = W.heap[b]?
/-- whoever may write the blocks S has turned these alone, and laid new ones; S' are what it may write now -/
structure Wr (S S' : Nat → Prop) (W W' : World) : Prop where
  os : W'.os = W.os
  tape : W'.tape = W.tape
  output : W'.output = W.output
  size : W.heap.size ≤ W'.heap.size
  block : ∀ b, b < W.heap.size → ¬ S b → W'.heap[b]? = W.heap[b]?
  new : ∀ b, S' b → S b ∨ W.heap.size ≤ b
theorem SameOn.refl (p : Nat → Prop) (W : World) : SameOn p W W := ⟨rfl, rfl, rfl, Nat.le_refl _, fun _ _ => rfl⟩
theorem SameOn.trans {p : Nat → Prop} {A B C : World} (h : SameOn p A B) (k : SameOn p B C) : SameOn p A C :=
  ⟨k.os.trans h.os, k.tape.trans h.tape, k.output.trans h.output, Nat.le_trans h.size k.size, fun b hb => (k.block b hb).trans (h.block b hb)⟩
theorem SameOn.mono {p q : Nat → Prop} {A B : World} (h : SameOn p A B) (hq : ∀ b, q b → p b) : SameOn q A B := ⟨h.os, h.tape, h.output, h.size, fun b hb => h.block b (hq b hb)⟩
theorem SameOn.below {n : Nat} {p : Nat → Prop} {A B : World} (h : SameOn p A B) (hq : ∀ b, b < n → p b) : Below n A B := ⟨h.os, h.tape, h.output, h.size, fun b hb => h.block b (hq b hb)⟩
theorem SameOn.putObj {p : Nat → Prop} (W : World) (l : Nat) (o : Obj) (hl : ¬ p l) : SameOn p W (W.putObj l o) :=
  ⟨rfl, rfl, rfl, by simp, fun b hb => World.putObj_heap_other (fun e => hl (by rw [← e]; exact hb))⟩
theorem SameOn.of_below {n : Nat} {A B : World} (h : Below n A B) : SameOn (fun b => b < n) A B := ⟨h.os, h.tape, h.output, h.size, h.block⟩
theorem Wr.refl (S : Nat → Prop) (W : World) : Wr S S W W := ⟨rfl, rfl, rfl, Nat.le_refl _, fun _ _ _ => rfl, fun _ h => .inl h⟩
theorem Wr.trans {S S' S'' : Nat → Prop} {A B C : World} (h : Wr S S' A B) (k : Wr S' S'' B C) : Wr S S'' A C :=
  ⟨k.os.trans h.os, k.tape.trans h.tape, k.output.trans h.output, Nat.le_trans h.size k.size,
    fun b hb hs => (k.block b (Nat.lt_of_lt_of_le hb h.size) (fun h' => (h.new b h').elim hs (fun h2 => by omega))).trans (h.block b hb hs),
    fun b hb => (k.new b hb).elim (h.new b) (fun h2 => .inr (Nat.le_trans h.size h2))⟩
theorem Wr.of_below {S : Nat → Prop} {A B : World} (h : Below A.heap.size A B) : Wr S S A B := ⟨h.os, h.tape, h.output, h.size, fun b hb _ => h.block b hb, fun _ h => .inl h⟩
theorem Wr.setCell {S S' : Nat → Prop} {A B : World} (h : Wr S S' A B) {p : Addr} (hp : S p.block ∨ A.heap.size ≤ p.block) (v : Value) : Wr S S' A (B.setCell p v) :=
  ⟨h.os, h.tape, h.output, by show _ ≤ (B.heap.modify _ _).size; rw [Array.size_modify]; exact h.size, fun b hb hs => (Below.heap_setCell B p v b (fun e => by subst e; exact hp.elim hs (fun h2 => by omega))).trans (h.block b hb hs), h.new⟩
theorem Wr.alloc {S S' : Nat → Prop} {A B : World} (h : Wr S S' A B) (o : Obj) : Wr S S' A (B.alloc o) :=
  ⟨h.os, h.tape, h.output, by simp; have := h.size; omega, fun b hb hs => (Below.heap_alloc B o b (Nat.lt_of_lt_of_le hb h.size)).trans (h.block b hb hs), h.new⟩
theorem Wr.drew {S S' : Nat → Prop} {A B : World} (h : Wr S S' A B) : Wr S S' A B.drew := ⟨h.os, h.tape, h.output, h.size, h.block, h.new⟩
theorem Wr.to {S S' S'' : Nat → Prop} {A B : World} (h : Wr S S' A B) (hn : ∀ b, S'' b → S b ∨ A.heap.size ≤ b) : Wr S S'' A B := ⟨h.os, h.tape, h.output, h.size, h.block, hn⟩
theorem Wr.grown {S S' : Nat → Prop} {A B C : World} {row : Option Nat} (h : Wr S S' A B) (hg : B.grownBy C row) (hr : ∀ b, row = some b → S b ∨ A.heap.size ≤ b) : Wr S S' A C :=
  ⟨hg.os.trans h.os, hg.tape.trans h.tape, hg.output.trans h.output, Nat.le_trans h.size hg.size,
    fun b hb hs => (hg.block b (Nat.lt_of_lt_of_le hb h.size) (fun e => (hr b e.symm).elim hs (fun h2 => by omega))).trans (h.block b hb hs), h.new⟩
theorem ownsRow_same {A B : World} {base : Nat} {e : TypeId} {size : Nat} {v : Value} {n : Nat} {xs : List Value} (h : A.ownsRow base e size v n xs) (hs : ∀ b, v.ownBlock = some b → B.heap[b]? = A.heap[b]?) : B.ownsRow base e size v n xs := by
  refine ⟨h.1, ?_⟩
  rcases h.2 with h | ⟨g, cap, cur, rfl, h1, h2, h3⟩
  · exact .inl h
  · exact .inr ⟨g, cap, cur, rfl, h1, (hs g rfl).trans h2, h3⟩
/-- an invariant that minds what lies below B and the blocks S alone -/
def Stable (B : Nat) (I : Nat → (Nat → Prop) → World → Prop) : Prop := ∀ k S W W', I k S W → SameOn (fun b => b < B ∨ S b) W W' → I k S W'
/-- THE ITERATOR's CONTRACT: it hands xs to yield, one by one, until a round says 'no more'. X: the blocks that no round may write. -/
def Iter {α : Type} (P : Program) (g : Nat) (lb : Array Value) (encs : α → Array Value) (X : Nat → Prop) (xs : List α) (w : World) : Prop :=
  ∀ (l : Nat) (J Jx : Nat → (Nat → Prop) → World → Prop) (S0 : Nat → Prop) (W : World), Below w.heap.size w W → Stable W.heap.size J → Stable W.heap.size Jx →
    (∀ k S W, J k S W → ∀ b, S b → b < W.heap.size) → (∀ b, X b → ¬ S0 b) →
    (∀ (k : Nat) (h : k < xs.length) (S : Nat → Prop) (W1 : World), J k S W1 → YieldAt Fence.wide 100 P l (encs xs[k]) W1 fun e W' =>
      (e = .returned (.bool true) ∧ ∃ S', J (k + 1) S' W' ∧ Wr S S' W1 W') ∨ (e = .returned (.bool false) ∧ ∃ S', Jx (k + 1) S' W' ∧ Wr S S' W1 W')) →
    J 0 S0 W →
    Calls P g (#[.func (.yield l) #[] #[]] ++ lb) W fun e W' => (∃ v, e = .returned v) ∧ ((∃ S', J xs.length S' W') ∨ ∃ k S', k ≤ xs.length ∧ Jx k S' W')
/-- how the body of a round may be left -/
def RoundPost (I : Nat → (Nat → Prop) → World → Prop) (Ix : Code → Nat → (Nat → Prop) → World → Prop) (k : Nat) (S : Nat → Prop) (W : World) : Exit → Act → World → Prop
  | .normal, _, W' => ∃ S', I (k + 1) S' W' ∧ Wr S S' W W'
  | .ret, _, W' => ∃ S', Ix .ret (k + 1) S' W' ∧ Wr S S' W W'
  | .exit id, _, W' => ∃ S', Ix (.exit id) (k + 1) S' W' ∧ Wr S S' W W'
  | .goto t, _, W' => ∃ S', Ix (.goto t) (k + 1) S' W' ∧ Wr S S' W W'
  | .panic _, _, _ => False
  | .outgrown, _, _ => False
theorem yield_any {m m' : Nat} {P : Program} {l l' : Nat} {args : Array Value} {W : World} {R : Ending → World → Prop} (h : YieldAt Fence.wide m P l args W R) : YieldAt (Fence.wide.inRound l') m' P l args W R := by
  obtain ⟨fn, tmps, assign, body, h1, h2, h3⟩ := h
  exact ⟨fn, tmps, assign, body, h1, h2, fun c cs _ => h3 c cs (room_wide _)⟩
theorem yield_wide {m m' : Nat} {P : Program} {l : Nat} {args : Array Value} {W : World} {R : Ending → World → Prop} (h : YieldAt Fence.wide m P l args W R) : YieldAt Fence.wide m' P l args W R := by
  obtain ⟨fn, tmps, assign, body, h1, h2, h3⟩ := h
  exact ⟨fn, tmps, assign, body, h1, h2, fun c cs _ => h3 c cs (room_wide _)⟩
theorem callsR {P : Program} {f : FuncId} {args : Array Value} {w : World} {R : Ending → World → Prop} (l n : Nat) (h : Calls P f args w R) : CallsIn (Fence.wide.inRound l) n P f args w R := CallsIn.inRound l (callsIn_wide.2 h)
theorem wideScope {P : Program} {n : Nat} {c : Code} {Q : Exit → Act → World → Prop} {a : Act} {w : World} (h : c.wpIn Fence.wide n P (Exit.noGoto Q) a w) : (Code.scope c).wpIn Fence.wide n P Q a w :=
  wpIn_wide.2 (wp_scope_straight (wpIn_wide.1 h))
variable {P : Program} {n : Nat}
/-- THE LOOP, OUT OF ITS BODY -/
theorem range_law {α : Type} {g : Operand} {ps : Array Tmp} {assign body : Code} {Q : Exit → Act → World → Prop} {a : Act} {w : World}
    {gf : Nat} {lb : Array Value} (hg : a.eval g = .func (.func gf) #[] lb) (eg : ∀ args w, (callFunc gf args).run P w = .ok (.enter gf args) w)
    {encs : α → Array Value} {X : Nat → Prop} {xs : List α} (hseq : Iter P gf lb encs X xs w) (hps : ∀ x, (encs x).size = ps.size)
    (I : Nat → (Nat → Prop) → World → Prop) (Ix : Code → Nat → (Nat → Prop) → World → Prop) (S0 : Nat → Prop)
    (hX : ∀ b, X b → b < w.heap.size ∧ ¬ S0 b) (hI : Stable w.heap.size I) (hIx : ∀ c, Stable w.heap.size (Ix c)) (hlt : ∀ k S W, I k S W → ∀ b, S b → b < W.heap.size) (h0 : I 0 S0 w)
    (a₁ : α → Act)
    (hassign : ∀ (l : Nat) (x : α) (W : World) (K : Act → World → Prop), K (a₁ x) W →
      assign.wpIn (Fence.wide.inRound l) 100 P (Exit.then K (fun _ _ _ => False)) { tmps := (ps.zip (encs x)).foldl (fun t (p, v) => t.setIfInBounds p v) a.tmps, defers := [] } W)
    (hbody : ∀ (l k : Nat) (h : k < xs.length) (S : Nat → Prop) (W : World), I k S W →
      body.wpIn (Fence.wide.inRound l) 100 P (RoundPost I Ix k S W) (a₁ xs[k]) W)
    (hdone : ∀ (D : Nat) (S : Nat → Prop) (W : World), w.heap.size ≤ D → ¬ S D → I xs.length S W → W.heap[D]? = some (.deferred (some [])) →
      Q .normal { a with defers := { target := .collected D, args := #[] } :: a.defers } W)
    (hstop : ∀ (D : Nat) (c : Code) (k : Nat) (S : Nat → Prop) (W : World), w.heap.size ≤ D → ¬ S D → k ≤ xs.length → Ix c k S W → W.heap[D]? = some (.deferred (some [])) →
      c.wpIn Fence.wide n P Q { a with defers := { target := .collected D, args := #[] } :: a.defers } W) :
    (Code.rangeFunc g ps assign body).wpIn Fence.wide n P Q a w := by
  refine wpIn_rangeFunc fun fn hfn => ?_
  obtain ⟨rec, hrec⟩ : ∃ rec : LoopState → Option Code → Loop, rec = fun st pe => { state := st, pending := pe, fn, tmps := a.tmps, params := ps, assign, body, defers := w.heap.size } := ⟨_, rfl⟩
  obtain ⟨V, hV⟩ : ∃ V, V = (w.alloc (.deferred (some []))).alloc (.loop (rec .ready none)) := ⟨_, rfl⟩
  have sV : V.heap.size = w.heap.size + 2 := by rw [hV]; simp
  have lV : V.heap[w.heap.size + 1]? = some (.loop (rec .ready none)) := by
    have := World.alloc_heap_new (w.alloc (.deferred (some []))) (.loop (rec .ready none))
    rw [World.size_alloc] at this; rw [hV]; exact this
  have dV : V.heap[w.heap.size]? = some (.deferred (some [])) := by
    rw [hV]; exact (Below.heap_alloc _ _ _ (by simp)).trans (World.alloc_heap_new w _)
  have bV : Below w.heap.size w V := by rw [hV]; exact ((Below.refl _ w).alloc (Nat.le_refl _) _).alloc (by simp) _
  have s0 : ∀ b, S0 b → b < w.heap.size := hlt _ _ _ h0
  have iV : I 0 S0 V := hI _ _ _ _ h0 ((SameOn.of_below bV).mono fun b hb => hb.elim id (s0 b))
  refine ⟨w.heap.size + 1, [{ target := .collected w.heap.size, args := #[] }], V, { target := .fn (.func gf) lb, args := #[.func (.yield (w.heap.size + 1)) #[] #[]] }, V, gf,
    #[.func (.yield (w.heap.size + 1)) #[] #[]] ++ lb, V, ?_, ?_, fun _ _ => trivial, ?_, fun h => by simp [Fence.wide] at h, callsIn_wide.2 ?_⟩
  · rw [hV, hrec]; exact run_enterLoop_outer _ _ _ _ _
  · simp only [resolve, hg]; simp [go_sem]
  · simp [invoke, go_sem, eg]
  clear hV
  -- the rounds' blocks, with the loop's own two
  obtain ⟨T, hT⟩ : ∃ T : (Nat → Prop) → Nat → Prop, T = fun S b => S b ∨ b = w.heap.size ∨ b = w.heap.size + 1 := ⟨_, rfl⟩
  have T1 : ∀ S b, T S b ↔ (S b ∨ b = w.heap.size ∨ b = w.heap.size + 1) := fun S b => by rw [hT]
  clear hT
  refine (hseq (w.heap.size + 1)
    (fun k S W => ∃ Sc, S = T Sc ∧ I k Sc W ∧ ¬ Sc w.heap.size ∧ ¬ Sc (w.heap.size + 1) ∧ W.heap[w.heap.size + 1]? = some (.loop (rec .ready none)) ∧ W.heap[w.heap.size]? = some (.deferred (some [])))
    (fun k S W => ∃ Sc c, S = T Sc ∧ Ix c k Sc W ∧ ¬ Sc w.heap.size ∧ ¬ Sc (w.heap.size + 1) ∧ W.heap[w.heap.size + 1]? = some (.loop (rec .done (some c))) ∧ W.heap[w.heap.size]? = some (.deferred (some [])))
    (T S0) V bV ?_ ?_ ?_ ?_ ?_ ⟨S0, rfl, iV, fun h => by have := s0 _ h; omega, fun h => by have := s0 _ h; omega, lV, dV⟩).mono ?_
  · rintro k S A A' ⟨Sc, rfl, hi, n1, n2, hl, hd⟩ hs
    exact ⟨Sc, rfl, hI _ _ _ _ hi (hs.mono fun b hb => hb.elim (fun h => .inl (by omega)) (fun h => .inr ((T1 _ _).2 (.inl h)))), n1, n2, (hs.block _ (.inl (by omega))).trans hl, (hs.block _ (.inl (by omega))).trans hd⟩
  · rintro k S A A' ⟨Sc, c, rfl, hi, n1, n2, hl, hd⟩ hs
    exact ⟨Sc, c, rfl, hIx c _ _ _ _ hi (hs.mono fun b hb => hb.elim (fun h => .inl (by omega)) (fun h => .inr ((T1 _ _).2 (.inl h)))), n1, n2, (hs.block _ (.inl (by omega))).trans hl, (hs.block _ (.inl (by omega))).trans hd⟩
  · rintro k S A ⟨Sc, rfl, hi, n1, n2, hl, hd⟩ b hb
    rcases (T1 _ _).1 hb with h | h | h
    · exact hlt _ _ _ hi b h
    · rw [h]; exact (Array.getElem?_eq_some_iff.1 hd).1
    · rw [h]; exact (Array.getElem?_eq_some_iff.1 hl).1
  · intro b hb h
    obtain ⟨h1, h2⟩ := hX b hb
    rcases (T1 _ _).1 h with h3 | h3 | h3
    · exact h2 h3
    · omega
    · omega
  · -- one round
    rintro k hk S W ⟨Sc, rfl, hi, n1, n2, hl, hd⟩
    have hy := run_yield (P := P) (args := encs xs[k]) hl (by rw [hrec]; exact hps _)
    rw [hrec] at hy
    refine ⟨fn, _, assign, body, hy, roundIn_of_wpIn hfn (hassign _ _ W _ ?_)⟩
    clear hy
    have hlt2 : w.heap.size + 1 < W.heap.size := (Array.getElem?_eq_some_iff.1 hl).1
    refine ⟨_, run_beginRound hl (by rw [hrec]), ?_⟩
    obtain ⟨W3, h3⟩ : ∃ W3, W3 = W.putObj (w.heap.size + 1) (.loop { rec .ready none with state := .busy }) := ⟨_, rfl⟩
    have hl3 : W3.heap[w.heap.size + 1]? = some (.loop { rec .ready none with state := .busy }) := by rw [h3]; exact World.putObj_heap_same hlt2
    have hd3 : W3.heap[w.heap.size]? = some (.deferred (some [])) := by rw [h3]; exact (World.putObj_heap_other (by omega)).trans hd
    have hi3 : I k Sc W3 := hI _ _ _ _ hi (by rw [h3]; exact SameOn.putObj _ _ _ (fun h => h.elim (fun h => by omega) n2))
    have wr3 : Wr (T Sc) (T Sc) W W3 := by
      rw [h3]
      exact ⟨rfl, rfl, rfl, by simp, fun b _ hs => World.putObj_heap_other (fun e => hs ((T1 _ _).2 (.inr (.inr e)))), fun b h => .inl h⟩
    rw [← h3]
    clear h3
    have after : ∀ (jump : Option Code) (Sc' : Nat → Prop) (W4 : World), Wr Sc Sc' W3 W4 →
        ∃ W5, W5 = W4.putObj (w.heap.size + 1) (.loop (rec (if jump.isNone then .ready else .done) jump)) ∧ (Instr.endRound (w.heap.size + 1) jump).run P W4 = .ok (.bool jump.isNone) W5 ∧
        ¬ Sc' w.heap.size ∧ ¬ Sc' (w.heap.size + 1) ∧
        W5.heap[w.heap.size + 1]? = some (.loop (rec (if jump.isNone then .ready else .done) jump)) ∧ W5.heap[w.heap.size]? = some (.deferred (some [])) ∧ Wr (T Sc) (T Sc') W W5 := fun jump Sc' W4 hw => by
      have s3 := wr3.size
      have hl4 := (hw.block _ (by omega) n2).trans hl3
      have hd4 := (hw.block _ (by omega) n1).trans hd3
      have m1 : ¬ Sc' w.heap.size := fun h => (hw.new _ h).elim n1 (fun h => by omega)
      have m2 : ¬ Sc' (w.heap.size + 1) := fun h => (hw.new _ h).elim n2 (fun h => by omega)
      have hr := run_endRound (P := P) jump hl4
      have hlt4 := (Array.getElem?_eq_some_iff.1 hl4).1
      rw [hrec] at hr ⊢
      refine ⟨_, rfl, hr, m1, m2, World.putObj_heap_same hlt4, (World.putObj_heap_other (by omega)).trans hd4, ?_⟩
      have w34 : Wr (T Sc) (T Sc') W3 W4 := ⟨hw.os, hw.tape, hw.output, hw.size, fun b hb hs => hw.block b hb (fun h => hs ((T1 _ _).2 (.inl h))),
        fun b hb => ((T1 _ _).1 hb).elim (fun h => (hw.new b h).elim (fun h => .inl ((T1 _ _).2 (.inl h))) .inr) (fun h => .inl ((T1 _ _).2 (.inr h)))⟩
      refine (wr3.trans w34).trans ⟨rfl, rfl, rfl, by simp, fun b _ hs => World.putObj_heap_other (fun e => hs ((T1 _ _).2 (.inr (.inr e)))), fun b h => .inl h⟩
    have leaves : ∀ (c : Code) (Sc' : Nat → Prop) (W4 : World), Ix c (k + 1) Sc' W4 → Wr Sc Sc' W3 W4 → ∃ v W5, (Instr.endRound (w.heap.size + 1) (some c)).run P W4 = .ok v W5 ∧
        (Ending.returned v = .returned (.bool false) ∧ ∃ S', (∃ Sc c, S' = T Sc ∧ Ix c (k + 1) Sc W5 ∧ ¬ Sc w.heap.size ∧ ¬ Sc (w.heap.size + 1) ∧ W5.heap[w.heap.size + 1]? = some (.loop (rec .done (some c))) ∧ W5.heap[w.heap.size]? = some (.deferred (some []))) ∧ Wr (T Sc) S' W W5) :=
      fun c Sc' W4 hi4 hw => by
        obtain ⟨W5, e5, hr, m1, m2, hl5, hd5, hw5⟩ := after (some c) Sc' W4 hw
        exact ⟨_, W5, hr, rfl, T Sc', ⟨Sc', c, rfl, hIx c _ _ _ _ hi4 (by rw [e5]; exact SameOn.putObj _ _ _ (fun h => h.elim (fun h => by omega) m2)), m1, m2, hl5, hd5⟩, hw5⟩
    refine wpIn_mono (hbody _ k hk Sc W3 hi3) fun e a4 W4 hp => ?_
    cases e with
    | normal =>
      obtain ⟨Sc', hi4, hw⟩ := hp
      obtain ⟨W5, e5, hr, m1, m2, hl5, hd5, hw5⟩ := after none Sc' W4 hw
      exact ⟨_, W5, hr, .inl ⟨rfl, T Sc', ⟨Sc', rfl, hI _ _ _ _ hi4 (by rw [e5]; exact SameOn.putObj _ _ _ (fun h => h.elim (fun h => by omega) m2)), m1, m2, hl5, hd5⟩, hw5⟩⟩
    | ret =>
      obtain ⟨Sc', hi4, hw⟩ := hp
      obtain ⟨v, W5, hr, h⟩ := leaves .ret Sc' W4 hi4 hw
      exact ⟨v, W5, hr, .inr h⟩
    | exit id =>
      obtain ⟨Sc', hi4, hw⟩ := hp
      obtain ⟨v, W5, hr, h⟩ := leaves (.exit id) Sc' W4 hi4 hw
      exact ⟨v, W5, hr, .inr h⟩
    | goto t =>
      obtain ⟨Sc', hi4, hw⟩ := hp
      obtain ⟨v, W5, hr, h⟩ := leaves (.goto t) Sc' W4 hi4 hw
      exact ⟨v, W5, hr, .inr h⟩
    | panic ch => exact hp.elim
    | outgrown => exact hp.elim
  · -- behind the iterator
    rintro e W2 ⟨⟨v, rfl⟩, (⟨S', Sc, rfl, hi, n1, n2, hl, hd⟩ | ⟨k, S', hk, Sc, c, rfl, hi, n1, n2, hl, hd⟩)⟩
    · have he := run_endLoop (P := P) hl (by rw [hrec]; simp)
      have hp : (rec .ready none).pending = none := by rw [hrec]
      rw [hp] at he
      exact ⟨none, _, he, hdone _ Sc _ (Nat.le_refl _) n1 (hI _ _ _ _ hi (SameOn.putObj _ _ _ (fun h => h.elim (fun h => by omega) n2))) ((World.putObj_heap_other (by omega)).trans hd)⟩
    · have he := run_endLoop (P := P) hl (by rw [hrec]; simp)
      have hp : (rec .done (some c)).pending = some c := by rw [hrec]
      rw [hp] at he
      exact ⟨some c, _, he, hstop _ c k Sc _ (Nat.le_refl _) n1 hk (hIx c _ _ _ _ hi (SameOn.putObj _ _ _ (fun h => h.elim (fun h => by omega) n2))) ((World.putObj_heap_other (by omega)).trans hd)⟩
end Go.Proofs.Ytdlhnipkhlihjaa
