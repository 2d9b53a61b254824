/- A range over a function that writes blocks of its own (Y): my law of Iter, with these; and AnyV within a loop's body. -/
import Derived.Test.YtdlhnipkhlihjaaIter
import Derived.Test.YtdlhnipkhlihjaaAnyV
import Derived.OrdersIn
namespace Go.Proofs.Ytdlhnipkhlihjaa
open Go Go.RowKit
set_option linter.unusedVariables false
/-- an invariant that minds what lies below B and the blocks S alone -/
def StableY (B : Nat) (Y : Nat → Prop) (I : Nat → (Nat → Prop) → World → Prop) : Prop := ∀ k S W W', I k S W → SameOn (fun b => (b < B ∧ ¬ Y b) ∨ S b) W W' → I k S W'
/-- THE ITERATOR's CONTRACT: it hands xs to yield, one by one, until a round says 'no more'. X: the blocks that no round may write. -/
def IterY {α : Type} (P : Program) (g : Nat) (lb : Array Value) (encs : α → Array Value) (X Y : Nat → Prop) (xs : List α) (w : World) : Prop :=
  ∀ (l : Nat) (J Jx : Nat → (Nat → Prop) → World → Prop) (S0 : Nat → Prop) (W : World), Below w.heap.size w W → StableY W.heap.size Y J → StableY W.heap.size Y Jx →
    (∀ k S W, J k S W → ∀ b, S b → b < W.heap.size) → (∀ b, X b → ¬ S0 b) →
    (∀ (k : Nat) (h : k < xs.length) (S : Nat → Prop) (W1 : World), J k S W1 → YieldAt Fence.wide 100 P l (encs xs[k]) W1 fun e W' =>
      (e = .returned (.bool true) ∧ ∃ S', J (k + 1) S' W' ∧ Wr S S' W1 W') ∨ (e = .returned (.bool false) ∧ ∃ S', Jx (k + 1) S' W' ∧ Wr S S' W1 W')) →
    J 0 S0 W →
    Calls P g (#[.func (.yield l) #[] #[]] ++ lb) W fun e W' => (∃ v, e = .returned v) ∧ ((∃ S', J xs.length S' W') ∨ ∃ k S', k ≤ xs.length ∧ Jx k S' W')
variable {P : Program} {n : Nat}
/-- THE LOOP, OUT OF ITS BODY -/
theorem range_lawY {α : Type} {g : Operand} {ps : Array Tmp} {assign body : Code} {Q : Exit → Act → World → Prop} {a : Act} {w : World}
    {gf : Nat} {lb : Array Value} (hg : a.eval g = .func (.func gf) #[] lb) (eg : ∀ args w, (callFunc gf args).run P w = .ok (.enter gf args) w)
    {encs : α → Array Value} {X Y : Nat → Prop} {xs : List α} (hseq : IterY P gf lb encs X Y xs w) (hps : ∀ x, (encs x).size = ps.size)
    (I : Nat → (Nat → Prop) → World → Prop) (Ix : Code → Nat → (Nat → Prop) → World → Prop) (S0 : Nat → Prop)
    (hX : ∀ b, X b → b < w.heap.size ∧ ¬ S0 b) (hYw : ∀ b, Y b → b < w.heap.size) (hI : StableY w.heap.size Y I) (hIx : ∀ c, StableY w.heap.size Y (Ix c)) (hlt : ∀ k S W, I k S W → ∀ b, S b → b < W.heap.size) (h0 : I 0 S0 w)
    (a₁ : α → Act)
    (hassign : ∀ (l : Nat) (x : α) (W : World) (K : Act → World → Prop), K (a₁ x) W →
      assign.wpIn (Fence.wide.inRound l) 100 P (Exit.then K (fun _ _ _ => False)) { tmps := (ps.zip (encs x)).foldl (fun t (p, v) => t.setIfInBounds p v) a.tmps, defers := [] } W)
    (hbody : ∀ (l k : Nat) (h : k < xs.length) (S : Nat → Prop) (W : World), I k S W →
      body.wpIn (Fence.wide.inRound l) 100 P (RoundPost I Ix k S W) (a₁ xs[k]) W)
    (hdone : ∀ (D : Nat) (S : Nat → Prop) (W : World), w.heap.size ≤ D → ¬ S D → I xs.length S W → W.heap[D]? = some (.deferred (some [])) →
      Q .normal { a with defers := { target := .collected D, args := #[] } :: a.defers } W)
    (hstop : ∀ (D : Nat) (c : Code) (k : Nat) (S : Nat → Prop) (W : World), w.heap.size ≤ D → ¬ S D → k ≤ xs.length → Ix c k S W → W.heap[D]? = some (.deferred (some [])) →
      c.wpIn Fence.wide n P Q { a with defers := { target := .collected D, args := #[] } :: a.defers } W) :
    (Code.rangeFunc g ps assign body).wpIn Fence.wide n P Q a w := by
  refine wpIn_rangeFunc fun fn hfn => ?_
  obtain ⟨rec, hrec⟩ : ∃ rec : LoopState → Option Code → Loop, rec = fun st pe => { state := st, pending := pe, fn, tmps := a.tmps, params := ps, assign, body, defers := w.heap.size } := ⟨_, rfl⟩
  obtain ⟨V, hV⟩ : ∃ V, V = (w.alloc (.deferred (some []))).alloc (.loop (rec .ready none)) := ⟨_, rfl⟩
  have sV : V.heap.size = w.heap.size + 2 := by rw [hV]; simp
  have lV : V.heap[w.heap.size + 1]? = some (.loop (rec .ready none)) := by
    have := World.alloc_heap_new (w.alloc (.deferred (some []))) (.loop (rec .ready none))
    rw [World.size_alloc] at this; rw [hV]; exact this
  have dV : V.heap[w.heap.size]? = some (.deferred (some [])) := by
    rw [hV]; exact (Below.heap_alloc _ _ _ (by simp)).trans (World.alloc_heap_new w _)
  have bV : Below w.heap.size w V := by rw [hV]; exact ((Below.refl _ w).alloc (Nat.le_refl _) _).alloc (by simp) _
  have s0 : ∀ b, S0 b → b < w.heap.size := hlt _ _ _ h0
  have iV : I 0 S0 V := hI _ _ _ _ h0 ((SameOn.of_below bV).mono fun b hb => hb.elim (fun h => h.1) (s0 b))
  refine ⟨w.heap.size + 1, [{ target := .collected w.heap.size, args := #[] }], V, { target := .fn (.func gf) lb, args := #[.func (.yield (w.heap.size + 1)) #[] #[]] }, V, gf,
    #[.func (.yield (w.heap.size + 1)) #[] #[]] ++ lb, V, ?_, ?_, fun _ _ => trivial, ?_, fun h => by simp [Fence.wide] at h, callsIn_wide.2 ?_⟩
  · rw [hV, hrec]; exact run_enterLoop_outer _ _ _ _ _
  · simp only [resolve, hg]; simp [go_sem]
  · simp [invoke, go_sem, eg]
  clear hV
  have ny0 : ¬ Y w.heap.size := fun h => by have := hYw _ h; omega
  have ny1 : ¬ Y (w.heap.size + 1) := fun h => by have := hYw _ h; omega
  -- the rounds' blocks, with the loop's own two
  obtain ⟨T, hT⟩ : ∃ T : (Nat → Prop) → Nat → Prop, T = fun S b => S b ∨ b = w.heap.size ∨ b = w.heap.size + 1 := ⟨_, rfl⟩
  have T1 : ∀ S b, T S b ↔ (S b ∨ b = w.heap.size ∨ b = w.heap.size + 1) := fun S b => by rw [hT]
  clear hT
  refine (hseq (w.heap.size + 1)
    (fun k S W => ∃ Sc, S = T Sc ∧ I k Sc W ∧ ¬ Sc w.heap.size ∧ ¬ Sc (w.heap.size + 1) ∧ W.heap[w.heap.size + 1]? = some (.loop (rec .ready none)) ∧ W.heap[w.heap.size]? = some (.deferred (some [])))
    (fun k S W => ∃ Sc c, S = T Sc ∧ Ix c k Sc W ∧ ¬ Sc w.heap.size ∧ ¬ Sc (w.heap.size + 1) ∧ W.heap[w.heap.size + 1]? = some (.loop (rec .done (some c))) ∧ W.heap[w.heap.size]? = some (.deferred (some [])))
    (T S0) V bV ?_ ?_ ?_ ?_ ?_ ⟨S0, rfl, iV, fun h => by have := s0 _ h; omega, fun h => by have := s0 _ h; omega, lV, dV⟩).mono ?_
  · rintro k S A A' ⟨Sc, rfl, hi, n1, n2, hl, hd⟩ hs
    exact ⟨Sc, rfl, hI _ _ _ _ hi (hs.mono fun b hb => hb.elim (fun h => .inl ⟨by omega, h.2⟩) (fun h => .inr ((T1 _ _).2 (.inl h)))), n1, n2, (hs.block _ (.inl ⟨by omega, ny1⟩)).trans hl, (hs.block _ (.inl ⟨by omega, ny0⟩)).trans hd⟩
  · rintro k S A A' ⟨Sc, c, rfl, hi, n1, n2, hl, hd⟩ hs
    exact ⟨Sc, c, rfl, hIx c _ _ _ _ hi (hs.mono fun b hb => hb.elim (fun h => .inl ⟨by omega, h.2⟩) (fun h => .inr ((T1 _ _).2 (.inl h)))), n1, n2, (hs.block _ (.inl ⟨by omega, ny1⟩)).trans hl, (hs.block _ (.inl ⟨by omega, ny0⟩)).trans hd⟩
  · rintro k S A ⟨Sc, rfl, hi, n1, n2, hl, hd⟩ b hb
    rcases (T1 _ _).1 hb with h | h | h
    · exact hlt _ _ _ hi b h
    · rw [h]; exact (Array.getElem?_eq_some_iff.1 hd).1
    · rw [h]; exact (Array.getElem?_eq_some_iff.1 hl).1
  · intro b hb h
    obtain ⟨h1, h2⟩ := hX b hb
    rcases (T1 _ _).1 h with h3 | h3 | h3
    · exact h2 h3
    · omega
    · omega
  · -- one round
    rintro k hk S W ⟨Sc, rfl, hi, n1, n2, hl, hd⟩
    have hy := run_yield (P := P) (args := encs xs[k]) hl (by rw [hrec]; exact hps _)
    rw [hrec] at hy
    refine ⟨fn, _, assign, body, hy, roundIn_of_wpIn hfn (hassign _ _ W _ ?_)⟩
    clear hy
    have hlt2 : w.heap.size + 1 < W.heap.size := (Array.getElem?_eq_some_iff.1 hl).1
    refine ⟨_, run_beginRound hl (by rw [hrec]), ?_⟩
    obtain ⟨W3, h3⟩ : ∃ W3, W3 = W.putObj (w.heap.size + 1) (.loop { rec .ready none with state := .busy }) := ⟨_, rfl⟩
    have hl3 : W3.heap[w.heap.size + 1]? = some (.loop { rec .ready none with state := .busy }) := by rw [h3]; exact World.putObj_heap_same hlt2
    have hd3 : W3.heap[w.heap.size]? = some (.deferred (some [])) := by rw [h3]; exact (World.putObj_heap_other (by omega)).trans hd
    have hi3 : I k Sc W3 := hI _ _ _ _ hi (by rw [h3]; exact SameOn.putObj _ _ _ (fun h => h.elim (fun h => by have := h.1; omega) n2))
    have wr3 : Wr (T Sc) (T Sc) W W3 := by
      rw [h3]
      exact ⟨rfl, rfl, rfl, by simp, fun b _ hs => World.putObj_heap_other (fun e => hs ((T1 _ _).2 (.inr (.inr e)))), fun b h => .inl h⟩
    rw [← h3]
    clear h3
    have after : ∀ (jump : Option Code) (Sc' : Nat → Prop) (W4 : World), Wr Sc Sc' W3 W4 →
        ∃ W5, W5 = W4.putObj (w.heap.size + 1) (.loop (rec (if jump.isNone then .ready else .done) jump)) ∧ (Instr.endRound (w.heap.size + 1) jump).run P W4 = .ok (.bool jump.isNone) W5 ∧
        ¬ Sc' w.heap.size ∧ ¬ Sc' (w.heap.size + 1) ∧
        W5.heap[w.heap.size + 1]? = some (.loop (rec (if jump.isNone then .ready else .done) jump)) ∧ W5.heap[w.heap.size]? = some (.deferred (some [])) ∧ Wr (T Sc) (T Sc') W W5 := fun jump Sc' W4 hw => by
      have s3 := wr3.size
      have hl4 := (hw.block _ (by omega) n2).trans hl3
      have hd4 := (hw.block _ (by omega) n1).trans hd3
      have m1 : ¬ Sc' w.heap.size := fun h => (hw.new _ h).elim n1 (fun h => by omega)
      have m2 : ¬ Sc' (w.heap.size + 1) := fun h => (hw.new _ h).elim n2 (fun h => by omega)
      have hr := run_endRound (P := P) jump hl4
      have hlt4 := (Array.getElem?_eq_some_iff.1 hl4).1
      rw [hrec] at hr ⊢
      refine ⟨_, rfl, hr, m1, m2, World.putObj_heap_same hlt4, (World.putObj_heap_other (by omega)).trans hd4, ?_⟩
      have w34 : Wr (T Sc) (T Sc') W3 W4 := ⟨hw.os, hw.tape, hw.output, hw.size, fun b hb hs => hw.block b hb (fun h => hs ((T1 _ _).2 (.inl h))),
        fun b hb => ((T1 _ _).1 hb).elim (fun h => (hw.new b h).elim (fun h => .inl ((T1 _ _).2 (.inl h))) .inr) (fun h => .inl ((T1 _ _).2 (.inr h)))⟩
      refine (wr3.trans w34).trans ⟨rfl, rfl, rfl, by simp, fun b _ hs => World.putObj_heap_other (fun e => hs ((T1 _ _).2 (.inr (.inr e)))), fun b h => .inl h⟩
    have leaves : ∀ (c : Code) (Sc' : Nat → Prop) (W4 : World), Ix c (k + 1) Sc' W4 → Wr Sc Sc' W3 W4 → ∃ v W5, (Instr.endRound (w.heap.size + 1) (some c)).run P W4 = .ok v W5 ∧
        (Ending.returned v = .returned (.bool false) ∧ ∃ S', (∃ Sc c, S' = T Sc ∧ Ix c (k + 1) Sc W5 ∧ ¬ Sc w.heap.size ∧ ¬ Sc (w.heap.size + 1) ∧ W5.heap[w.heap.size + 1]? = some (.loop (rec .done (some c))) ∧ W5.heap[w.heap.size]? = some (.deferred (some []))) ∧ Wr (T Sc) S' W W5) :=
      fun c Sc' W4 hi4 hw => by
        obtain ⟨W5, e5, hr, m1, m2, hl5, hd5, hw5⟩ := after (some c) Sc' W4 hw
        exact ⟨_, W5, hr, rfl, T Sc', ⟨Sc', c, rfl, hIx c _ _ _ _ hi4 (by rw [e5]; exact SameOn.putObj _ _ _ (fun h => h.elim (fun h => by omega) m2)), m1, m2, hl5, hd5⟩, hw5⟩
    refine wpIn_mono (hbody _ k hk Sc W3 hi3) fun e a4 W4 hp => ?_
    cases e with
    | normal =>
      obtain ⟨Sc', hi4, hw⟩ := hp
      obtain ⟨W5, e5, hr, m1, m2, hl5, hd5, hw5⟩ := after none Sc' W4 hw
      exact ⟨_, W5, hr, .inl ⟨rfl, T Sc', ⟨Sc', rfl, hI _ _ _ _ hi4 (by rw [e5]; exact SameOn.putObj _ _ _ (fun h => h.elim (fun h => by omega) m2)), m1, m2, hl5, hd5⟩, hw5⟩⟩
    | ret =>
      obtain ⟨Sc', hi4, hw⟩ := hp
      obtain ⟨v, W5, hr, h⟩ := leaves .ret Sc' W4 hi4 hw
      exact ⟨v, W5, hr, .inr h⟩
    | exit id =>
      obtain ⟨Sc', hi4, hw⟩ := hp
      obtain ⟨v, W5, hr, h⟩ := leaves (.exit id) Sc' W4 hi4 hw
      exact ⟨v, W5, hr, .inr h⟩
    | goto t =>
      obtain ⟨Sc', hi4, hw⟩ := hp
      obtain ⟨v, W5, hr, h⟩ := leaves (.goto t) Sc' W4 hi4 hw
      exact ⟨v, W5, hr, .inr h⟩
    | panic ch => exact hp.elim
    | outgrown => exact hp.elim
  · -- behind the iterator
    rintro e W2 ⟨⟨v, rfl⟩, (⟨S', Sc, rfl, hi, n1, n2, hl, hd⟩ | ⟨k, S', hk, Sc, c, rfl, hi, n1, n2, hl, hd⟩)⟩
    · have he := run_endLoop (P := P) hl (by rw [hrec]; simp)
      have hp : (rec .ready none).pending = none := by rw [hrec]
      rw [hp] at he
      exact ⟨none, _, he, hdone _ Sc _ (Nat.le_refl _) n1 (hI _ _ _ _ hi (SameOn.putObj _ _ _ (fun h => h.elim (fun h => by have := h.1; omega) n2))) ((World.putObj_heap_other (by omega)).trans hd)⟩
    · have he := run_endLoop (P := P) hl (by rw [hrec]; simp)
      have hp : (rec .done (some c)).pending = some c := by rw [hrec]
      rw [hp] at he
      exact ⟨some c, _, he, hstop _ c k Sc _ (Nat.le_refl _) n1 hk (hIx c _ _ _ _ hi (SameOn.putObj _ _ _ (fun h => h.elim (fun h => by have := h.1; omega) n2))) ((World.putObj_heap_other (by omega)).trans hd)⟩
/-! ### AnyV within a body -/
section
variable {ops : Array Oper} {md : Region.Mode} {R : World → World → Prop}
def noDefer (ops : Array Oper) : Bool := ops.all fun o => match o.op with | .defer _ => false | _ => true
theorem noDefer_spec {ops : Array Oper} (h : noDefer ops = true) (i : Nat) (o : Oper) (hi : ops[i]? = some o) : ∀ c, o.op ≠ .defer c := fun c hc => by
  unfold noDefer at h
  rw [Array.all_eq_true] at h
  obtain ⟨hl, rfl⟩ := Array.getElem?_eq_some_iff.1 hi
  have := h i hl
  rw [hc] at this
  cases this
theorem wpOpIn_of_opV {l m i : Nat} {o : Oper} {K : Act → World → Prop} {a : Act} {w : World} {Q : Exit → Act → World → Prop} (hi : ops[i]? = some o) (hd : ∀ c, o.op ≠ .defer c) (hh : opV P ops o (fun v w' => K (a.put o.dst v) w') a w) :
    wpOpIn (Fence.wide.inRound l) m P ops Q i K a w := by
  unfold wpOpIn opV at *
  simp only [hi]
  split
  · rename_i hw
    simp only [hw, if_true] at hh
    refine ⟨fun f _ => trivial, ?_⟩
    rw [Oper.semAt_eq _ _ _ hd]
    generalize (execOp a.eval o).run P w = r at *
    cases r with
    | ok nx w' =>
      cases nx <;> simp only [upV] at hh <;> simp only [Oper.uponIn]
      case enter f args => exact ⟨fun h => by simp [Fence.wide] at h, (callsR l _ hh).mono fun e w'' ⟨v, he, hk⟩ => by subst he; exact hk⟩
      all_goals exact hh
    | halt x w' => simp only [upV] at hh
  · rename_i hw; simp only [hw] at hh; exact ⟨fun f _ => trivial, hh⟩
theorem wpAnyIn_of_anyV {l m : Nat} {L : Act → World → Prop} {Q : Exit → Act → World → Prop} (hL : ∀ a w, L a w → Q .normal a w) (hd : noDefer ops = true) : ∀ (f : Nat) (listed : Array Bool) (a : Act) (w : World), anyV R P md ops L f listed a w → wpAnyIn (Fence.wide.inRound l) m P md ops Q f listed a w
  | 0, _, _, _, h => ⟨h.1, hL _ _ h.2⟩
  | f + 1, listed, a, w, h => ⟨fun h0 => hL _ _ (h.1 h0), fun i hi => by
      obtain ⟨o, ho, hop⟩ := h.2 i hi
      exact wpOpIn_of_opV ho (noDefer_spec hd i o ho) (opV_mono (fun v w' hk => wpAnyIn_of_anyV hL hd f _ _ _ hk.2) hop)⟩
/-- THE LAW, within a body -/
theorem wpIn_region_anyV {l m : Nat} (R : World → World → Prop) {id : Nat} {Q : Exit → Act → World → Prop} {a : Act} {w : World} (hm : P.follows .mixedOrders = true) (n : Nat) (hn : ops.size = n) (hd : noDefer ops = true)
    (h : anyV R P .any ops (fun a w => Q .normal a w) n (Array.replicate n false) a w.drew) : (Code.region id ops true).wpIn (Fence.wide.inRound l) m P Q a w := by
  subst hn
  exact wpIn_region_any hm (wpAnyIn_of_anyV (fun _ _ h => h) hd _ _ _ _ h)
end
end Go.Proofs.Ytdlhnipkhlihjaa
