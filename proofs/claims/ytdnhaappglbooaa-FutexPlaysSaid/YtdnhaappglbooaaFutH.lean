/- The walk of Wake. -/
import Derived.Test.YtdnhaappglbooaaFutG
namespace Go.Proofs.Ytdnhaappglbooaa
open Go Go.RowKit Go.Shelf
attribute [local go_sem] Oper.semAt_some
set_option linter.unusedVariables false
set_option linter.unnecessarySimpa false
set_option linter.unusedSimpArgs false
set_option maxRecDepth 100000 in
set_option maxHeartbeats 8000000 in
theorem Wake_gen (pt : Option Addr) (k : Ky) (n : Int) (w : World) (K : List Int) (Y : Nat → Prop) (hit : Handed w pt k K Y) (hKl : K.length ≤ 1000000)
    (St : Nat → (Nat → Prop) → World → Prop) (S0 : Nat → Prop) (hS0 : ∀ b, S0 b → b < w.heap.size) (st0 : ∀ W', Below w.heap.size w W' → St 0 S0 W') (hSt : ∀ m S W W', St m S W → SameOn (fun b => b < w.heap.size ∨ S b) W W' → St m S W')
    (hgone : ∀ (m : Nat) (S : Nat → Prop) (W : World) (h : m < (K.take n.toNat).length), St m S W → Calls Try.prog 22 #[.pointer pt, .int .i64 ((K.take n.toNat).getD m 0)] W fun e W' => (∃ v, e = .returned v) ∧ ∃ S', St (m + 1) S' W' ∧ Wr S S' W W') :
    Calls Try.prog 15 #[.pointer pt, aggK k, .int .i64 n] w fun e w' => ∃ v S', e = .returned v ∧ w'.ownsRow w.heap.size 3 1 v (K.take n.toNat).length ((K.take n.toNat).map (Value.int .i64)) ∧ St (K.take n.toNat).length S' w' ∧ Wr S0 S' w w' := by
  obtain ⟨i0, hi, hz0, hz1, hz2⟩ := info_parts info_i64
  obtain ⟨O, hO⟩ : ∃ O, O = K.take n.toNat := ⟨_, rfl⟩
  rw [← hO]
  rw [← hO] at hgone
  have hOl : O.length = min n.toNat K.length := by rw [hO, List.length_take]
  show Calls Try.prog _ #[_, .agg #[.int .i64 k.p, .int .i64 k.f, .int .i64 k.o], _] w _
  refine (callsIn_wide (n := 102)).1 ?_
  refine callsIn_of_wp_marks Try.func15 rfl trivial ?_ rfl
  simp only [Try.ntmps15, List.size_toArray, List.length_cons, List.length_nil, Nat.reduceAdd, Nat.reduceSub, Array.replicate_succ, Array.replicate_zero, List.push_toArray, List.append_toArray, List.nil_append, List.cons_append]
  have hch : Fence.wide.fn 32 := trivial
  have HO := Lib.hid hO
  have HOl := Lib.hid hOl
  clear hO hOl
  gi_wp2
  refine wideScope ?_
  gi_wp2
  refine wpIn_label ?_
  gi_wp2_with (gi_at_call 32; refine (at_in Fence.wide _ trivial rfl _ _ _).mono ?_; rintro e w' ⟨rfl, rfl⟩)
  obtain ⟨W3, hW3⟩ : ∃ W3, W3 = ((((w.alloc (.cells #[.int .i64 k.p, .int .i64 k.f, .int .i64 k.o] 33)).alloc (.cells #[.int .i64 n] 3)).alloc (.cells #[.slice none 0 0] 39)).alloc (.cells #[.pointer pt] 24)).alloc (.cells #[.int .i64 k.p, .int .i64 k.f, .int .i64 k.o] 33) := ⟨_, rfl⟩
  have sz : W3.heap.size = w.heap.size + 5 := by rw [hW3]; simp
  have bW : Below w.heap.size w W3 := by rw [hW3]; exact (((((Below.refl _ w).alloc (Nat.le_refl _) _).alloc (by simp) _).alloc (by simp; omega) _).alloc (by simp; omega) _).alloc (by simp; omega) _
  have bN : Boxed W3 (w.heap.size + 1) 3 (.int .i64 n) := by
    rw [hW3]
    have := Boxed.new (w.alloc (.cells #[.int .i64 k.p, .int .i64 k.f, .int .i64 k.o] 33)) 3 (.int .i64 n)
    rw [World.size_alloc] at this
    exact ((this.alloc _).alloc _).alloc _
  have bO : Boxed W3 (w.heap.size + 1 + 1) 39 (.slice none 0 0) := by
    rw [hW3]
    have := Boxed.new ((w.alloc (.cells #[.int .i64 k.p, .int .i64 k.f, .int .i64 k.o] 33)).alloc (.cells #[.int .i64 n] 3)) 39 (.slice none 0 0)
    rw [World.size_alloc, World.size_alloc] at this
    exact (this.alloc _).alloc _
  have bS : Boxed W3 (w.heap.size + 1 + 1 + 1) 24 (.pointer pt) := by
    rw [hW3]
    have := Boxed.new (((w.alloc (.cells #[.int .i64 k.p, .int .i64 k.f, .int .i64 k.o] 33)).alloc (.cells #[.int .i64 n] 3)).alloc (.cells #[.slice none 0 0] 39)) 24 (.pointer pt)
    rw [World.size_alloc, World.size_alloc, World.size_alloc] at this
    exact this.alloc _
  have bK : W3.heap[w.heap.size + 1 + 1 + 1 + 1]? = some (.cells #[.int .i64 k.p, .int .i64 k.f, .int .i64 k.o] 33) := by
    rw [hW3]
    have := World.alloc_heap_new ((((w.alloc (.cells #[.int .i64 k.p, .int .i64 k.f, .int .i64 k.o] 33)).alloc (.cells #[.int .i64 n] 3)).alloc (.cells #[.slice none 0 0] 39)).alloc (.cells #[.pointer pt] 24)) (.cells #[.int .i64 k.p, .int .i64 k.f, .int .i64 k.o] 33)
    rw [World.size_alloc, World.size_alloc, World.size_alloc, World.size_alloc] at this
    exact this
  obtain ⟨hYl, hit⟩ := hit
  have hit := hit (w.heap.size + 1 + 1 + 1) (w.heap.size + 1 + 1 + 1 + 1) W3 bW (by omega) (by omega) bS.cell bK
  rw [← hW3]
  clear hW3
  have hn0 : ∀ j : Nat, j ≤ K.length → ((j : Int) ≤ n ∨ j = 0) → (n ≤ j ∨ j = K.length) → K.take j = O := fun j hj h1 h2 => by
    rw [show O = K.take n.toNat from HO]
    rcases h2 with h2 | h2
    · rw [show n.toNat = j by omega]
    · subst h2
      rw [List.take_length]
      rcases h1 with h1 | h1
      · rw [List.take_of_length_le (by omega)]
      · rw [List.eq_nil_of_length_eq_zero h1]; simp
  refine range_law (gf := 36) rfl (enters_of Try.func36 (by kernel_rfl) rfl)
    hit (fun _ => rfl)
    (fun j S A => ∃ v, S = (fun b => b = w.heap.size + 1 + 1 ∨ v.ownBlock = some b) ∧ Boxed A (w.heap.size + 1) 3 (.int .i64 n) ∧ Boxed A (w.heap.size + 1 + 1) 39 v ∧ A.ownsRow w.heap.size 3 1 v j ((K.take j).map (Value.int .i64)) ∧ ((j : Int) ≤ n ∨ j = 0) ∧ (∀ b, v.ownBlock = some b → w.heap.size + 5 ≤ b) ∧ w.heap.size + 5 ≤ A.heap.size ∧ Below w.heap.size w A)
    (fun c j S A => c = .exit 0 ∧ ∃ v, S = (fun b => b = w.heap.size + 1 + 1 ∨ v.ownBlock = some b) ∧ Boxed A (w.heap.size + 1 + 1) 39 v ∧ A.ownsRow w.heap.size 3 1 v O.length (O.map (Value.int .i64)) ∧ Below w.heap.size w A)
    (fun b => b = w.heap.size + 1 + 1) ?hX ?hI ?hIx ?hlt ?h0
    (fun j => { tmps := #[.pointer pt, .agg #[.int .i64 k.p, .int .i64 k.f, .int .i64 k.o], .int .i64 n, undef, .pointer (some ⟨w.heap.size, 0, none⟩), .pointer (some ⟨w.heap.size + 1, 0, none⟩), .slice none 0 0, .pointer (some ⟨w.heap.size + 1 + 1, 0, none⟩),
      .int .i64 (j : Int), .int .i64 (K.getD j 0), undef, undef, .pointer pt, .agg #[.int .i64 k.p, .int .i64 k.f, .int .i64 k.o], .func (.func 36) #[] #[.pointer (some ⟨w.heap.size + 1 + 1 + 1, 0, none⟩), .pointer (some ⟨w.heap.size + 1 + 1 + 1 + 1, 0, none⟩)],
      .int .i64 (j : Int), .int .i64 (K.getD j 0), undef, undef, undef, undef, undef, undef, undef, undef, undef, undef, undef, undef, undef, undef, undef, undef, undef, undef], defers := [] }) ?assign ?body ?done ?stop
  case hX =>
    rintro b (rfl | rfl | hb)
    · exact ⟨by omega, fun h => by omega⟩
    · exact ⟨by omega, fun h => by omega⟩
    · have := hYl b hb
      exact ⟨by omega, fun h => by omega⟩
  case hI =>
    rintro j S A A' ⟨v, rfl, h0, h1, h3, h5, h8, h9, h6⟩ hs
    exact ⟨v, rfl, (hs.block _ (.inl (by omega))).trans h0, (hs.block _ (.inr (.inl rfl))).trans h1, ownsRow_same h3 (fun b hb => hs.block b (.inr (.inr hb))), h5, h8, Nat.le_trans h9 hs.size, h6.trans (hs.below (fun b hb => .inl (by omega)))⟩
  case hIx =>
    rintro c j S A A' ⟨hc, v, rfl, h1, h3, h6⟩ hs
    exact ⟨hc, v, rfl, (hs.block _ (.inr (.inl rfl))).trans h1, ownsRow_same h3 (fun b hb => hs.block b (.inr (.inr hb))), h6.trans (hs.below (fun b hb => .inl (by omega)))⟩
  case hlt =>
    rintro j S A ⟨v, rfl, h0, h1, h3, h6⟩ b (rfl | hb)
    · exact h1.lt
    · exact (h3.lt b hb).2
  case h0 =>
    refine ⟨.slice none 0 0, ?_, bN, bO, World.ownsRow_nil _ _ _ _, .inr rfl, fun b hb => by simp [Value.ownBlock] at hb, by omega, bW⟩
    funext b; simp [Value.ownBlock]
  case assign =>
    intro l' j A K' hK'
    gi_wp2
    exact hK'
  case body =>
    rintro l' n1 hn1 S A ⟨v, rfl, h0, h1, h3, h5, h8, h9, h6⟩
    rw [show (List.range K.length)[n1] = n1 from by simp]
    have hn' : n1 < K.length := by simpa using hn1
    obtain ⟨x, hx⟩ : ∃ x, x = K.getD n1 0 := ⟨_, rfl⟩
    rw [← hx]
    have c0 := h0.cell
    have c1 := h1.cell
    have hsA := h6.size
    by_cases hge : (n1 : Int) ≥ n
    · have t1 : decide ((n1 : Int) ≥ n) = true := decide_eq_true hge
      have e1 := hn0 n1 (by omega) h5 (.inl hge)
      have e2 : O.length = n1 := by rw [← e1, List.length_take]; omega
      rw [e1] at h3
      have H3 := Lib.hid h3
      clear hge h3 e1
      gi_wp2
      exact ⟨_, ⟨rfl, v, rfl, h1, by rw [e2]; exact H3, h6⟩, Wr.refl _ _⟩
    have t1 : decide ((n1 : Int) ≥ n) = false := decide_eq_false hge
    have hlt1 : ((n1 + 1 : Nat) : Int) ≤ n := by omega
    have hcn : ∀ j u, [Value.int .i64 x][j]? = some u → (A.alloc (.cells #[.int .i64 x] 3)).cell? ((⟨A.heap.size, 0, none⟩ : Addr).add j) = some u := cell_one_new _ _ _
    have HX := Lib.hid hx
    have HN := Lib.hid hcn
    clear hx hcn
    gi_wp2_with (gi_at_builtin; refine held ?_)
    unfold Held
    refine wpListIn_append_own_at _ rfl _ _ 39 rfl w.heap.size 3 i0 (.int .i64 0) 1 8 Try.underlying39 hi hz0 hz1 hz2 rfl (by decide) v n1 _ rfl (h3.alloc _) ⟨A.heap.size, 0, none⟩ 1 1 [.int .i64 x] rfl rfl HN (by simp [Value.oneCell']) (by simp only [maxLen]; omega) (by omega) (by rw [World.size_alloc]; omega) ?_
    intro v' w1 hown' hgrow hnil hv
    obtain ⟨g', cap', rfl⟩ := ownsRow_succ hown'
    obtain ⟨hv1, hv2, hr2, hk2, hb2⟩ := h1.appended (by decide) h3 hsA (by omega) hown' hgrow
    have hc1 := hv1.cell
    have hf1 := hv1.frozen
    gi_wp2
    have hx : x = K.getD n1 0 := HX
    have wrA := ((Wr.refl (fun b => b = w.heap.size + 1 + 1 ∨ v.ownBlock = some b) A).alloc (.cells #[.int .i64 x] 3)).grown hgrow (fun b hb => .inl (.inr hb))
    have wrB := wrA.setCell (p := ⟨w.heap.size + 1 + 1, 0, none⟩) (.inl (.inl rfl)) (.slice (some ⟨g', 0, none⟩) (n1 + 1) cap')
    have lt1 : w.heap.size + 1 < A.heap.size := h0.lt
    have nN : ¬ (fun b => b = w.heap.size + 1 + 1 ∨ v.ownBlock = some b) (w.heap.size + 1) := by
      rintro (h | h)
      · omega
      · have := h8 _ h; omega
    refine ⟨fun b => b = w.heap.size + 1 + 1 ∨ (Value.slice (some ⟨g', 0, none⟩) (n1 + 1) cap').ownBlock = some b, ⟨_, rfl, (wrB.block _ lt1 nN).trans h0, hv2, ?_, .inl hlt1, ?_, Nat.le_trans h9 wrB.size, h6.trans hb2⟩, ?_⟩
    · rw [List.take_succ_eq_append_getElem hn', List.map_append, ← show x = K[n1] from hx.trans (by simp [List.getD, hn'])]; exact hr2
    · intro b hb
      rcases hv with hv | hv
      · rw [hv] at hb; exact h8 b hb
      · rw [hv, World.size_alloc] at hb
        injection hb with hb
        omega
    · refine wrB.to ?_
      rintro b (rfl | hb)
      · exact .inl (.inl rfl)
      · rcases hv with hv | hv
        · exact .inl (.inr (by rw [← hv]; exact hb))
        · rw [hv, World.size_alloc] at hb
          injection hb with hb
          exact .inr (by omega)
  case' done =>
    rintro D S A hD hS ⟨v, rfl, h0, h1, h3, h5, _, _, h7⟩ hK
    rw [List.length_range] at h3 h5
    have e1 := hn0 K.length (Nat.le_refl _) h5 (.inr rfl)
    rw [List.take_length] at h3 e1
    rw [e1] at h3
    clear h5 h0
  case' stop =>
    rintro D c j S A hD hS hk ⟨rfl, v, rfl, h1, h3, h7⟩ hK
    clear hk
  all_goals
    have c2 := h1.cell
    obtain ⟨a, c, rfl⟩ : ∃ a c, v = .slice a O.length c := by
      rcases h3.2 with ⟨h1, h2⟩ | ⟨g, cap, cur, h1, _⟩
      · exact ⟨none, 0, by rw [h1, h2]⟩
      · exact ⟨_, _, h1⟩
    have hrow := (RowI.of_own h3).2
    obtain ⟨_, gb, goff, hopen, hcells⟩ := hrow.open
    have hrl := hrow.lt
    have hlo : ∀ b, (Value.slice a O.length c).ownBlock = some b → w.heap.size ≤ b := fun b hb => (h3.lt b hb).1
    have hA7 := h7.size
    have hlt3 : w.heap.size + 1 + 1 < A.heap.size := h1.lt
    have hDl : D < A.heap.size := (Array.getElem?_eq_some_iff.1 hK).1
    have hOm : O.length ≤ 1000000 := by rw [show O.length = min n.toNat K.length from HOl]; omega
    try simp only [Exit.inBlock, Exit.then]
    gi_wp2
    gi_loopw [11, 26] (fun _ i wr => ∃ (m : Nat) (S : Nat → Prop), i = .int .i64 (m : Int) ∧ m ≤ O.length ∧ St m S wr ∧ Wr S0 S A wr) (fun _ i _ => O.length - (intOf i).toNat)
    case atStart => exact ⟨0, S0, rfl, Nat.zero_le _, st0 A h7, Wr.refl _ _⟩
    case round =>
      obtain ⟨m, S, rfl, hm, hst, hw⟩ := hrel
      have hgS : 0 < O.length → ¬ S0 gb ∧ gb < A.heap.size := fun h0 => by
        obtain ⟨ha, hb, _, _⟩ := hopen h0
        subst ha
        exact ⟨fun h => by have := hS0 gb h; have := hlo gb rfl; omega, hb⟩
      by_cases hlm : m < O.length
      · have t1 : decide ((m : Int) < ((O.length : Nat) : Int)) = true := by simp; omega
        obtain ⟨n1, n2⟩ := hgS (by omega)
        obtain ⟨rfl, _, hle, hcap⟩ := hopen (by omega)
        have hcm : wr.cell? ⟨gb, goff + m, none⟩ = some (.int .i64 (O.getD m 0)) := cell_same (p := ⟨gb, goff + m, none⟩) (hw.block gb n2 n1) (hcells m hlm)
        have hg := hgone m S wr hlm hst
        obtain ⟨x, hx⟩ : ∃ x, x = O.getD m 0 := ⟨_, rfl⟩
        rw [← hx] at hcm hg
        clear hx hcells hrl hlo hopen hgS
        gi_wp2
        refine ⟨trivial, (callsIn_wide.2 hg).mono ?_⟩
        rintro e W4 ⟨⟨v4, rfl⟩, S', hst', hw4⟩
        gi_wp2
        have hw' := hw.trans hw4
        go_roundw
        case rel => exact ⟨m + 1, S', rfl, by omega, hst', hw'⟩
        case measure => simp [intOf]; omega
      · have t1 : decide ((m : Int) < ((O.length : Nat) : Int)) = false := by simp; omega
        obtain rfl : m = O.length := by omega
        have h1w : Boxed wr (w.heap.size + 1 + 1) 39 (.slice a O.length c) := (hw.block _ hlt3 (fun h => by have := hS0 _ h; omega)).trans h1
        have c3 := h1w.cell
        have hKw := (hw.block D hDl (fun h => by have := hS0 _ h; omega)).trans hK
        gi_wp2
        refine ⟨by simp, .inl ⟨_, _, rfl, run_takeDeferred hKw, ?_⟩⟩
        have hSD : ¬ S D := fun h => (hw.new D h).elim (fun h => by have := hS0 _ h; omega) (fun h => by omega)
        refine ⟨.slice a O.length c, by simp [results, Try.results15, go_sem], .slice a O.length c, S, rfl, ?_, ?_, ?_⟩
        · refine ownsRow_same h3 fun b hb => ?_
          have hbD : b ≠ D := fun e => hS (by subst e; exact .inr hb)
          rw [World.putObj_heap_other hbD]
          exact hw.block b (h3.lt b hb).2 (fun h => by have := hS0 _ h; have := hlo b hb; omega)
        · refine hSt _ _ _ _ hst (SameOn.putObj _ _ _ ?_)
          rintro (h | h)
          · omega
          · exact hSD h
        · have hw' := (Wr.of_below (S := S0) h7).trans hw
          refine ⟨hw'.os, hw'.tape, hw'.output, by have := hw'.size; simpa using this, fun b hb hs => ?_, hw'.new⟩
          have hbD : b ≠ D := by omega
          rw [World.putObj_heap_other hbD]
          exact hw'.block b hb hs
/-- so many gone, one by one -/
def goneAll (ws : List Wt) : List Int → List Wt
  | [] => ws
  | x :: r => goneAll (ws.eraseP (isP x)) r
theorem goneAll_snoc (ws : List Wt) (l : List Int) (x : Int) : goneAll ws (l ++ [x]) = (goneAll ws l).eraseP (isP x) := by
  induction l generalizing ws with
  | nil => rfl
  | cons y r ih => simp only [List.cons_append, goneAll, ih]
theorem goneAll_len (ws : List Wt) (l : List Int) : (goneAll ws l).length ≤ ws.length := by
  induction l generalizing ws with
  | nil => exact Nat.le_refl _
  | cons y r ih => exact Nat.le_trans (ih _) (List.length_eraseP_le)
/-- Wake: who is woken -/
def wakeO (ws : List Wt) (k : Ky) (n : Int) : List Int := (atL ws k).take n.toNat
theorem wake_any (p : Nat) (v : Value) (ws : List Wt) (k : Ky) (n : Int) (w : World) (h : FutAt w p v ws) (hsm : ws.length ≤ 500000) :
    Calls Try.prog 15 #[.pointer (some ⟨p, 0, none⟩), aggK k, .int .i64 n] w fun e w' => ∃ u v', e = .returned u ∧ w'.ownsRow w.heap.size 3 1 u (wakeO ws k n).length ((wakeO ws k n).map (Value.int .i64)) ∧ FutAt w' p v' (goneAll ws (wakeO ws k n)) ∧ Wr (SFut p v) (SFut p v') w w' := by
  refine (Wake_gen (some ⟨p, 0, none⟩) k n w (atL ws k) (SFut p v) (handed_fut k h (by omega)) (Nat.le_trans (atL_len ws k) (by omega)) (fun m S W => ∃ v', FutAt W p v' (goneAll ws ((wakeO ws k n).take m)) ∧ S = SFut p v') (SFut p v) h.lt
    (fun W' hb => ⟨v, by simpa [goneAll] using h.below hb, rfl⟩) (fun m S W W' ⟨v', h1, h2⟩ hs => ⟨v', h1.same fun b hb => hs.block b (.inr (by rw [h2]; exact hb)), h2⟩) ?_).mono ?_
  · rintro m S W hm ⟨v', h1, rfl⟩
    have hm' : m < (wakeO ws k n).length := hm
    refine (gone_any p v' _ _ W h1 (Nat.le_trans (goneAll_len _ _) hsm)).mono ?_
    rintro e W' ⟨v2, rfl, h2, hw⟩
    refine ⟨⟨_, rfl⟩, _, ⟨v2, ?_, rfl⟩, hw⟩
    rw [List.take_succ_eq_append_getElem hm', goneAll_snoc]
    have e1 : (List.take n.toNat (atL ws k)).getD m 0 = (wakeO ws k n)[m] := by
      show (wakeO ws k n).getD m 0 = _
      simp [List.getD, hm']
    rwa [e1] at h2
  · rintro e w' ⟨u, S', rfl, ho, ⟨v', h1, rfl⟩, hw⟩
    refine ⟨u, v', rfl, ho, ?_, hw⟩
    rwa [show (List.take n.toNat (atL ws k)).length = (wakeO ws k n).length from rfl, List.take_length] at h1
theorem wake_nil (k : Ky) (n : Int) (w : World) :
    Calls Try.prog 15 #[.pointer none, aggK k, .int .i64 n] w fun e w' => ∃ u, e = .returned u ∧ w'.ownsRow w.heap.size 3 1 u 0 [] ∧ Below w.heap.size w w' := by
  refine (Wake_gen none k n w [] (fun _ => False) (handed_nil w k) (Nat.zero_le _) (fun m S W => S = fun _ => False) (fun _ => False) (fun _ h => h.elim) (fun W' hb => rfl) (fun m S W W' h hs => h) ?_).mono ?_
  · intro m S W hm
    simp at hm
  · rintro e w' ⟨u, S', rfl, ho, rfl, hw⟩
    refine ⟨u, rfl, by simpa using ho, ⟨hw.os, hw.tape, hw.output, hw.size, fun b hb => hw.block b hb (fun h => h)⟩⟩
end Go.Proofs.Ytdnhaappglbooaa
