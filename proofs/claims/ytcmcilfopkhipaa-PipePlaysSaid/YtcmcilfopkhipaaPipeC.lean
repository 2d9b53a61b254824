/- (*pipe.Pipe).waits, Read, Write, Ready. -/
import Derived.Test.YtcmcilfopkhipaaPipeB
import Derived.OwnWalk
namespace Go.Proofs.Ytcmcilfopkhipaa
open Go Go.RowKit Go.Shelf
attribute [local go_sem] Oper.semAt_some upV_value upV_skip upV_enter
set_option linter.unusedVariables false
set_option linter.unnecessarySimpa false
set_option maxHeartbeats 1000000 in
theorem stuck_in (F : Fence) (n : Nat) (hF : F.fn 45) (hro : F.round = none) (p : Option Addr) (w : World) :
    CallsIn F n Try.prog 45 #[.pointer p] w fun e w' =>
      e = .returned (.func (.func 51) #[] #[.pointer (some ⟨w.heap.size, 0, none⟩)]) ∧ w' = w.alloc (.cells #[.pointer p] 24) := by
  refine callsIn_of_wp Try.func45 rfl hF ?_ hro
  simp only [Try.ntmps45, List.size_toArray, List.length_cons, List.length_nil, Nat.reduceAdd, Nat.reduceSub, Array.replicate_succ, Array.replicate_zero, List.push_toArray, List.append_toArray, List.nil_append, List.cons_append]
  gi_wp2
  go_ret
  exact ⟨by simp, rfl⟩
set_option maxRecDepth 100000 in
set_option maxHeartbeats 4000000 in
theorem waits_raw (p g m : Nat) (bs : List Int) (rd wr : Nat) (s : Int) (w : World) (h : IsPipe w p g m bs rd wr) :
    Calls Try.prog 32 #[.pointer (some ⟨p, 0, none⟩), .int .i64 s] w fun e w' => e = .returned (.bool (decide (s ∈ stuckL m bs rd wr))) ∧ Below w.heap.size w w' := by
  have hlt := h.lt
  refine (callsIn_wide (n := 102)).1 ?_
  refine callsIn_of_wp_marks Try.func32 rfl trivial ?_ rfl
  simp only [Try.ntmps32, List.size_toArray, List.length_cons, List.length_nil, Nat.reduceAdd, Nat.reduceSub, Array.replicate_succ, Array.replicate_zero, List.push_toArray, List.append_toArray, List.nil_append, List.cons_append]
  have hch : Fence.wide.fn 45 := trivial
  gi_wp2
  refine wideScope ?_
  gi_wp2
  refine wpIn_label ?_
  gi_wp2_with (gi_at_call 45; refine (stuck_in Fence.wide _ trivial rfl _ _).mono ?_; rintro e w' ⟨rfl, rfl⟩)
  obtain ⟨W3, hW3⟩ : ∃ W3, W3 = ((w.alloc (.cells #[.int .i64 s] 3)).alloc (.cells #[.bool false] 4)).alloc (.cells #[.pointer (some ⟨p, 0, none⟩)] 24) := ⟨_, rfl⟩
  have sz : W3.heap.size = w.heap.size + 3 := by rw [hW3]; simp
  have bW : Below w.heap.size w W3 := by rw [hW3]; exact (((Below.refl _ w).alloc (Nat.le_refl _) _).alloc (by simp) _).alloc (by simp; omega) _
  have bN : Boxed W3 w.heap.size 3 (.int .i64 s) := by rw [hW3]; exact ((Boxed.new w _ _).alloc _).alloc _
  have bO : Boxed W3 (w.heap.size + 1) 4 (.bool false) := by
    rw [hW3]
    have := Boxed.new (w.alloc (.cells #[.int .i64 s] 3)) 4 (.bool false)
    rw [World.size_alloc] at this
    exact this.alloc _
  have bS : Boxed W3 (w.heap.size + 1 + 1) 24 (.pointer (some ⟨p, 0, none⟩)) := by
    rw [hW3]
    have := Boxed.new ((w.alloc (.cells #[.int .i64 s] 3)).alloc (.cells #[.bool false] 4)) 24 (.pointer (some ⟨p, 0, none⟩))
    rw [World.size_alloc, World.size_alloc] at this
    exact this
  rw [← hW3]
  have hP3 : IsPipe W3 p g m bs rd wr := h.below bW
  obtain ⟨xs, hxs⟩ : ∃ xs, xs = stuckL m bs rd wr := ⟨_, rfl⟩
  have hit := stuck1_iter (w.heap.size + 1 + 1) p g m bs rd wr W3 (by omega) bS.cell hP3
  rw [← hxs] at hit
  refine range_law (gf := 51) rfl (enters_of Try.func51 (by kernel_rfl) rfl)
    hit (fun _ => rfl)
    (fun k S A => S = (fun b => b = w.heap.size + 1) ∧ Boxed A w.heap.size 3 (.int .i64 s) ∧ Boxed A (w.heap.size + 1) 4 (.bool false) ∧ (∀ j (hj : j < xs.length), j < k → xs[j] ≠ s) ∧ Below w.heap.size w A)
    (fun c k S A => c = .exit 0 ∧ S = (fun b => b = w.heap.size + 1) ∧ Boxed A (w.heap.size + 1) 4 (.bool true) ∧ s ∈ xs ∧ Below w.heap.size w A)
    (fun b => b = w.heap.size + 1) ?hX ?hI ?hIx ?hlt ?h0
    (fun k => { tmps := #[.pointer (some ⟨p, 0, none⟩), .int .i64 s, undef, .pointer (some ⟨w.heap.size, 0, none⟩), .bool false, .pointer (some ⟨w.heap.size + 1, 0, none⟩),
      .int .i64 k, .pointer (some ⟨p, 0, none⟩), .func (.func 51) #[] #[.pointer (some ⟨w.heap.size + 1 + 1, 0, none⟩)], .int .i64 k, undef, undef, undef, undef], defers := [] }) ?assign ?body ?done ?stop
  case hX =>
    rintro b (rfl | rfl | rfl)
    · exact ⟨by omega, fun h => by omega⟩
    · exact ⟨by omega, fun h => by omega⟩
    · exact ⟨by omega, fun h => by omega⟩
  case hI =>
    rintro k S A A' ⟨rfl, h1, h2, h3, h4⟩ hs
    exact ⟨rfl, (hs.block _ (.inl (by omega))).trans h1, (hs.block _ (.inr rfl)).trans h2, h3, h4.trans (hs.below (fun b hb => .inl (by omega)))⟩
  case hIx =>
    rintro c k S A A' ⟨h1, rfl, h2, h3, h4⟩ hs
    exact ⟨h1, rfl, (hs.block _ (.inr rfl)).trans h2, h3, h4.trans (hs.below (fun b hb => .inl (by omega)))⟩
  case hlt =>
    rintro k S A ⟨rfl, h1, h2, _⟩ b rfl
    exact h2.lt
  case h0 => exact ⟨rfl, bN, bO, fun j hj h => by omega, bW⟩
  case assign =>
    intro l' k A K hK
    gi_wp2
    exact hK
  case body =>
    rintro l' k hk S A ⟨rfl, h1, h2, h3, h4⟩
    have c1 := h1.cell
    have c2 := h2.cell
    have f2 := h2.frozen
    obtain ⟨x, hx⟩ : ∃ x, x = xs[k] := ⟨_, rfl⟩
    rw [← hx]
    have HX := Lib.hid hx
    clear hx
    by_cases he : x = s
    · subst he
      gi_wp2
      refine ⟨_, ⟨rfl, rfl, h2.set _, ?_, h4.setCell (p := ⟨w.heap.size + 1, 0, none⟩) (by show w.heap.size ≤ w.heap.size + 1; omega) _⟩, (Wr.refl (fun b => b = w.heap.size + 1) A).setCell (p := ⟨w.heap.size + 1, 0, none⟩) (.inl rfl) _⟩
      rw [show x = xs[k] from HX]
      exact List.getElem_mem hk
    · have e0 : (x == s) = false := by simpa using he
      gi_wp2
      refine ⟨_, ⟨rfl, h1, h2, fun j hj hjk => ?_, h4⟩, Wr.refl _ A⟩
      by_cases e : j = k
      · subst e
        rw [← show x = xs[j] from HX]; exact he
      · exact h3 j hj (by omega)
  case done =>
    rintro D S A hD hS ⟨rfl, h1, h2, h3, h7⟩ hK
    have c2 := h2.cell
    gi_wp2
    refine ⟨by simp, .inl ⟨_, _, rfl, run_takeDeferred hK, ?_⟩⟩
    have hno : s ∉ xs := fun hm => by
      obtain ⟨j, hj, e⟩ := List.getElem_of_mem hm
      exact h3 j hj hj e
    refine ⟨.bool false, by simp [results, Try.results32, go_sem], by rw [decide_eq_false (hxs ▸ hno)], h7.trans (SameOn.below (SameOn.putObj (p := fun b => b < w.heap.size) _ _ _ (by show ¬ D < w.heap.size; omega)) (fun b hb => hb))⟩
  case stop =>
    rintro D c k S A hD hS hk ⟨rfl, rfl, h2, h3, h7⟩ hK
    have c2 := h2.cell
    gi_wp2
    refine ⟨by simp, .inl ⟨_, _, rfl, run_takeDeferred hK, ?_⟩⟩
    refine ⟨.bool true, by simp [results, Try.results32, go_sem], by rw [decide_eq_true (hxs ▸ h3)], h7.trans (SameOn.below (SameOn.putObj (p := fun b => b < w.heap.size) _ _ _ (by show ¬ D < w.heap.size; omega)) (fun b hb => hb))⟩
theorem waits_any (p g m : Nat) (bs : List Int) (rd wr : Nat) (s : Bool) (w : World) (h : IsPipe w p g m bs rd wr) :
    Calls Try.prog 32 #[.pointer (some ⟨p, 0, none⟩), .int .i64 (sideN s)] w fun e w' => e = .returned (.bool (waitsB m bs rd wr s)) ∧ Below w.heap.size w w' := by
  refine (waits_raw p g m bs rd wr (sideN s) w h).mono ?_
  rintro e w' ⟨rfl, hb⟩
  refine ⟨?_, hb⟩
  congr 2
  have := stuck_mem m bs rd wr s
  by_cases hm : sideN s ∈ stuckL m bs rd wr
  · rw [decide_eq_true hm, this.1 hm]
  · rw [decide_eq_false hm]
    cases hw : waitsB m bs rd wr s
    · rfl
    · exact absurd (this.2 hw) hm
theorem ownsRow_base {W : World} {b b' : Nat} {e : TypeId} {size : Nat} {v : Value} {n : Nat} {xs : List Value} (h : W.ownsRow b e size v n xs) (hb : b' ≤ b) : W.ownsRow b' e size v n xs := by
  refine ⟨h.1, ?_⟩
  rcases h.2 with h | ⟨g, cap, cur, h1, h2, h3⟩
  · exact .inl h
  · exact .inr ⟨g, cap, cur, h1, Nat.le_trans hb h2, h3⟩
/-- what Read answers: bytes, what kind, the error -/
def readR (bs : List Int) (rd wr : Nat) (n : Int) : List Int × Int × Int :=
  if rd = 0 then ([], 0, 90) else if n < 0 then ([], 0, 90) else if n = 0 then ([], 0, 0) else if bs.length = 0 then (if 0 < wr then ([], 1, 0) else ([], 2, 0)) else (bs.take n.toNat, 0, 0)
def readBs (bs : List Int) (rd : Nat) (n : Int) : List Int := if rd = 0 then bs else bs.drop n.toNat
/-- what Write answers -/
def writeR (m : Nat) (bs : List Int) (rd wr : Nat) (len : Nat) : Int × Int × Int :=
  if wr = 0 then (0, 0, 90) else if rd = 0 then (0, 3, 0) else if 0 < len ∧ m - bs.length = 0 then (0, 1, 0) else (((min len (m - bs.length) : Nat) : Int), 0, 0)
def writeBs (m : Nat) (bs : List Int) (rd wr : Nat) (xs : List Int) : List Int := if wr = 0 then bs else if rd = 0 then bs else bs ++ xs.take (m - bs.length)
theorem drop_all (bs : List Int) (n : Int) (h : bs.length = 0 ∨ n ≤ 0) : bs.drop n.toNat = bs := by
  rcases h with h | h
  · rw [List.eq_nil_of_length_eq_zero h]; simp
  · rw [show n.toNat = 0 from by omega]; rfl
section
variable (W : World) (p g m : Nat) (bs : List Int) (rd wr : Nat) (h : IsPipe W p g m bs rd wr)
include h
set_option maxHeartbeats 1000000 in
theorem pread_any (n : Int) : Calls Try.prog 12 #[.pointer (some ⟨p, 0, none⟩), .int .i64 n] W fun e W' =>
    ∃ v, e = .returned (.tuple #[v, .int .i64 (readR bs rd wr n).2.1, .int .i64 (readR bs rd wr n).2.2]) ∧ W'.ownsRow W.heap.size 5 1 v (readR bs rd wr n).1.length ((readR bs rd wr n).1.map (Value.int .u8)) ∧
      IsPipe W' p g m (readBs bs rd n) rd wr ∧ Wr (· = g) (· = g) W W' := by
  have hP := h
  have c0 := h.at_.c0
  have hm : Calls Try.prog 31 #[.pointer (some ⟨p, 0, none⟩), .int .i64 0] W fun e w' => e = .returned (.int .i64 (mayE rd wr false)) ∧ W = w' := may_any W p g m bs rd wr h false
  by_cases h0 : rd = 0
  · subst h0
    rw [show mayE 0 wr false = 90 from rfl] at hm
    go_enter Try.func12, Try.ntmps12
    go_wp2_with (go_at_call 31; refine hm.mono ?_; rintro e w1 ⟨rfl, rfl⟩)
    go_ret3
    exact ⟨_, rfl, World.ownsRow_nil _ _ _ _, hP, Wr.refl _ _⟩
  rw [show mayE rd wr false = 0 from if_neg h0] at hm
  have eb : readBs bs rd n = bs.drop n.toNat := if_neg h0
  rw [eb]
  by_cases hn : n < 0
  · have er : readR bs rd wr n = ([], 0, 90) := by unfold readR; rw [if_neg h0, if_pos hn]
    rw [er, drop_all bs n (.inr (by omega))]
    go_enter Try.func12, Try.ntmps12
    go_wp2_with (go_at_call 31; refine hm.mono ?_; rintro e w1 ⟨rfl, rfl⟩)
    go_ret3
    exact ⟨_, rfl, World.ownsRow_nil _ _ _ _, hP, Wr.refl _ _⟩
  by_cases hn0 : n = 0
  · subst hn0
    have er : readR bs rd wr 0 = ([], 0, 0) := by unfold readR; rw [if_neg h0, if_neg hn, if_pos rfl]
    rw [er, drop_all bs 0 (.inr (by omega))]
    go_enter Try.func12, Try.ntmps12
    go_wp2_with (go_at_call 31; refine hm.mono ?_; rintro e w1 ⟨rfl, rfl⟩)
    go_ret3
    exact ⟨_, rfl, World.ownsRow_nil _ _ _ _, hP, Wr.refl _ _⟩
  have hn1 : (n == 0) = false := by simpa using hn0
  have kw : Calls Try.prog 32 #[.pointer (some ⟨p, 0, none⟩), .int .i64 0] W fun e w' => e = .returned (.bool (waitsB m bs rd wr false)) ∧ Below W.heap.size W w' := waits_any p g m bs rd wr false W h
  by_cases hb0 : bs.length = 0
  · rw [drop_all bs n (.inl hb0)]
    by_cases hw : 0 < wr
    · have er : readR bs rd wr n = ([], 1, 0) := by unfold readR; rw [if_neg h0, if_neg hn, if_neg hn0, if_pos hb0, if_pos hw]
      rw [show waitsB m bs rd wr false = true from by unfold waitsB; simp [hb0, hw]] at kw
      rw [er]
      go_enter Try.func12, Try.ntmps12
      go_wp2_with (first
        | (go_at_call 31; refine hm.mono ?_; rintro e w1 ⟨rfl, rfl⟩)
        | (go_at_call 32; refine kw.mono ?_; rintro e w1 ⟨rfl, hb1⟩))
      go_ret3
      exact ⟨_, rfl, World.ownsRow_nil _ _ _ _, hP.below hb1, Wr.of_below hb1⟩
    · have er : readR bs rd wr n = ([], 2, 0) := by unfold readR; rw [if_neg h0, if_neg hn, if_neg hn0, if_pos hb0, if_neg hw]
      rw [show waitsB m bs rd wr false = false from by unfold waitsB; simp [hw]] at kw
      rw [er]
      go_enter Try.func12, Try.ntmps12
      go_wp2_with (first
        | (go_at_call 31; refine hm.mono ?_; rintro e w1 ⟨rfl, rfl⟩)
        | (go_at_call 32; refine kw.mono ?_; rintro e w1 ⟨rfl, hb1⟩; have d0 := (hP.below hb1).at_.c0; have kl := len_ring w1 g m bs (hP.below hb1).ring; rw [hb0] at kl)
        | (go_at_call 34; refine kl.mono ?_; rintro e w2 ⟨rfl, rfl⟩))
      go_ret3
      exact ⟨_, rfl, World.ownsRow_nil _ _ _ _, hP.below hb1, Wr.of_below hb1⟩
  · have er : readR bs rd wr n = (bs.take n.toNat, 0, 0) := by unfold readR; rw [if_neg h0, if_neg hn, if_neg hn0, if_neg hb0]
    rw [show waitsB m bs rd wr false = false from by unfold waitsB; simp [hb0]] at kw
    rw [er]
    obtain ⟨L, hL⟩ : ∃ L, L = bs.length := ⟨_, rfl⟩
    have hL0 : ((L : Int) == 0) = false := by simp; omega
    go_enter Try.func12, Try.ntmps12
    go_wp2_with (first
      | (go_at_call 31; refine hm.mono ?_; rintro e w1 ⟨rfl, rfl⟩)
      | (go_at_call 32; refine kw.mono ?_; rintro e w1 ⟨rfl, hb1⟩; have hP1 := hP.below hb1; have d0 := hP1.at_.c0; have kl := len_ring w1 g m bs hP1.ring; rw [← hL] at kl; have HL := Lib.hid hL; clear hL)
      | (go_at_call 34; refine kl.mono ?_; rintro e w2 ⟨rfl, rfl⟩)
      | (go_at_call 35; refine (read_ring w1 g m bs n hP1.ring).mono ?_; rintro e w3 ⟨⟨v, rfl, ho, _⟩, hI3, hw3⟩))
    go_ret3
    refine ⟨v, rfl, ?_, ⟨hP1.at_.same (hw3.block p hP1.lt.1 hP1.ne), hI3, hP1.ne, hP1.rd64, hP1.wr64⟩, Wr.after hb1 hw3⟩
    exact ownsRow_base ho hb1.size
set_option maxHeartbeats 1000000 in
theorem pwrite_any (a : Option Addr) (len cap : Nat) (xs : List Int) (hr : Row8 W.heap.size W (.slice a len cap) xs) (hg : ¬ blockOf (.slice a len cap) g) (hs : len ≤ 1000000000000) :
    Calls Try.prog 11 #[.pointer (some ⟨p, 0, none⟩), .slice a len cap] W fun e W' =>
      e = .returned (.tuple #[.int .i64 (writeR m bs rd wr len).1, .int .i64 (writeR m bs rd wr len).2.1, .int .i64 (writeR m bs rd wr len).2.2]) ∧ IsPipe W' p g m (writeBs m bs rd wr xs) rd wr ∧ Wr (· = g) (· = g) W W' := by
  have hP := h
  have c0 := h.at_.c0
  have c1 := h.at_.c1
  have hlen : xs.length = len := hr.1.open.1
  have hm : Calls Try.prog 31 #[.pointer (some ⟨p, 0, none⟩), .int .i64 1] W fun e w' => e = .returned (.int .i64 (mayE rd wr true)) ∧ W = w' := may_any W p g m bs rd wr h true
  by_cases h0 : wr = 0
  · subst h0
    rw [show mayE rd 0 true = 90 from rfl] at hm
    go_enter Try.func11, Try.ntmps11
    go_wp2_with (go_at_call 31; refine hm.mono ?_; rintro e w1 ⟨rfl, rfl⟩)
    go_ret3
    exact ⟨rfl, hP, Wr.refl _ _⟩
  rw [show mayE rd wr true = 0 from if_neg h0] at hm
  by_cases h1 : rd = 0
  · subst h1
    have er : writeR m bs 0 wr len = (0, 3, 0) := by unfold writeR; rw [if_neg h0, if_pos rfl]
    have eb : writeBs m bs 0 wr xs = bs := by unfold writeBs; rw [if_neg h0, if_pos rfl]
    rw [er, eb]
    go_enter Try.func11, Try.ntmps11
    go_wp2_with (go_at_call 31; refine hm.mono ?_; rintro e w1 ⟨rfl, rfl⟩)
    go_ret3
    exact ⟨rfl, hP, Wr.refl _ _⟩
  have e1 : ((rd : Int) == 0) = false := by simpa using h1
  have eb : writeBs m bs rd wr xs = bs ++ xs.take (m - bs.length) := by unfold writeBs; rw [if_neg h0, if_neg h1]
  rw [eb]
  have kw : Calls Try.prog 32 #[.pointer (some ⟨p, 0, none⟩), .int .i64 1] W fun e w' => e = .returned (.bool (waitsB m bs rd wr true)) ∧ Below W.heap.size W w' := waits_any p g m bs rd wr true W h
  have kwr := write_ring W g m bs a len cap xs h.ring hr hg hs
  by_cases hl : 0 < len
  · have t1 : decide ((0 : Int) < (len : Int)) = true := by simp; omega
    by_cases hR : m - bs.length = 0
    · have er : writeR m bs rd wr len = (0, 1, 0) := by unfold writeR; rw [if_neg h0, if_neg h1, if_pos ⟨hl, hR⟩]
      rw [show waitsB m bs rd wr true = true from by unfold waitsB; simp [hR]; omega] at kw
      rw [er, hR, List.take_zero, List.append_nil]
      go_enter Try.func11, Try.ntmps11
      go_wp2_with (first
        | (go_at_call 31; refine hm.mono ?_; rintro e w1 ⟨rfl, rfl⟩)
        | (go_at_call 32; refine kw.mono ?_; rintro e w1 ⟨rfl, hb1⟩))
      go_ret3
      exact ⟨rfl, hP.below hb1, Wr.of_below hb1⟩
    · have er : writeR m bs rd wr len = (((min len (m - bs.length) : Nat) : Int), 0, 0) := by unfold writeR; rw [if_neg h0, if_neg h1, if_neg (fun e => hR e.2)]
      rw [show waitsB m bs rd wr true = false from by unfold waitsB; simp [hR]] at kw
      rw [er]
      obtain ⟨q, hq⟩ : ∃ q, q = min len (m - bs.length) := ⟨_, rfl⟩
      rw [← hq]
      go_enter Try.func11, Try.ntmps11
      go_wp2_with (first
        | (go_at_call 31; refine hm.mono ?_; rintro e w1 ⟨rfl, rfl⟩)
        | (go_at_call 32; refine kw.mono ?_; rintro e w1 ⟨rfl, hb1⟩; have hP1 := hP.below hb1; have d0 := hP1.at_.c0; have kwr1 := write_ring w1 g m bs a len cap xs hP1.ring ((hr.below hb1).mono hb1.size) hg hs; rw [← hq] at kwr1; have HQ := Lib.hid hq; clear hq)
        | (go_at_call 33; refine kwr1.mono ?_; rintro e w3 ⟨rfl, hI3, hw3⟩))
      go_ret3
      exact ⟨rfl, ⟨hP1.at_.same (hw3.block p hP1.lt.1 hP1.ne), hI3, hP1.ne, hP1.rd64, hP1.wr64⟩, Wr.after hb1 hw3⟩
  · have t1 : decide ((0 : Int) < (len : Int)) = false := by simp; omega
    have er : writeR m bs rd wr len = (((min len (m - bs.length) : Nat) : Int), 0, 0) := by unfold writeR; rw [if_neg h0, if_neg h1, if_neg (fun e => hl e.1)]
    rw [er]
    obtain ⟨q, hq⟩ : ∃ q, q = min len (m - bs.length) := ⟨_, rfl⟩
    rw [← hq] at kwr ⊢
    clear hq
    go_enter Try.func11, Try.ntmps11
    go_wp2_with (first
      | (go_at_call 31; refine hm.mono ?_; rintro e w1 ⟨rfl, rfl⟩)
      | (go_at_call 33; refine kwr.mono ?_; rintro e w3 ⟨rfl, hI3, hw3⟩))
    go_ret3
    exact ⟨rfl, ⟨hP.at_.same (hw3.block p hP.lt.1 hP.ne), hI3, hP.ne, hP.rd64, hP.wr64⟩, hw3⟩
/-- what Ready answers -/
theorem ready_any (s : Bool) : Calls Try.prog 23 #[.pointer (some ⟨p, 0, none⟩), .bool s] W fun e W' =>
    e = .returned (.bool (decide (0 < cnt rd wr s) && !waitsB m bs rd wr s)) ∧ Below W.heap.size W W' := by
  obtain ⟨n, hn⟩ : ∃ n, n = sideN s := ⟨_, rfl⟩
  have hs := side_any W s
  have hm := may_any W p g m bs rd wr h s
  have kw := waits_any p g m bs rd wr s W h
  rw [← hn] at hs hm kw
  clear hn
  by_cases h0 : cnt rd wr s = 0
  · rw [show mayE rd wr s = 90 from if_pos h0] at hm
    rw [h0]
    go_enter Try.func23, Try.ntmps23
    go_wp2_with (first
      | (go_at_call 36; refine hs.mono ?_; rintro e w1 ⟨rfl, rfl⟩)
      | (go_at_call 31; refine hm.mono ?_; rintro e w1 ⟨rfl, rfl⟩))
    go_ret
    exact ⟨rfl, Below.refl _ _⟩
  · rw [show mayE rd wr s = 0 from if_neg h0] at hm
    rw [decide_eq_true (by omega : 0 < cnt rd wr s), Bool.true_and]
    go_enter Try.func23, Try.ntmps23
    go_wp2_with (first
      | (go_at_call 36; refine hs.mono ?_; rintro e w1 ⟨rfl, rfl⟩)
      | (go_at_call 31; refine hm.mono ?_; rintro e w1 ⟨rfl, rfl⟩)
      | (go_at_call 32; refine kw.mono ?_; rintro e w1 ⟨rfl, hb1⟩))
    go_ret
    exact ⟨rfl, hb1⟩
end
end Go.Proofs.Ytcmcilfopkhipaa
