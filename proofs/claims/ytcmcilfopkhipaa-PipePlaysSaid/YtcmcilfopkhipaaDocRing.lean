/- The document's ring (carryallref08): Of, Write, Peek, Read. -/
import Derived.Test.YtcmcilfopkhipaaRingBase
import Derived.Test.YtcmcilfopkhipaaRowSlice
import Derived.Test.YtcmcilfopkhipaaAppendRow
namespace Go.Proofs.Ytcmcilfopkhipaa
open Go Go.RowKit
set_option linter.unusedVariables false
set_option linter.unnecessarySimpa false
/-- THE DOCUMENT's RING in the block d -/
def DocAt (W : World) (d : Nat) (c : Int) (v : Value) : Prop := W.heap[d]? = some (.cells #[.int .i64 c, v] 63 (0, 0))
def IsDoc (W : World) (n₀ n₁ d : Nat) (c : Nat) (bs : List Int) : Prop := n₀ ≤ d ∧ bs.length ≤ c ∧ c ≤ 64 ∧ (∀ z ∈ bs, 0 ≤ z ∧ z ≤ 255) ∧ ∃ v, DocAt W d c v ∧ W.ownsRow n₁ 5 1 v bs.length (bs.map (Value.int .u8))
section
variable {W : World} {d : Nat} {c : Int} {v : Value}
theorem DocAt.cell (h : DocAt W d c v) (i : Nat) (x : Value) (hx : (#[.int .i64 c, v] : Array Value)[i]? = some x) : W.cell? ⟨d, i, none⟩ = some x := by
  rw [cell_of_row W d i _ _ _ h]; exact hx
theorem DocAt.frozen (h : DocAt W d c v) (i : Nat) : W.frozen? ⟨d, i, none⟩ = false := by
  unfold World.frozen?
  rw [show W.heap[(⟨d, i, none⟩ : Addr).block]? = _ from h]
  simp
theorem DocAt.lt (h : DocAt W d c v) : d < W.heap.size := (Array.getElem?_eq_some_iff.1 h).1
theorem DocAt.set (h : DocAt W d c v) (v' : Value) : DocAt (W.setCell ⟨d, 1, none⟩ v') d c v' := by
  obtain ⟨hlt, hk⟩ := Array.getElem?_eq_some_iff.1 h
  show (W.heap.modify d _)[d]? = _
  rw [Array.getElem?_eq_getElem (by rw [Array.size_modify]; exact hlt), Array.getElem_modify_self, hk]
  rfl
theorem DocAt.same {B : World} (h : DocAt W d c v) (hs : B.heap[d]? = W.heap[d]?) : DocAt B d c v := hs.trans h
/-- a row of bytes lies in no block of another type -/
theorem own_other {n₀ n b : Nat} {xs : List Value} {cs : Array Value} {t : TypeId} {fr : Nat × Nat} (h : W.ownsRow n₀ 5 1 v n xs) (hb : W.heap[b]? = some (.cells cs t fr)) (ht : t ≠ 5) : v.ownBlock ≠ some b := fun e => by
  rcases h.2 with ⟨rfl, _⟩ | ⟨g, cap, cur, rfl, _, h2, _⟩
  · cases e
  · have : g = b := by simpa [Value.ownBlock] using e
    subst this
    rw [hb] at h2
    injection h2 with h2
    injection h2 with _ h2
    exact ht h2
end
section
variable {W : World} {n₀ n₁ d c : Nat} {bs : List Int}
theorem IsDoc.lt (h : IsDoc W n₀ n₁ d c bs) : d < W.heap.size := by obtain ⟨_, _, _, _, v, h, _⟩ := h; exact h.lt
theorem IsDoc.below {B : World} (h : IsDoc W n₀ n₁ d c bs) (hb : Below W.heap.size W B) : IsDoc B n₀ n₁ d c bs := by
  obtain ⟨h1, h2, h3, h4, v, h5, h6⟩ := h
  exact ⟨h1, h2, h3, h4, v, h5.same (hb.block _ h5.lt), ownsRow_same h6 fun b hx => hb.block _ (h6.lt b hx).2⟩
/-- blocks of another type may be written -/
theorem IsDoc.wr {S S' : Nat → Prop} {B : World} (h : IsDoc W n₀ n₁ d c bs) (hw : Wr S S' W B) (hS : ∀ b, S b → b ≠ d ∧ ∃ cs t fr, W.heap[b]? = some (.cells cs t fr) ∧ t ≠ 5) : IsDoc B n₀ n₁ d c bs := by
  obtain ⟨h1, h2, h3, h4, v, h5, h6⟩ := h
  refine ⟨h1, h2, h3, h4, v, h5.same (hw.block _ h5.lt (fun e => (hS _ e).1 rfl)), ownsRow_same h6 fun b hx => hw.block _ (h6.lt b hx).2 (fun e => ?_)⟩
  obtain ⟨_, cs, t, fr, hb, ht⟩ := hS _ e
  exact own_other h6 hb ht hx
end
theorem ownsRow_base2 {W : World} {b b' : Nat} {e : TypeId} {size : Nat} {v : Value} {n : Nat} {xs : List Value} (h : W.ownsRow b e size v n xs) (hb : b' ≤ b) : W.ownsRow b' e size v n xs := by
  refine ⟨h.1, ?_⟩
  rcases h.2 with h | ⟨g, cap, cur, h1, h2, h3⟩
  · exact .inl h
  · exact .inr ⟨g, cap, cur, h1, Nat.le_trans hb h2, h3⟩
theorem IsDoc.mono {W : World} {n₀ n₁ n₂ d c : Nat} {bs : List Int} (h : IsDoc W n₀ n₁ d c bs) (hn : n₂ ≤ n₁) : IsDoc W n₀ n₂ d c bs := by
  obtain ⟨h1, h2, h3, h4, v, h5, h6⟩ := h
  exact ⟨h1, h2, h3, h4, v, h5, ownsRow_base2 h6 hn⟩
/-- a block below the row's may be written -/
theorem IsDoc.wrLow {W B : World} {n₀ n₁ d c : Nat} {bs : List Int} {S S' : Nat → Prop} (h : IsDoc W n₀ n₁ d c bs) (hw : Wr S S' W B) (hd : ¬ S d) (hS : ∀ b, S b → b < n₁) : IsDoc B n₀ n₁ d c bs := by
  obtain ⟨h1, h2, h3, h4, v, h5, h6⟩ := h
  exact ⟨h1, h2, h3, h4, v, h5.same (hw.block _ h5.lt hd), ownsRow_same h6 fun b hx => hw.block _ (h6.lt b hx).2 (fun e => by have := hS b e; have := (h6.lt b hx).1; omega)⟩
theorem grown_below {n : Nat} {A B C : World} {r : Option Nat} (h : Below n A B) (hg : B.grownBy C r) (hn : n ≤ B.heap.size) (hr : ∀ b, r = some b → n ≤ b) : Below n A C := h.grown hg hn hr
/-- what Of answers -/
def DocOfPost (w : World) (c : Int) (len : Nat) (xs : List Int) (e : Ending) (w' : World) : Prop := Below w.heap.size w w' ∧
  ((1 ≤ c ∧ c ≤ 64 ∧ (len : Int) ≤ c ∧ ∃ d, e = .returned (.tuple #[.pointer (some ⟨d, 0, none⟩), .int .i64 0]) ∧ IsDoc w' w.heap.size w.heap.size d c.toNat xs) ∨
   (¬ (1 ≤ c ∧ c ≤ 64 ∧ (len : Int) ≤ c) ∧ e = .returned (.tuple #[.pointer none, .int .i64 80])))
set_option maxRecDepth 100000 in
set_option maxHeartbeats 2000000 in
theorem docOf_any (c : Int) (a : Option Addr) (len cap : Nat) (xs : List Int) (w : World) (hr : Row8 w.heap.size w (.slice a len cap) xs) (hs : len ≤ 1000000000000) :
    Calls Try.prog 42 #[.int .i64 c, .slice a len cap] w (DocOfPost w c len xs) := by
  obtain ⟨i0, hi, hz0, hz1, hz2⟩ := info_parts info_u8
  have hlen := hr.1.open.1
  go_enter Try.func42, Try.ntmps42
  by_cases h1 : c < 1
  · have t1 : decide (c < 1) = true := by simpa using h1
    go_wp2
    go_ret2
    exact ⟨Below.refl _ _, .inr ⟨by omega, rfl⟩⟩
  have t1 : decide (c < 1) = false := by simpa using h1
  by_cases h2 : 64 < c
  · have t2 : decide (64 < c) = true := by simpa using h2
    go_wp2
    go_ret2
    exact ⟨Below.refl _ _, .inr ⟨by omega, rfl⟩⟩
  have t2 : decide (64 < c) = false := by simpa using h2
  by_cases h3 : c < (len : Int)
  · have t3 : decide (c < (len : Int)) = true := by simpa using h3
    go_wp2
    go_ret2
    exact ⟨Below.refl _ _, .inr ⟨by omega, rfl⟩⟩
  have t3 : decide (c < (len : Int)) = false := by simpa using h3
  obtain ⟨W1, hW1⟩ : ∃ W1, W1 = w.alloc (.cells #[.int .i64 c, .slice none 0 0] 63) := ⟨_, rfl⟩
  have hD : DocAt W1 w.heap.size c (.slice none 0 0) := by rw [hW1]; exact World.alloc_heap_new w _
  have b1 : Below w.heap.size w W1 := by rw [hW1]; exact (Below.refl _ w).alloc (Nat.le_refl _) _
  have s1 : w.heap.size < W1.heap.size := hD.lt
  go_wp2_with (at_builtin; refine held ?_)
  unfold Held
  rw [← hW1]
  refine wpList_append_row rfl _ _ 22 rfl w.heap.size 5 i0 Try.underlying22 hi hz0 hz1 hz2 (.slice none 0 0) 0 [] rfl (World.ownsRow_nil _ _ _ _) a len cap w.heap.size xs rfl (hr.1.below b1) (by omega) b1.size ?_
  intro v' w2 hown hgrow hv
  rw [Nat.zero_add, List.nil_append] at hown
  have hD2 : DocAt w2 w.heap.size c (.slice none 0 0) := hD.same (hgrow.block _ s1 (by simp [Value.ownBlock]))
  have b2 : Below w.heap.size w w2 := b1.grown hgrow b1.size (by simp [Value.ownBlock])
  have c1 := hD2.cell 1 _ rfl
  have f1 := hD2.frozen 1
  have hne : v'.ownBlock ≠ some w.heap.size := by
    rcases hv with hv | hv
    · rw [hv]; simp [Value.ownBlock]
    · rw [hv]; intro e; injection e with e; omega
  obtain ⟨va, vc, rfl, _⟩ := ownsRow_slice hown
  clear hW1
  go_wp2
  go_ret2
  refine ⟨b2.setCell (p := ⟨w.heap.size, 1, none⟩) (Nat.le_refl _) _, .inl ⟨by omega, by omega, by omega, w.heap.size, rfl, Nat.le_refl _, by omega, by omega, hr.2, .slice va len vc, ?_, ?_⟩⟩
  · have := hD2.set (.slice va len vc)
    rw [show ((c.toNat : Nat) : Int) = c from by omega]
    exact this
  · rw [hlen]
    exact ownsRow_same hown fun b hb => Below.heap_setCell _ ⟨w.heap.size, 1, none⟩ _ b (fun e => hne (by rw [hb, e]))
set_option maxRecDepth 100000 in
set_option maxHeartbeats 4000000 in
theorem docWrite_any (W : World) (n₀ n₁ d c : Nat) (bs : List Int) (a : Option Addr) (len cap : Nat) (xs : List Int) (h : IsDoc W n₀ n₁ d c bs) (hr : Row8 W.heap.size W (.slice a len cap) xs) (hs : len ≤ 1000000) :
    Calls Try.prog 43 #[.pointer (some ⟨d, 0, none⟩), .slice a len cap] W fun e W' =>
      e = .returned (.int .i64 ((min len (c - bs.length) : Nat) : Int)) ∧ IsDoc W' n₀ W.heap.size d c (bs ++ xs.take (c - bs.length)) ∧ Wr (· = d) (· = d) W W' := by
  obtain ⟨i0, hi, hz0, hz1, hz2⟩ := info_parts info_u8
  obtain ⟨g1, g2, g3, g4, v, hD, hown⟩ := h
  have c0 := hD.cell 0 _ rfl
  have c1 := hD.cell 1 _ rfl
  have hdl := hD.lt
  obtain ⟨hlen, b, off, hopen, hc⟩ := hr.1.open
  have hrv := (RowI.of_own hown).2
  obtain ⟨va, vc, rfl, _⟩ := ownsRow_slice hown
  go_enter Try.func43, Try.ntmps43
  go_wp2_with (at_builtin; refine held ?_)
  unfold Held
  refine wpList_append_row rfl _ _ 22 rfl W.heap.size 5 i0 Try.underlying22 hi hz0 hz1 hz2 (.slice none 0 0) 0 [] rfl (World.ownsRow_nil _ _ _ _) va bs.length vc W.heap.size bs rfl hrv (by omega) (Nat.le_refl _) ?_
  intro l w1 hl hgrow hlv
  rw [Nat.zero_add, List.nil_append] at hl
  have b1 : Below W.heap.size W w1 := (Below.refl _ W).grown hgrow (Nat.le_refl _) (by simp [Value.ownBlock])
  have hD1 : DocAt w1 d c (.slice va bs.length vc) := hD.same (b1.block _ hdl)
  obtain ⟨la, lc, rfl, _⟩ := ownsRow_slice hl
  clear hgrow hlv c0 c1 hrv
  go_wp2_with fail
  go_loopw [5, 6, 7] (fun nn lv i wr => ∃ k : Nat, i = .int .i64 (k : Int) ∧ nn = .int .i64 (k : Int) ∧ k ≤ len ∧ bs.length + k ≤ c ∧ Below W.heap.size W wr ∧ wr.ownsRow W.heap.size 5 1 lv (bs.length + k) ((bs ++ xs.take k).map (Value.int .u8))) (fun _ _ i _ => len - (intOf i).toNat)
  case atStart => exact ⟨0, rfl, rfl, Nat.zero_le _, g2, b1, by simpa using hl⟩
  case round =>
    clear hl hD1 b1
    obtain ⟨k, rfl, rfl, hk, hkc, hb, hl⟩ := hrel
    obtain ⟨la, lc, hla, _⟩ := ownsRow_slice hl
    subst hla
    have hDr : DocAt wr d c (.slice va bs.length vc) := hD.same (hb.block _ hdl)
    have e0 := hDr.cell 0 _ rfl
    have f1 := hDr.frozen 1
    have e1 := hDr.cell 1 _ rfl
    have hbs := hb.size
    by_cases h1 : k < len
    · have t1 : decide ((k : Int) < (len : Int)) = true := by simp; omega
      obtain ⟨rfl, hbn, _, _⟩ := hopen (by omega)
      by_cases h2 : bs.length + k < c
      · obtain ⟨N, hN⟩ : ∃ N, N = bs.length + k := ⟨_, rfl⟩
        rw [← hN] at hl h2 ⊢
        have t2 : decide ((N : Int) < (c : Int)) = true := by simp; omega
        have ck : wr.cell? ⟨b, off + k, none⟩ = some (.int .u8 (xs.getD k 0)) := (hb.cell (p := ⟨b, off + k, none⟩) hbn).trans (hc k h1)
        obtain ⟨x, hx⟩ : ∃ x, x = xs.getD k 0 := ⟨_, rfl⟩
        rw [← hx] at ck
        have HX := Lib.hid (And.intro hx hN)
        have HC := Lib.hid hc
        clear hx hN hc
        go_wp2_with (at_builtin; refine held ?_)
        unfold Held
        refine wpList_append_own_at (w := _) rfl _ _ 22 rfl W.heap.size 5 i0 (.int .u8 0) 1 1 Try.underlying22 hi hz0 hz1 hz2 rfl (by decide) (.slice la N lc) N _ rfl (hl.alloc _) ⟨wr.heap.size, 0, none⟩ 1 1 [.int .u8 x] rfl rfl (cell_one_new _ _ _) (by simp [Value.oneCell']) (by simp only [maxLen]; omega) (by omega) (by rw [World.size_alloc]; omega) ?_
        intro l2 w2 hl2 hgrow2 _ hlv2
        have b2 : Below W.heap.size W w2 := (hb.alloc hbs _).grown hgrow2 (by rw [World.size_alloc]; omega) (fun b hx => (hl.lt b hx).1)
        obtain ⟨l2a, l2c, rfl, _⟩ := ownsRow_slice hl2
        go_wp2_with fail
        have hN : x = xs.getD k 0 ∧ N = bs.length + k := HX
        go_roundw
        case rel =>
          refine ⟨k + 1, by go_num, by go_num, by omega, by omega, b2, ?_⟩
          have et : xs.take (k + 1) = xs.take k ++ [x] := by
            rw [hN.1, getD_at _ _ (by omega), List.take_succ_eq_append_getElem (by omega)]
          rw [et, ← List.append_assoc, List.map_append, ← Nat.add_assoc, ← hN.2]
          exact hl2
        case measure => simp [intOf]; omega
      · obtain ⟨N, hN⟩ : ∃ N, N = bs.length + k := ⟨_, rfl⟩
        rw [← hN] at hl h2 ⊢
        have t2 : decide ((N : Int) < (c : Int)) = false := by simp; omega
        have hset := hDr.set (.slice la N lc)
        have hlt := fun b hx => (hl.lt b hx)
        have HN := Lib.hid hN
        clear hN hc
        go_wp2_with fail
        go_ret
        have hN : N = bs.length + k := HN
        have hkc2 : k = c - bs.length := by omega
        refine ⟨?_, ⟨g1, ?_, g3, ?_, .slice la N lc, hset, ?_⟩, (Wr.of_below (S := (· = d)) hb).setCell (p := ⟨d, 1, none⟩) (.inl rfl) _⟩
        · rw [show min len (c - bs.length) = k from by omega]; rfl
        · rw [List.length_append, List.length_take]; omega
        · intro z hz
          rcases List.mem_append.1 hz with h | h
          · exact g4 z h
          · exact hr.2 z (List.mem_of_mem_take h)
        · rw [← hkc2, show (bs ++ xs.take k).length = N from by rw [List.length_append, List.length_take]; omega]
          exact ownsRow_same hl fun b hx => Below.heap_setCell _ ⟨d, 1, none⟩ _ b (fun e => by have := (hlt b hx).1; simp only at e; omega)
    · obtain rfl : k = len := by omega
      have t1 : decide ((k : Int) < (k : Int)) = false := by simp
      obtain ⟨N, hN⟩ : ∃ N, N = bs.length + k := ⟨_, rfl⟩
      rw [← hN] at hl ⊢
      have hset := hDr.set (.slice la N lc)
      have hlt := fun b hx => (hl.lt b hx)
      have HN := Lib.hid hN
      clear hN hc
      go_wp2_with fail
      go_ret
      have hN : N = bs.length + k := HN
      refine ⟨?_, ⟨g1, ?_, g3, ?_, .slice la N lc, hset, ?_⟩, (Wr.of_below (S := (· = d)) hb).setCell (p := ⟨d, 1, none⟩) (.inl rfl) _⟩
      · rw [show min k (c - bs.length) = k from by omega]; rfl
      · rw [List.length_append, List.length_take]; omega
      · intro z hz
        rcases List.mem_append.1 hz with h | h
        · exact g4 z h
        · exact hr.2 z (List.mem_of_mem_take h)
      · rw [List.take_of_length_le (by omega : xs.length ≤ c - bs.length), show (bs ++ xs).length = N from by rw [List.length_append]; omega]
        rw [List.take_of_length_le (by omega : xs.length ≤ k)] at hl
        exact ownsRow_same hl fun b hx => Below.heap_setCell _ ⟨d, 1, none⟩ _ b (fun e => by have := (hlt b hx).1; simp only at e; omega)
/-- what Peek answers -/
def DocPeekPost (W : World) (bs : List Int) (m : Int) (e : Ending) (W' : World) : Prop :=
  ∃ v, e = .returned v ∧ W'.ownsRow W.heap.size 5 1 v (bs.take m.toNat).length ((bs.take m.toNat).map (Value.int .u8)) ∧ Below W.heap.size W W'
set_option maxRecDepth 100000 in
set_option maxHeartbeats 4000000 in
theorem docPeek_any (W : World) (n₀ n₁ d c : Nat) (bs : List Int) (m : Int) (h : IsDoc W n₀ n₁ d c bs) :
    Calls Try.prog 50 #[.pointer (some ⟨d, 0, none⟩), .int .i64 m] W (DocPeekPost W bs m) := by
  obtain ⟨i0, hi, hz0, hz1, hz2⟩ := info_parts info_u8
  obtain ⟨g1, g2, g3, g4, v, hD, hown⟩ := h
  have hdl := hD.lt
  have hcells := fun g hg => hown.cells (g := g) hg
  obtain ⟨va, vc, rfl, hva⟩ := ownsRow_slice hown
  go_enter Try.func50, Try.ntmps50
  go_wp2_with fail
  go_loopw [5, 6] (fun lv i wr => ∃ k : Nat, i = .int .i64 (k : Int) ∧ k ≤ (bs.take m.toNat).length ∧ Below W.heap.size W wr ∧ wr.ownsRow W.heap.size 5 1 lv k ((bs.take k).map (Value.int .u8))) (fun _ i _ => 100 - (intOf i).toNat)
  case atStart => exact ⟨0, rfl, Nat.zero_le _, Below.refl _ _, by simpa using World.ownsRow_nil W W.heap.size 5 1⟩
  case round =>
    obtain ⟨k, rfl, hk, hb, hl⟩ := hrel
    rw [List.length_take] at hk
    obtain ⟨la, lc, rfl, _⟩ := ownsRow_slice hl
    have hDr : DocAt wr d c (.slice va bs.length vc) := hD.same (hb.block _ hdl)
    have e1 := hDr.cell 1 _ rfl
    have hbs := hb.size
    have hown' := ownsRow_same hown fun b hx => hb.block b (hown.lt b hx).2
    obtain ⟨L, hL⟩ : ∃ L, L = bs.length := ⟨_, rfl⟩
    rw [← hL] at e1
    by_cases h1 : (k : Int) < m
    · have t1 : decide ((k : Int) < m) = true := by simpa using h1
      by_cases h2 : k < L
      · have t2 : decide ((k : Int) < (L : Int)) = true := by simp; omega
        obtain ⟨g, hva1, hvo⟩ : ∃ g, va = some ⟨g, 0, none⟩ ∧ (Value.slice va bs.length vc).ownBlock = some g := by
          rcases hva with h | h
          · omega
          · exact h
        subst hva1
        have ck : wr.cell? ⟨g, k, none⟩ = some (.int .u8 (bs.getD k 0)) := by
          have := hown'.cells (g := g) hvo k (.int .u8 (bs.getD k 0)) (by rw [List.getElem?_map, getD_at _ _ (by omega), List.getElem?_eq_getElem (by omega)]; rfl)
          simpa [Addr.add_lit] using this
        obtain ⟨x, hx⟩ : ∃ x, x = bs.getD k 0 := ⟨_, rfl⟩
        rw [← hx] at ck
        have HX := Lib.hid (And.intro hx hL)
        clear hx hL hcells hown'
        go_wp2_with (at_builtin; refine held ?_)
        unfold Held
        refine wpList_append_own_at (w := _) rfl _ _ 22 rfl W.heap.size 5 i0 (.int .u8 0) 1 1 Try.underlying22 hi hz0 hz1 hz2 rfl (by decide) (.slice la k lc) k _ rfl (hl.alloc _) ⟨wr.heap.size, 0, none⟩ 1 1 [.int .u8 x] rfl rfl (cell_one_new _ _ _) (by simp [Value.oneCell']) (by simp only [maxLen]; omega) (by omega) (by rw [World.size_alloc]; omega) ?_
        intro l2 w2 hl2 hgrow2 _ hlv2
        have b2 : Below W.heap.size W w2 := (hb.alloc hbs _).grown hgrow2 (by rw [World.size_alloc]; omega) (fun b hx => (hl.lt b hx).1)
        obtain ⟨l2a, l2c, rfl, _⟩ := ownsRow_slice hl2
        go_wp2_with fail
        have hN : x = bs.getD k 0 ∧ L = bs.length := HX
        go_roundw
        case rel =>
          refine ⟨k + 1, by go_num, by rw [List.length_take]; omega, b2, ?_⟩
          have et : bs.take (k + 1) = bs.take k ++ [x] := by
            rw [hN.1, getD_at _ _ (by omega), List.take_succ_eq_append_getElem (by omega)]
          rw [et, List.map_append]
          exact hl2
        case measure => simp [intOf]; omega
      · have t2 : decide ((k : Int) < (L : Int)) = false := by simp; omega
        go_wp2_with fail
        go_ret
        have ek : k = (bs.take m.toNat).length := by rw [List.length_take]; omega
        refine ⟨_, rfl, ?_, hb⟩
        rw [← ek, show bs.take m.toNat = bs.take k from by rw [List.take_of_length_le (by omega), List.take_of_length_le (by omega)]]
        exact hl
    · have t1 : decide ((k : Int) < m) = false := by simpa using h1
      go_wp2_with fail
      go_ret
      have ek : k = (bs.take m.toNat).length := by rw [List.length_take]; omega
      refine ⟨_, rfl, ?_, hb⟩
      have e2 : bs.take m.toNat = bs.take k := by
        by_cases hm : m.toNat ≤ bs.length
        · rw [show k = m.toNat from by omega]
        · rw [List.take_of_length_le (by omega), List.take_of_length_le (by omega)]
      rw [← ek, e2]
      exact hl
/-- what Read answers -/
def DocReadPost (W : World) (n₀ n₁ d c : Nat) (bs : List Int) (m : Int) (e : Ending) (W' : World) : Prop :=
  ∃ v, e = .returned v ∧ W'.ownsRow W.heap.size 5 1 v (bs.take m.toNat).length ((bs.take m.toNat).map (Value.int .u8)) ∧ IsDoc W' n₀ W.heap.size d c (bs.drop m.toNat) ∧ Wr (· = d) (· = d) W W'
set_option maxRecDepth 100000 in
set_option maxHeartbeats 2000000 in
theorem docRead_any (W : World) (n₀ n₁ d c : Nat) (bs : List Int) (m : Int) (h : IsDoc W n₀ n₁ d c bs) :
    Calls Try.prog 44 #[.pointer (some ⟨d, 0, none⟩), .int .i64 m] W (DocReadPost W n₀ n₁ d c bs m) := by
  obtain ⟨i0, hi, hz0, hz1, hz2⟩ := info_parts info_u8
  have hpk := docPeek_any W n₀ n₁ d c bs m h
  obtain ⟨g1, g2, g3, g4, v, hD, hown⟩ := h
  have hdl := hD.lt
  obtain ⟨va, vc, rfl, hva⟩ := ownsRow_slice hown
  go_enter Try.func44, Try.ntmps44
  go_wp2_with (go_at_call 50; refine held ?_)
  unfold Held
  refine hpk.mono ?_
  rintro e w1 ⟨o, rfl, ho, hb⟩
  obtain ⟨K, hK⟩ : ∃ K, K = (bs.take m.toNat).length := ⟨_, rfl⟩
  rw [← hK] at ho
  obtain ⟨oa, oc, rfl, _⟩ := ownsRow_slice ho
  have hKL : K ≤ bs.length := by rw [hK, List.length_take]; omega
  have hD1 : DocAt w1 d c (.slice va bs.length vc) := hD.same (hb.block _ hdl)
  have hown1 := ownsRow_same hown fun b hx => hb.block b (hown.lt b hx).2
  have hrow := (RowI.of_own hown1).2
  have hcap := hrow.cap
  obtain ⟨hsub, _⟩ := hrow.sub K bs.length hKL (Nat.le_refl _)
  have e1 := hD1.cell 1 _ rfl
  have hbs := hb.size
  have HK := Lib.hid hK
  clear hK
  go_wp2_with (first
    | (refine wpList_slice (by rfl) 22 (.tmp 14) (some (.tmp 16)) none rfl va bs.length vc K bs.length rfl (.inr ⟨_, rfl, rfl⟩) (.inl ⟨rfl, rfl⟩) (by kernel_rfl) (by kernel_rfl) hKL (Nat.le_refl _) hcap ?_; intro q hq)
    | (at_builtin; refine held ?_))
  unfold Held
  rw [hq] at hsub
  have hsub' : RowI .u8 w1.heap.size w1 (.slice q (bs.length - K) (vc - K)) (bs.drop K) := by
    rw [List.take_of_length_le (by rw [List.length_drop]; exact Nat.le_refl _)] at hsub
    exact hsub
  refine wpList_append_row rfl _ _ 22 rfl w1.heap.size 5 i0 Try.underlying22 hi hz0 hz1 hz2 (.slice none 0 0) 0 [] rfl (World.ownsRow_nil _ _ _ _) q (bs.length - K) (vc - K) w1.heap.size (bs.drop K) rfl hsub' (by omega) (Nat.le_refl _) ?_
  intro l w2 hl hgrow hlv
  rw [Nat.zero_add, List.nil_append] at hl
  have b2 : Below w1.heap.size w1 w2 := (Below.refl _ w1).grown hgrow (Nat.le_refl _) (by simp [Value.ownBlock])
  have hD2 : DocAt w2 d c (.slice va bs.length vc) := hD1.same (b2.block _ hD1.lt)
  have ho2 := ownsRow_same ho fun b hx => b2.block b (ho.lt b hx).2
  obtain ⟨la, lc, rfl, _⟩ := ownsRow_slice hl
  have hset := hD2.set (.slice la (bs.length - K) lc)
  have f1 := hD2.frozen 1
  have e2 := hD2.cell 1 _ rfl
  have hd1 := hD1.lt
  have olt := fun b hx => ho.lt b hx
  have llt := fun b hx => hl.lt b hx
  clear e1 hgrow hlv hsub hsub' hq hown1 hrow hpk
  go_wp2_with fail
  go_ret
  have hK : K = (bs.take m.toNat).length := HK
  have ed : bs.drop m.toNat = bs.drop K := by
    rw [List.length_take] at hK
    by_cases hm : m.toNat ≤ bs.length
    · rw [show K = m.toNat from by omega]
    · rw [List.drop_eq_nil_of_le (by omega), List.drop_eq_nil_of_le (by omega)]
  refine ⟨_, rfl, ?_, ⟨g1, ?_, g3, fun z hz => g4 z (List.mem_of_mem_drop hz), .slice la (bs.length - K) lc, hset, ?_⟩, ((Wr.of_below (S := (· = d)) hb).trans (Wr.of_below b2)).setCell (p := ⟨d, 1, none⟩) (.inl rfl) _⟩
  · rw [← hK]
    exact ownsRow_same ho2 fun b hx => Below.heap_setCell _ ⟨d, 1, none⟩ _ b (fun e => by have := (olt b hx).1; simp only at e; omega)
  · rw [List.length_drop]; omega
  · rw [ed, List.length_drop]
    exact ownsRow_base2 (ownsRow_same hl fun b hx => Below.heap_setCell _ ⟨d, 1, none⟩ _ b (fun e => by have := (llt b hx).1; simp only at e; omega)) hbs
end Go.Proofs.Ytcmcilfopkhipaa
