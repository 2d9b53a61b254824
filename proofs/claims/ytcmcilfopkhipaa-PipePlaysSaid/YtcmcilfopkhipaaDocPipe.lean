/- The document's pipe (carryallref09): Of, Write, Read, Ready, Open, Close. -/
import Derived.Test.YtcmcilfopkhipaaDocRing
import Derived.Test.YtcmcilfopkhipaaPipeD
namespace Go.Proofs.Ytcmcilfopkhipaa
open Go Go.RowKit
set_option linter.unusedVariables false
set_option linter.unnecessarySimpa false
/-- the document's pipe in the block p, its ring in the block d -/
def DPAt (W : World) (p d : Nat) (rd wr : Int) : Prop := W.heap[p]? = some (.cells #[.pointer (some ⟨d, 0, none⟩), .int .i64 rd, .int .i64 wr] 66 (0, 0))
structure IsDP (W : World) (n₀ p d m : Nat) (bs : List Int) (rd wr : Nat) : Prop where
  at_ : DPAt W p d rd wr
  ring : IsDoc W n₀ n₀ d m bs
  ne : p ≠ d
  low : n₀ ≤ p
  rd64 : rd ≤ 64
  wr64 : wr ≤ 64
section
variable {W : World} {n₀ p d m : Nat} {bs : List Int} {rd wr : Nat}
theorem DPAt.cell {r w : Int} (h : DPAt W p d r w) (i : Nat) (x : Value) (hx : (#[.pointer (some ⟨d, 0, none⟩), .int .i64 r, .int .i64 w] : Array Value)[i]? = some x) : W.cell? ⟨p, i, none⟩ = some x := by
  rw [cell_of_row W p i _ _ _ h]; exact hx
theorem DPAt.frozen {r w : Int} (h : DPAt W p d r w) (i : Nat) : W.frozen? ⟨p, i, none⟩ = false := by
  unfold World.frozen?
  rw [show W.heap[(⟨p, i, none⟩ : Addr).block]? = _ from h]
  simp
theorem DPAt.lt {r w : Int} (h : DPAt W p d r w) : p < W.heap.size := (Array.getElem?_eq_some_iff.1 h).1
theorem DPAt.same {r w : Int} {B : World} (h : DPAt W p d r w) (hs : B.heap[p]? = W.heap[p]?) : DPAt B p d r w := hs.trans h
theorem DPAt.set {r w : Int} (h : DPAt W p d r w) (i : Nat) (v : Value) {r' w' : Int} (hs : (#[.pointer (some ⟨d, 0, none⟩), .int .i64 r, .int .i64 w] : Array Value).setIfInBounds i v = #[.pointer (some ⟨d, 0, none⟩), .int .i64 r', .int .i64 w']) : DPAt (W.setCell ⟨p, i, none⟩ v) p d r' w' := by
  obtain ⟨hlt, hk⟩ := Array.getElem?_eq_some_iff.1 h
  show (W.heap.modify p _)[p]? = _
  rw [Array.getElem?_eq_getElem (by rw [Array.size_modify]; exact hlt), Array.getElem_modify_self, hk, ← hs]
  rfl
theorem IsDP.lt (h : IsDP W n₀ p d m bs rd wr) : p < W.heap.size ∧ d < W.heap.size := ⟨h.at_.lt, h.ring.lt⟩
theorem IsDP.below {B : World} (h : IsDP W n₀ p d m bs rd wr) (hb : Below W.heap.size W B) : IsDP B n₀ p d m bs rd wr := ⟨h.at_.same (hb.block _ h.at_.lt), h.ring.below hb, h.ne, h.low, h.rd64, h.wr64⟩
/-- blocks of another type may be written -/
theorem IsDP.wrTo {S S' : Nat → Prop} {B : World} (h : IsDP W n₀ p d m bs rd wr) (hw : Wr S S' W B) (hS : ∀ b, S b → b ≠ p ∧ b ≠ d ∧ ∃ cs t fr, W.heap[b]? = some (.cells cs t fr) ∧ t ≠ 5) : IsDP B n₀ p d m bs rd wr :=
  ⟨h.at_.same (hw.block _ h.at_.lt (fun e => (hS _ e).1 rfl)), h.ring.wr hw (fun b hb => (hS b hb).2), h.ne, h.low, h.rd64, h.wr64⟩
/-- its own block is written -/
theorem IsDP.put (h : IsDP W n₀ p d m bs rd wr) (i : Nat) (v : Value) {rd' wr' : Nat} (hs : (#[.pointer (some ⟨d, 0, none⟩), .int .i64 (rd : Int), .int .i64 (wr : Int)] : Array Value).setIfInBounds i v = #[.pointer (some ⟨d, 0, none⟩), .int .i64 (rd' : Int), .int .i64 (wr' : Int)]) (h1 : rd' ≤ 64) (h2 : wr' ≤ 64) :
    IsDP (W.setCell ⟨p, i, none⟩ v) n₀ p d m bs rd' wr' ∧ Wr (· = p) (· = p) W (W.setCell ⟨p, i, none⟩ v) := by
  have hw : Wr (· = p) (· = p) W (W.setCell ⟨p, i, none⟩ v) := (Wr.refl (· = p) W).setCell (p := ⟨p, i, none⟩) (.inl rfl) _
  refine ⟨⟨h.at_.set i v hs, h.ring.wr hw (fun b hb => ?_), h.ne, h.low, h1, h2⟩, hw⟩
  subst hb
  exact ⟨h.ne, _, _, _, h.at_, by decide⟩
end
theorem drewB {n : Nat} {w w' : World} (h : Below n w w') (k : Nat) : Below n w (w'.drewN k) := ⟨h.os, h.tape, h.output, h.size, h.block⟩
/-- what Of answers -/
def DPOfPost (w : World) (c : Int) (len : Nat) (xs : List Int) (rd wr : Int) (e : Ending) (w' : World) : Prop := Below w.heap.size w w' ∧
  ((1 ≤ c ∧ c ≤ 64 ∧ (len : Int) ≤ c ∧ 0 ≤ rd ∧ 0 ≤ wr ∧ rd ≤ 64 ∧ wr ≤ 64 ∧ rd + wr ≠ 0 ∧ ∃ p d, e = .returned (.tuple #[.pointer (some ⟨p, 0, none⟩), .int .i64 0]) ∧ IsDP w' w.heap.size p d c.toNat xs rd.toNat wr.toNat) ∨
   (¬ (1 ≤ c ∧ c ≤ 64 ∧ (len : Int) ≤ c) ∧ e = .returned (.tuple #[.pointer none, .int .i64 80])) ∨
   ((1 ≤ c ∧ c ≤ 64 ∧ (len : Int) ≤ c) ∧ ¬ (0 ≤ rd ∧ 0 ≤ wr ∧ rd ≤ 64 ∧ wr ≤ 64 ∧ rd + wr ≠ 0) ∧ e = .returned (.tuple #[.pointer none, .int .i64 90])))
set_option maxRecDepth 100000 in
set_option maxHeartbeats 2000000 in
theorem dpOf_any (c : Int) (a : Option Addr) (len cap : Nat) (xs : List Int) (rd wr : Int) (w : World) (hr : Row8 w.heap.size w (.slice a len cap) xs) (hs : len ≤ 1000000000000) :
    Calls Try.prog 25 #[.int .i64 c, .slice a len cap, .int .i64 rd, .int .i64 wr] w (DPOfPost w c len xs rd wr) := by
  go_enter Try.func25, Try.ntmps25
  go_wp2_with (go_at_call 42; refine held ?_)
  unfold Held
  refine (docOf_any c a len cap xs w hr hs).mono ?_
  rintro e w1 ⟨hb, ⟨hc1, hc2, hc3, d, rfl, hI⟩ | ⟨hno, rfl⟩⟩
  rotate_left
  · go_wp2
    go_ret2
    exact ⟨hb, .inr (.inl ⟨hno, rfl⟩)⟩
  have HB := Lib.hid hb
  have bad : ¬ (0 ≤ rd ∧ 0 ≤ wr ∧ rd ≤ 64 ∧ wr ≤ 64 ∧ rd + wr ≠ 0) → DPOfPost w c len xs rd wr (.returned (.tuple #[.pointer none, .int .i64 90])) w1 := fun h => ⟨hb, .inr (.inr ⟨⟨hc1, hc2, hc3⟩, h, rfl⟩)⟩
  by_cases h1 : rd < 0
  · have t1 : decide (rd < 0) = true := by simpa using h1
    go_wp2
    go_ret2
    exact bad (by omega)
  have t1 : decide (rd < 0) = false := by simpa using h1
  by_cases h2 : wr < 0
  · have t2 : decide (wr < 0) = true := by simpa using h2
    go_wp2
    go_ret2
    exact bad (by omega)
  have t2 : decide (wr < 0) = false := by simpa using h2
  by_cases h3 : 64 < rd
  · have t3 : decide (64 < rd) = true := by simpa using h3
    go_wp2
    go_ret2
    exact bad (by omega)
  have t3 : decide (64 < rd) = false := by simpa using h3
  by_cases h4 : 64 < wr
  · have t4 : decide (64 < wr) = true := by simpa using h4
    go_wp2
    go_ret2
    exact bad (by omega)
  have t4 : decide (64 < wr) = false := by simpa using h4
  have good : rd + wr ≠ 0 → DPOfPost w c len xs rd wr (.returned (.tuple #[.pointer (some ⟨w1.heap.size, 0, none⟩), .int .i64 0])) (w1.alloc (.cells #[.pointer (some ⟨d, 0, none⟩), .int .i64 rd, .int .i64 wr] 66)) := fun h => by
    have hb1 := (Below.refl _ w1).alloc (Nat.le_refl _) (.cells #[.pointer (some ⟨d, 0, none⟩), .int .i64 rd, .int .i64 wr] 66)
    refine ⟨hb.alloc hb.size _, .inl ⟨hc1, hc2, hc3, by omega, by omega, by omega, by omega, h, w1.heap.size, d, rfl, ?_, hI.below hb1, by have := hI.lt; omega, hb.size, by omega, by omega⟩⟩
    rw [show ((rd.toNat : Nat) : Int) = rd from by omega, show ((wr.toNat : Nat) : Int) = wr from by omega]
    exact World.alloc_heap_new w1 _
  by_cases h5 : rd = 0
  · subst h5
    by_cases h6 : wr = 0
    · subst h6
      go_wp2
      go_ret2
      exact bad (by omega)
    · have t6 : (wr == 0) = false := by simpa using h6
      have K := good (by omega)
      go_wp2
      go_ret2
      exact K
  · have t5 : (rd == 0) = false := by simpa using h5
    have K := good (by omega)
    go_wp2
    go_ret2
    exact K
section
variable (W : World) (n₀ p d m : Nat) (bs : List Int) (rd wr : Nat) (h : IsDP W n₀ p d m bs rd wr)
include h
/-- what Write answers -/
def DPWritePost (W : World) (n₀ p d m : Nat) (bs : List Int) (rd wr len : Nat) (xs : List Int) (e : Ending) (W' : World) : Prop :=
  e = .returned (.tuple #[.int .i64 (writeR m bs rd wr len).1, .int .i64 (writeR m bs rd wr len).2.1, .int .i64 (writeR m bs rd wr len).2.2]) ∧ IsDP W' n₀ p d m (writeBs m bs rd wr xs) rd wr ∧ Wr (· = d) (· = d) W W'
set_option maxHeartbeats 2000000 in
theorem dpWrite_any (a : Option Addr) (len cap : Nat) (xs : List Int) (hr : Row8 W.heap.size W (.slice a len cap) xs) (hs : len ≤ 1000000) :
    Calls Try.prog 26 #[.pointer (some ⟨p, 0, none⟩), .slice a len cap] W (DPWritePost W n₀ p d m bs rd wr len xs) := by
  have hP := h
  have c0 := h.at_.cell 0 _ rfl
  have c1 := h.at_.cell 1 _ rfl
  have c2 := h.at_.cell 2 _ rfl
  have hn : n₀ ≤ W.heap.size := Nat.le_trans h.low (Nat.le_of_lt h.lt.1)
  by_cases h0 : wr = 0
  · subst h0
    go_enter Try.func26, Try.ntmps26
    go_wp2
    go_ret3
    exact ⟨rfl, hP, Wr.refl _ _⟩
  have t0 : ((wr : Int) == 0) = false := by simpa using h0
  by_cases h1 : rd = 0
  · subst h1
    have K : DPWritePost W n₀ p d m bs 0 wr len xs (.returned (.tuple #[.int .i64 0, .int .i64 3, .int .i64 0])) W := ⟨by unfold writeR; rw [if_neg h0, if_pos rfl], by unfold writeBs; rw [if_neg h0, if_pos rfl]; exact hP, Wr.refl _ _⟩
    go_enter Try.func26, Try.ntmps26
    go_wp2
    go_ret3
    exact K
  have t1 : ((rd : Int) == 0) = false := by simpa using h1
  obtain ⟨_, hbm, hm64, _, v, hDA, hown⟩ := h.ring
  obtain ⟨va, vc, rfl, _⟩ := ownsRow_slice hown
  have d0 := hDA.cell 0 _ rfl
  have d1 := hDA.cell 1 _ rfl
  have kw : ∀ V, Below W.heap.size W V → Calls Try.prog 43 #[.pointer (some ⟨d, 0, none⟩), .slice a len cap] V fun e W' => (∃ q : Int, e = .returned (.int .i64 q)  ∧ ((¬ (0 < len ∧ m - bs.length = 0)) → DPWritePost W n₀ p d m bs rd wr len xs (.returned (.tuple #[.int .i64 q, .int .i64 0, .int .i64 0])) W')) := fun V hV =>
    (docWrite_any V n₀ n₀ d m bs a len cap xs (hP.ring.below hV) ((hr.below hV).mono hV.size) hs).mono fun e W' ⟨he, hI, hw⟩ => ⟨_, he, fun hno => ⟨by unfold writeR; rw [if_neg h0, if_neg h1, if_neg hno], by
      unfold writeBs
      rw [if_neg h0, if_neg h1]
      have hPV := hP.below hV
      exact ⟨hPV.at_.same (hw.block _ hPV.at_.lt hPV.ne), hI.mono (Nat.le_trans hn hV.size), hPV.ne, hPV.low, hPV.rd64, hPV.wr64⟩, Wr.after hV hw⟩⟩
  have bd := fun k => drewB (Below.refl W.heap.size W) k
  obtain ⟨L, hL⟩ : ∃ L, L = bs.length := ⟨_, rfl⟩
  rw [← hL] at d1 hbm
  by_cases hl : 0 < len
  · have t2 : decide ((0 : Int) < (len : Int)) = true := by simp; omega
    have t2' : decide (0 < len) = true := by simp; omega
    by_cases hR : L = m
    · have K : ∀ V, Below W.heap.size W V → DPWritePost W n₀ p d m bs rd wr len xs (.returned (.tuple #[.int .i64 0, .int .i64 1, .int .i64 0])) V := fun V hV =>
        ⟨by unfold writeR; rw [if_neg h0, if_neg h1, if_pos ⟨hl, by omega⟩], by unfold writeBs; rw [if_neg h0, if_neg h1, show m - bs.length = 0 from by omega, List.take_zero, List.append_nil]; exact hP.below hV, Wr.of_below hV⟩
      subst hR
      clear hL kw
      go_enter Try.func26, Try.ntmps26
      go_wp2
      go_quiet (fail)
      go_wp2
      go_ret3
      exact K _ (bd _)
    · have t3 : ((L : Int) == (m : Int)) = false := by simp; omega
      have t3' : (L == m) = false := by simp; omega
      have hno : Hid (¬ (0 < len ∧ m - bs.length = 0)) := by show ¬ _; omega
      clear hL hR
      go_enter Try.func26, Try.ntmps26
      go_wp2
      go_quiet (fail)
      go_wp2_with (go_at_call 43; refine held ?_)
      unfold Held
      refine (kw _ (bd _)).mono ?_
      rintro e w3 ⟨q, rfl, hq⟩
      have K := hq hno
      clear hq kw hno
      go_wp2
      go_ret3
      exact K
  · have t2 : decide ((0 : Int) < (len : Int)) = false := by simp; omega
    have t2' : decide (0 < len) = false := by simp; omega
    have hno : Hid (¬ (0 < len ∧ m - bs.length = 0)) := by show ¬ _; omega
    clear hL
    go_enter Try.func26, Try.ntmps26
    go_wp2
    go_quiet (fail)
    go_wp2_with (go_at_call 43; refine held ?_)
    unfold Held
    refine (kw _ (bd _)).mono ?_
    rintro e w3 ⟨q, rfl, hq⟩
    have K := hq hno
    clear hq kw hno
    go_wp2
    go_ret3
    exact K
/-- what Read answers -/
def DPReadPost (W : World) (n₀ p d m : Nat) (bs : List Int) (rd wr : Nat) (n : Int) (e : Ending) (W' : World) : Prop :=
  ∃ v, e = .returned (.tuple #[v, .int .i64 (readR bs rd wr n).2.1, .int .i64 (readR bs rd wr n).2.2]) ∧ W'.ownsRow W.heap.size 5 1 v (readR bs rd wr n).1.length ((readR bs rd wr n).1.map (Value.int .u8)) ∧
      IsDP W' n₀ p d m (readBs bs rd n) rd wr ∧ Wr (· = d) (· = d) W W'
set_option maxHeartbeats 2000000 in
theorem dpRead_any (n : Int) :
    Calls Try.prog 27 #[.pointer (some ⟨p, 0, none⟩), .int .i64 n] W (DPReadPost W n₀ p d m bs rd wr n) := by
  have hP := h
  have c0 := h.at_.cell 0 _ rfl
  have c1 := h.at_.cell 1 _ rfl
  have c2 := h.at_.cell 2 _ rfl
  have hn : n₀ ≤ W.heap.size := Nat.le_trans h.low (Nat.le_of_lt h.lt.1)
  have nil := World.ownsRow_nil W W.heap.size 5 1
  by_cases h0 : rd = 0
  · subst h0
    have K : DPReadPost W n₀ p d m bs 0 wr n (.returned (.tuple #[.slice none 0 0, .int .i64 0, .int .i64 90])) W := ⟨_, rfl, nil, hP, Wr.refl _ _⟩
    go_enter Try.func27, Try.ntmps27
    go_wp2
    go_ret3
    exact K
  have t0 : ((rd : Int) == 0) = false := by simpa using h0
  have eb : readBs bs rd n = bs.drop n.toNat := if_neg h0
  by_cases h1 : n < 0
  · have K : DPReadPost W n₀ p d m bs rd wr n (.returned (.tuple #[.slice none 0 0, .int .i64 0, .int .i64 90])) W := by
      unfold DPReadPost
      rw [show readR bs rd wr n = ([], 0, 90) from by unfold readR; rw [if_neg h0, if_pos h1], eb, drop_all bs n (.inr (by omega))]
      exact ⟨_, rfl, nil, hP, Wr.refl _ _⟩
    have t1 : decide (n < 0) = true := by simpa using h1
    go_enter Try.func27, Try.ntmps27
    go_wp2
    go_ret3
    exact K
  have t1 : decide (n < 0) = false := by simpa using h1
  by_cases hn0 : n = 0
  · subst hn0
    have K : DPReadPost W n₀ p d m bs rd wr 0 (.returned (.tuple #[.slice none 0 0, .int .i64 0, .int .i64 0])) W := by
      unfold DPReadPost
      rw [show readR bs rd wr 0 = ([], 0, 0) from by unfold readR; rw [if_neg h0, if_neg h1, if_pos rfl], eb, drop_all bs 0 (.inr (by omega))]
      exact ⟨_, rfl, nil, hP, Wr.refl _ _⟩
    clear t1
    go_enter Try.func27, Try.ntmps27
    go_wp2
    go_ret3
    exact K
  have t2 : (n == 0) = false := by simpa using hn0
  obtain ⟨_, hbm, hm64, _, v, hDA, hown⟩ := h.ring
  obtain ⟨va, vc, rfl, _⟩ := ownsRow_slice hown
  have d1 := hDA.cell 1 _ rfl
  have kr : Calls Try.prog 44 #[.pointer (some ⟨d, 0, none⟩), .int .i64 n] W fun e W' => (∃ v, e = .returned v ∧ (bs.length ≠ 0 → DPReadPost W n₀ p d m bs rd wr n (.returned (.tuple #[v, .int .i64 0, .int .i64 0])) W')) :=
    (docRead_any W n₀ n₀ d m bs n hP.ring).mono fun e W' ⟨v, he, ho, hI, hw⟩ => ⟨v, he, fun hne => by
      unfold DPReadPost
      rw [show readR bs rd wr n = (bs.take n.toNat, 0, 0) from by unfold readR; rw [if_neg h0, if_neg h1, if_neg hn0, if_neg hne], eb]
      exact ⟨_, rfl, ho, ⟨hP.at_.same (hw.block _ hP.at_.lt hP.ne), hI.mono hn, hP.ne, hP.low, hP.rd64, hP.wr64⟩, hw⟩⟩
  by_cases hb0 : bs.length = 0
  · rw [hb0] at d1
    by_cases hw : 0 < wr
    · have K : DPReadPost W n₀ p d m bs rd wr n (.returned (.tuple #[.slice none 0 0, .int .i64 1, .int .i64 0])) W := by
        unfold DPReadPost
        rw [show readR bs rd wr n = ([], 1, 0) from by unfold readR; rw [if_neg h0, if_neg h1, if_neg hn0, if_pos hb0, if_pos hw], eb, drop_all bs n (.inl hb0)]
        exact ⟨_, rfl, nil, hP, Wr.refl _ _⟩
      have t3 : decide ((0 : Int) < (wr : Int)) = true := by simp; omega
      clear kr
      go_enter Try.func27, Try.ntmps27
      go_wp2
      go_ret3
      exact K
    · have K : DPReadPost W n₀ p d m bs rd wr n (.returned (.tuple #[.slice none 0 0, .int .i64 2, .int .i64 0])) W := by
        unfold DPReadPost
        rw [show readR bs rd wr n = ([], 2, 0) from by unfold readR; rw [if_neg h0, if_neg h1, if_neg hn0, if_pos hb0, if_neg hw], eb, drop_all bs n (.inl hb0)]
        exact ⟨_, rfl, nil, hP, Wr.refl _ _⟩
      have t3 : decide ((0 : Int) < (wr : Int)) = false := by simp; omega
      clear kr
      go_enter Try.func27, Try.ntmps27
      go_wp2
      go_ret3
      exact K
  · obtain ⟨L, hL⟩ : ∃ L, L = bs.length := ⟨_, rfl⟩
    rw [← hL] at d1 hb0
    rw [← hL] at kr
    have t3 : decide ((0 : Int) < (L : Int)) = true := by simp; omega
    clear hL
    go_enter Try.func27, Try.ntmps27
    go_wp2_with (go_at_call 44; refine held ?_)
    unfold Held
    refine kr.mono ?_
    rintro e w3 ⟨q, rfl, hq⟩
    have K := hq hb0
    clear hq kr
    go_wp2
    go_ret3
    exact K
set_option maxHeartbeats 2000000 in
theorem dpReady_any (s : Bool) :
    Calls Try.prog 30 #[.pointer (some ⟨p, 0, none⟩), .bool s] W fun e W' => e = .returned (.bool (decide (0 < cnt rd wr s) && !waitsB m bs rd wr s)) ∧ Below W.heap.size W W' := by
  have c0 := h.at_.cell 0 _ rfl
  have c1 := h.at_.cell 1 _ rfl
  have c2 := h.at_.cell 2 _ rfl
  obtain ⟨_, hbm, hm64, _, v, hDA, hown⟩ := h.ring
  obtain ⟨va, vc, rfl, _⟩ := ownsRow_slice hown
  have d0 := hDA.cell 0 _ rfl
  have d1 := hDA.cell 1 _ rfl
  have bd := (Below.refl W.heap.size W).drew
  obtain ⟨R, hR⟩ : ∃ R, R = (decide (0 < cnt rd wr s) && !waitsB m bs rd wr s) := ⟨_, rfl⟩
  rw [← hR]
  obtain ⟨L, hL⟩ : ∃ L, L = bs.length := ⟨_, rfl⟩
  rw [← hL] at d1 hbm
  cases s
  · have hR2 : R = (decide (0 < rd) && !decide (L = 0 ∧ 0 < wr)) := by rw [hR, hL]; rfl
    clear hR hL
    by_cases h0 : rd = 0
    · subst h0
      obtain rfl : R = false := by rw [hR2]; rfl
      clear hR2
      go_enter Try.func30, Try.ntmps30
      go_wp2
      go_ret
      exact ⟨rfl, Below.refl _ _⟩
    have t0 : decide ((0 : Int) < (rd : Int)) = true := by simp; omega
    have t0' : decide (0 < rd) = true := by simp; omega
    by_cases h1 : wr = 0
    · subst h1
      obtain rfl : R = true := by rw [hR2]; simp; omega
      clear hR2
      go_enter Try.func30, Try.ntmps30
      go_wp2
      go_ret
      exact ⟨rfl, Below.refl _ _⟩
    have t1 : ((wr : Int) == 0) = false := by simpa using h1
    have t2 : decide (0 < L) = R := by
      rw [hR2]
      by_cases e : L = 0
      · subst e
        rw [decide_eq_true (by omega : 0 < rd), decide_eq_true (by omega : 0 = 0 ∧ 0 < wr)]; rfl
      · rw [decide_eq_true (by omega : 0 < L), decide_eq_true (by omega : 0 < rd), decide_eq_false (by omega : ¬ (L = 0 ∧ 0 < wr))]; rfl
    have t3 : decide ((0 : Int) < (L : Int)) = R := by rw [← t2]; exact decide_eq_decide.2 (by omega)
    clear hR2
    go_enter Try.func30, Try.ntmps30
    go_wp2
    go_ret
    exact ⟨rfl, Below.refl _ _⟩
  · have hR2 : R = (decide (0 < wr) && !decide (m - L = 0 ∧ 0 < rd)) := by rw [hR, hL]; rfl
    clear hR hL
    by_cases h0 : wr = 0
    · subst h0
      obtain rfl : R = false := by rw [hR2]; rfl
      clear hR2
      go_enter Try.func30, Try.ntmps30
      go_wp2
      go_quiet (fail)
      go_wp2
      go_ret
      exact ⟨rfl, drewB (Below.refl _ _) _⟩
    have t0 : decide ((0 : Int) < (wr : Int)) = true := by simp; omega
    have t0' : decide (0 < wr) = true := by simp; omega
    by_cases h1 : rd = 0
    · subst h1
      obtain rfl : R = true := by rw [hR2]; simp; omega
      clear hR2
      go_enter Try.func30, Try.ntmps30
      go_wp2
      go_quiet (fail)
      go_wp2
      go_ret
      exact ⟨rfl, drewB (Below.refl _ _) _⟩
    have t1 : ((rd : Int) == 0) = false := by simpa using h1
    have t2 : decide (L < m) = R := by
      rw [hR2]
      by_cases e : L < m
      · rw [decide_eq_true e, decide_eq_true (by omega : 0 < wr), decide_eq_false (by omega : ¬ (m - L = 0 ∧ 0 < rd))]; rfl
      · rw [decide_eq_false e, decide_eq_true (by omega : 0 < wr), decide_eq_true (by omega : m - L = 0 ∧ 0 < rd)]; rfl
    have t3 : decide ((L : Int) < (m : Int)) = R := by rw [← t2]; exact decide_eq_decide.2 (by omega)
    clear hR2
    go_enter Try.func30, Try.ntmps30
    go_wp2
    go_quiet (fail)
    go_wp2
    go_ret
    exact ⟨rfl, drewB (Below.refl _ _) _⟩
/-- what Open answers -/
def DPOpenPost (W : World) (n₀ p d m : Nat) (bs : List Int) (rd wr : Nat) (s : Bool) (e : Ending) (W' : World) : Prop :=
    (((cnt rd wr s = 0 ∨ 64 ≤ cnt rd wr s) ∧ e = .returned (.int .i64 90) ∧ W = W') ∨
     (0 < cnt rd wr s ∧ cnt rd wr s < 64 ∧ e = .returned (.int .i64 0) ∧ IsDP W' n₀ p d m bs (if s then rd else rd + 1) (if s then wr + 1 else wr) ∧ Wr (· = p) (· = p) W W'))
set_option maxHeartbeats 2000000 in
theorem dpOpen_any (s : Bool) :
    Calls Try.prog 28 #[.pointer (some ⟨p, 0, none⟩), .bool s] W (DPOpenPost W n₀ p d m bs rd wr s) := by
  have hP := h
  have c1 := h.at_.cell 1 _ rfl
  have c2 := h.at_.cell 2 _ rfl
  have f1 := h.at_.frozen 1
  have f2 := h.at_.frozen 2
  have hrd := h.rd64
  have hwr := h.wr64
  cases s
  · by_cases h0 : rd = 0
    · subst h0
      go_enter Try.func28, Try.ntmps28
      go_wp2
      go_ret
      exact .inl ⟨.inl rfl, rfl, rfl⟩
    have t0 : ((rd : Int) == 0) = false := by simpa using h0
    by_cases h1 : rd = 64
    · subst h1
      go_enter Try.func28, Try.ntmps28
      go_wp2
      go_ret
      exact .inl ⟨.inr (Nat.le_refl 64), rfl, rfl⟩
    have t1 : ((rd : Int) == 64) = false := by simp; omega
    have K := hP.put 1 (.int .i64 ((rd : Int) + 1)) (rd' := rd + 1) (wr' := wr) (by simp) (by omega) hwr
    have w1 : (rd : Int) + 1 < 100 := by omega
    have w0 : 0 < rd := by omega
    go_enter Try.func28, Try.ntmps28
    go_wp2
    go_ret
    exact .inr ⟨w0, by show rd < 64; omega, rfl, K⟩
  · by_cases h0 : wr = 0
    · subst h0
      go_enter Try.func28, Try.ntmps28
      go_wp2
      go_ret
      exact .inl ⟨.inl rfl, rfl, rfl⟩
    have t0 : ((wr : Int) == 0) = false := by simpa using h0
    by_cases h1 : wr = 64
    · subst h1
      go_enter Try.func28, Try.ntmps28
      go_wp2
      go_ret
      exact .inl ⟨.inr (Nat.le_refl 64), rfl, rfl⟩
    have t1 : ((wr : Int) == 64) = false := by simp; omega
    have K := hP.put 2 (.int .i64 ((wr : Int) + 1)) (rd' := rd) (wr' := wr + 1) (by simp) hrd (by omega)
    have w1 : (wr : Int) + 1 < 100 := by omega
    have w0 : 0 < wr := by omega
    go_enter Try.func28, Try.ntmps28
    go_wp2
    go_ret
    exact .inr ⟨w0, by show wr < 64; omega, rfl, K⟩
/-- what Close answers -/
def DPClosePost (W : World) (n₀ p d m : Nat) (bs : List Int) (rd wr : Nat) (s : Bool) (e : Ending) (W' : World) : Prop :=
    ((cnt rd wr s = 0 ∧ e = .returned (.tuple #[.bool false, .int .i64 90]) ∧ W = W') ∨
     (0 < cnt rd wr s ∧ e = .returned (.tuple #[.bool (decide (cnt rd wr s = 1)), .int .i64 0]) ∧ IsDP W' n₀ p d m bs (if s then rd else rd - 1) (if s then wr - 1 else wr) ∧ Wr (· = p) (· = p) W W'))
set_option maxHeartbeats 2000000 in
theorem dpClose_any (s : Bool) :
    Calls Try.prog 29 #[.pointer (some ⟨p, 0, none⟩), .bool s] W (DPClosePost W n₀ p d m bs rd wr s) := by
  have hP := h
  have c1 := h.at_.cell 1 _ rfl
  have c2 := h.at_.cell 2 _ rfl
  have f1 := h.at_.frozen 1
  have f2 := h.at_.frozen 2
  have hrd := h.rd64
  have hwr := h.wr64
  cases s
  · by_cases h0 : rd = 0
    · subst h0
      go_enter Try.func29, Try.ntmps29
      go_wp2
      go_ret2
      exact .inl ⟨rfl, rfl, rfl⟩
    obtain ⟨k, rfl⟩ : ∃ k, rd = k + 1 := ⟨rd - 1, by omega⟩
    obtain ⟨y, hy⟩ : ∃ y, y = ((k + 1 : Nat) : Int) := ⟨_, rfl⟩
    have t0 : (y == 0) = false := by simp; omega
    have K := hP.put 1 (.int .i64 (k : Int)) (rd' := k) (wr' := wr) (by simp) (by omega) hwr
    have c1' := K.1.at_.cell 1 _ rfl
    have w2 : y - 1 = (k : Int) := by omega
    rw [← hy] at c1
    have w3 : k ≤ 64 := by omega
    have ek : ((k : Int) == 0) = decide (k + 1 = 1) := by by_cases e : k = 0 <;> simp [e]
    obtain ⟨b, hb⟩ : ∃ b, b = decide (k + 1 = 1) := ⟨_, rfl⟩
    rw [← hb] at ek
    have HB := Lib.hid hb
    clear hy hb c2
    go_enter Try.func29, Try.ntmps29
    go_wp2
    go_ret2
    exact .inr ⟨by show 0 < k + 1; omega, by rw [show b = decide (k + 1 = 1) from HB]; rfl, K⟩
  · by_cases h0 : wr = 0
    · subst h0
      go_enter Try.func29, Try.ntmps29
      go_wp2
      go_ret2
      exact .inl ⟨rfl, rfl, rfl⟩
    obtain ⟨k, rfl⟩ : ∃ k, wr = k + 1 := ⟨wr - 1, by omega⟩
    obtain ⟨y, hy⟩ : ∃ y, y = ((k + 1 : Nat) : Int) := ⟨_, rfl⟩
    have t0 : (y == 0) = false := by simp; omega
    have K := hP.put 2 (.int .i64 (k : Int)) (rd' := rd) (wr' := k) (by simp) hrd (by omega)
    have c1' := K.1.at_.cell 2 _ rfl
    have w2 : y - 1 = (k : Int) := by omega
    rw [← hy] at c2
    have w3 : k ≤ 64 := by omega
    have ek : ((k : Int) == 0) = decide (k + 1 = 1) := by by_cases e : k = 0 <;> simp [e]
    obtain ⟨b, hb⟩ : ∃ b, b = decide (k + 1 = 1) := ⟨_, rfl⟩
    rw [← hb] at ek
    have HB := Lib.hid hb
    clear hy hb c1
    go_enter Try.func29, Try.ntmps29
    go_wp2
    go_ret2
    exact .inr ⟨by show 0 < k + 1; omega, by rw [show b = decide (k + 1 = 1) from HB]; rfl, K⟩
end
end Go.Proofs.Ytcmcilfopkhipaa
