/- Own texts of this seat, one behind the other (part 5 of 9). -/
import Derived.Test.YtejcandhijdnhaaGreatMN04
import Derived.RangeFuncBox
import Derived.OwnWalkIn
import Derived.TacticsInMore
import Derived.LoopNIn
import Derived.LoopIn
import Derived.BigFrameIn

/- The walk of tlv.fields' iterator: which tags and values it tells. -/
namespace Go.Proofs.YtejcandhijdnhaaGreat
open Go Go.RowKit
attribute [local go_sem] Oper.semAt_some
set_option linter.unusedVariables false
set_option linter.unnecessarySimpa false
set_option linter.unusedSimpArgs false
/-- a slice's address -/
def adr : Value → Option Addr
  | .slice a _ _ => a
  | _ => none
/-- what fields tells: tags and values, from A on; the slice of what is left: its address and capacity -/
def itemsF : Nat → List Int → Nat → Option Addr → Nat → List (Int × Value)
  | 0, _, _, _, _ => []
  | n + 1, bs, A, a, cap => if bs.length ≤ A then [] else if bs.length < A + 5 ∨ bs.getD A 0 = 0 ∨ bs.length < A + 5 + lenAt bs A then [(0, .slice none 0 0)]
    else (bs.getD A 0, sliced a 5 (5 + lenAt bs A) cap 1) :: itemsF n bs (A + 5 + lenAt bs A) (adr (sliced a (5 + lenAt bs A) (bs.length - A) cap 1)) (cap - (5 + lenAt bs A))
def encF (x : Int × Value) : Array Value := #[.int .i64 x.1, x.2]
theorem items_end {n : Nat} {bs : List Int} {A : Nat} {a : Option Addr} {cap : Nat} (h : bs.length ≤ A) : itemsF n bs A a cap = [] := by
  cases n with
  | zero => rfl
  | succ n => rw [itemsF, if_pos h]
theorem items_bad {n : Nat} {bs : List Int} {A : Nat} {a : Option Addr} {cap : Nat} (hn : bs.length ≤ A + n) (h : ¬ bs.length ≤ A) (hb : bs.length < A + 5 ∨ bs.getD A 0 = 0 ∨ bs.length < A + 5 + lenAt bs A) : itemsF n bs A a cap = [(0, .slice none 0 0)] := by
  cases n with
  | zero => omega
  | succ n => rw [itemsF, if_neg h, if_pos hb]
theorem items_cons {n : Nat} {bs : List Int} {A : Nat} {a : Option Addr} {cap : Nat} (h : ¬ bs.length ≤ A) (hb : ¬ (bs.length < A + 5 ∨ bs.getD A 0 = 0 ∨ bs.length < A + 5 + lenAt bs A)) :
    itemsF (n + 1) bs A a cap = (bs.getD A 0, sliced a 5 (5 + lenAt bs A) cap 1) :: itemsF n bs (A + 5 + lenAt bs A) (adr (sliced a (5 + lenAt bs A) (bs.length - A) cap 1)) (cap - (5 + lenAt bs A)) := by
  rw [itemsF, if_neg h, if_neg hb]
/-- the head's word, as word.Read tells it -/
theorem read_head (bs : List Int) (A : Nat) (hb : ∀ z ∈ bs, 0 ≤ z ∧ z ≤ 255) (h : A + 5 ≤ bs.length) : leW (((bs.drop A).drop 1).take 4) 0 4 = lenAt bs A := by
  have hg : ∀ j, j < 4 → (((bs.drop A).drop 1).take 4).getD j 0 = bs.getD (A + 1 + j) 0 := fun j hj => by
    rw [getD_at _ _ (by simp only [List.length_take, List.length_drop]; omega), getD_at _ _ (by omega)]
    simp [Nat.add_assoc, Nat.add_comm 1 A]
  have hz : ∀ j, j < 4 → 0 ≤ bs.getD (A + 1 + j) 0 := fun j hj => by rw [getD_at _ _ (by omega)]; exact (hb _ (List.getElem_mem _)).1
  have g0 := hg 0 (by omega)
  have g1 := hg 1 (by omega)
  have g2 := hg 2 (by omega)
  have g3 := hg 3 (by omega)
  have z0 := hz 0 (by omega)
  have z1 := hz 1 (by omega)
  have z2 := hz 2 (by omega)
  have z3 := hz 3 (by omega)
  unfold lenAt lenH
  simp only [leW, Nat.zero_add, g0, g1, g2, g3]
  simp only [show A + 1 + 0 = A + 1 from rfl, show A + 1 + 1 = A + 2 from rfl, show A + 1 + 2 = A + 3 from rfl, show A + 1 + 3 = A + 4 from rfl] at *
  omega
section
variable {F : Fence} {nF : Nat} {P : Program} {ops : Array Oper} {Q : Exit → Act → World → Prop} {a : Act} {w : World} {rest : List Oper} {o : Oper}
theorem wpListIn_slice (hw : Region.wanted o (yielded ops a.tmps) = true) (T : TypeId) (x : Operand) (lo hi : Option Operand) (ho : o.op = .slice T x lo hi none) (p : Option Addr) (len cap l m : Nat)
    (hx : a.eval x = .slice p len cap) (hlo : (lo = none ∧ l = 0) ∨ ∃ t, lo = some t ∧ a.eval t = .int .i64 (l : Int)) (hhi : (hi = none ∧ m = len) ∨ ∃ t, hi = some t ∧ a.eval t = .int .i64 (m : Int))
    (hu : P.underlying T = some (.slice (P.elem T))) (hs : (P.info? (P.elem T)).map (·.size) = some 1) (h0 : l ≤ m) (h1 : m ≤ len) (h2 : len ≤ cap)
    (h : ∀ q, sliced p l m cap 1 = .slice q (m - l) (cap - l) → wpListIn F nF P ops Q rest (a.put o.dst (.slice q (m - l) (cap - l))) w) : wpListIn F nF P ops Q (o :: rest) a w := by
  refine BigFrame.wpListIn_want hw fun K hK => ?_
  have hr := exec_slice (P := P) (o := o) (a := a) (w := w) T x lo hi ho p len cap l m hx hlo hhi hu hs h0 h1 h2 _ rfl
  unfold Oper.wpIn
  refine ⟨by simp [Oper.about, ho], ?_⟩
  rw [Oper.semAt_eq _ _ _ (by rw [ho]; intro c hc; cases hc), hr]
  exact hK _ _ (h _ rfl)
end
theorem getD_drop (bs : List Int) (A j : Nat) : (bs.drop A).getD j 0 = bs.getD (A + j) 0 := by simp [List.getD]
def lenCell (B : Nat) (w : World) : Nat := match w.cell? ⟨B, 0, none⟩ with | some (.slice _ l _) => l | _ => 0
theorem lenCell_of {B : Nat} {w : World} {t : TypeId} {a : Option Addr} {l c : Nat} (h : Boxed w B t (.slice a l c)) : lenCell B w = l := by unfold lenCell; rw [h.cell]
set_option maxRecDepth 100000 in
set_option maxHeartbeats 4000000 in
theorem fields1_iter (B1 : Nat) (a : Option Addr) (len cap : Nat) (bs : List Int) (w : World) (hB : Boxed w B1 22 (.slice a len cap)) (hr : Row8 w.heap.size w (.slice a len cap) bs) (hnb : ¬ blockOf (.slice a len cap) B1) (hsm : bs.length ≤ 1048576) :
    IterY Tryz.prog 108 #[.pointer (some ⟨B1, 0, none⟩)] encF (fun b => b = B1 ∨ blockOf (.slice a len cap) b) (fun b => b = B1) (itemsF bs.length bs 0 a cap) w := by
  intro l J Jx S0 W hW hJ hJx hlt hX hY h0
  have BW : Boxed W B1 22 (.slice a len cap) := (hW.block B1 hB.lt).trans hB
  have hWs := hW.size
  have hB1 := hB.lt
  have hrW : Row8 w.heap.size W (.slice a len cap) bs := hr.same fun b hb => hW.block b (hr.lt b hb)
  have hby := hr.2
  have hbl : bs.length = len := hr.1.open.1
  have x1 : ¬ S0 B1 := hX _ (.inl rfl)
  obtain ⟨xs, hxs⟩ : ∃ xs, xs = itemsF bs.length bs 0 a cap := ⟨_, rfl⟩
  rw [← hxs] at hY ⊢
  refine (callsIn_wide (n := 101)).1 ?_
  refine callsIn_of_wp Tryz.func108 rfl trivial ?_ rfl
  simp only [Tryz.ntmps108, List.size_toArray, List.length_cons, List.length_nil, Nat.reduceAdd, Nat.reduceSub, Array.replicate_succ, Array.replicate_zero, List.push_toArray, List.append_toArray, List.nil_append, List.cons_append]
  gi_wp2
  gi_loopw [3, 4, 5, 6] (fun _ _ _ _ wr => ∃ (k A m fuel : Nat) (a' : Option Addr) (cap' : Nat) (S : Nat → Prop), A + m = len ∧ m ≤ fuel ∧ Hid (xs.drop k = itemsF fuel bs A a' cap') ∧ k ≤ xs.length ∧ J k S wr ∧ Wr (fun b => S0 b ∨ b = B1) (fun b => S b ∨ b = B1) W wr ∧ ¬ S B1 ∧ Boxed wr B1 22 (.slice a' m cap') ∧ Row8 w.heap.size W (.slice a' m cap') (bs.drop A) ∧ (∀ b, blockOf (.slice a' m cap') b → blockOf (.slice a len cap) b)) (fun _ _ _ _ wr => lenCell B1 wr)
  case atStart => exact ⟨0, 0, len, bs.length, a, cap, S0, Nat.zero_add _, by omega, by rw [hxs]; rfl, Nat.zero_le _, h0, Wr.refl _ _, x1, BW, by rw [List.drop_zero]; exact hrW, fun b h => h⟩
  case round =>
    obtain ⟨k, A, m, fuel, a', cap', S, hAm, hfu, hdr, hk, hJs, hw, hSB, hBx, hrA, hbk⟩ := hrel
    have cB := hBx.cell
    have fB := hBx.frozen
    have hlw := lenCell_of hBx
    have hrl : Row8 w.heap.size wr (.slice a' m cap') (bs.drop A) := hrA.same fun b hb => hw.block b (by have := hr.lt b (hbk b hb); omega) (fun h => h.elim (hX _ (.inr (hbk b hb))) (fun h => hnb (by rw [← h]; exact hbk b hb)))
    by_cases h0 : m = 0
    · have t0 : decide ((0 : Int) < (m : Int)) = false := by simp; omega
      have hxe : xs.length ≤ k := by
        have h1 := (show xs.drop k = itemsF fuel bs A a' cap' from hdr)
        rw [items_end (by omega)] at h1
        exact List.drop_eq_nil_iff.1 h1
      clear hdr hrl hrA
      gi_wp2
      go_end0
      obtain rfl : k = xs.length := by omega
      exact ⟨⟨_, rfl⟩, .inl ⟨S, hJs⟩⟩
    have t0 : decide ((0 : Int) < (m : Int)) = true := by simp; omega
    by_cases h5 : m < 5
    · have t1 : decide ((5 : Int) ≤ (m : Int)) = false := by simp; omega
      have hx1 : xs.drop k = [(0, .slice none 0 0)] := (show xs.drop k = itemsF fuel bs A a' cap' from hdr).trans (items_bad (by omega) (by omega) (.inl (by omega)))
      have hkl : k < xs.length := by
        have h1 := congrArg List.length hx1
        rw [List.length_drop] at h1
        simp at h1
        omega
      have hxk : xs[k] = (0, .slice none 0 0) := by
        have h1 := List.drop_eq_getElem_cons hkl
        rw [hx1] at h1
        injection h1 with h1 _
        exact h1.symm
      have hk1 : k + 1 = xs.length := by
        have h1 := congrArg List.length hx1
        rw [List.length_drop] at h1
        simp at h1
        omega
      obtain ⟨fn, tmps, assign, body, hy, hR⟩ := hY k hkl S wr hJs
      rw [hxk] at hy
      simp only [encF] at hy
      clear hdr hrl hrA hx1 hxk
      gi_wp2
      refine hR.mono ?_
      rintro e W3 (⟨rfl, S', hJ3, hw3⟩ | ⟨rfl, S', hJx3, hw3⟩)
      · rw [hk1] at hJ3
        gi_wp2
        refine bodyPost_ret (results_none rfl _ _ _) rfl ?_
        exact ⟨⟨_, rfl⟩, .inl ⟨S', hJ3⟩⟩
      · gi_wp2
        refine bodyPost_ret (results_none rfl _ _ _) rfl ?_
        exact ⟨⟨_, rfl⟩, .inr ⟨k + 1, S', by omega, hJx3⟩⟩
    have t1 : decide ((5 : Int) ≤ (m : Int)) = true := by simp; omega
    obtain ⟨L, hL⟩ : ∃ L, L = lenAt bs A := ⟨_, rfl⟩
    have hrd := read_head bs A hby (by omega)
    have hsub := hrl.sub 1 5 (by omega) (by omega)
    have hcap := hrl.1.cap
    have hkr := fun q (hq : sliced a' 1 5 cap' 1 = .slice q 4 (cap' - 1)) => read_any q 4 (cap' - 1) (((bs.drop A).drop 1).take 4) wr (by have h := hsub.1; rw [hq] at h; exact h.mono (by have := hw.size; omega)) (by simp only [List.length_take]; omega)
    have hzl : (((bs.drop A).drop 1).take 4).length = 4 := by simp only [List.length_take, List.length_drop]; omega
    unfold readV readE at hkr
    simp only [hzl, ↓reduceIte, hrd, ← hL] at hkr
    have HKR := Lib.hid hkr
    have HL := Lib.hid hL
    obtain ⟨x0, hx0⟩ : ∃ x, x = bs.getD A 0 := ⟨_, rfl⟩
    have hz0 : 0 ≤ x0 ∧ x0 ≤ 255 := by rw [hx0, getD_at _ _ (by omega)]; exact hby _ (List.getElem_mem _)
    obtain ⟨_, bb, off, hopen, hcc⟩ := hrl.1.open
    obtain ⟨rfl, hbb, _, _⟩ := hopen (by omega)
    have c0 := hcc 0 (by omega)
    rw [getD_drop, show A + 0 = A from rfl, ← hx0, Nat.add_zero] at c0
    have hLb : L < 4294967296 := by
      rw [hL]; unfold lenAt lenH
      have hz : ∀ j, A + j < bs.length → 0 ≤ bs.getD (A + j) 0 ∧ bs.getD (A + j) 0 ≤ 255 := fun j hj => by rw [getD_at _ _ hj]; exact hby _ (List.getElem_mem _)
      have q1 := hz 1 (by omega)
      have q2 := hz 2 (by omega)
      have q3 := hz 3 (by omega)
      have q4 := hz 4 (by omega)
      omega
    have HX0 := Lib.hid hx0
    clear hrd hsub hkr hL hzl hopen hcc hx0
    have hch : Fence.wide.fn 55 := trivial
    gi_wp2_with first
      | (refine wpListIn_slice (by rfl) 22 (.tmp 14) (some (.const (.int .i64 1))) (some (.const (.int .i64 5))) rfl (some ⟨bb, off, none⟩) m cap' 1 5 rfl (.inr ⟨_, rfl, rfl⟩) (.inr ⟨_, rfl, rfl⟩) (by kernel_rfl) (by kernel_rfl) (by omega) (by omega) hcap ?_; intro q hq)
      | (gi_at_call 55; refine held ?_)
    unfold Held
    refine (callsIn_wide.2 ((show ∀ q, sliced (some ⟨bb, off, none⟩) 1 5 cap' 1 = .slice q 4 (cap' - 1) → _ from HKR) q hq)).mono ?_
    rintro e w1 ⟨rfl, b1⟩
    try dsimp only
    have hs1 := b1.size
    have hww := hw.size
    have hBx1 : Boxed w1 B1 22 (.slice (some ⟨bb, off, none⟩) m cap') := (b1.block B1 hBx.lt).trans hBx
    have cB1 := hBx1.cell
    have fB1 := hBx1.frozen
    have c01 := (b1.cell (p := ⟨bb, off, none⟩) (show bb < wr.heap.size by omega)).trans c0
    have hJ1 : J k S w1 := hJ k S wr w1 hJs ((SameOn.of_below b1).mono fun b hb => hb.elim (fun h => by omega) (hlt k S wr hJs b))
    have hw1 : Wr (fun b => S0 b ∨ b = B1) (fun b => S b ∨ b = B1) W w1 := hw.trans (Wr.of_below b1)
    clear HKR hq c0 cB fB hrl hBx hch
    by_cases hbad : x0 = 0 ∨ m < 5 + L
    · have hx1 : xs.drop k = [(0, .slice none 0 0)] := (show xs.drop k = itemsF fuel bs A _ cap' from hdr).trans (items_bad (by omega) (by omega) (.inr (by
        rw [← (show x0 = bs.getD A 0 from HX0), ← (show L = lenAt bs A from HL)]; omega)))
      have hkl : k < xs.length := by
        have h1 := congrArg List.length hx1
        rw [List.length_drop] at h1
        simp at h1
        omega
      have hxk : xs[k] = (0, .slice none 0 0) := by
        have h1 := List.drop_eq_getElem_cons hkl
        rw [hx1] at h1
        injection h1 with h1 _
        exact h1.symm
      have hk1 : k + 1 = xs.length := by
        have h1 := congrArg List.length hx1
        rw [List.length_drop] at h1
        simp at h1
        omega
      obtain ⟨fn, tmps, assign, body, hy, hR⟩ := hY k hkl S w1 hJ1
      rw [hxk] at hy
      simp only [encF] at hy
      clear hdr hx1 hxk
      by_cases hz : x0 = 0
      · have s4 : (x0 == 0) = true := by simp [hz]
        clear hz hbad HX0
        gi_wp2
        refine hR.mono ?_
        rintro e W3 (⟨rfl, S', hJ3, hw3⟩ | ⟨rfl, S', hJx3, hw3⟩)
        · rw [hk1] at hJ3
          gi_wp2
          refine bodyPost_ret (results_none rfl _ _ _) rfl ?_
          exact ⟨⟨_, rfl⟩, .inl ⟨S', hJ3⟩⟩
        · gi_wp2
          refine bodyPost_ret (results_none rfl _ _ _) rfl ?_
          exact ⟨⟨_, rfl⟩, .inr ⟨k + 1, S', by omega, hJx3⟩⟩
      · have s4 : (x0 == 0) = false := by simp [hz]
        have s5 : decide ((m : Int) - 5 < (L : Int)) = true := by simp; omega
        clear hz hbad HX0
        gi_wp2
        refine hR.mono ?_
        rintro e W3 (⟨rfl, S', hJ3, hw3⟩ | ⟨rfl, S', hJx3, hw3⟩)
        · rw [hk1] at hJ3
          gi_wp2
          refine bodyPost_ret (results_none rfl _ _ _) rfl ?_
          exact ⟨⟨_, rfl⟩, .inl ⟨S', hJ3⟩⟩
        · gi_wp2
          refine bodyPost_ret (results_none rfl _ _ _) rfl ?_
          exact ⟨⟨_, rfl⟩, .inr ⟨k + 1, S', by omega, hJx3⟩⟩
    obtain ⟨fu, rfl⟩ : ∃ f, fuel = f + 1 := ⟨fuel - 1, by omega⟩
    have hx1 := (show xs.drop k = itemsF (fu + 1) bs A _ cap' from hdr).trans (items_cons (by omega) (by
      rw [← (show x0 = bs.getD A 0 from HX0), ← (show L = lenAt bs A from HL)]; omega))
    rw [← (show x0 = bs.getD A 0 from HX0), ← (show L = lenAt bs A from HL)] at hx1
    have hkl : k < xs.length := by
      have h1 := congrArg List.length hx1
      rw [List.length_drop] at h1
      simp at h1
      omega
    have hx2 := List.drop_eq_getElem_cons hkl
    rw [hx1] at hx2
    injection hx2 with hxk hx3
    obtain ⟨fn, tmps, assign, body, hy, hR⟩ := hY k hkl S w1 hJ1
    rw [← hxk] at hy
    simp only [encF] at hy
    have HX3 := Lib.hid hx3
    have s4 : (x0 == 0) = false := by simp; omega
    have s5 : decide ((m : Int) - 5 < (L : Int)) = false := by simp; omega
    have w5' : IntKind.i64.wrap (5 + (L : Int)) = 5 + (L : Int) := by rw [IntKind.wrap_i64]; omega
    have n1 : 5 ≤ 5 + L := by omega
    have n2 : 5 + L ≤ m := by omega
    obtain ⟨q5, hq5⟩ : ∃ q, sliced (some ⟨bb, off, none⟩) 5 (5 + L) cap' 1 = .slice q (5 + L - 5) (cap' - 5) := ⟨_, rfl⟩
    rw [show 5 + L - 5 = L by omega] at hq5
    rw [hq5] at hy
    clear hdr hx1 hx3 hxk hbad
    gi_wp2_with first
      | (refine wpListIn_slice (by rfl) 22 (.tmp 38) (some (.const (.int .i64 5))) (some (.tmp 40)) rfl (some ⟨bb, off, none⟩) m cap' 5 (5 + L) rfl (.inr ⟨_, rfl, rfl⟩) (.inr ⟨_, rfl, rfl⟩) (by kernel_rfl) (by kernel_rfl) n1 n2 hcap ?_; intro q hq; rw [hq5] at hq; injection hq with hq h2 h3; subst hq; clear h2; try clear h3)
    refine hR.mono ?_
    rintro e W3 (⟨rfl, S', hJ3, hw3⟩ | ⟨rfl, S', hJx3, hw3⟩)
    rotate_left
    · gi_wp2
      refine bodyPost_ret (results_none rfl _ _ _) rfl ?_
      exact ⟨⟨_, rfl⟩, .inr ⟨k + 1, S', by omega, hJx3⟩⟩
    have hSB3 : ¬ S' B1 := fun h => (hw3.new B1 h).elim hSB (fun h2 => by have := hBx1.lt; omega)
    have hBx3 : Boxed W3 B1 22 (.slice (some ⟨bb, off, none⟩) m cap') := (hw3.block B1 hBx1.lt hSB).trans hBx1
    have HQ5 := Lib.hid hq5
    clear hq5 hy
    have cB3 := hBx3.cell
    have fB3 := hBx3.frozen
    gi_wp2_with first
      | (refine wpListIn_slice (by rfl) 22 (.tmp 44) (some (.tmp 46)) none rfl (some ⟨bb, off, none⟩) m cap' (5 + L) m rfl (.inr ⟨_, rfl, rfl⟩) (.inl ⟨rfl, rfl⟩) (by kernel_rfl) (by kernel_rfl) n2 (Nat.le_refl _) hcap ?_; intro q6 hq6)
    have hsub2 := hrA.sub (5 + L) m n2 (Nat.le_refl _)
    rw [hq6] at hsub2
    have hd2 : ((bs.drop A).drop (5 + L)).take (m - (5 + L)) = bs.drop (A + 5 + L) := by
      rw [List.drop_drop, ← Nat.add_assoc, List.take_of_length_le (by rw [List.length_drop]; omega)]
    rw [hd2] at hsub2
    have w3' : Wr (fun b => S b ∨ b = B1) (fun b => S' b ∨ b = B1) w1 W3 := ⟨hw3.os, hw3.tape, hw3.output, hw3.size, fun b hb hs => hw3.block b hb (fun h => hs (.inl h)), fun b hb => hb.elim (fun h => (hw3.new b h).elim (fun h => .inl (.inl h)) .inr) (fun h => .inl (.inr h))⟩
    have hx3 : itemsF fu bs (A + 5 + L) (adr (sliced (some ⟨bb, off, none⟩) (5 + L) (bs.length - A) cap' 1)) (cap' - (5 + L)) = xs.drop (k + 1) := HX3
    rw [show bs.length - A = m by omega, hq6] at hx3
    refine ⟨⟨k + 1, A + 5 + L, m - (5 + L), fu, q6, cap' - (5 + L), S', by omega, by omega, hx3.symm, hkl, ?_, ?_, hSB3, hBx3.set _, hsub2.1, fun b hb => hbk b (hsub2.2 b hb)⟩, ?_⟩
    · exact hJ _ _ _ _ hJ3 ⟨rfl, rfl, rfl, by show _ ≤ (W3.heap.modify _ _).size; rw [Array.size_modify]; exact Nat.le_refl _, fun b hb => Below.heap_setCell _ _ _ _ (fun e => by
        subst e
        exact hb.elim (fun h => h.2 rfl) hSB3)⟩
    · exact (hw1.trans w3').setCell (p := ⟨B1, 0, none⟩) (.inl (.inr rfl)) _
    · rw [lenCell_of (hBx3.set _), hlw]; omega
end Go.Proofs.YtejcandhijdnhaaGreat

/- What the walk of tlv.read needs: stores, an own row's last element, AnyZ within a body. -/
namespace Go.Proofs.YtejcandhijdnhaaGreat
open Go Go.RowKit
set_option linter.unusedVariables false
set_option linter.unnecessarySimpa false
set_option linter.unusedSimpArgs false
section
variable {F : Fence} {nF : Nat} {P : Program} {ops : Array Oper} {Q : Exit → Act → World → Prop} {a : Act} {w : World} {rest : List Oper} {o : Oper}
theorem wpListIn_store_row (hgd : o.guard = none) (ty : TypeId) (x y : Operand) (ho : o.op = .store ty x y)
    (g : Nat) (cells : Array Value) (hx : a.eval x = .pointer (some ⟨g, 0, none⟩)) (hy : a.eval y = .agg cells)
    (t : TypeId) (old : Array Value) (hg : w.heap[g]? = some (.cells old t (0, 0))) (hi : (P.info? ty).map (·.size) = some cells.size)
    (hold : old.size = cells.size) (h1 : cells.all (·.oneCell') = true)
    (h : wpListIn F nF P ops Q rest (a.put o.dst undef) (w.setRow g cells)) : wpListIn F nF P ops Q (o :: rest) a w := by
  refine wpListIn_plain hgd fun K hK => ?_
  unfold Oper.wpIn
  refine ⟨by simp [Oper.about, ho], ?_⟩
  rw [Oper.semAt_plain F _ _ (by rw [ho]; intro c hc'; cases hc')]
  simp only [execOp, ho, hx, hy, Instr.storeAt, Instr.sureAddr, Sem.run_bind, Sem.run_pure, Result.andThen_ok, run_storeVar_row w g t ty old cells hg hi hold h1]
  exact hK _ _ h
theorem at_storeIn {t : TypeId} {x y : Operand} (ho : o.op = .store t x y) (h : Held (wpListIn F nF P ops Q (o :: rest) a w)) : wpListIn F nF P ops Q (o :: rest) a w := h
theorem upV_store_at {K : Value → World → Prop} (ty : TypeId) (x y : Operand) (ho : o.op = .store ty x y)
    (g off : Nat) (cells : Array Value) (hx : a.eval x = .pointer (some ⟨g, off, none⟩)) (hy : a.eval y = .agg cells)
    (t : TypeId) (cur : Array Value) (hg : w.heap[g]? = some (.cells cur t (0, 0))) (hi : (P.info? ty).map (·.size) = some cells.size)
    (hfit : off + cells.size ≤ cur.size) (h1 : cells.all (·.oneCell') = true)
    (h : K undef (w.setRow g (cur.toList.take off ++ cells.toList ++ cur.toList.drop (off + cells.size)).toArray)) : upV P K ((execOp a.eval o).run P w) := by
  have hs := run_storeCells_at (P := P) g off t cells.toList 0 cur w hg (by simpa using hfit) (fun v hv => (Array.all_eq_true_iff_forall_mem.1 h1) v (by simpa using hv))
  have hv : (storeVar ty ⟨g, off, none⟩ (.agg cells)).run P w = .ok () (w.setRow g (cur.toList.take off ++ cells.toList ++ cur.toList.drop (off + cells.size)).toArray) := by
    cases hq : P.info? ty with
    | none => simp [hq] at hi
    | some i =>
      have hs2 : cells.size = i.size := by simp [hq] at hi; omega
      simp only [Nat.add_zero, Array.length_toList] at hs
      simp [storeVar, sizeOf, typeInfo, hq, Value.cells, hs2]
      rw [hs2] at hs
      simpa using hs
  unfold execOp
  simp only [ho, hx, hy, Instr.storeAt, Instr.sureAddr, Sem.run_bind, Sem.run_pure, Result.andThen_ok, hv]
  exact h
end
/-- an own row's last element, written anew -/
theorem ownsRow_last {W : World} {base : Nat} {e : TypeId} {size : Nat} {v : Value} {n : Nat} {xs zs ys : List Value} (h : W.ownsRow base e size v (n + 1) (xs ++ zs)) (hx : xs.length = n * size) (hy : ys.length = size) :
    ∃ g cap cur, v = .slice (some ⟨g, 0, none⟩) (n + 1) cap ∧ n + 1 ≤ cap ∧ base ≤ g ∧ W.heap[g]? = some (.cells cur e (0, 0)) ∧ n * size + ys.length ≤ cur.size ∧
      ∀ W' : World, W'.heap[g]? = some (.cells (cur.toList.take (n * size) ++ ys ++ cur.toList.drop (n * size + ys.length)).toArray e (0, 0)) → W'.ownsRow base e size v (n + 1) (xs ++ ys) := by
  rcases h.2 with ⟨_, h0⟩ | ⟨g, cap, cur, hv, h2, h3, h4, h5, h6, h7⟩
  · omega
  · have hs : (n + 1) * size ≤ cap * size := Nat.mul_le_mul_right _ h4
    rw [Nat.succ_mul] at hs
    have hcl : cur.toList.length = cap * size := by rw [Array.length_toList, h6]
    refine ⟨g, cap, cur, hv, h4, h2, h3, by rw [hy, h6]; exact hs, fun W' hW' => ⟨by rw [List.length_append, hx, hy, Nat.succ_mul], .inr ⟨g, cap, _, hv, h2, hW', h4, h5, ?_, ?_⟩⟩⟩
    · simp only [List.size_toArray, List.length_append, List.length_take, List.length_drop, hcl, hy]; omega
    · have h8 : cur.toList.take (n * size) = xs := by
        have h9 := congrArg (List.take (n * size)) h7
        rw [List.take_take, Nat.min_eq_left (by rw [Nat.succ_mul]; omega), List.take_left' hx] at h9
        exact h9
      show List.take _ (_ ++ _ ++ _) = _
      rw [h8, List.take_left' (by rw [List.length_append, hx, hy, Nat.succ_mul])]
/-! AnyZ within a body -/
section
variable {P : Program} {ops : Array Oper} {md : Region.Mode} {R : World → World → Prop}
theorem wpAnyIn_of_anyZ {l m z r : Nat} {Q : Exit → Act → World → Prop} (hd : noDefer ops = true) : ∀ (f : Nat) (listed : Array Bool) (a : Act) (w : World), anyZ R P md ops z (wpAnyIn (Fence.wide.inRound l) m P md ops Q r) f listed a w → wpAnyIn (Fence.wide.inRound l) m P md ops Q (f + r) listed a w
  | 0, _, _, _, h => by rw [Nat.zero_add]; exact h.2
  | f + 1, listed, a, w, h => by
    rw [show f + 1 + r = (f + r) + 1 by omega]
    exact ⟨fun h0 => absurd h0 h.1, fun i hi => by
      obtain ⟨o, ho, hop⟩ := h.2 i hi
      exact wpOpIn_of_opV ho (noDefer_spec hd i o ho) (opV_mono (fun v w' hk => wpAnyIn_of_anyZ hd f _ _ _ hk.2) hop)⟩
/-- THE LAW: the first z in any order under R; from there on under R2 -/
theorem wpIn_region_anyZV {l m : Nat} (R R2 : World → World → Prop) (z r : Nat) {id : Nat} {Q : Exit → Act → World → Prop} {a : Act} {w : World} (hm : P.follows .mixedOrders = true) (hn : ops.size = z + r) (hd : noDefer ops = true)
    (h : anyZ R P .any ops z (fun listed a w => anyV R2 P .any ops (fun a w => Q .normal a w) r listed a w) z (Array.replicate (z + r) false) a w.drew) : (Code.region id ops true).wpIn (Fence.wide.inRound l) m P Q a w := by
  rw [← hn] at h
  refine wpIn_region_any hm ?_
  have h2 : anyZ R P .any ops z (wpAnyIn (Fence.wide.inRound l) m P .any ops Q r) z (Array.replicate ops.size false) a w.drew := by
    revert h
    generalize Array.replicate ops.size false = listed
    generalize w.drew = w'
    generalize hf : z = f
    have key : ∀ (f : Nat) (listed : Array Bool) (a : Act) (w : World), anyZ R P .any ops z (fun listed a w => anyV R2 P .any ops (fun a w => Q .normal a w) r listed a w) f listed a w → anyZ R P .any ops z (wpAnyIn (Fence.wide.inRound l) m P .any ops Q r) f listed a w := by
      intro f
      induction f with
      | zero => intro listed a w h; exact ⟨h.1, wpAnyIn_of_anyV (fun _ _ h => h) hd _ _ _ _ h.2⟩
      | succ f ih => intro listed a w h; exact ⟨h.1, fun i hi => by
          obtain ⟨o, ho, hop⟩ := h.2 i hi
          exact ⟨o, ho, opV_mono (fun v w' hk => ⟨hk.1, ih _ _ _ hk.2⟩) hop⟩⟩
    rw [← hf]
    exact key _ _ _ _
  have h3 := wpAnyIn_of_anyZ hd _ _ _ _ h2
  rw [← hn] at h3
  exact h3
end
end Go.Proofs.YtejcandhijdnhaaGreat
