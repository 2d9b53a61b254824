/- Own texts of this seat, one behind the other (part 4 of 9). -/
import Derived.Test.YtejcandhijdnhaaGreatMN03
import Derived.Deep.Cut
import Derived.Deep.CutRange
import Derived.Deep.CutBlock
import Derived.OrdersIn

/- The walks of tlv.Value and of the document's. -/
namespace Go.Proofs.YtejcandhijdnhaaGreat
open Go Go.RowKit
attribute [local go_sem] upV_value upV_skip upV_enter
set_option linter.unusedVariables false
set_option linter.unnecessarySimpa false
set_option linter.unusedSimpArgs false
/-- a field's number -/
def valB : List Int → Int
  | [] => 0
  | b :: r => b + 256 * valB r
def ValPost (W : World) (t : Int) (bs : List Int) (e : Ending) (W' : World) : Prop :=
  Below W.heap.size W W' ∧ e = .returned (.tuple #[.int .u64 (if t < 128 ∧ bs.length = 8 then valB bs else 0), .bool (decide (t < 128 ∧ bs.length = 8))])
theorem or_shift (X Y : Nat) (hX : X < 4294967296) (hY : Y < 4294967296) : bits .or .u64 (IntKind.u64.wrap (X : Int)) (IntKind.u64.wrap (IntKind.u64.wrap (Y : Int) * 4294967296)) = ((X + 4294967296 * Y : Nat) : Int) := by
  rw [wrap_u64_nat X (by omega), wrap_u64_nat Y (by omega), show (Y : Int) * 4294967296 = ((4294967296 * Y : Nat) : Int) by omega, wrap_u64_nat _ (by omega), or_u64 _ _ (by omega) (by omega)]
  have := Nat.two_pow_add_eq_or_of_lt (i := 32) (b := X) (by omega) Y
  rw [Nat.or_comm, show (4294967296 : Nat) = 2 ^ 32 by decide, ← this]
  congr 1
  omega
theorem valB_lt : ∀ (bs : List Int), (∀ z ∈ bs, 0 ≤ z ∧ z ≤ 255) → 0 ≤ valB bs ∧ valB bs < ((256 ^ bs.length : Nat) : Int)
  | [], _ => by simp [valB]
  | b :: r, h => by
    have h1 := valB_lt r fun z hz => h z (List.mem_cons_of_mem _ hz)
    have h2 := h b (List.mem_cons_self ..)
    simp only [valB, List.length_cons, Nat.pow_succ]
    omega
theorem valB_words (bs : List Int) (h8 : bs.length = 8) (hb : ∀ z ∈ bs, 0 ≤ z ∧ z ≤ 255) : valB bs = ((leW bs 0 4 + 4294967296 * leW bs 4 4 : Nat) : Int) := by
  match bs, h8 with
  | [b0, b1, b2, b3, b4, b5, b6, b7], _ =>
    simp only [List.mem_cons, List.not_mem_nil, or_false, forall_eq_or_imp, forall_eq] at hb
    obtain ⟨h0, h1, h2, h3, h4, h5, h6, h7⟩ := hb
    simp [valB, leW]
    omega
set_option maxRecDepth 100000 in
set_option maxHeartbeats 4000000 in
theorem value_any (W : World) (n : Nat) (hn : n ≤ W.heap.size) (t : Int) (a : Option Addr) (len cap : Nat) (bs : List Int) (ka : Option Addr) (kl kc : Nat) (hb : Row8 n W (.slice a len cap) bs) (hbl : bs.length ≤ 140737488350000) :
    Calls Tryz.prog 18 #[.agg #[.int .i64 t, .slice a len cap, .slice ka kl kc]] W (ValPost W t bs) := by
  have hl := hb.1.open.1
  obtain ⟨V, hV⟩ : ∃ V, V = W.alloc (.cells #[.int .i64 t, .slice a len cap, .slice ka kl kc] 66) := ⟨_, rfl⟩
  have bV : Below W.heap.size W V := by rw [hV]; exact (Below.refl _ W).alloc (Nat.le_refl _) _
  have xV : V.heap[W.heap.size]? = some (.cells #[.int .i64 t, .slice a len cap, .slice ka kl kc] 66) := by rw [hV]; exact World.alloc_heap_new W _
  have y0 : V.cell? ⟨W.heap.size, 0, none⟩ = some (.int .i64 t) := by rw [cell_of_row V _ 0 _ _ _ xV]; rfl
  have y1 : V.cell? ⟨W.heap.size, 1, none⟩ = some (.slice a len cap) := by rw [cell_of_row V _ 1 _ _ _ xV]; rfl
  have rV : Row8 V.heap.size V (.slice a len cap) bs := (hb.below ⟨bV.os, bV.tape, bV.output, bV.size, fun q hq => bV.block q (by omega)⟩).mono (by have := bV.size; omega)
  go_enter Tryz.func18, Tryz.ntmps18
  by_cases ht : t < 128
  rotate_left
  · have t1 : decide (t ≥ 128) = true := decide_eq_true (by omega)
    have HF := Lib.hid (show ¬ (t < 128 ∧ bs.length = 8) from fun h => by omega)
    clear ht
    go_wp2_with fail
    rw [← hV]
    go_ret2
    exact ⟨bV, by rw [if_neg HF, decide_eq_false HF]; rfl⟩
  have t1 : decide (t ≥ 128) = false := decide_eq_false (by omega)
  by_cases h8 : bs.length = 8
  rotate_left
  · have t2 : ((len : Int) != 8) = true := by simp; omega
    have HF := Lib.hid (show ¬ (t < 128 ∧ bs.length = 8) from fun h => h8 h.2)
    clear h8
    rw [hV] at y0 y1
    go_wp2_with fail
    rw [← hV]
    go_ret2
    exact ⟨bV, by rw [if_neg HF, decide_eq_false HF]; rfl⟩
  obtain rfl : len = 8 := by omega
  have K := Lib.hid (words_in 0 a 8 cap bs V rV (by omega))
  have H8 := Lib.hid h8
  clear h8 hl
  rw [hV] at y0 y1
  go_wp2_with (go_at_call 60; refine held ?_)
  unfold Held
  rw [← hV]
  clear hV y0 y1 xV
  refine Calls.mono K ?_
  rintro e w3 ⟨b3, ⟨_, v3, rfl, o3, _⟩ | ⟨h4, _⟩⟩
  rotate_left
  · exact absurd (show bs.length % 4 = 0 by rw [show bs.length = 8 from H8]) h4
  rw [show bs.length = 8 from H8, show 8 / 4 = 2 from rfl] at o3
  have B3 := bV.trans (b3.mono bV.size)
  obtain ⟨a3, c3, rfl, hva⟩ := ownsRow_slice o3
  rcases hva with h0 | ⟨g3, rfl, _⟩
  · omega
  have hcap : 2 ≤ c3 ∧ c3 ≤ maxLen := by
    rcases o3.2 with ⟨h1, _⟩ | ⟨g, cp, cur, h1, _, _, h5, h6, _⟩
    · cases h1
    · injection h1 with _ _ h1; subst h1; exact ⟨h5, h6⟩
  obtain ⟨hc1, hc2⟩ := hcap
  simp only [maxLen] at hc2
  have c0 : w3.cell? ⟨g3, 0, none⟩ = some (.int .u32 (leW bs 0 4 : Nat)) := by rw [o3.cellAt 0 (by omega)]; rfl
  have c1 : w3.cell? ⟨g3, 1, none⟩ = some (.int .u32 (leW bs 4 4 : Nat)) := by rw [o3.cellAt 1 (by omega)]; rfl
  obtain ⟨X, hX⟩ : ∃ X : Nat, X = leW bs 0 4 := ⟨_, rfl⟩
  obtain ⟨Y, hY⟩ : ∃ Y : Nat, Y = leW bs 4 4 := ⟨_, rfl⟩
  rw [← hX] at c0
  rw [← hY] at c1
  have hXl : X < 4294967296 := by rw [hX]; exact leW_lt bs hb.2 0 4
  have hYl : Y < 4294967296 := by rw [hY]; exact leW_lt bs hb.2 4 4
  have hval := valB_words bs H8 hb.2
  rw [← hX, ← hY] at hval
  have HV := Lib.hid hval
  have HOR := Lib.hid (or_shift X Y hXl hYl)
  have HT := Lib.hid ht
  clear hX hY o3 K rV b3 hval ht hXl hYl
  go_wp2_with fail
  go_region
  go_wp2_with fail
  go_ret2
  refine ⟨⟨B3.os, B3.tape, B3.output, B3.size, B3.block⟩, ?_⟩
  rw [if_pos ⟨HT, H8⟩, decide_eq_true ⟨HT, H8⟩, show valB bs = _ from HV, ← show bits .or .u64 (IntKind.u64.wrap (X : Int)) (IntKind.u64.wrap (IntKind.u64.wrap (Y : Int) * 4294967296)) = ((X + 4294967296 * Y : Nat) : Int) from HOR]
  rfl
end Go.Proofs.YtejcandhijdnhaaGreat

/- A region that draws: two operations that make memory may come up in either order (two, or one beside a chain of two); what comes behind is walked once. -/
namespace Go.Proofs.YtejcandhijdnhaaGreat
open Go Go.RowKit
set_option linter.unusedVariables false
section
variable {P : Program} {ops : Array Oper} {md : Region.Mode} {R : World → World → Prop} {a : Act} {w : World}
theorem anyV_pair {L : Act → World → Prop} (C : Value → Value → World → Prop) (i j : Nat) {oi oj : Oper} {fuel : Nat} {listed : Array Bool} (hi : ops[i]? = some oi) (hj : ops[j]? = some oj) (hij : i ≠ j)
    (hr : Region.ready md ops listed = [i, j]) (hri : Region.ready md ops (listed.setIfInBounds i true) = [j]) (hrj : Region.ready md ops (listed.setIfInBounds j true) = [i])
    (hd : ∀ d, oi.dst = some d → oj.dst ≠ some d)
    (hwi : Region.wanted oi (yielded ops a.tmps) = true) (hwj : Region.wanted oj (yielded ops a.tmps) = true)
    (hwj' : ∀ v, Region.wanted oj (yielded ops (a.put oi.dst v).tmps) = true) (hwi' : ∀ v, Region.wanted oi (yielded ops (a.put oj.dst v).tmps) = true)
    (h1 : ∀ K : Value → World → Prop, (∀ v1 w1, R w w1 → upV P (fun v2 w2 => R w1 w2 ∧ C v1 v2 w2) ((execOp (a.put oi.dst v1).eval oj).run P w1) → K v1 w1) → upV P K ((execOp a.eval oi).run P w))
    (h2 : ∀ K : Value → World → Prop, (∀ v2 w1, R w w1 → upV P (fun v1 w2 => R w1 w2 ∧ C v1 v2 w2) ((execOp (a.put oj.dst v2).eval oi).run P w1) → K v2 w1) → upV P K ((execOp a.eval oj).run P w))
    (h : ∀ v1 v2 w2, C v1 v2 w2 → anyV R P md ops L fuel ((listed.setIfInBounds i true).setIfInBounds j true) ((a.put oi.dst v1).put oj.dst v2) w2) : anyV R P md ops L (fuel + 2) listed a w := by
  refine anyV_two i j hi hj hr hwi hwj (fun K hK => h1 K fun v1 w1 hR hu => hK v1 w1 hR ?_) (fun K hK => h2 K fun v2 w1 hR hu => hK v2 w1 hR ?_)
  · refine anyV_only j hj hri (hwj' v1) fun K2 hK2 => ?_
    exact upV_mono (fun v2 w2 hc => hK2 v2 w2 hc.1 (h v1 v2 w2 hc.2)) hu
  · refine anyV_only i hi hrj (hwi' v2) fun K2 hK2 => ?_
    refine upV_mono (fun v1 w2 hc => hK2 v1 w2 hc.1 ?_) hu
    rw [Array.setIfInBounds_comm _ _ (Ne.symm hij), ← Act.put_comm a v1 v2 hd]
    exact h v1 v2 w2 hc.2
/-- one beside a chain of two -/
theorem anyV_tri {L : Act → World → Prop} (C : Value → Value → Value → World → Prop) (i j k : Nat) {oi oj ok : Oper} {fuel : Nat} {listed : Array Bool} (hi : ops[i]? = some oi) (hj : ops[j]? = some oj) (hk : ops[k]? = some ok) (hij : i ≠ j) (hik : i ≠ k)
    (hr : Region.ready md ops listed = [i, j]) (hri : Region.ready md ops (listed.setIfInBounds i true) = [j]) (hrij : Region.ready md ops ((listed.setIfInBounds i true).setIfInBounds j true) = [k])
    (hrj : Region.ready md ops (listed.setIfInBounds j true) = [i, k]) (hrji : Region.ready md ops ((listed.setIfInBounds j true).setIfInBounds i true) = [k]) (hrjk : Region.ready md ops ((listed.setIfInBounds j true).setIfInBounds k true) = [i])
    (hd : ∀ d, oi.dst = some d → oj.dst ≠ some d) (hd2 : ∀ d, oi.dst = some d → ok.dst ≠ some d)
    (hwi : Region.wanted oi (yielded ops a.tmps) = true) (hwj : Region.wanted oj (yielded ops a.tmps) = true)
    (hw1 : ∀ v, Region.wanted oj (yielded ops (a.put oi.dst v).tmps) = true) (hw2 : ∀ v u, Region.wanted ok (yielded ops ((a.put oi.dst v).put oj.dst u).tmps) = true)
    (hw3 : ∀ v, Region.wanted oi (yielded ops (a.put oj.dst v).tmps) = true) (hw4 : ∀ v, Region.wanted ok (yielded ops (a.put oj.dst v).tmps) = true) (hw5 : ∀ v u, Region.wanted oi (yielded ops ((a.put oj.dst v).put ok.dst u).tmps) = true)
    (h1 : ∀ K : Value → World → Prop, (∀ vi w1, R w w1 → upV P (fun vj w2 => R w1 w2 ∧ upV P (fun vk w3 => R w2 w3 ∧ C vi vj vk w3) ((execOp ((a.put oi.dst vi).put oj.dst vj).eval ok).run P w2)) ((execOp (a.put oi.dst vi).eval oj).run P w1) → K vi w1) → upV P K ((execOp a.eval oi).run P w))
    (h2 : ∀ K : Value → World → Prop, (∀ vj w1, R w w1 → upV P (fun vi w2 => R w1 w2 ∧ upV P (fun vk w3 => R w2 w3 ∧ C vi vj vk w3) ((execOp ((a.put oi.dst vi).put oj.dst vj).eval ok).run P w2)) ((execOp (a.put oj.dst vj).eval oi).run P w1) →
      upV P (fun vk w2 => R w1 w2 ∧ upV P (fun vi w3 => R w2 w3 ∧ C vi vj vk w3) ((execOp ((a.put oj.dst vj).put ok.dst vk).eval oi).run P w2)) ((execOp (a.put oj.dst vj).eval ok).run P w1) → K vj w1) → upV P K ((execOp a.eval oj).run P w))
    (h : ∀ vi vj vk w3, C vi vj vk w3 → anyV R P md ops L fuel (((listed.setIfInBounds i true).setIfInBounds j true).setIfInBounds k true) (((a.put oi.dst vi).put oj.dst vj).put ok.dst vk) w3) : anyV R P md ops L (fuel + 3) listed a w := by
  refine anyV_two i j hi hj hr hwi hwj (fun K hK => h1 K fun vi w1 hR hu => hK vi w1 hR ?_) (fun K hK => h2 K fun vj w1 hR hu hu2 => hK vj w1 hR ?_)
  · refine anyV_only j hj hri (hw1 vi) fun K2 hK2 => ?_
    refine upV_mono (fun vj w2 hc => hK2 vj w2 hc.1 ?_) hu
    refine anyV_only k hk hrij (hw2 vi vj) fun K3 hK3 => ?_
    exact upV_mono (fun vk w3 hc2 => hK3 vk w3 hc2.1 (h vi vj vk w3 hc2.2)) hc.2
  · refine anyV_two i k hi hk hrj (hw3 vj) (hw4 vj) (fun K2 hK2 => ?_) (fun K2 hK2 => ?_)
    · refine upV_mono (fun vi w2 hc => hK2 vi w2 hc.1 ?_) hu
      rw [Array.setIfInBounds_comm _ _ (Ne.symm hij), ← Act.put_comm a vi vj hd]
      refine anyV_only k hk hrij (hw2 vi vj) fun K3 hK3 => ?_
      exact upV_mono (fun vk w3 hc2 => hK3 vk w3 hc2.1 (h vi vj vk w3 hc2.2)) hc.2
    · refine upV_mono (fun vk w2 hc => hK2 vk w2 hc.1 ?_) hu2
      refine anyV_only i hi hrjk (hw5 vj vk) fun K3 hK3 => ?_
      refine upV_mono (fun vi w3 hc2 => hK3 vi w3 hc2.1 ?_) hc.2
      rw [← Act.put_comm _ vi vk hd2, ← Act.put_comm a vi vj hd]
      rw [Array.setIfInBounds_comm _ _ (Ne.symm hik), Array.setIfInBounds_comm _ _ (Ne.symm hij)]
      exact h vi vj vk w3 hc2.2
end
end Go.Proofs.YtejcandhijdnhaaGreat

/- The walk of the law TlvFinds. -/
namespace Go.Proofs.YtejcandhijdnhaaGreat
open Go Go.RowKit
attribute [local go_sem] upV_value upV_skip upV_enter
set_option linter.unusedVariables false
set_option linter.unnecessarySimpa false
set_option linter.unusedSimpArgs false
def fT (r : Option (List Int × Forest)) (tag : Int) : Int := match r with | none => 0 | some _ => tag
def fB (r : Option (List Int × Forest)) : List Int := match r with | none => [] | some (b, _) => b
def fK (r : Option (List Int × Forest)) : Forest := match r with | none => .nil | some (_, k) => k
theorem FindPost.fld {W W' : World} {r : Option (List Int × Forest)} {tag : Int} {e : Ending} (h : FindPost W r tag e W') :
    ∃ (a : Option Addr) (len cap : Nat) (ka : Option Addr) (kl kc : Nat), e = .returned (.tuple #[.agg #[.int .i64 (fT r tag), .slice a len cap, .slice ka kl kc], .bool r.isSome]) ∧ Fld W' (fT r tag) (fB r) (fK r) a len cap ka kl kc ∧ Below W.heap.size W W' := by
  obtain ⟨hb, h⟩ := h
  cases r with
  | none => exact ⟨none, 0, 0, none, 0, 0, h, ⟨row8_none _ _, slF_none _ _, by simp [fT], by simp [fT], by decide⟩, hb⟩
  | some p =>
    obtain ⟨b, k⟩ := p
    obtain ⟨a, len, cap, ka, kl, kc, h1, h2⟩ := h
    exact ⟨a, len, cap, ka, kl, kc, h1, h2, hb⟩
/-- a field in a block of its own -/
def BoxT (W : World) (x : Nat) (t : Int) (a : Option Addr) (len cap : Nat) (ka : Option Addr) (kl kc : Nat) : Prop := W.heap[x]? = some (.cells #[.int .i64 t, .slice a len cap, .slice ka kl kc] 66)
section
variable {W W' : World} {x : Nat} {t : Int} {a : Option Addr} {len cap : Nat} {ka : Option Addr} {kl kc : Nat}
theorem BoxT.below (h : BoxT W x t a len cap ka kl kc) (hb : Below W.heap.size W W') : BoxT W' x t a len cap ka kl kc := (hb.block x (Array.getElem?_eq_some_iff.1 h).1).trans h
theorem BoxT.cells (h : BoxT W x t a len cap ka kl kc) : W.cell? ⟨x, 0, none⟩ = some (.int .i64 t) ∧ W.cell? ⟨x, 1, none⟩ = some (.slice a len cap) ∧ W.cell? ⟨x, 2, none⟩ = some (.slice ka kl kc) :=
  ⟨by rw [cell_of_row W _ 0 _ _ _ h]; rfl, by rw [cell_of_row W _ 1 _ _ _ h]; rfl, by rw [cell_of_row W _ 2 _ _ _ h]; rfl⟩
/-- a literal of one field -/
theorem one_lit {bs : List Int} {k : Forest} (h : Fld W t bs k a len cap ka kl kc) (V : World) (hV : V = W.alloc (.cells #[.int .i64 t, .slice a len cap, .slice ka kl kc] 66) ∨ V = (W.alloc (.cells #[.int .i64 t, .slice a len cap, .slice ka kl kc] 66)).drew) :
    Below W.heap.size W V ∧ SlF V.heap.size V (some ⟨W.heap.size, 0, none⟩) 1 1 (.cons t bs k .nil) := by
  have h1 := one_field W 0 t a len cap bs ka kl kc k h.t1 h.t2 h.row (by have := h.small; omega) h.kids
  have h2 : Below W.heap.size W (W.alloc (.cells #[.int .i64 t, .slice a len cap, .slice ka kl kc] 66)) := (Below.refl _ _).alloc (Nat.le_refl _) _
  rcases hV with rfl | rfl
  · exact ⟨h2, h1⟩
  · exact ⟨⟨h2.os, h2.tape, h2.output, h2.size, h2.block⟩, h1.below ⟨rfl, rfl, rfl, Nat.le_refl _, fun _ _ => rfl⟩⟩
end
theorem SlF.step {W W' : World} {a : Option Addr} {len cap : Nat} {f : Forest} (h : SlF W.heap.size W a len cap f) (hb : Below W.heap.size W W') : SlF W'.heap.size W' a len cap f := (h.below hb).mono hb.size
theorem wrap64_succ (i l : Nat) (h : i < l) (hl : l ≤ 9223372036854775807) : wrap64 ((i : Int) + 1) = (i : Int) + 1 := by unfold wrap64; omega
theorem idx_next (i : Nat) (hw : wrap64 ((i : Int) + 1) = (i : Int) + 1) : Value.int .i64 (wrap64 ((i : Int) + 1)) = Value.int .i64 ((i + 1 : Nat) : Int) := by rw [hw]; rfl
theorem meas_next (i l : Nat) (h : i < l) (hw : wrap64 ((i : Int) + 1) = (i : Int) + 1) : l - (intOf (Value.int .i64 (wrap64 ((i : Int) + 1)))).toNat < l - (intOf (Value.int .i64 (i : Int))).toNat := by rw [hw]; simp only [intOf]; omega
/-- two literals of one field each -/
def LitC (V : World) (f g : Forest) (v1 v2 : Value) (w2 : World) : Prop := ∃ x y, v1 = .slice (some ⟨x, 0, none⟩) 1 1 ∧ v2 = .slice (some ⟨y, 0, none⟩) 1 1 ∧ SlF w2.heap.size w2 (some ⟨x, 0, none⟩) 1 1 f ∧ SlF w2.heap.size w2 (some ⟨y, 0, none⟩) 1 1 g ∧ Grows V w2
end Go.Proofs.YtejcandhijdnhaaGreat

/- What bytes read as: the plain law of read. -/
namespace Go.Proofs.YtejcandhijdnhaaGreat
open Go
set_option linter.unusedVariables false
/-- a field's length, as its head says it -/
def lenH (b1 b2 b3 b4 : Int) : Nat := (b1 + 256 * b2 + 65536 * b3 + 16777216 * b4).toNat
/-- the fields that bytes are, that stand so deep (the first number is fuel: the bytes' length is enough) -/
def readF : Nat → Nat → List Int → Option Forest
  | _, _, [] => some .nil
  | n + 1, d, b0 :: b1 :: b2 :: b3 :: b4 :: rest =>
    if 8 < d ∨ b0 = 0 ∨ rest.length < lenH b1 b2 b3 b4 then none
    else if 128 ≤ b0 then
      (readF n (d + 1) (rest.take (lenH b1 b2 b3 b4))).bind fun k => (readF n d (rest.drop (lenH b1 b2 b3 b4))).map fun r => .cons b0 [] k r
    else (readF n d (rest.drop (lenH b1 b2 b3 b4))).map fun r => .cons b0 (rest.take (lenH b1 b2 b3 b4)) .nil r
  | _, _, _ => none
/-- fuel that is enough: more says the same -/
theorem readF_fuel : ∀ (m n d : Nat) (bs : List Int), bs.length ≤ n → n ≤ m → readF m d bs = readF n d bs
  | m, n, d, [], h, hm => by simp [readF]
  | 0, n, d, b :: r, h, hm => by simp at h; omega
  | m + 1, 0, d, b :: r, h, hm => by simp at h
  | m + 1, n + 1, d, [b0], h, hm => by simp [readF]
  | m + 1, n + 1, d, [b0, b1], h, hm => by simp [readF]
  | m + 1, n + 1, d, [b0, b1, b2], h, hm => by simp [readF]
  | m + 1, n + 1, d, [b0, b1, b2, b3], h, hm => by simp [readF]
  | m + 1, n + 1, d, b0 :: b1 :: b2 :: b3 :: b4 :: rest, h, hm => by
    simp only [List.length_cons] at h
    have e1 := readF_fuel m n (d + 1) (rest.take (lenH b1 b2 b3 b4)) (by simp only [List.length_take]; omega) (by omega)
    have e2 := readF_fuel m n d (rest.drop (lenH b1 b2 b3 b4)) (by simp only [List.length_drop]; omega) (by omega)
    simp only [readF, e1, e2]
/-- with all the fuel -/
def readL (d : Nat) (bs : List Int) : Option Forest := readF bs.length d bs
theorem readL_nil (d : Nat) : readL d [] = some .nil := by simp [readL, readF]
theorem readL_cons (d : Nat) (b0 b1 b2 b3 b4 : Int) (rest : List Int) : readL d (b0 :: b1 :: b2 :: b3 :: b4 :: rest) =
    if 8 < d ∨ b0 = 0 ∨ rest.length < lenH b1 b2 b3 b4 then none
    else if 128 ≤ b0 then
      (readL (d + 1) (rest.take (lenH b1 b2 b3 b4))).bind fun k => (readL d (rest.drop (lenH b1 b2 b3 b4))).map fun r => .cons b0 [] k r
    else (readL d (rest.drop (lenH b1 b2 b3 b4))).map fun r => .cons b0 (rest.take (lenH b1 b2 b3 b4)) .nil r := by
  unfold readL
  have e1 := readF_fuel (rest.length + 4) (rest.take (lenH b1 b2 b3 b4)).length (d + 1) (rest.take (lenH b1 b2 b3 b4)) (Nat.le_refl _) (by simp only [List.length_take]; omega)
  have e2 := readF_fuel (rest.length + 4) (rest.drop (lenH b1 b2 b3 b4)).length d (rest.drop (lenH b1 b2 b3 b4)) (Nat.le_refl _) (by simp only [List.length_drop]; omega)
  rw [← e1, ← e2]
  simp only [List.length_cons, readF]
theorem readL_short (d : Nat) (bs : List Int) (h : 0 < bs.length) (h5 : bs.length < 5) : readL d bs = none := by
  match bs, h, h5 with
  | [_], _, _ => simp [readL, readF]
  | [_, _], _, _ => simp [readL, readF]
  | [_, _, _], _, _ => simp [readL, readF]
  | [_, _, _, _], _, _ => simp [readL, readF]
end Go.Proofs.YtejcandhijdnhaaGreat

/- What is laid reads back. -/
namespace Go.Proofs.YtejcandhijdnhaaGreat
open Go
set_option linter.unusedVariables false
theorem Forest.len_nil {k : Forest} (h : ¬ 0 < k.length) : k = .nil := by
  cases k with
  | nil => rfl
  | cons _ _ _ _ => simp [Forest.length] at h
theorem inner_len (t : Int) (b : List Int) (k : Forest) (d : Nat) (h1 : ¬ Forest.bad t b k.length d (k.sizeL (d + 1) 0)) (ih : 0 ≤ k.sizeL (d + 1) 0 → k.sizeL (d + 1) 0 = 0 + (k.layF.length : Int)) :
    Forest.innerOf t b k.length d (k.sizeL (d + 1) 0) = ((if 128 ≤ t then k.layF else b).length : Int) := by
  have h3 := Forest.inner_ge h1
  unfold Forest.innerOf at h3 ⊢
  by_cases ht : 128 ≤ t
  · rw [if_pos ht] at h3
    rw [if_pos ht, if_pos ht]
    by_cases hd : d < 8
    · rw [if_pos hd] at h3
      rw [if_pos hd]
      have := ih h3
      omega
    · rw [if_neg hd]
      have hk : ¬ 0 < k.length := fun hk => h1 (.inl ⟨ht, hd, hk⟩)
      rw [Forest.len_nil hk, Forest.layF]; rfl
  · rw [if_neg ht, if_neg ht]
theorem layF_len : ∀ (f : Forest) (d : Nat) (n : Int), 0 ≤ n → 0 ≤ f.sizeL d n → f.sizeL d n = n + (f.layF.length : Int)
  | .nil, d, n, hn, h => by simp [Forest.sizeL, Forest.layF]
  | .cons t b k r, d, n, hn, h => by
    rw [Forest.sizeL] at h ⊢
    by_cases h1 : Forest.bad t b k.length d (k.sizeL (d + 1) 0)
    · simp [h1] at h
    · simp only [h1, ↓reduceIte] at h ⊢
      have hi := inner_len t b k d h1 (layF_len k (d + 1) 0 (Int.le_refl _))
      have h3 := Forest.inner_ge h1
      by_cases h2 : 1048576 < n + (5 + Forest.innerOf t b k.length d (k.sizeL (d + 1) 0))
      · rw [if_pos h2] at h; omega
      · rw [if_neg h2] at h
        rw [if_neg h2, layF_len r d _ (by omega) h, hi, Forest.layF]
        simp only [List.length_append, List.length_cons, List.length_nil]
        omega
theorem lenH_bytes (n : Nat) (h : n < 4294967296) : lenH ((n : Int) % 256) ((n : Int) / 256 % 256) ((n : Int) / 65536 % 256) ((n : Int) / 16777216 % 256) = n := by
  unfold lenH; omega
/-- what is laid reads back -/
theorem read_lay : ∀ (f : Forest) (d : Nat) (n : Int), d ≤ 8 → 0 ≤ n → 0 ≤ f.sizeL d n → readL d f.layF = some f
  | .nil, d, n, hd, hn, h => by rw [Forest.layF, readL_nil]
  | .cons t b k r, d, n, hd, hn, h => by
    rw [Forest.sizeL] at h
    by_cases h1 : Forest.bad t b k.length d (k.sizeL (d + 1) 0)
    · simp [h1] at h
    · simp only [h1, ↓reduceIte] at h
      have hi := inner_len t b k d h1 (layF_len k (d + 1) 0 (Int.le_refl _))
      have h3 := Forest.inner_ge h1
      by_cases h2 : 1048576 < n + (5 + Forest.innerOf t b k.length d (k.sizeL (d + 1) 0))
      · rw [if_pos h2] at h; omega
      · rw [if_neg h2] at h
        have ihr := read_lay r d _ hd (by omega) h
        have ihk : 128 ≤ t → readL (d + 1) k.layF = some k := fun ht => by
          by_cases hd8 : d < 8
          · refine read_lay k (d + 1) 0 (by omega) (Int.le_refl _) ?_
            unfold Forest.innerOf at h3
            rw [if_pos ht, if_pos hd8] at h3
            exact h3
          · have hk : ¬ 0 < k.length := fun hk => h1 (.inl ⟨ht, hd8, hk⟩)
            rw [Forest.len_nil hk, Forest.layF, readL_nil]
        have hb : 1 ≤ t ∧ t ≤ 255 ∧ (128 ≤ t → b = []) ∧ (¬ 128 ≤ t → k = .nil) := by
          refine ⟨Decidable.byContradiction fun hc => h1 (.inr (.inl (by omega))), Decidable.byContradiction fun hc => h1 (.inr (.inr (.inl (by omega)))), fun ht => ?_, fun ht => ?_⟩
          · exact Decidable.byContradiction fun hc => h1 (.inr (.inr (.inr (.inl ⟨ht, List.length_pos_iff.2 hc⟩))))
          · exact Forest.len_nil fun hc => h1 (.inr (.inr (.inr (.inr (.inl ⟨ht, hc⟩)))))
        obtain ⟨g1, g2, g3, g4⟩ := hb
        obtain ⟨v, hv⟩ : ∃ v, v = if 128 ≤ t then k.layF else b := ⟨_, rfl⟩
        rw [← hv] at hi
        rw [Forest.layF, ← hv]
        have hvl : v.length < 4294967296 := by omega
        simp only [List.cons_append, List.nil_append]
        rw [readL_cons, lenH_bytes _ hvl, show t % 256 = t by omega, if_neg (by simp only [List.length_append]; omega), List.take_left' rfl, List.drop_left' rfl, ihr]
        by_cases ht : 128 ≤ t
        · rw [if_pos ht]
          rw [if_pos ht] at hv
          rw [hv, ihk ht, g3 ht]; rfl
        · rw [if_neg ht]
          rw [if_neg ht] at hv
          rw [hv, g4 ht]; rfl
end Go.Proofs.YtejcandhijdnhaaGreat

/- What bytes read as lays these bytes. -/
namespace Go.Proofs.YtejcandhijdnhaaGreat
open Go
set_option linter.unusedVariables false
theorem lenH_digits {b1 b2 b3 b4 : Int} (h1 : 0 ≤ b1 ∧ b1 ≤ 255) (h2 : 0 ≤ b2 ∧ b2 ≤ 255) (h3 : 0 ≤ b3 ∧ b3 ≤ 255) (h4 : 0 ≤ b4 ∧ b4 ≤ 255) :
    (lenH b1 b2 b3 b4 : Int) % 256 = b1 ∧ (lenH b1 b2 b3 b4 : Int) / 256 % 256 = b2 ∧ (lenH b1 b2 b3 b4 : Int) / 65536 % 256 = b3 ∧ (lenH b1 b2 b3 b4 : Int) / 16777216 % 256 = b4 := by
  unfold lenH; omega
theorem lay_read : ∀ (n d : Nat) (bs : List Int) (f : Forest), bs.length ≤ n → (∀ z ∈ bs, 0 ≤ z ∧ z ≤ 255) → readL d bs = some f → f.layF = bs
  | n, d, [], f, hn, hb, h => by
    rw [readL_nil] at h
    injection h with h
    rw [← h, Forest.layF]
  | 0, d, b :: r, f, hn, hb, h => by simp at hn
  | n + 1, d, [b0], f, hn, hb, h => by rw [readL_short _ _ (by simp) (by simp)] at h; cases h
  | n + 1, d, [b0, b1], f, hn, hb, h => by rw [readL_short _ _ (by simp) (by simp)] at h; cases h
  | n + 1, d, [b0, b1, b2], f, hn, hb, h => by rw [readL_short _ _ (by simp) (by simp)] at h; cases h
  | n + 1, d, [b0, b1, b2, b3], f, hn, hb, h => by rw [readL_short _ _ (by simp) (by simp)] at h; cases h
  | n + 1, d, b0 :: b1 :: b2 :: b3 :: b4 :: rest, f, hn, hb, h => by
    rw [readL_cons] at h
    simp only [List.mem_cons, forall_eq_or_imp] at hb
    obtain ⟨g0, g1, g2, g3, g4, gr⟩ := hb
    obtain ⟨e1, e2, e3, e4⟩ := lenH_digits g1 g2 g3 g4
    obtain ⟨L, hL⟩ : ∃ L, L = lenH b1 b2 b3 b4 := ⟨_, rfl⟩
    rw [← hL] at h e1 e2 e3 e4
    simp only [List.length_cons] at hn
    by_cases hc : 8 < d ∨ b0 = 0 ∨ rest.length < L
    · rw [if_pos hc] at h; cases h
    · rw [if_neg hc] at h
      have htl : (rest.take L).length = L := by rw [List.length_take]; omega
      have i1 := fun (d' : Nat) (k : Forest) => lay_read n d' (rest.take L) k (by omega) (fun z hz => gr z (List.mem_of_mem_take hz))
      have i2 := fun (r : Forest) => lay_read n d (rest.drop L) r (by rw [List.length_drop]; omega) (fun z hz => gr z (List.mem_of_mem_drop hz))
      have hfin : ∀ (v : List Int) (r : Forest), v = rest.take L → readL d (rest.drop L) = some r → [b0 % 256] ++ [(v.length : Int) % 256, (v.length : Int) / 256 % 256, (v.length : Int) / 65536 % 256, (v.length : Int) / 16777216 % 256] ++ v ++ r.layF = b0 :: b1 :: b2 :: b3 :: b4 :: rest := by
        intro v r hv hr
        rw [i2 r hr, hv, htl, e1, e2, e3, e4, show b0 % 256 = b0 by omega]
        simp
      by_cases ht : 128 ≤ b0
      · rw [if_pos ht] at h
        cases hk : readL (d + 1) (rest.take L) with
        | none => rw [hk] at h; cases h
        | some k =>
          cases hr : readL d (rest.drop L) with
          | none => rw [hk, hr] at h; cases h
          | some r =>
            rw [hk, hr] at h
            injection h with h
            rw [← h, Forest.layF, if_pos ht]
            exact hfin _ r (i1 _ k hk) hr
      · rw [if_neg ht] at h
        cases hr : readL d (rest.drop L) with
        | none => rw [hr] at h; cases h
        | some r =>
          rw [hr] at h
          injection h with h
          rw [← h, Forest.layF, if_neg ht]
          exact hfin _ r rfl hr
end Go.Proofs.YtejcandhijdnhaaGreat

/- What bytes read as has as many bytes. -/
namespace Go.Proofs.YtejcandhijdnhaaGreat
open Go
set_option linter.unusedVariables false
theorem read_deep {d : Nat} {bs : List Int} {k : Forest} (hd : 8 < d) (h : readL d bs = some k) : bs = [] ∧ k = .nil := by
  match bs, h with
  | [], h => rw [readL_nil] at h; injection h with h; exact ⟨rfl, h.symm⟩
  | [_], h => rw [readL_short _ _ (by simp) (by simp)] at h; cases h
  | [_, _], h => rw [readL_short _ _ (by simp) (by simp)] at h; cases h
  | [_, _, _], h => rw [readL_short _ _ (by simp) (by simp)] at h; cases h
  | [_, _, _, _], h => rw [readL_short _ _ (by simp) (by simp)] at h; cases h
  | _ :: _ :: _ :: _ :: _ :: _, h => rw [readL_cons, if_pos (.inl hd)] at h; cases h
theorem size_read : ∀ (m d : Nat) (bs : List Int) (f : Forest) (n : Int), bs.length ≤ m → 0 ≤ n → n + bs.length ≤ 1048576 → (∀ z ∈ bs, 0 ≤ z ∧ z ≤ 255) → readL d bs = some f → f.sizeL d n = n + bs.length
  | m, d, [], f, n, hm, hn, hs, hb, h => by
    rw [readL_nil] at h
    injection h with h
    rw [← h, Forest.sizeL]; simp
  | 0, d, b :: r, f, n, hm, hn, hs, hb, h => by simp at hm
  | m + 1, d, [b0], f, n, hm, hn, hs, hb, h => by rw [readL_short _ _ (by simp) (by simp)] at h; cases h
  | m + 1, d, [b0, b1], f, n, hm, hn, hs, hb, h => by rw [readL_short _ _ (by simp) (by simp)] at h; cases h
  | m + 1, d, [b0, b1, b2], f, n, hm, hn, hs, hb, h => by rw [readL_short _ _ (by simp) (by simp)] at h; cases h
  | m + 1, d, [b0, b1, b2, b3], f, n, hm, hn, hs, hb, h => by rw [readL_short _ _ (by simp) (by simp)] at h; cases h
  | m + 1, d, b0 :: b1 :: b2 :: b3 :: b4 :: rest, f, n, hm, hn, hs, hb, h => by
    rw [readL_cons] at h
    simp only [List.mem_cons, forall_eq_or_imp] at hb
    obtain ⟨g0, g1, g2, g3, g4, gr⟩ := hb
    obtain ⟨L, hL⟩ : ∃ L, L = lenH b1 b2 b3 b4 := ⟨_, rfl⟩
    rw [← hL] at h
    simp only [List.length_cons] at hm hs ⊢
    by_cases hc : 8 < d ∨ b0 = 0 ∨ rest.length < L
    · rw [if_pos hc] at h; cases h
    · rw [if_neg hc] at h
      have htl : (rest.take L).length = L := by rw [List.length_take]; omega
      have hdl : (rest.drop L).length = rest.length - L := by rw [List.length_drop]
      have i1 := fun (k : Forest) => size_read m (d + 1) (rest.take L) k 0 (by omega) (Int.le_refl _) (by omega) (fun z hz => gr z (List.mem_of_mem_take hz))
      have i2 := fun (r : Forest) => size_read m d (rest.drop L) r (n + (5 + (L : Int))) (by omega) (by omega) (by omega) (fun z hz => gr z (List.mem_of_mem_drop hz))
      rw [htl] at i1
      by_cases ht : 128 ≤ b0
      · rw [if_pos ht] at h
        cases hk : readL (d + 1) (rest.take L) with
        | none => rw [hk] at h; cases h
        | some k =>
          cases hr : readL d (rest.drop L) with
          | none => rw [hk, hr] at h; cases h
          | some r =>
            rw [hk, hr] at h
            injection h with h
            have hK := i1 k hk
            have h8 : ¬ d < 8 → L = 0 ∧ ¬ 0 < k.length := fun hd => by
              obtain ⟨e1, e2⟩ := read_deep (by omega) hk
              rw [e1] at htl
              rw [e2]
              exact ⟨htl.symm, by simp [Forest.length]⟩
            have hI : Forest.innerOf b0 [] k.length d (k.sizeL (d + 1) 0) = L := by
              unfold Forest.innerOf
              rw [if_pos ht]
              split
              · omega
              · next hd => have := (h8 hd).1; omega
            have hnb : ¬ Forest.bad b0 [] k.length d (k.sizeL (d + 1) 0) := by
              unfold Forest.bad
              rw [hI]
              have h9 := fun hd => (h8 hd).2
              simp only [List.length_nil]
              by_cases hd : d < 8
              · omega
              · have := h9 hd
                omega
            rw [← h, Forest.sizeL_next hnb hI (by omega), i2 r hr, hdl]
            omega
      · rw [if_neg ht] at h
        cases hr : readL d (rest.drop L) with
        | none => rw [hr] at h; cases h
        | some r =>
          rw [hr] at h
          injection h with h
          have hI : Forest.innerOf b0 (rest.take L) Forest.nil.length d (Forest.nil.sizeL (d + 1) 0) = L := by
            unfold Forest.innerOf
            rw [if_neg ht, htl]
          have hnb : ¬ Forest.bad b0 (rest.take L) Forest.nil.length d (Forest.nil.sizeL (d + 1) 0) := by
            unfold Forest.bad
            rw [hI]
            simp only [Forest.length]
            omega
          rw [← h, Forest.sizeL_next hnb hI (by omega), i2 r hr, hdl]
          omega
end Go.Proofs.YtejcandhijdnhaaGreat

/- Reading, place by place: what has been read, and what is left. -/
namespace Go.Proofs.YtejcandhijdnhaaGreat
open Go
set_option linter.unusedVariables false
theorem drop_cons0 (bs : List Int) (A : Nat) (h : A < bs.length) : bs.drop A = bs.getD A 0 :: bs.drop (A + 1) := by rw [List.drop_eq_getElem_cons h, getD_at _ _ h]
theorem drop5 (bs : List Int) (A : Nat) (h : A + 5 ≤ bs.length) : bs.drop A = bs.getD A 0 :: bs.getD (A + 1) 0 :: bs.getD (A + 2) 0 :: bs.getD (A + 3) 0 :: bs.getD (A + 4) 0 :: bs.drop (A + 5) := by
  rw [drop_cons0 bs A (by omega), drop_cons0 bs (A + 1) (by omega), drop_cons0 bs (A + 1 + 1) (by omega), drop_cons0 bs (A + 1 + 1 + 1) (by omega), drop_cons0 bs (A + 1 + 1 + 1 + 1) (by omega)]
theorem Forest.app_one (F : Forest) (t : Int) (b : List Int) (k r : Forest) : (F.app (.cons t b k .nil)).app r = F.app (.cons t b k r) := by
  induction F with
  | nil => rfl
  | cons t' b' k' r' _ ih => simp only [Forest.app, ih]
/-- how long the value is, as the head at A says it -/
def lenAt (bs : List Int) (A : Nat) : Nat := lenH (bs.getD (A + 1) 0) (bs.getD (A + 2) 0) (bs.getD (A + 3) 0) (bs.getD (A + 4) 0)
/-- the value behind the head at A -/
def valAt (bs : List Int) (A : Nat) : List Int := (bs.drop (A + 5)).take (lenAt bs A)
/-- P has been read, up to A -/
def Rd (d : Nat) (bs : List Int) (A : Nat) (P : Forest) : Prop := (readL d (bs.drop A)).map (P.app ·) = readL d bs
theorem Rd.start (d : Nat) (bs : List Int) : Rd d bs 0 .nil := by
  unfold Rd
  rw [List.drop_zero]
  cases readL d bs <;> rfl
theorem Rd.end {d : Nat} {bs : List Int} {A : Nat} {P : Forest} (h : Rd d bs A P) (hA : bs.length ≤ A) : readL d bs = some P := by
  unfold Rd at h
  rw [List.drop_eq_nil_of_le hA, readL_nil] at h
  rw [← h]
  simp [Forest.app_nil]
theorem Rd.none {d : Nat} {bs : List Int} {A : Nat} {P : Forest} (h : Rd d bs A P) (hn : readL d (bs.drop A) = .none) : readL d bs = .none := by
  unfold Rd at h
  rw [hn] at h
  exact h.symm
theorem Rd.short {d : Nat} {bs : List Int} {A : Nat} {P : Forest} (h : Rd d bs A P) (h1 : A < bs.length) (h2 : bs.length < A + 5) : readL d bs = .none :=
  h.none (readL_short _ _ (by rw [List.length_drop]; omega) (by rw [List.length_drop]; omega))
theorem readL_at (d : Nat) (bs : List Int) (A : Nat) (h : A + 5 ≤ bs.length) : readL d (bs.drop A) =
    if 8 < d ∨ bs.getD A 0 = 0 ∨ bs.length < A + 5 + lenAt bs A then .none
    else if 128 ≤ bs.getD A 0 then (readL (d + 1) (valAt bs A)).bind fun k => (readL d (bs.drop (A + 5 + lenAt bs A))).map fun r => .cons (bs.getD A 0) [] k r
    else (readL d (bs.drop (A + 5 + lenAt bs A))).map fun r => .cons (bs.getD A 0) (valAt bs A) .nil r := by
  conv => lhs; rw [drop5 bs A h, readL_cons]
  rw [show lenH (bs.getD (A + 1) 0) (bs.getD (A + 2) 0) (bs.getD (A + 3) 0) (bs.getD (A + 4) 0) = lenAt bs A from rfl]
  have e2 : (bs.drop (A + 5)).drop (lenAt bs A) = bs.drop (A + 5 + lenAt bs A) := by rw [List.drop_drop]
  rw [e2]
  by_cases hc : 8 < d ∨ bs.getD A 0 = 0 ∨ bs.length < A + 5 + lenAt bs A
  · rw [if_pos hc, if_pos (by rw [List.length_drop]; omega)]
  · rw [if_neg hc, if_neg (by rw [List.length_drop]; omega)]
    rfl
theorem Rd.bad {d : Nat} {bs : List Int} {A : Nat} {P : Forest} (h : Rd d bs A P) (h5 : A + 5 ≤ bs.length) (h2 : 8 < d ∨ bs.getD A 0 = 0 ∨ bs.length < A + 5 + lenAt bs A) : readL d bs = .none :=
  h.none (by rw [readL_at _ _ _ h5, if_pos h2])
theorem Rd.kidsNone {d : Nat} {bs : List Int} {A : Nat} {P : Forest} (h : Rd d bs A P) (h5 : A + 5 ≤ bs.length) (ht : 128 ≤ bs.getD A 0) (hk : readL (d + 1) (valAt bs A) = .none) : readL d bs = .none := by
  refine h.none ?_
  rw [readL_at _ _ _ h5]
  split
  · rfl
  · rw [hk]; rfl
theorem Rd.kids {d : Nat} {bs : List Int} {A : Nat} {P k : Forest} (h : Rd d bs A P) (h5 : A + 5 + lenAt bs A ≤ bs.length) (hd : d ≤ 8) (ht : 128 ≤ bs.getD A 0) (hk : readL (d + 1) (valAt bs A) = some k) : Rd d bs (A + 5 + lenAt bs A) (P.app (.cons (bs.getD A 0) [] k .nil)) := by
  unfold Rd at h ⊢
  rw [← h, readL_at d bs A (by omega), if_neg (by omega), if_pos ht, hk]
  cases readL d (bs.drop (A + 5 + lenAt bs A)) with
  | none => rfl
  | some r => simp [Forest.app_one]
theorem Rd.plain {d : Nat} {bs : List Int} {A : Nat} {P : Forest} (h : Rd d bs A P) (h5 : A + 5 + lenAt bs A ≤ bs.length) (hd : d ≤ 8) (h0 : bs.getD A 0 ≠ 0) (ht : ¬ 128 ≤ bs.getD A 0) : Rd d bs (A + 5 + lenAt bs A) (P.app (.cons (bs.getD A 0) (valAt bs A) .nil .nil)) := by
  unfold Rd at h ⊢
  rw [← h, readL_at d bs A (by omega), if_neg (by omega), if_neg ht]
  cases readL d (bs.drop (A + 5 + lenAt bs A)) with
  | none => rfl
  | some r => simp [Forest.app_one]
theorem valAt_length (bs : List Int) (A : Nat) (h5 : A + 5 + lenAt bs A ≤ bs.length) : (valAt bs A).length = lenAt bs A := by unfold valAt; rw [List.length_take, List.length_drop]; omega
theorem valAt_byte {bs : List Int} (A : Nat) (hb : ∀ z ∈ bs, 0 ≤ z ∧ z ≤ 255) : ∀ z ∈ valAt bs A, 0 ≤ z ∧ z ≤ 255 := fun z hz => hb z (List.mem_of_mem_drop (List.mem_of_mem_take hz))
end Go.Proofs.YtejcandhijdnhaaGreat

/- The walk of the document's read. -/
namespace Go.Proofs.YtejcandhijdnhaaGreat
open Go Go.RowKit
attribute [local go_sem] upV_value upV_skip upV_enter
set_option linter.unusedVariables false
set_option linter.unnecessarySimpa false
set_option linter.unusedSimpArgs false
/-- what a reading of bytes answers -/
def RdPost (n₀ d : Nat) (bs : List Int) (W : World) (e : Ending) (W' : World) : Prop :=
  Below W.heap.size W W' ∧ ∃ ra rl rc ok, e = .returned (.tuple #[.slice ra rl rc, .bool ok]) ∧ (ok = false → readL d bs = none) ∧
    (ok = true → ∃ f, readL d bs = some f ∧ ∀ (W2 : World) (n' : Nat), (∀ x, (x < n₀ ∨ W.heap.size ≤ x ∧ x < W'.heap.size) → W2.heap[x]? = W'.heap[x]? ∧ x < n') → SlF n' W2 ra rl rc f)
theorem Row8.to {n m : Nat} {W W' : World} {sv : Value} {zs : List Int} (h : Row8 n W sv zs) (hs : ∀ b, b < n → W'.heap[b]? = W.heap[b]? ∧ b < m) : Row8 m W' sv zs := by
  have h2 := h.same (B := W') fun b hb => (hs b (h.lt b hb)).1
  refine ⟨?_, h2.2⟩
  rcases h2.1 with h3 | ⟨b, off, cap, e, hb, h4⟩
  · exact .inl h3
  · exact .inr ⟨b, off, cap, e, (hs b hb).2, h4⟩
def RReadOK (m : Nat) : Prop := ∀ (n₀ d : Nat) (bs : List Int) (W : World) (a : Option Addr) (len cap : Nat), bs.length ≤ m → n₀ ≤ W.heap.size → d ≤ 9 → bs.length ≤ 1048576 → Row8 n₀ W (.slice a len cap) bs →
  Calls Tryz.prog 67 #[.slice a len cap, .int .i64 d] W (RdPost n₀ d bs W)
set_option maxRecDepth 100000 in
set_option maxHeartbeats 8000000 in
theorem rread_step (m : Nat) (ih : ∀ m', m' < m → RReadOK m') : RReadOK m := by
  intro n₀ d bs W a len cap hm hn hd hbl hr
  obtain ⟨i0, hi, hz0, hz1, hz2⟩ := info_parts info_tlv
  obtain ⟨hlen, b, off, hopen, hc⟩ := hr.1.open
  have hcap := hr.1.cap
  have hby := hr.2
  have hR := Lib.hid hr
  have HC := Lib.hid hc
  clear hr hc
  go_enter Tryz.func67, Tryz.ntmps67
  by_cases h8 : 8 < d ∧ 0 < len
  · have t1 : decide ((8 : Int) < (d : Int)) = true := by simp; omega
    have t2 : decide ((0 : Int) < (len : Int)) = true := by simp; omega
    go_wp2
    go_ret2
    refine ⟨Below.refl _ _, _, _, _, _, rfl, fun _ => ?_, fun h => by cases h⟩
    by_cases h5 : bs.length < 5
    · exact (Rd.start d bs).short (by omega) (by omega)
    · exact (Rd.start d bs).bad (by omega) (.inl h8.1)
  by_cases h9 : 8 < d
  · have t1 : decide ((8 : Int) < (d : Int)) = true := by simp; omega
    obtain rfl : len = 0 := by omega
    have hbs : bs = [] := List.eq_nil_of_length_eq_zero hlen
    have HBS := Lib.hid hbs
    clear hbs
    go_wp2
    go_loopw [6, 7, 8, 9, 10, 11, 12, 13] (fun out at_ n _ _ _ _ _ wr => out = .slice none 0 0 ∧ at_ = .int .i64 0 ∧ n = .int .i64 0 ∧ wr = W) (fun _ _ _ _ _ _ _ _ _ => 0)
    case atStart => exact ⟨rfl, rfl, rfl, rfl⟩
    case round =>
      obtain ⟨rfl, rfl, rfl, rfl⟩ := hrel
      go_wp2
      go_ret2
      have hbs : bs = [] := HBS
      refine ⟨Below.refl _ _, _, _, _, _, rfl, fun h => (by cases h), fun _ => ⟨.nil, by rw [hbs, readL_nil], fun _ _ _ => ⟨rfl, .inl rfl⟩⟩⟩
  have t1 : decide ((8 : Int) < (d : Int)) = false := by simp; omega
  go_wp2
  go_loopw [6, 7, 8, 9, 10, 11, 12, 13] (fun out at_ n _ _ _ _ _ wr => ∃ (A N : Nat) (P : Forest) (vs : List Value) (S : Nat → Prop), at_ = .int .i64 (A : Int) ∧ n = .int .i64 (N : Int) ∧ A ≤ len ∧ N * 5 ≤ A ∧ P.length = N ∧ Hid (Rd d bs A P) ∧ wr.ownsRow W.heap.size 66 3 out N vs ∧ RelocS S wr P vs ∧ (∀ x, S x → (x < n₀ ∨ W.heap.size ≤ x) ∧ x < wr.heap.size ∧ out.ownBlock ≠ some x) ∧ Below W.heap.size W wr) (fun _ a _ _ _ _ _ _ _ => len - (intOf a).toNat)
  case atStart => exact ⟨0, 0, .nil, [], fun _ => False, rfl, rfl, Nat.zero_le _, Nat.le_refl _, rfl, Rd.start d bs, World.ownsRow_nil _ _ _ _, RelocS.nil, fun x h => h.elim, Below.refl _ _⟩
  case round =>
    obtain ⟨A, N, P, vs, S, rfl, rfl, hA, hN, hP, hRd, hown, hrel, hS, hb0⟩ := hrel
    have s1 : decide ((N : Int) ≤ (len : Int)) = true := by simp; omega
    by_cases hlt : A < len
    rotate_left
    · have s2 : decide ((A : Int) < (len : Int)) = false := by simp; omega
      obtain ⟨va, vc, rfl, hva⟩ := ownsRow_slice hown
      have hK : Hid (∀ (W2 : World) (n' : Nat), (∀ x, (x < n₀ ∨ W.heap.size ≤ x ∧ x < wr.heap.size) → W2.heap[x]? = wr.heap[x]? ∧ x < n') → SlF n' W2 va N vc P) := fun W2 n' h => own_slF hown hrel hP W2 n' fun x hx => h x (by
        rcases hx with hx | hx
        · obtain ⟨h1, h2, _⟩ := hS x hx
          rcases h1 with h1 | h1
          · exact .inl h1
          · exact .inr ⟨h1, h2⟩
        · exact .inr (hown.lt x hx))
      clear hown hrel hS hva
      go_wp2
      go_ret2
      exact ⟨hb0, _, _, _, _, rfl, fun h => (by cases h), fun _ => ⟨P, Rd.end (show Rd d bs A P from hRd) (by omega), hK⟩⟩
    have s2 : decide ((A : Int) < (len : Int)) = true := by simp; omega
    obtain ⟨rfl, hbn, _, hcm⟩ := hopen (by omega)
    have hc : ∀ j, j < len → wr.cell? ⟨b, off + j, none⟩ = some (.int .u8 (bs.getD j 0)) := fun j hj => (hb0.cell (p := ⟨b, off + j, none⟩) (show b < W.heap.size by omega)).trans ((show ∀ j, j < len → W.cell? ⟨b, off + j, none⟩ = some (.int .u8 (bs.getD j 0)) from HC) j hj)
    by_cases h5 : len < A + 5
    · have s3 : decide ((len : Int) - (A : Int) < (5 : Int)) = true := by simp; omega
      clear hc hown hrel hS
      go_wp2
      go_ret2
      exact ⟨hb0, _, _, _, _, rfl, fun _ => (show Rd d bs A P from hRd).short (by omega) (by omega), fun h => (by cases h)⟩
    have s3 : decide ((len : Int) - (A : Int) < (5 : Int)) = false := by simp; omega
    have hz : ∀ j, A + j < len → 0 ≤ bs.getD (A + j) 0 ∧ bs.getD (A + j) 0 ≤ 255 := fun j hj => by
      rw [getD_at _ _ (by omega)]; exact hby _ (List.getElem_mem _)
    obtain ⟨x0, hx0⟩ : ∃ x, x = bs.getD A 0 := ⟨_, rfl⟩
    obtain ⟨x1, hx1⟩ : ∃ x, x = bs.getD (A + 1) 0 := ⟨_, rfl⟩
    obtain ⟨x2, hx2⟩ : ∃ x, x = bs.getD (A + 2) 0 := ⟨_, rfl⟩
    obtain ⟨x3, hx3⟩ : ∃ x, x = bs.getD (A + 3) 0 := ⟨_, rfl⟩
    obtain ⟨x4, hx4⟩ : ∃ x, x = bs.getD (A + 4) 0 := ⟨_, rfl⟩
    have c0 := hc A (by omega)
    have c1 := hc (A + 1) (by omega)
    have c2 := hc (A + 2) (by omega)
    have c3 := hc (A + 3) (by omega)
    have c4 := hc (A + 4) (by omega)
    have z0 := hz 0 (by omega)
    have z1 := hz 1 (by omega)
    have z2 := hz 2 (by omega)
    have z3 := hz 3 (by omega)
    have z4 := hz 4 (by omega)
    rw [Nat.add_zero, ← hx0] at z0
    rw [← hx1] at z1 c1
    rw [← hx2] at z2 c2
    rw [← hx3] at z3 c3
    rw [← hx4] at z4 c4
    rw [← hx0] at c0
    have hL : lenAt bs A = lenH x1 x2 x3 x4 := by unfold lenAt; rw [hx1, hx2, hx3, hx4]
    have HL := Lib.hid hL
    have HX0 := Lib.hid hx0
    clear hL hx0 hx1 hx2 hx3 hx4 hz hc
    have HOWN := Lib.hid hown
    have HREL := Lib.hid hrel
    have HS := Lib.hid hS
    clear hrel hS
    have k1 : (A : Int) + 1 < (len : Int) := by omega
    have k2 : (A : Int) + 2 < (len : Int) := by omega
    have k3 : (A : Int) + 3 < (len : Int) := by omega
    have k4 : (A : Int) + 4 < (len : Int) := by omega
    have j1 : (0 : Int) ≤ (A : Int) + 1 := by omega
    have j2 : (0 : Int) ≤ (A : Int) + 2 := by omega
    have j3 : (0 : Int) ≤ (A : Int) + 3 := by omega
    have j4 : (0 : Int) ≤ (A : Int) + 4 := by omega
    by_cases h0 : x0 = 0
    · have s4 : (x0 == 0) = true := by simp [h0]
      have H0 := Lib.hid h0
      clear h0 hown
      go_wp2
      go_ret2
      exact ⟨hb0, _, _, _, _, rfl, fun _ => (show Rd d bs A P from hRd).bad (by omega) (.inr (.inl ((show x0 = bs.getD A 0 from HX0).symm.trans H0))), fun h => (by cases h)⟩
    have s4 : (x0 == 0) = false := by simp [h0]
    have H0 := Lib.hid h0
    clear h0 hown
    have w1' : IntKind.i64.wrap ((A : Int) + 1) = (A : Int) + 1 := by rw [IntKind.wrap_i64]; omega
    have w2' : IntKind.i64.wrap ((A : Int) + 2) = (A : Int) + 2 := by rw [IntKind.wrap_i64]; omega
    have w3' : IntKind.i64.wrap ((A : Int) + 3) = (A : Int) + 3 := by rw [IntKind.wrap_i64]; omega
    have w4' : IntKind.i64.wrap ((A : Int) + 4) = (A : Int) + 4 := by rw [IntKind.wrap_i64]; omega
    rw [show A + 2 = ((A : Int) + 2).toNat from by omega] at c2
    rw [show A + 3 = ((A : Int) + 3).toNat from by omega] at c3
    rw [show A + 4 = ((A : Int) + 4).toNat from by omega] at c4
    have hbw : b < wr.heap.size := by have := hb0.size; omega
    have HX := Lib.hid (show ∀ W', Grows wr.drew W' → W'.cell? ⟨b, off + (A + 1), none⟩ = some (.int .u8 x1) ∧ W'.cell? ⟨b, off + ((A : Int) + 2).toNat, none⟩ = some (.int .u8 x2) ∧ W'.cell? ⟨b, off + ((A : Int) + 3).toNat, none⟩ = some (.int .u8 x3) ∧ W'.cell? ⟨b, off + ((A : Int) + 4).toNat, none⟩ = some (.int .u8 x4) from fun W' hW => by
      have hW2 := below_undrew hW
      exact ⟨(hW2.cell (p := ⟨b, off + (A + 1), none⟩) hbw).trans c1, (hW2.cell (p := ⟨b, off + ((A : Int) + 2).toNat, none⟩) hbw).trans c2, (hW2.cell (p := ⟨b, off + ((A : Int) + 3).toNat, none⟩) hbw).trans c3, (hW2.cell (p := ⟨b, off + ((A : Int) + 4).toNat, none⟩) hbw).trans c4⟩)
    clear c1 c2 c3 c4
    go_wp2_with fail
    refine wp_region_anyV Grows (by kernel_rfl) 31 rfl ?_
    first
      | (refine anyV_val 0 (Grows.pre) rfl (by kernel_rfl) (by kernel_rfl) (by kernel_rfl) (by rfl) (v := ?av1) (fun W hW => ?ay1) (fun K hK => ?ar1); case ay1 => (obtain ⟨q1, q2, q3, q4⟩ := (show ∀ W', Grows wr.drew W' → _ from HX) W hW; go_simp; first | done | rfl))
      | refine anyV_skip 0 (Grows.pre) rfl (by kernel_rfl) (by kernel_rfl) (by kernel_rfl) (by rfl) (fun K hK => ?_)
    go_simp
    refine hK _ ?_
    clear hK K
    first
      | (refine anyV_val 1 (Grows.pre) rfl (by kernel_rfl) (by kernel_rfl) (by kernel_rfl) (by rfl) (v := ?av2) (fun W hW => ?ay2) (fun K hK => ?ar2); case ay2 => (obtain ⟨q1, q2, q3, q4⟩ := (show ∀ W', Grows wr.drew W' → _ from HX) W hW; go_simp; first | done | rfl))
      | refine anyV_skip 1 (Grows.pre) rfl (by kernel_rfl) (by kernel_rfl) (by kernel_rfl) (by rfl) (fun K hK => ?_)
    go_simp
    refine hK _ ?_
    clear hK K
    first
      | (refine anyV_val 2 (Grows.pre) rfl (by kernel_rfl) (by kernel_rfl) (by kernel_rfl) (by rfl) (v := ?av3) (fun W hW => ?ay3) (fun K hK => ?ar3); case ay3 => (obtain ⟨q1, q2, q3, q4⟩ := (show ∀ W', Grows wr.drew W' → _ from HX) W hW; go_simp; first | done | rfl))
      | refine anyV_skip 2 (Grows.pre) rfl (by kernel_rfl) (by kernel_rfl) (by kernel_rfl) (by rfl) (fun K hK => ?_)
    go_simp
    refine hK _ ?_
    clear hK K
    first
      | (refine anyV_val 3 (Grows.pre) rfl (by kernel_rfl) (by kernel_rfl) (by kernel_rfl) (by rfl) (v := ?av4) (fun W hW => ?ay4) (fun K hK => ?ar4); case ay4 => (obtain ⟨q1, q2, q3, q4⟩ := (show ∀ W', Grows wr.drew W' → _ from HX) W hW; go_simp; first | done | rfl))
      | refine anyV_skip 3 (Grows.pre) rfl (by kernel_rfl) (by kernel_rfl) (by kernel_rfl) (by rfl) (fun K hK => ?_)
    go_simp
    refine hK _ ?_
    clear hK K
    first
      | (refine anyV_val 4 (Grows.pre) rfl (by kernel_rfl) (by kernel_rfl) (by kernel_rfl) (by rfl) (v := ?av5) (fun W hW => ?ay5) (fun K hK => ?ar5); case ay5 => (obtain ⟨q1, q2, q3, q4⟩ := (show ∀ W', Grows wr.drew W' → _ from HX) W hW; go_simp; first | done | rfl))
      | refine anyV_skip 4 (Grows.pre) rfl (by kernel_rfl) (by kernel_rfl) (by kernel_rfl) (by rfl) (fun K hK => ?_)
    go_simp
    refine hK _ ?_
    clear hK K
    first
      | (refine anyV_val 5 (Grows.pre) rfl (by kernel_rfl) (by kernel_rfl) (by kernel_rfl) (by rfl) (v := ?av6) (fun W hW => ?ay6) (fun K hK => ?ar6); case ay6 => (obtain ⟨q1, q2, q3, q4⟩ := (show ∀ W', Grows wr.drew W' → _ from HX) W hW; go_simp; first | done | rfl))
      | refine anyV_skip 5 (Grows.pre) rfl (by kernel_rfl) (by kernel_rfl) (by kernel_rfl) (by rfl) (fun K hK => ?_)
    go_simp
    refine hK _ ?_
    clear hK K
    first
      | (refine anyV_val 6 (Grows.pre) rfl (by kernel_rfl) (by kernel_rfl) (by kernel_rfl) (by rfl) (v := ?av7) (fun W hW => ?ay7) (fun K hK => ?ar7); case ay7 => (obtain ⟨q1, q2, q3, q4⟩ := (show ∀ W', Grows wr.drew W' → _ from HX) W hW; go_simp; first | done | rfl))
      | refine anyV_skip 6 (Grows.pre) rfl (by kernel_rfl) (by kernel_rfl) (by kernel_rfl) (by rfl) (fun K hK => ?_)
    go_simp
    refine hK _ ?_
    clear hK K
    first
      | (refine anyV_val 7 (Grows.pre) rfl (by kernel_rfl) (by kernel_rfl) (by kernel_rfl) (by rfl) (v := ?av8) (fun W hW => ?ay8) (fun K hK => ?ar8); case ay8 => (obtain ⟨q1, q2, q3, q4⟩ := (show ∀ W', Grows wr.drew W' → _ from HX) W hW; go_simp; first | done | rfl))
      | refine anyV_skip 7 (Grows.pre) rfl (by kernel_rfl) (by kernel_rfl) (by kernel_rfl) (by rfl) (fun K hK => ?_)
    go_simp
    refine hK _ ?_
    clear hK K
    first
      | (refine anyV_val 8 (Grows.pre) rfl (by kernel_rfl) (by kernel_rfl) (by kernel_rfl) (by rfl) (v := ?av9) (fun W hW => ?ay9) (fun K hK => ?ar9); case ay9 => (obtain ⟨q1, q2, q3, q4⟩ := (show ∀ W', Grows wr.drew W' → _ from HX) W hW; go_simp; first | done | rfl))
      | refine anyV_skip 8 (Grows.pre) rfl (by kernel_rfl) (by kernel_rfl) (by kernel_rfl) (by rfl) (fun K hK => ?_)
    go_simp
    refine hK _ ?_
    clear hK K
    first
      | (refine anyV_val 9 (Grows.pre) rfl (by kernel_rfl) (by kernel_rfl) (by kernel_rfl) (by rfl) (v := ?av10) (fun W hW => ?ay10) (fun K hK => ?ar10); case ay10 => (obtain ⟨q1, q2, q3, q4⟩ := (show ∀ W', Grows wr.drew W' → _ from HX) W hW; go_simp; first | done | rfl))
      | refine anyV_skip 9 (Grows.pre) rfl (by kernel_rfl) (by kernel_rfl) (by kernel_rfl) (by rfl) (fun K hK => ?_)
    go_simp
    refine hK _ ?_
    clear hK K
    first
      | (refine anyV_val 10 (Grows.pre) rfl (by kernel_rfl) (by kernel_rfl) (by kernel_rfl) (by rfl) (v := ?av11) (fun W hW => ?ay11) (fun K hK => ?ar11); case ay11 => (obtain ⟨q1, q2, q3, q4⟩ := (show ∀ W', Grows wr.drew W' → _ from HX) W hW; go_simp; first | done | rfl))
      | refine anyV_skip 10 (Grows.pre) rfl (by kernel_rfl) (by kernel_rfl) (by kernel_rfl) (by rfl) (fun K hK => ?_)
    go_simp
    refine hK _ ?_
    clear hK K
    first
      | (refine anyV_val 11 (Grows.pre) rfl (by kernel_rfl) (by kernel_rfl) (by kernel_rfl) (by rfl) (v := ?av12) (fun W hW => ?ay12) (fun K hK => ?ar12); case ay12 => (obtain ⟨q1, q2, q3, q4⟩ := (show ∀ W', Grows wr.drew W' → _ from HX) W hW; go_simp; first | done | rfl))
      | refine anyV_skip 11 (Grows.pre) rfl (by kernel_rfl) (by kernel_rfl) (by kernel_rfl) (by rfl) (fun K hK => ?_)
    go_simp
    refine hK _ ?_
    clear hK K
    first
      | (refine anyV_val 12 (Grows.pre) rfl (by kernel_rfl) (by kernel_rfl) (by kernel_rfl) (by rfl) (v := ?av13) (fun W hW => ?ay13) (fun K hK => ?ar13); case ay13 => (obtain ⟨q1, q2, q3, q4⟩ := (show ∀ W', Grows wr.drew W' → _ from HX) W hW; go_simp; first | done | rfl))
      | refine anyV_skip 12 (Grows.pre) rfl (by kernel_rfl) (by kernel_rfl) (by kernel_rfl) (by rfl) (fun K hK => ?_)
    go_simp
    refine hK _ ?_
    clear hK K
    first
      | (refine anyV_val 13 (Grows.pre) rfl (by kernel_rfl) (by kernel_rfl) (by kernel_rfl) (by rfl) (v := ?av14) (fun W hW => ?ay14) (fun K hK => ?ar14); case ay14 => (obtain ⟨q1, q2, q3, q4⟩ := (show ∀ W', Grows wr.drew W' → _ from HX) W hW; go_simp; first | done | rfl))
      | refine anyV_skip 13 (Grows.pre) rfl (by kernel_rfl) (by kernel_rfl) (by kernel_rfl) (by rfl) (fun K hK => ?_)
    go_simp
    refine hK _ ?_
    clear hK K
    first
      | (refine anyV_val 14 (Grows.pre) rfl (by kernel_rfl) (by kernel_rfl) (by kernel_rfl) (by rfl) (v := ?av15) (fun W hW => ?ay15) (fun K hK => ?ar15); case ay15 => (obtain ⟨q1, q2, q3, q4⟩ := (show ∀ W', Grows wr.drew W' → _ from HX) W hW; go_simp; first | done | rfl))
      | refine anyV_skip 14 (Grows.pre) rfl (by kernel_rfl) (by kernel_rfl) (by kernel_rfl) (by rfl) (fun K hK => ?_)
    go_simp
    refine hK _ ?_
    clear hK K
    first
      | (refine anyV_val 15 (Grows.pre) rfl (by kernel_rfl) (by kernel_rfl) (by kernel_rfl) (by rfl) (v := ?av16) (fun W hW => ?ay16) (fun K hK => ?ar16); case ay16 => (obtain ⟨q1, q2, q3, q4⟩ := (show ∀ W', Grows wr.drew W' → _ from HX) W hW; go_simp; first | done | rfl))
      | refine anyV_skip 15 (Grows.pre) rfl (by kernel_rfl) (by kernel_rfl) (by kernel_rfl) (by rfl) (fun K hK => ?_)
    go_simp
    refine hK _ ?_
    clear hK K
    first
      | (refine anyV_val 16 (Grows.pre) rfl (by kernel_rfl) (by kernel_rfl) (by kernel_rfl) (by rfl) (v := ?av17) (fun W hW => ?ay17) (fun K hK => ?ar17); case ay17 => (obtain ⟨q1, q2, q3, q4⟩ := (show ∀ W', Grows wr.drew W' → _ from HX) W hW; go_simp; first | done | rfl))
      | refine anyV_skip 16 (Grows.pre) rfl (by kernel_rfl) (by kernel_rfl) (by kernel_rfl) (by rfl) (fun K hK => ?_)
    go_simp
    refine hK _ ?_
    clear hK K
    first
      | (refine anyV_val 17 (Grows.pre) rfl (by kernel_rfl) (by kernel_rfl) (by kernel_rfl) (by rfl) (v := ?av18) (fun W hW => ?ay18) (fun K hK => ?ar18); case ay18 => (obtain ⟨q1, q2, q3, q4⟩ := (show ∀ W', Grows wr.drew W' → _ from HX) W hW; go_simp; first | done | rfl))
      | refine anyV_skip 17 (Grows.pre) rfl (by kernel_rfl) (by kernel_rfl) (by kernel_rfl) (by rfl) (fun K hK => ?_)
    go_simp
    refine hK _ ?_
    clear hK K
    first
      | (refine anyV_val 18 (Grows.pre) rfl (by kernel_rfl) (by kernel_rfl) (by kernel_rfl) (by rfl) (v := ?av19) (fun W hW => ?ay19) (fun K hK => ?ar19); case ay19 => (obtain ⟨q1, q2, q3, q4⟩ := (show ∀ W', Grows wr.drew W' → _ from HX) W hW; go_simp; first | done | rfl))
      | refine anyV_skip 18 (Grows.pre) rfl (by kernel_rfl) (by kernel_rfl) (by kernel_rfl) (by rfl) (fun K hK => ?_)
    go_simp
    refine hK _ ?_
    clear hK K
    first
      | (refine anyV_val 19 (Grows.pre) rfl (by kernel_rfl) (by kernel_rfl) (by kernel_rfl) (by rfl) (v := ?av20) (fun W hW => ?ay20) (fun K hK => ?ar20); case ay20 => (obtain ⟨q1, q2, q3, q4⟩ := (show ∀ W', Grows wr.drew W' → _ from HX) W hW; go_simp; first | done | rfl))
      | refine anyV_skip 19 (Grows.pre) rfl (by kernel_rfl) (by kernel_rfl) (by kernel_rfl) (by rfl) (fun K hK => ?_)
    go_simp
    refine hK _ ?_
    clear hK K
    first
      | (refine anyV_val 20 (Grows.pre) rfl (by kernel_rfl) (by kernel_rfl) (by kernel_rfl) (by rfl) (v := ?av21) (fun W hW => ?ay21) (fun K hK => ?ar21); case ay21 => (obtain ⟨q1, q2, q3, q4⟩ := (show ∀ W', Grows wr.drew W' → _ from HX) W hW; go_simp; first | done | rfl))
      | refine anyV_skip 20 (Grows.pre) rfl (by kernel_rfl) (by kernel_rfl) (by kernel_rfl) (by rfl) (fun K hK => ?_)
    go_simp
    refine hK _ ?_
    clear hK K
    first
      | (refine anyV_val 21 (Grows.pre) rfl (by kernel_rfl) (by kernel_rfl) (by kernel_rfl) (by rfl) (v := ?av22) (fun W hW => ?ay22) (fun K hK => ?ar22); case ay22 => (obtain ⟨q1, q2, q3, q4⟩ := (show ∀ W', Grows wr.drew W' → _ from HX) W hW; go_simp; first | done | rfl))
      | refine anyV_skip 21 (Grows.pre) rfl (by kernel_rfl) (by kernel_rfl) (by kernel_rfl) (by rfl) (fun K hK => ?_)
    go_simp
    refine hK _ ?_
    clear hK K
    first
      | (refine anyV_val 22 (Grows.pre) rfl (by kernel_rfl) (by kernel_rfl) (by kernel_rfl) (by rfl) (v := ?av23) (fun W hW => ?ay23) (fun K hK => ?ar23); case ay23 => (obtain ⟨q1, q2, q3, q4⟩ := (show ∀ W', Grows wr.drew W' → _ from HX) W hW; go_simp; first | done | rfl))
      | refine anyV_skip 22 (Grows.pre) rfl (by kernel_rfl) (by kernel_rfl) (by kernel_rfl) (by rfl) (fun K hK => ?_)
    go_simp
    refine hK _ ?_
    clear hK K
    first
      | (refine anyV_val 23 (Grows.pre) rfl (by kernel_rfl) (by kernel_rfl) (by kernel_rfl) (by rfl) (v := ?av24) (fun W hW => ?ay24) (fun K hK => ?ar24); case ay24 => (obtain ⟨q1, q2, q3, q4⟩ := (show ∀ W', Grows wr.drew W' → _ from HX) W hW; go_simp; first | done | rfl))
      | refine anyV_skip 23 (Grows.pre) rfl (by kernel_rfl) (by kernel_rfl) (by kernel_rfl) (by rfl) (fun K hK => ?_)
    go_simp
    refine hK _ ?_
    clear hK K
    first
      | (refine anyV_val 24 (Grows.pre) rfl (by kernel_rfl) (by kernel_rfl) (by kernel_rfl) (by rfl) (v := ?av25) (fun W hW => ?ay25) (fun K hK => ?ar25); case ay25 => (obtain ⟨q1, q2, q3, q4⟩ := (show ∀ W', Grows wr.drew W' → _ from HX) W hW; go_simp; first | done | rfl))
      | refine anyV_skip 24 (Grows.pre) rfl (by kernel_rfl) (by kernel_rfl) (by kernel_rfl) (by rfl) (fun K hK => ?_)
    go_simp
    refine hK _ ?_
    clear hK K
    first
      | (refine anyV_val 25 (Grows.pre) rfl (by kernel_rfl) (by kernel_rfl) (by kernel_rfl) (by rfl) (v := ?av26) (fun W hW => ?ay26) (fun K hK => ?ar26); case ay26 => (obtain ⟨q1, q2, q3, q4⟩ := (show ∀ W', Grows wr.drew W' → _ from HX) W hW; go_simp; first | done | rfl))
      | refine anyV_skip 25 (Grows.pre) rfl (by kernel_rfl) (by kernel_rfl) (by kernel_rfl) (by rfl) (fun K hK => ?_)
    go_simp
    refine hK _ ?_
    clear hK K
    first
      | (refine anyV_val 26 (Grows.pre) rfl (by kernel_rfl) (by kernel_rfl) (by kernel_rfl) (by rfl) (v := ?av27) (fun W hW => ?ay27) (fun K hK => ?ar27); case ay27 => (obtain ⟨q1, q2, q3, q4⟩ := (show ∀ W', Grows wr.drew W' → _ from HX) W hW; go_simp; first | done | rfl))
      | refine anyV_skip 26 (Grows.pre) rfl (by kernel_rfl) (by kernel_rfl) (by kernel_rfl) (by rfl) (fun K hK => ?_)
    go_simp
    refine hK _ ?_
    clear hK K
    first
      | (refine anyV_val 27 (Grows.pre) rfl (by kernel_rfl) (by kernel_rfl) (by kernel_rfl) (by rfl) (v := ?av28) (fun W hW => ?ay28) (fun K hK => ?ar28); case ay28 => (obtain ⟨q1, q2, q3, q4⟩ := (show ∀ W', Grows wr.drew W' → _ from HX) W hW; go_simp; first | done | rfl))
      | refine anyV_skip 27 (Grows.pre) rfl (by kernel_rfl) (by kernel_rfl) (by kernel_rfl) (by rfl) (fun K hK => ?_)
    go_simp
    refine hK _ ?_
    clear hK K
    first
      | (refine anyV_val 28 (Grows.pre) rfl (by kernel_rfl) (by kernel_rfl) (by kernel_rfl) (by rfl) (v := ?av29) (fun W hW => ?ay29) (fun K hK => ?ar29); case ay29 => (obtain ⟨q1, q2, q3, q4⟩ := (show ∀ W', Grows wr.drew W' → _ from HX) W hW; go_simp; first | done | rfl))
      | refine anyV_skip 28 (Grows.pre) rfl (by kernel_rfl) (by kernel_rfl) (by kernel_rfl) (by rfl) (fun K hK => ?_)
    go_simp
    refine hK _ ?_
    clear hK K
    first
      | (refine anyV_val 29 (Grows.pre) rfl (by kernel_rfl) (by kernel_rfl) (by kernel_rfl) (by rfl) (v := ?av30) (fun W hW => ?ay30) (fun K hK => ?ar30); case ay30 => (obtain ⟨q1, q2, q3, q4⟩ := (show ∀ W', Grows wr.drew W' → _ from HX) W hW; go_simp; first | done | rfl))
      | refine anyV_skip 29 (Grows.pre) rfl (by kernel_rfl) (by kernel_rfl) (by kernel_rfl) (by rfl) (fun K hK => ?_)
    go_simp
    refine hK _ ?_
    clear hK K
    first
      | (refine anyV_val 30 (Grows.pre) rfl (by kernel_rfl) (by kernel_rfl) (by kernel_rfl) (by rfl) (v := ?av31) (fun W hW => ?ay31) (fun K hK => ?ar31); case ay31 => (obtain ⟨q1, q2, q3, q4⟩ := (show ∀ W', Grows wr.drew W' → _ from HX) W hW; go_simp; first | done | rfl))
      | refine anyV_skip 30 (Grows.pre) rfl (by kernel_rfl) (by kernel_rfl) (by kernel_rfl) (by rfl) (fun K hK => ?_)
    go_simp
    refine hK _ ?_
    clear hK K
    refine anyV_done (by kernel_rfl) ?_
    obtain ⟨L, hLd⟩ : ∃ L, L = lenAt bs A := ⟨_, rfl⟩
    have hL2 : (L : Int) = x1 + 256 * x2 + 65536 * x3 + 16777216 * x4 := by
      rw [hLd, show lenAt bs A = lenH x1 x2 x3 x4 from HL]; unfold lenH; omega
    have e64 : IntKind.u64.wrap (IntKind.u64.wrap (IntKind.u64.wrap (IntKind.u64.wrap x1 + IntKind.u64.wrap (256 * IntKind.u64.wrap x2)) + IntKind.u64.wrap (65536 * IntKind.u64.wrap x3)) + IntKind.u64.wrap (16777216 * IntKind.u64.wrap x4)) = (L : Int) := by
      simp only [IntKind.wrap_u64]; omega
    rw [e64]
    obtain ⟨V0, hV0⟩ : ∃ V0, V0 = wr.drew := ⟨_, rfl⟩
    have sV0 : V0.heap.size = wr.heap.size := by rw [hV0]; rfl
    have kV0 : ∀ x : Nat, V0.heap[x]? = wr.heap[x]? := fun x => by rw [hV0]; rfl
    have b0' : Below W.heap.size W V0 := by rw [hV0]; exact ⟨hb0.os, hb0.tape, hb0.output, hb0.size, hb0.block⟩
    have c0' : V0.cell? ⟨b, off + A, none⟩ = some (.int .u8 x0) := cell_same (kV0 _) c0
    have own0 := Lib.hid (ownsRow_same (B := V0) (show wr.ownsRow W.heap.size 66 3 u6 N vs from HOWN) fun q _ => kV0 q)
    have rel0 := Lib.hid ((show RelocS S wr P vs from HREL).keep (W2 := V0) fun x _ => kV0 x)
    have hS0 := Lib.hid (show ∀ x, S x → (x < n₀ ∨ W.heap.size ≤ x) ∧ x < V0.heap.size ∧ u6.ownBlock ≠ some x by rw [sV0]; exact HS)
    rw [← hV0]
    have hbw0 : b < V0.heap.size := by omega
    clear hV0 kV0 HOWN HREL HS c0 hb0 sV0 hbw
    have HLD := Lib.hid hLd
    have hLb : L < 4294967296 := by omega
    clear hL2 e64 hLd HL HX z1 z2 z3 z4 w1' w2' w3' w4' k1 k2 k3 k4 j1 j2 j3 j4
    by_cases hlong : len < A + 5 + L
    · have s5 : decide ((len : Int) - (A : Int) - 5 < (L : Int)) = true := by simp; omega
      go_wp2
      go_ret2
      exact ⟨b0', _, _, _, _, rfl, fun _ => (show Rd d bs A P from hRd).bad (by omega) (.inr (.inr (by rw [← (show L = lenAt bs A from HLD)]; omega))), fun h => (by cases h)⟩
    have s5 : decide ((len : Int) - (A : Int) - 5 < (L : Int)) = false := by simp; omega
    have m1 : A + 5 ≤ A + 5 + L := by omega
    have m2 : A + 5 + L ≤ len := by omega
    have hsub := (show Row8 n₀ W (.slice (some ⟨b, off, none⟩) len cap) bs from hR).sub (A + 5) (A + 5 + L) m1 m2
    have w1' : IntKind.i64.wrap ((A : Int) + 5) = (A : Int) + 5 := by rw [IntKind.wrap_i64]; omega
    go_wp2_with first
      | (refine wpList_slice (by rfl) 22 (.tmp 83) (some (.tmp 85)) (some (.tmp 90)) rfl (some ⟨b, off, none⟩) len cap (A + 5) (A + 5 + L) rfl (.inr ⟨_, rfl, rfl⟩) (.inr ⟨_, rfl, rfl⟩) (by kernel_rfl) (by kernel_rfl) m1 m2 hcap ?_; intro q hq)
      | ((fail_if_success (unfold Held)); refine at_store (t := 66) rfl ?_)
    unfold Held
    refine wpList_store_row rfl 66 (.tmp 11) (.tmp 97) rfl V0.heap.size #[.int .i64 x0, .slice none 0 0, .slice none 0 0] rfl rfl 66 zT (World.alloc_heap_new _ _) infoT rfl (agg3_one ..) ?_
    rw [World.setRow_alloc_new]
    obtain ⟨V4, hV4⟩ : ∃ V4, V4 = V0.alloc (.cells #[.int .i64 x0, .slice none 0 0, .slice none 0 0] 66) := ⟨_, rfl⟩
    have x4 : V4.heap[V0.heap.size]? = some (.cells #[.int .i64 x0, .slice none 0 0, .slice none 0 0] 66) := by rw [hV4]; exact World.alloc_heap_new _ _
    have b4 : Below V0.heap.size V0 V4 := by rw [hV4]; exact (Below.refl _ _).alloc (Nat.le_refl _) _
    have s4h : V4.heap.size = V0.heap.size + 1 := by rw [hV4]; simp
    rw [← hV4]
    clear hV4
    have hsq : Row8 n₀ W (.slice q L (cap - (A + 5))) (valAt bs A) := by
      have h := hsub.1
      rw [hq, show A + 5 + L - (A + 5) = L by omega] at h
      unfold valAt
      rw [← (show L = lenAt bs A from HLD)]
      exact h
    have hvl : (valAt bs A).length = L := by rw [valAt_length _ _ (by rw [← (show L = lenAt bs A from HLD)]; omega)]; exact HLD.symm
    have y0 : V4.cell? ⟨V0.heap.size, 0, none⟩ = some (.int .i64 x0) := by rw [cell_of_row V4 _ 0 _ _ _ x4]; rfl
    obtain ⟨lc, hlc⟩ : ∃ lc, lc = cap - (A + 5) := ⟨_, rfl⟩
    rw [show A + 5 + L - (A + 5) = L by omega] at hq
    rw [← hlc] at hsq
    try rw [← hlc]
    have hL3 : A + 5 + lenAt bs A ≤ bs.length := by rw [← (show L = lenAt bs A from HLD)]; omega
    clear hq hsub hlc c0'
    go_upto_if 100 with fail
    go_cut [12, 13] from 21 to 122 (fun _ _ wx => ∃ (fl : Forest) (ya : Option Addr) (yl yc : Nat) (ka : Option Addr) (kl kc : Nat) (T : Nat → Prop), wx.heap[V0.heap.size]? = some (.cells #[.int .i64 x0, .slice ya yl yc, .slice ka kl kc] 66) ∧ fl.length = 1 ∧ Hid (Rd d bs (A + 5 + L) (P.app fl)) ∧ RelocS T wx fl [.int .i64 x0, .slice ya yl yc, .slice ka kl kc] ∧ (∀ x, T x → (x < n₀ ∨ V0.heap.size < x) ∧ x < wx.heap.size) ∧ Below V0.heap.size V4 wx)
    case first =>
      have s40 : V0.heap.size < V4.heap.size := by omega
      have hWV := b0'.size
      have hV4W : ∀ x, x < n₀ → V4.heap[x]? = W.heap[x]? := fun x hx => (b4.block x (by omega)).trans (b0'.block x (by omega))
      by_cases ht : 128 ≤ x0
      · have tt : decide ((127 : Int) < x0) = true := by simp; omega
        have kc : Calls Tryz.prog 67 #[.slice q L lc, .int .i64 ((d : Int) + 1)] V4 (RdPost n₀ (d + 1) (valAt bs A) V4) := ih (valAt bs A).length (by omega) n₀ (d + 1) (valAt bs A) V4 q L lc (Nat.le_refl _) (by omega) (by omega) (by omega) (hsq.same fun x hx => hV4W x (hsq.lt x hx))
        have K1 := Lib.hid kc
        have X4 := Lib.hid x4
        clear kc x4 ih hsq own0 rel0 hS0
        go_wp2_with (go_at_call 67; refine held ?_)
        unfold Held
        refine Calls.mono K1 ?_
        rintro e w5 ⟨b5, ra, rl, rc, ok, rfl, hn5, hs5⟩
        try dsimp only
        have hb45 := b5.size
        cases ok with
        | false =>
          have hno := Lib.hid (hn5 rfl)
          clear hn5 hs5 K1
          go_wp2
          go_ret2
          have bfin : Below W.heap.size W w5 := (b0'.trans (b4.mono hWV)).trans (b5.mono (by omega))
          exact ⟨bfin, _, _, _, _, rfl, fun _ => (show Rd d bs A P from hRd).kidsNone (by omega) (by rw [← (show x0 = bs.getD A 0 from HX0)]; exact ht) hno, fun h => (by cases h)⟩
        | true =>
          obtain ⟨f, hf, hS5⟩ := hs5 rfl
          have e5 : w5.heap[V0.heap.size]? = some (.cells #[.int .i64 x0, .slice none 0 0, .slice none 0 0] 66) := (b5.block V0.heap.size s40).trans X4
          have cc5 : w5.cell? ⟨V0.heap.size, 2, none⟩ = some (.slice none 0 0) := by rw [cell_of_row w5 _ 2 _ _ _ e5]; rfl
          have ff5 := frozen_of_row w5 V0.heap.size 2 _ _ e5
          have HF := Lib.hid hf
          have HS5 := Lib.hid hS5
          clear hn5 hs5 K1 hf hS5
          go_wp2
          obtain ⟨W8, hW8⟩ : ∃ W8, W8 = w5.setCell ⟨V0.heap.size, 2, none⟩ (.slice ra rl rc) := ⟨_, rfl⟩
          have e8 : W8.heap[V0.heap.size]? = some (.cells #[.int .i64 x0, .slice none 0 0, .slice ra rl rc] 66) := by rw [hW8]; exact heap_setCell_same _ _ _ _ _ _ e5
          have s8 : w5.heap.size = W8.heap.size := by rw [hW8]; show _ = (w5.heap.modify _ _).size; rw [Array.size_modify]
          have k8 : ∀ x, x ≠ V0.heap.size → W8.heap[x]? = w5.heap[x]? := fun x hx => by rw [hW8]; exact Below.heap_setCell _ _ _ _ hx
          have b8 : Below V0.heap.size V4 W8 := by
            have h : Below V0.heap.size V4 w5 := b5.mono (by omega)
            refine ⟨?_, ?_, ?_, by omega, fun x hx => (k8 x (by omega)).trans (h.block x hx)⟩
            · rw [hW8]; exact h.os
            · rw [hW8]; exact h.tape
            · rw [hW8]; exact h.output
          rw [← hW8]
          clear hW8
          go_meet
          refine ⟨.cons x0 [] f .nil, none, 0, 0, ra, rl, rc, fun x => x < n₀ ∨ (V4.heap.size ≤ x ∧ x < w5.heap.size), e8, rfl, ?_, ?_, ?_, b8⟩
          · have h := (show Rd d bs A P from hRd).kids hL3 (by omega) (by rw [← (show x0 = bs.getD A 0 from HX0)]; exact ht) (k := f) HF
            rw [← (show L = lenAt bs A from HLD), ← (show x0 = bs.getD A 0 from HX0)] at h
            exact h
          · refine RelocS.one (by omega) (by omega) (by simp) (fun W' n' h1 h2 => ⟨.inl ⟨_, _, rfl, rfl⟩, by simp⟩) (fun W' n' h1 h2 => ?_)
            exact (show ∀ (W2 : World) (n' : Nat), (∀ x, (x < n₀ ∨ V4.heap.size ≤ x ∧ x < w5.heap.size) → W2.heap[x]? = w5.heap[x]? ∧ x < n') → SlF n' W2 ra rl rc f from HS5) W' n' fun x hx => ⟨(h1 x hx).trans (k8 x (by omega)), h2 x hx⟩
          · intro x hx
            constructor <;> omega
      · have tt : decide ((127 : Int) < x0) = false := by simp; omega
        have cc4 : V4.cell? ⟨V0.heap.size, 1, none⟩ = some (.slice none 0 0) := by rw [cell_of_row V4 _ 1 _ _ _ x4]; rfl
        have ff4 := frozen_of_row V4 V0.heap.size 1 _ _ x4
        have X4 := Lib.hid x4
        clear x4 ih own0 rel0 hS0
        go_wp2
        have x4 : V4.heap[V0.heap.size]? = some (.cells #[.int .i64 x0, .slice none 0 0, .slice none 0 0] 66) := X4
        obtain ⟨W8, hW8⟩ : ∃ W8, W8 = V4.setCell ⟨V0.heap.size, 1, none⟩ (.slice q L lc) := ⟨_, rfl⟩
        have e8 : W8.heap[V0.heap.size]? = some (.cells #[.int .i64 x0, .slice q L lc, .slice none 0 0] 66) := by rw [hW8]; exact heap_setCell_same _ _ _ _ _ _ x4
        have s8 : V4.heap.size = W8.heap.size := by rw [hW8]; show _ = (V4.heap.modify _ _).size; rw [Array.size_modify]
        have k8 : ∀ x, x ≠ V0.heap.size → W8.heap[x]? = V4.heap[x]? := fun x hx => by rw [hW8]; exact Below.heap_setCell _ _ _ _ hx
        have b8 : Below V0.heap.size V4 W8 := by
          refine ⟨?_, ?_, ?_, by omega, fun x hx => (k8 x (by omega))⟩
          · rw [hW8]; rfl
          · rw [hW8]; rfl
          · rw [hW8]; rfl
        rw [← hW8]
        clear hW8
        go_meet
        refine ⟨.cons x0 (valAt bs A) .nil .nil, q, L, lc, none, 0, 0, fun x => x < n₀, e8, rfl, ?_, ?_, ?_, b8⟩
        · have h := (show Rd d bs A P from hRd).plain hL3 (by omega) (by rw [← (show x0 = bs.getD A 0 from HX0)]; exact H0) (by rw [← (show x0 = bs.getD A 0 from HX0)]; omega)
          rw [← (show L = lenAt bs A from HLD), ← (show x0 = bs.getD A 0 from HX0)] at h
          exact h
        · refine RelocS.one (by omega) (by omega) (by omega) (fun W' n' h1 h2 => hsq.to fun x hx => ⟨(h1 x hx).trans ((k8 x (by omega)).trans (hV4W x hx)), h2 x hx⟩) (fun W' n' h1 h2 => ⟨rfl, .inl rfl⟩)
        · intro x hx
          constructor <;> omega
    case rest =>
      obtain ⟨fl, ya, yl, yc, ka, kl, kc, T, e1, hfl, hRd2, hrel2, hT, b5⟩ := hcut
      have s40 : V0.heap.size < V4.heap.size := by omega
      have hWV := b0'.size
      have hVc := b5.size
      have own0' : V0.ownsRow W.heap.size 66 3 u6 N vs := own0
      have own5 : wc.ownsRow W.heap.size 66 3 u6 N vs := ownsRow_same own0' fun x hx => (b5.block x (own0'.lt x hx).2).trans (b4.block x (own0'.lt x hx).2)
      have hS0' : ∀ x, S x → (x < n₀ ∨ W.heap.size ≤ x) ∧ x < V0.heap.size ∧ u6.ownBlock ≠ some x := hS0
      have rel5 : RelocS S wc P vs := (show RelocS S V0 P vs from rel0).keep fun x hx => (b5.block x (hS0' x hx).2.1).trans (b4.block x (hS0' x hx).2.1)
      have bc : Below W.heap.size W wc := (b0'.trans (b4.mono hWV)).trans (b5.mono hWV)
      have hul := fun x hx => own0'.lt x hx
      have z0 : wc.cell? ⟨V0.heap.size, 0, none⟩ = some (.int .i64 x0) := by rw [cell_of_row wc _ 0 _ _ _ e1]; rfl
      have z1 : wc.cell? ⟨V0.heap.size, 1, none⟩ = some (.slice ya yl yc) := by rw [cell_of_row wc _ 1 _ _ _ e1]; rfl
      have z2 : wc.cell? ⟨V0.heap.size, 2, none⟩ = some (.slice ka kl kc) := by rw [cell_of_row wc _ 2 _ _ _ e1]; rfl
      have REL := Lib.hid rel5
      have HS0 := Lib.hid hS0'
      have REL2 := Lib.hid hrel2
      have HT := Lib.hid hT
      clear own0 own0' hS0 hS0' rel0 rel5 e1 x4 b4 b5 b0' ih hsq hrel2 hT
      go_wp2_with (at_builtin; refine held ?_)
      unfold Held
      obtain ⟨W6, hW6⟩ : ∃ W6, W6 = wc.alloc (Obj.cells #[.int .i64 x0, .slice ya yl yc, .slice ka kl kc] 66) := ⟨_, rfl⟩
      have b6 : Below wc.heap.size wc W6 := by rw [hW6]; exact (Below.refl _ _).alloc (Nat.le_refl _) _
      have x6 : W6.heap[wc.heap.size]? = some (.cells #[.int .i64 x0, .slice ya yl yc, .slice ka kl kc] 66) := by rw [hW6]; exact World.alloc_heap_new _ _
      have s6 : W6.heap.size = wc.heap.size + 1 := by rw [hW6]; simp
      have own6 : W6.ownsRow W.heap.size 66 3 u6 N vs := ownsRow_same own5 fun x hx => b6.block x (by have := (hul x hx).2; omega)
      have bc6 : Below W.heap.size W W6 := bc.trans (b6.mono bc.size)
      rw [← hW6]
      clear hW6 own5
      refine wpList_append_vals rfl _ _ 59 rfl W.heap.size 66 i0 _ 3 56 Tryz.underlying59 hi hz0 hz1 hz2 rfl (by decide) u6 N vs rfl own6 (some ⟨wc.heap.size, 0, none⟩) 1 1 [.int .i64 x0, .slice ya yl yc, .slice ka kl kc] rfl rfl (by simp [Value.oneCell']) (.inr ⟨_, _, rfl, fun j u hj => by
          rw [Nat.zero_add, cell_of_row W6 _ j _ _ _ x6, List.getElem?_toArray]
          exact hj⟩) (by omega) (by simp only [maxLen]; omega) bc6.size ?_
      intro v7 w7 o7 g7 hv7
      have keep : ∀ x, x < wc.heap.size → u6.ownBlock ≠ some x → w7.heap[x]? = wc.heap[x]? := fun x h1 h2 => (g7.block x (by omega) (fun e => h2 e.symm)).trans (b6.block x h1)
      have hv7' : ∀ x, v7.ownBlock = some x → u6.ownBlock = some x ∨ x = W6.heap.size := fun x hx => by
        rcases hv7 with h | h
        · rw [h] at hx; exact .inl hx
        · rw [h] at hx; injection hx with hx; exact .inr hx.symm
      have b7 : Below W.heap.size W w7 := bc6.grown g7 bc6.size fun x hx => (hul x hx).1
      have s7 := g7.size
      have F1 : Hid (w7.ownsRow W.heap.size 66 3 v7 (N + 1) (vs ++ [.int .i64 x0, .slice ya yl yc, .slice ka kl kc]) ∧ RelocS (fun x => S x ∨ T x) w7 (P.app fl) (vs ++ [.int .i64 x0, .slice ya yl yc, .slice ka kl kc]) ∧ (∀ x, (S x ∨ T x) → (x < n₀ ∨ W.heap.size ≤ x) ∧ x < w7.heap.size ∧ v7.ownBlock ≠ some x) ∧ Below W.heap.size W w7) := by
        have hS' : ∀ x, S x → (x < n₀ ∨ W.heap.size ≤ x) ∧ x < V0.heap.size ∧ u6.ownBlock ≠ some x := HS0
        have hT' : ∀ x, T x → (x < n₀ ∨ V0.heap.size < x) ∧ x < wc.heap.size := HT
        have hTu : ∀ x, T x → u6.ownBlock ≠ some x := fun x hx e => by
          have h1 := hT' x hx
          have h2 := hul x e
          omega
        refine ⟨o7, RelocS.app ?_ ?_ (by rw [hP]; exact own6.1), ?_, b7⟩
        · exact ((show RelocS S wc P vs from REL).keep fun x hx => keep x (by have := (hS' x hx).2.1; omega) (hS' x hx).2.2).widen fun x hx => .inl hx
        · exact ((show RelocS T wc fl _ from REL2).keep fun x hx => keep x (hT' x hx).2 (hTu x hx)).widen fun x hx => .inr hx
        · rintro x (hx | hx)
          · have h1 := hS' x hx
            refine ⟨h1.1, by omega, fun e => ?_⟩
            rcases hv7' x e with h | h
            · exact h1.2.2 h
            · omega
          · have h1 := hT' x hx
            refine ⟨by omega, by omega, fun e => ?_⟩
            rcases hv7' x e with h | h
            · exact hTu x hx h
            · omega
      have hPl : (P.app fl).length = N + 1 := by rw [Forest.length_app, hfl, hP]
      clear keep hv7' b7 g7 hv7 o7 s7 own6 bc6 b6 x6 s6 bc REL HS0 REL2 HT z0 z1 z2
      go_wp2
      go_roundw
      case rel => exact ⟨A + 5 + L, N + 1, P.app fl, _, _, by go_num, by go_num, by omega, by omega, hPl, hRd2, F1⟩
      case measure => simp [intOf]; omega
theorem rread_any (m : Nat) : RReadOK m := Nat.strongRecOn m rread_step
end Go.Proofs.YtejcandhijdnhaaGreat

/- A range over a function that writes blocks of its own (Y): my law of Iter, with these; and AnyV within a loop's body. -/
namespace Go.Proofs.YtejcandhijdnhaaGreat
open Go Go.RowKit
set_option linter.unusedVariables false
/-- an invariant that minds what lies below B and the blocks S alone -/
def StableY (B : Nat) (Y : Nat → Prop) (I : Nat → (Nat → Prop) → World → Prop) : Prop := ∀ k S W W', I k S W → SameOn (fun b => (b < B ∧ ¬ Y b) ∨ S b) W W' → I k S W'
/-- THE ITERATOR's CONTRACT: it hands xs to yield, one by one, until a round says 'no more'. X: the blocks that no round may write. -/
def IterY {α : Type} (P : Program) (g : Nat) (lb : Array Value) (encs : α → Array Value) (X Y : Nat → Prop) (xs : List α) (w : World) : Prop :=
  ∀ (l : Nat) (J Jx : Nat → (Nat → Prop) → World → Prop) (S0 : Nat → Prop) (W : World), Below w.heap.size w W → StableY W.heap.size Y J → StableY W.heap.size Y Jx →
    (∀ k S W, J k S W → ∀ b, S b → b < W.heap.size) → (∀ b, X b → ¬ S0 b) →
    (∀ (k : Nat) (h : k < xs.length) (S : Nat → Prop) (W1 : World), J k S W1 → YieldAt Fence.wide 100 P l (encs xs[k]) W1 fun e W' =>
      (e = .returned (.bool true) ∧ ∃ S', J (k + 1) S' W' ∧ Wr S S' W1 W') ∨ (e = .returned (.bool false) ∧ ∃ S', Jx (k + 1) S' W' ∧ Wr S S' W1 W')) →
    J 0 S0 W →
    Calls P g (#[.func (.yield l) #[] #[]] ++ lb) W fun e W' => (∃ v, e = .returned v) ∧ ((∃ S', J xs.length S' W') ∨ ∃ k S', k ≤ xs.length ∧ Jx k S' W')
variable {P : Program} {n : Nat}
/-- THE LOOP, OUT OF ITS BODY -/
theorem range_lawY {α : Type} {g : Operand} {ps : Array Tmp} {assign body : Code} {Q : Exit → Act → World → Prop} {a : Act} {w : World}
    {gf : Nat} {lb : Array Value} (hg : a.eval g = .func (.func gf) #[] lb) (eg : ∀ args w, (callFunc gf args).run P w = .ok (.enter gf args) w)
    {encs : α → Array Value} {X Y : Nat → Prop} {xs : List α} (hseq : IterY P gf lb encs X Y xs w) (hps : ∀ x, (encs x).size = ps.size)
    (I : Nat → (Nat → Prop) → World → Prop) (Ix : Code → Nat → (Nat → Prop) → World → Prop) (S0 : Nat → Prop)
    (hX : ∀ b, X b → b < w.heap.size ∧ ¬ S0 b) (hYw : ∀ b, Y b → b < w.heap.size) (hI : StableY w.heap.size Y I) (hIx : ∀ c, StableY w.heap.size Y (Ix c)) (hlt : ∀ k S W, I k S W → ∀ b, S b → b < W.heap.size) (h0 : I 0 S0 w)
    (a₁ : α → Act)
    (hassign : ∀ (l : Nat) (x : α) (W : World) (K : Act → World → Prop), K (a₁ x) W →
      assign.wpIn (Fence.wide.inRound l) 100 P (Exit.then K (fun _ _ _ => False)) { tmps := (ps.zip (encs x)).foldl (fun t (p, v) => t.setIfInBounds p v) a.tmps, defers := [] } W)
    (hbody : ∀ (l k : Nat) (h : k < xs.length) (S : Nat → Prop) (W : World), I k S W →
      body.wpIn (Fence.wide.inRound l) 100 P (RoundPost I Ix k S W) (a₁ xs[k]) W)
    (hdone : ∀ (D : Nat) (S : Nat → Prop) (W : World), w.heap.size ≤ D → ¬ S D → I xs.length S W → W.heap[D]? = some (.deferred (some [])) →
      Q .normal { a with defers := { target := .collected D, args := #[] } :: a.defers } W)
    (hstop : ∀ (D : Nat) (c : Code) (k : Nat) (S : Nat → Prop) (W : World), w.heap.size ≤ D → ¬ S D → k ≤ xs.length → Ix c k S W → W.heap[D]? = some (.deferred (some [])) →
      c.wpIn Fence.wide n P Q { a with defers := { target := .collected D, args := #[] } :: a.defers } W) :
    (Code.rangeFunc g ps assign body).wpIn Fence.wide n P Q a w := by
  refine wpIn_rangeFunc fun fn hfn => ?_
  obtain ⟨rec, hrec⟩ : ∃ rec : LoopState → Option Code → Loop, rec = fun st pe => { state := st, pending := pe, fn, tmps := a.tmps, params := ps, assign, body, defers := w.heap.size } := ⟨_, rfl⟩
  obtain ⟨V, hV⟩ : ∃ V, V = (w.alloc (.deferred (some []))).alloc (.loop (rec .ready none)) := ⟨_, rfl⟩
  have sV : V.heap.size = w.heap.size + 2 := by rw [hV]; simp
  have lV : V.heap[w.heap.size + 1]? = some (.loop (rec .ready none)) := by
    have := World.alloc_heap_new (w.alloc (.deferred (some []))) (.loop (rec .ready none))
    rw [World.size_alloc] at this; rw [hV]; exact this
  have dV : V.heap[w.heap.size]? = some (.deferred (some [])) := by
    rw [hV]; exact (Below.heap_alloc _ _ _ (by simp)).trans (World.alloc_heap_new w _)
  have bV : Below w.heap.size w V := by rw [hV]; exact ((Below.refl _ w).alloc (Nat.le_refl _) _).alloc (by simp) _
  have s0 : ∀ b, S0 b → b < w.heap.size := hlt _ _ _ h0
  have iV : I 0 S0 V := hI _ _ _ _ h0 ((SameOn.of_below bV).mono fun b hb => hb.elim (fun h => h.1) (s0 b))
  refine ⟨w.heap.size + 1, [{ target := .collected w.heap.size, args := #[] }], V, { target := .fn (.func gf) lb, args := #[.func (.yield (w.heap.size + 1)) #[] #[]] }, V, gf,
    #[.func (.yield (w.heap.size + 1)) #[] #[]] ++ lb, V, ?_, ?_, fun _ _ => trivial, ?_, fun h => by simp [Fence.wide] at h, callsIn_wide.2 ?_⟩
  · rw [hV, hrec]; exact run_enterLoop_outer _ _ _ _ _
  · simp only [resolve, hg]; simp [go_sem]
  · simp [invoke, go_sem, eg]
  clear hV
  have ny0 : ¬ Y w.heap.size := fun h => by have := hYw _ h; omega
  have ny1 : ¬ Y (w.heap.size + 1) := fun h => by have := hYw _ h; omega
  -- the rounds' blocks, with the loop's own two
  obtain ⟨T, hT⟩ : ∃ T : (Nat → Prop) → Nat → Prop, T = fun S b => S b ∨ b = w.heap.size ∨ b = w.heap.size + 1 := ⟨_, rfl⟩
  have T1 : ∀ S b, T S b ↔ (S b ∨ b = w.heap.size ∨ b = w.heap.size + 1) := fun S b => by rw [hT]
  clear hT
  refine (hseq (w.heap.size + 1)
    (fun k S W => ∃ Sc, S = T Sc ∧ I k Sc W ∧ ¬ Sc w.heap.size ∧ ¬ Sc (w.heap.size + 1) ∧ W.heap[w.heap.size + 1]? = some (.loop (rec .ready none)) ∧ W.heap[w.heap.size]? = some (.deferred (some [])))
    (fun k S W => ∃ Sc c, S = T Sc ∧ Ix c k Sc W ∧ ¬ Sc w.heap.size ∧ ¬ Sc (w.heap.size + 1) ∧ W.heap[w.heap.size + 1]? = some (.loop (rec .done (some c))) ∧ W.heap[w.heap.size]? = some (.deferred (some [])))
    (T S0) V bV ?_ ?_ ?_ ?_ ?_ ⟨S0, rfl, iV, fun h => by have := s0 _ h; omega, fun h => by have := s0 _ h; omega, lV, dV⟩).mono ?_
  · rintro k S A A' ⟨Sc, rfl, hi, n1, n2, hl, hd⟩ hs
    exact ⟨Sc, rfl, hI _ _ _ _ hi (hs.mono fun b hb => hb.elim (fun h => .inl ⟨by omega, h.2⟩) (fun h => .inr ((T1 _ _).2 (.inl h)))), n1, n2, (hs.block _ (.inl ⟨by omega, ny1⟩)).trans hl, (hs.block _ (.inl ⟨by omega, ny0⟩)).trans hd⟩
  · rintro k S A A' ⟨Sc, c, rfl, hi, n1, n2, hl, hd⟩ hs
    exact ⟨Sc, c, rfl, hIx c _ _ _ _ hi (hs.mono fun b hb => hb.elim (fun h => .inl ⟨by omega, h.2⟩) (fun h => .inr ((T1 _ _).2 (.inl h)))), n1, n2, (hs.block _ (.inl ⟨by omega, ny1⟩)).trans hl, (hs.block _ (.inl ⟨by omega, ny0⟩)).trans hd⟩
  · rintro k S A ⟨Sc, rfl, hi, n1, n2, hl, hd⟩ b hb
    rcases (T1 _ _).1 hb with h | h | h
    · exact hlt _ _ _ hi b h
    · rw [h]; exact (Array.getElem?_eq_some_iff.1 hd).1
    · rw [h]; exact (Array.getElem?_eq_some_iff.1 hl).1
  · intro b hb h
    obtain ⟨h1, h2⟩ := hX b hb
    rcases (T1 _ _).1 h with h3 | h3 | h3
    · exact h2 h3
    · omega
    · omega
  · -- one round
    rintro k hk S W ⟨Sc, rfl, hi, n1, n2, hl, hd⟩
    have hy := run_yield (P := P) (args := encs xs[k]) hl (by rw [hrec]; exact hps _)
    rw [hrec] at hy
    refine ⟨fn, _, assign, body, hy, roundIn_of_wpIn hfn (hassign _ _ W _ ?_)⟩
    clear hy
    have hlt2 : w.heap.size + 1 < W.heap.size := (Array.getElem?_eq_some_iff.1 hl).1
    refine ⟨_, run_beginRound hl (by rw [hrec]), ?_⟩
    obtain ⟨W3, h3⟩ : ∃ W3, W3 = W.putObj (w.heap.size + 1) (.loop { rec .ready none with state := .busy }) := ⟨_, rfl⟩
    have hl3 : W3.heap[w.heap.size + 1]? = some (.loop { rec .ready none with state := .busy }) := by rw [h3]; exact World.putObj_heap_same hlt2
    have hd3 : W3.heap[w.heap.size]? = some (.deferred (some [])) := by rw [h3]; exact (World.putObj_heap_other (by omega)).trans hd
    have hi3 : I k Sc W3 := hI _ _ _ _ hi (by rw [h3]; exact SameOn.putObj _ _ _ (fun h => h.elim (fun h => by have := h.1; omega) n2))
    have wr3 : Wr (T Sc) (T Sc) W W3 := by
      rw [h3]
      exact ⟨rfl, rfl, rfl, by simp, fun b _ hs => World.putObj_heap_other (fun e => hs ((T1 _ _).2 (.inr (.inr e)))), fun b h => .inl h⟩
    rw [← h3]
    clear h3
    have after : ∀ (jump : Option Code) (Sc' : Nat → Prop) (W4 : World), Wr Sc Sc' W3 W4 →
        ∃ W5, W5 = W4.putObj (w.heap.size + 1) (.loop (rec (if jump.isNone then .ready else .done) jump)) ∧ (Instr.endRound (w.heap.size + 1) jump).run P W4 = .ok (.bool jump.isNone) W5 ∧
        ¬ Sc' w.heap.size ∧ ¬ Sc' (w.heap.size + 1) ∧
        W5.heap[w.heap.size + 1]? = some (.loop (rec (if jump.isNone then .ready else .done) jump)) ∧ W5.heap[w.heap.size]? = some (.deferred (some [])) ∧ Wr (T Sc) (T Sc') W W5 := fun jump Sc' W4 hw => by
      have s3 := wr3.size
      have hl4 := (hw.block _ (by omega) n2).trans hl3
      have hd4 := (hw.block _ (by omega) n1).trans hd3
      have m1 : ¬ Sc' w.heap.size := fun h => (hw.new _ h).elim n1 (fun h => by omega)
      have m2 : ¬ Sc' (w.heap.size + 1) := fun h => (hw.new _ h).elim n2 (fun h => by omega)
      have hr := run_endRound (P := P) jump hl4
      have hlt4 := (Array.getElem?_eq_some_iff.1 hl4).1
      rw [hrec] at hr ⊢
      refine ⟨_, rfl, hr, m1, m2, World.putObj_heap_same hlt4, (World.putObj_heap_other (by omega)).trans hd4, ?_⟩
      have w34 : Wr (T Sc) (T Sc') W3 W4 := ⟨hw.os, hw.tape, hw.output, hw.size, fun b hb hs => hw.block b hb (fun h => hs ((T1 _ _).2 (.inl h))),
        fun b hb => ((T1 _ _).1 hb).elim (fun h => (hw.new b h).elim (fun h => .inl ((T1 _ _).2 (.inl h))) .inr) (fun h => .inl ((T1 _ _).2 (.inr h)))⟩
      refine (wr3.trans w34).trans ⟨rfl, rfl, rfl, by simp, fun b _ hs => World.putObj_heap_other (fun e => hs ((T1 _ _).2 (.inr (.inr e)))), fun b h => .inl h⟩
    have leaves : ∀ (c : Code) (Sc' : Nat → Prop) (W4 : World), Ix c (k + 1) Sc' W4 → Wr Sc Sc' W3 W4 → ∃ v W5, (Instr.endRound (w.heap.size + 1) (some c)).run P W4 = .ok v W5 ∧
        (Ending.returned v = .returned (.bool false) ∧ ∃ S', (∃ Sc c, S' = T Sc ∧ Ix c (k + 1) Sc W5 ∧ ¬ Sc w.heap.size ∧ ¬ Sc (w.heap.size + 1) ∧ W5.heap[w.heap.size + 1]? = some (.loop (rec .done (some c))) ∧ W5.heap[w.heap.size]? = some (.deferred (some []))) ∧ Wr (T Sc) S' W W5) :=
      fun c Sc' W4 hi4 hw => by
        obtain ⟨W5, e5, hr, m1, m2, hl5, hd5, hw5⟩ := after (some c) Sc' W4 hw
        exact ⟨_, W5, hr, rfl, T Sc', ⟨Sc', c, rfl, hIx c _ _ _ _ hi4 (by rw [e5]; exact SameOn.putObj _ _ _ (fun h => h.elim (fun h => by omega) m2)), m1, m2, hl5, hd5⟩, hw5⟩
    refine wpIn_mono (hbody _ k hk Sc W3 hi3) fun e a4 W4 hp => ?_
    cases e with
    | normal =>
      obtain ⟨Sc', hi4, hw⟩ := hp
      obtain ⟨W5, e5, hr, m1, m2, hl5, hd5, hw5⟩ := after none Sc' W4 hw
      exact ⟨_, W5, hr, .inl ⟨rfl, T Sc', ⟨Sc', rfl, hI _ _ _ _ hi4 (by rw [e5]; exact SameOn.putObj _ _ _ (fun h => h.elim (fun h => by omega) m2)), m1, m2, hl5, hd5⟩, hw5⟩⟩
    | ret =>
      obtain ⟨Sc', hi4, hw⟩ := hp
      obtain ⟨v, W5, hr, h⟩ := leaves .ret Sc' W4 hi4 hw
      exact ⟨v, W5, hr, .inr h⟩
    | exit id =>
      obtain ⟨Sc', hi4, hw⟩ := hp
      obtain ⟨v, W5, hr, h⟩ := leaves (.exit id) Sc' W4 hi4 hw
      exact ⟨v, W5, hr, .inr h⟩
    | goto t =>
      obtain ⟨Sc', hi4, hw⟩ := hp
      obtain ⟨v, W5, hr, h⟩ := leaves (.goto t) Sc' W4 hi4 hw
      exact ⟨v, W5, hr, .inr h⟩
    | panic ch => exact hp.elim
    | outgrown => exact hp.elim
  · -- behind the iterator
    rintro e W2 ⟨⟨v, rfl⟩, (⟨S', Sc, rfl, hi, n1, n2, hl, hd⟩ | ⟨k, S', hk, Sc, c, rfl, hi, n1, n2, hl, hd⟩)⟩
    · have he := run_endLoop (P := P) hl (by rw [hrec]; simp)
      have hp : (rec .ready none).pending = none := by rw [hrec]
      rw [hp] at he
      exact ⟨none, _, he, hdone _ Sc _ (Nat.le_refl _) n1 (hI _ _ _ _ hi (SameOn.putObj _ _ _ (fun h => h.elim (fun h => by have := h.1; omega) n2))) ((World.putObj_heap_other (by omega)).trans hd)⟩
    · have he := run_endLoop (P := P) hl (by rw [hrec]; simp)
      have hp : (rec .done (some c)).pending = some c := by rw [hrec]
      rw [hp] at he
      exact ⟨some c, _, he, hstop _ c k Sc _ (Nat.le_refl _) n1 hk (hIx c _ _ _ _ hi (SameOn.putObj _ _ _ (fun h => h.elim (fun h => by have := h.1; omega) n2))) ((World.putObj_heap_other (by omega)).trans hd)⟩
/-! ### AnyV within a body -/
section
variable {ops : Array Oper} {md : Region.Mode} {R : World → World → Prop}
def noDefer (ops : Array Oper) : Bool := ops.all fun o => match o.op with | .defer _ => false | _ => true
theorem noDefer_spec {ops : Array Oper} (h : noDefer ops = true) (i : Nat) (o : Oper) (hi : ops[i]? = some o) : ∀ c, o.op ≠ .defer c := fun c hc => by
  unfold noDefer at h
  rw [Array.all_eq_true] at h
  obtain ⟨hl, rfl⟩ := Array.getElem?_eq_some_iff.1 hi
  have := h i hl
  rw [hc] at this
  cases this
theorem wpOpIn_of_opV {l m i : Nat} {o : Oper} {K : Act → World → Prop} {a : Act} {w : World} {Q : Exit → Act → World → Prop} (hi : ops[i]? = some o) (hd : ∀ c, o.op ≠ .defer c) (hh : opV P ops o (fun v w' => K (a.put o.dst v) w') a w) :
    wpOpIn (Fence.wide.inRound l) m P ops Q i K a w := by
  unfold wpOpIn opV at *
  simp only [hi]
  split
  · rename_i hw
    simp only [hw, if_true] at hh
    refine ⟨fun f _ => trivial, ?_⟩
    rw [Oper.semAt_eq _ _ _ hd]
    generalize (execOp a.eval o).run P w = r at *
    cases r with
    | ok nx w' =>
      cases nx <;> simp only [upV] at hh <;> simp only [Oper.uponIn]
      case enter f args => exact ⟨fun h => by simp [Fence.wide] at h, (callsR l _ hh).mono fun e w'' ⟨v, he, hk⟩ => by subst he; exact hk⟩
      all_goals exact hh
    | halt x w' => simp only [upV] at hh
  · rename_i hw; simp only [hw] at hh; exact ⟨fun f _ => trivial, hh⟩
theorem wpAnyIn_of_anyV {l m : Nat} {L : Act → World → Prop} {Q : Exit → Act → World → Prop} (hL : ∀ a w, L a w → Q .normal a w) (hd : noDefer ops = true) : ∀ (f : Nat) (listed : Array Bool) (a : Act) (w : World), anyV R P md ops L f listed a w → wpAnyIn (Fence.wide.inRound l) m P md ops Q f listed a w
  | 0, _, _, _, h => ⟨h.1, hL _ _ h.2⟩
  | f + 1, listed, a, w, h => ⟨fun h0 => hL _ _ (h.1 h0), fun i hi => by
      obtain ⟨o, ho, hop⟩ := h.2 i hi
      exact wpOpIn_of_opV ho (noDefer_spec hd i o ho) (opV_mono (fun v w' hk => wpAnyIn_of_anyV hL hd f _ _ _ hk.2) hop)⟩
/-- THE LAW, within a body -/
theorem wpIn_region_anyV {l m : Nat} (R : World → World → Prop) {id : Nat} {Q : Exit → Act → World → Prop} {a : Act} {w : World} (hm : P.follows .mixedOrders = true) (n : Nat) (hn : ops.size = n) (hd : noDefer ops = true)
    (h : anyV R P .any ops (fun a w => Q .normal a w) n (Array.replicate n false) a w.drew) : (Code.region id ops true).wpIn (Fence.wide.inRound l) m P Q a w := by
  subst hn
  exact wpIn_region_any hm (wpAnyIn_of_anyV (fun _ _ h => h) hd _ _ _ _ h)
end
end Go.Proofs.YtejcandhijdnhaaGreat
