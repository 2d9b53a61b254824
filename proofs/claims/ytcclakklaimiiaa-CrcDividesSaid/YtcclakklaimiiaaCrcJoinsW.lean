/- The walk of the law CrcJoins. -/
import Derived.Test.YtcclakklaimiiaaCrcE
import Derived.Test.YtcclakklaimiiaaAppendRow
namespace Go.Proofs.Ytcclakklaimiiaa
open Go Go.RowKit
set_option linter.unusedVariables false
set_option linter.unnecessarySimpa false
theorem sumL_lt (zs : List Int) (hz : ∀ z ∈ zs, 0 ≤ z ∧ z ≤ 255) : sumL zs < 4294967296 := moreN_lt (by decide) _ (toNat_lt hz)
theorem joinL (zs ys : List Int) (hz : ∀ z ∈ zs, 0 ≤ z ∧ z ≤ 255) (n : Nat) (hn : ys.length = n) : joinN (sumL zs) (sumL ys) n = sumL (zs ++ ys) := by
  have h := joinN_sum (zs.map Int.toNat) (ys.map Int.toNat) (toNat_lt hz)
  rw [List.length_map, hn, ← List.map_append] at h
  exact h
theorem moreL (zs ys : List Int) : moreN (sumL zs) (ys.map Int.toNat) = sumL (zs ++ ys) := by
  unfold sumL sumN
  rw [List.map_append, moreN_append]
theorem all_app {zs ys : List Int} (h : ∀ z ∈ zs, 0 ≤ z ∧ z ≤ 255) (k : ∀ z ∈ ys, 0 ≤ z ∧ z ≤ 255) : ∀ z ∈ zs ++ ys, 0 ≤ z ∧ z ≤ 255 := fun z hz => (List.mem_append.1 hz).elim (h z) (k z)
set_option maxRecDepth 100000 in
set_option maxHeartbeats 4000000 in
theorem crcJoins_any (w : World) (a1 : Option Addr) (l1 c1 : Nat) (z1 : List Int) (h1 : Row8 w.heap.size w (.slice a1 l1 c1) z1) (a2 : Option Addr) (l2 c2 : Nat) (z2 : List Int) (h2 : Row8 w.heap.size w (.slice a2 l2 c2) z2)
    (a3 : Option Addr) (l3 c3 : Nat) (z3 : List Int) (h3 : Row8 w.heap.size w (.slice a3 l3 c3) z3) :
    Calls Try.prog 4 #[.slice a1 l1 c1, .slice a2 l2 c2, .slice a3 l3 c3] w fun e w' => e = .returned (.bool true) ∧ Below w.heap.size w w' := by
  obtain ⟨i0, hi, hz0, hz1, hz2⟩ := info_parts info_u8
  have e1 := h1.1.open.1
  have e2 := h2.1.open.1
  have e3 := h3.1.open.1
  go_enter Try.func4, Try.ntmps4
  go_wp2_with (go_at_call 9; refine held ?_)
  unfold Held
  refine (alive_any w).mono ?_
  rintro e w1 ⟨rfl, b1⟩
  by_cases g1 : l1 ≤ 1000
  rotate_left
  · have t1 : decide ((1000 : Int) < (l1 : Int)) = true := by simp; omega
    go_wp2
    go_ret
    exact ⟨rfl, b1⟩
  have t1 : decide ((1000 : Int) < (l1 : Int)) = false := by simp; omega
  by_cases g2 : l2 ≤ 1000
  rotate_left
  · have t2 : decide ((1000 : Int) < (l2 : Int)) = true := by simp; omega
    go_wp2
    go_ret
    exact ⟨rfl, b1⟩
  have t2 : decide ((1000 : Int) < (l2 : Int)) = false := by simp; omega
  by_cases g3 : l3 ≤ 1000
  rotate_left
  · have t3 : decide ((1000 : Int) < (l3 : Int)) = true := by simp; omega
    go_wp2
    go_ret
    exact ⟨rfl, b1⟩
  have t3 : decide ((1000 : Int) < (l3 : Int)) = false := by simp; omega
  have x1 := sumL_lt z1 h1.2
  have x2 := sumL_lt z2 h2.2
  have x3 := sumL_lt z3 h3.2
  have x12 := sumL_lt (z1 ++ z2) (all_app h1.2 h2.2)
  have x23 := sumL_lt (z2 ++ z3) (all_app h2.2 h3.2)
  have kA := fun W => join_any (sumL z1) (sumL z2) l2 W x1 x2 (by omega)
  have kB := fun W => join_any (sumL (z1 ++ z2)) (sumL z3) l3 W x12 x3 (by omega)
  have kC := fun W => join_any (sumL z2) (sumL z3) l3 W x2 x3 (by omega)
  have kD := fun W => join_any (sumL z1) (sumL (z2 ++ z3)) (l2 + l3) W x1 x23 (by omega)
  rw [joinL z1 z2 h1.2 l2 e2] at kA
  rw [joinL _ z3 (all_app h1.2 h2.2) l3 e3] at kB
  rw [joinL z2 z3 h2.2 l3 e3] at kC
  rw [joinL z1 (z2 ++ z3) h1.2 (l2 + l3) (by rw [List.length_append, e2, e3]), ← List.append_assoc, Int.natCast_add] at kD
  have k1 := fun (W : World) (h : Row8 W.heap.size W (.slice a1 l1 c1) z1) => sum_any a1 l1 c1 z1 W h (by omega)
  have k2 := fun (W : World) (h : Row8 W.heap.size W (.slice a2 l2 c2) z2) => sum_any a2 l2 c2 z2 W h (by omega)
  have k3 := fun (W : World) (h : Row8 W.heap.size W (.slice a3 l3 c3) z3) => sum_any a3 l3 c3 z3 W h (by omega)
  have kE := fun (W : World) (h : Row8 W.heap.size W (.slice a2 l2 c2) z2) => more_any (sumL z1) a2 l2 c2 z2 W x1 h (by omega)
  have kF := fun (W : World) (h : Row8 W.heap.size W (.slice a3 l3 c3) z3) => more_any (sumL (z1 ++ z2)) a3 l3 c3 z3 W x12 h (by omega)
  rw [moreL] at kE kF
  have kS := fun (W : World) (a : Option Addr) (c : Nat) (h : Row8 W.heap.size W (.slice a (l1 + l2 + l3) c) (z1 ++ z2 ++ z3)) => sum_any a (l1 + l2 + l3) c (z1 ++ z2 ++ z3) W h (by simp only [List.length_append]; omega)
  have hz1' := h1.2
  have hz2' := h2.2
  have hz3' := h3.2
  obtain ⟨X1, hX1⟩ : ∃ X, X = sumL z1 := ⟨_, rfl⟩
  obtain ⟨X2, hX2⟩ : ∃ X, X = sumL z2 := ⟨_, rfl⟩
  obtain ⟨X3, hX3⟩ : ∃ X, X = sumL z3 := ⟨_, rfl⟩
  obtain ⟨X12, hX12⟩ : ∃ X, X = sumL (z1 ++ z2) := ⟨_, rfl⟩
  obtain ⟨X23, hX23⟩ : ∃ X, X = sumL (z2 ++ z3) := ⟨_, rfl⟩
  obtain ⟨X, hX⟩ : ∃ X, X = sumL (z1 ++ z2 ++ z3) := ⟨_, rfl⟩
  simp only [← hX1, ← hX2, ← hX3, ← hX12, ← hX23, ← hX] at kA kB kC kD k1 k2 k3 kE kF kS
  clear hX1 hX2 hX3 hX12 hX23 hX x1 x2 x3 x12 x23
  have m2 : (l2 : Int) % 18446744073709551616 = l2 := by omega
  have m3 : (l3 : Int) % 18446744073709551616 = l3 := by omega
  have m5 : ((l2 : Int) + (l3 : Int)) % 18446744073709551616 = (l2 : Int) + l3 := by omega
  go_wp2_with (go_at_call 11; refine held ?_)
  unfold Held
  refine (k1 _ ((h1.below b1).mono b1.size)).mono ?_
  rintro e w2 ⟨rfl, b2⟩
  replace b2 := below_step b1 b2
  clear b1 k1
  go_wp2_with (go_at_call 11; refine held ?_)
  unfold Held
  refine (k2 _ ((h2.below b2).mono b2.size)).mono ?_
  rintro e w3 ⟨rfl, b3⟩
  replace b3 := below_step b2 b3
  clear b2 k2
  go_wp2_with (go_at_call 11; refine held ?_)
  unfold Held
  refine (k3 _ ((h3.below b3).mono b3.size)).mono ?_
  rintro e w4 ⟨rfl, b4⟩
  replace b4 := below_step b3 b4
  clear b3 k3
  go_wp2_with (go_at_call 12; refine held ?_)
  unfold Held
  refine (kA _).mono ?_
  rintro e w5 ⟨rfl, b5⟩
  replace b5 := below_step b4 b5
  clear b4 kA
  go_wp2_with (go_at_call 12; refine held ?_)
  unfold Held
  refine (kB _).mono ?_
  rintro e w6 ⟨rfl, b6⟩
  replace b6 := below_step b5 b6
  clear b5 kB
  go_wp2_with (go_at_call 12; refine held ?_)
  unfold Held
  refine (kC _).mono ?_
  rintro e w7 ⟨rfl, b7⟩
  replace b7 := below_step b6 b7
  clear b6 kC
  go_wp2_with (go_at_call 12; refine held ?_)
  unfold Held
  refine (kD _).mono ?_
  rintro e w8 ⟨rfl, b8⟩
  replace b8 := below_step b7 b8
  clear b7 kD
  go_wp2_with (at_builtin; refine held ?_)
  unfold Held
  have hl0 := World.ownsRow_lit (base := w8.heap.size) (e := 5) (size := 1) w8 #[] 0 (Nat.le_refl _) (by decide) rfl
  obtain ⟨W2, hW2⟩ : ∃ W2, W2 = w8.alloc (.cells #[] 5) := ⟨_, rfl⟩
  have bb : Below w8.heap.size w8 W2 := by rw [hW2]; exact (Below.refl _ w8).alloc (Nat.le_refl _) _
  rw [← hW2] at hl0 ⊢
  have b9 := below_step b8 bb
  refine wpList_append_row rfl _ _ 28 rfl w8.heap.size 5 i0 Try.underlying28 hi hz0 hz1 hz2 (.slice (some ⟨w8.heap.size, 0, none⟩) 0 0) 0 [] rfl hl0 a1 l1 c1 w.heap.size z1 rfl (h1.1.below b9) (by omega) bb.size ?_
  intro v1 u1 o1 hg1 hv1
  have b10 : Below w.heap.size w u1 := b9.grown hg1 b9.size (fun b h => by simp [Value.ownBlock] at h; have := b8.size; omega)
  rw [Nat.zero_add, List.nil_append] at o1
  have s10 : w8.heap.size ≤ u1.heap.size := Nat.le_trans bb.size hg1.size
  clear hl0 hW2 bb b9 hg1 hv1
  go_wp2_with (at_builtin; refine held ?_)
  unfold Held
  refine wpList_append_row rfl _ _ 28 rfl w8.heap.size 5 i0 Try.underlying28 hi hz0 hz1 hz2 v1 l1 z1 rfl o1 a2 l2 c2 w.heap.size z2 rfl (h2.1.below b10) (by omega) s10 ?_
  intro v2 u2 o2 hg2 hv2
  have b11 : Below w.heap.size w u2 := b10.grown hg2 b10.size (fun b h => by have := (o1.lt b h).1; have := b8.size; omega)
  have s11 : w8.heap.size ≤ u2.heap.size := Nat.le_trans s10 hg2.size
  clear hg2 hv2 o1 b10
  go_wp2_with (at_builtin; refine held ?_)
  unfold Held
  refine wpList_append_row rfl _ _ 28 rfl w8.heap.size 5 i0 Try.underlying28 hi hz0 hz1 hz2 v2 (l1 + l2) (z1 ++ z2) rfl o2 a3 l3 c3 w.heap.size z3 rfl (h3.1.below b11) (by omega) s11 ?_
  intro v3 u3 o3 hg3 hv3
  have b12 : Below w.heap.size w u3 := b11.grown hg3 b11.size (fun b h => by have := (o2.lt b h).1; have := b8.size; omega)
  clear hg3 hv3 o2 b11
  obtain ⟨va, vc, rfl, _⟩ := ownsRow_slice o3
  have hS : Row8 u3.heap.size u3 (.slice va (l1 + l2 + l3) vc) (z1 ++ z2 ++ z3) := ⟨(RowI.of_own o3).2, all_app (all_app hz1' hz2') hz3'⟩
  have kS' := kS u3 va vc hS
  clear hS kS o3
  go_wp2_with (go_at_call 11; refine held ?_)
  unfold Held
  refine kS'.mono ?_
  rintro e w9 ⟨rfl, b13⟩
  replace b13 := below_step b12 b13
  clear b12 kS'
  go_wp2_with (go_at_call 13; refine held ?_)
  unfold Held
  refine (kE _ ((h2.below b13).mono b13.size)).mono ?_
  rintro e w10 ⟨rfl, b14⟩
  replace b14 := below_step b13 b14
  clear b13 kE
  go_wp2_with (go_at_call 13; refine held ?_)
  unfold Held
  refine (kF _ ((h3.below b14).mono b14.size)).mono ?_
  rintro e w11 ⟨rfl, b15⟩
  replace b15 := below_step b14 b15
  clear b14 kF
  go_wp2
  go_ret
  exact ⟨by simp, b15⟩
end Go.Proofs.Ytcclakklaimiiaa
