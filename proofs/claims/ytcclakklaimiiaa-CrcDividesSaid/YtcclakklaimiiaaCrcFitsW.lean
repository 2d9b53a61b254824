/- The walk of crc.back and crc.Fit, and of the law CrcFits. -/
import Derived.Test.YtcclakklaimiiaaCrcJoinsW
import Derived.Test.YtcclakklaimiiaaCrcFitM
import Derived.Test.YtcclakklaimiiaaSplit
namespace Go.Proofs.Ytcclakklaimiiaa
open Go Go.RowKit
set_option linter.unusedVariables false
set_option linter.unnecessarySimpa false
theorem or1_u32 (m : Nat) (h : m < 2147483648) : bits .or .u32 ((m : Int) * 2) 1 = ((2 * m + 1 : Nat) : Int) := by
  rw [show (m : Int) * 2 = ((2 * m : Nat) : Int) by omega]
  have := or_u32 (2 * m) 1 (by omega) (by decide)
  rw [show ((1 : Nat) : Int) = 1 from rfl] at this
  rw [this, Nat.or_comm, show (2 * m + 1 : Nat) = 2 ^ 1 * m + 1 by omega, Nat.two_pow_add_eq_or_of_lt (by decide), Nat.or_comm]
set_option maxHeartbeats 1000000 in
theorem back_any (n : Nat) (w : World) (hn : n < 4294967296) :
    Calls Try.prog 25 #[.int .u32 n] w fun e w' => e = .returned (.int .u32 (backN n)) ∧ w = w' := by
  by_cases h : n / 2 ^ 31 = 1
  · have t1 : ((n : Int) / 2147483648 == 1) = true := by simp; omega
    have h1 : bits .xor .u32 (n : Int) 3988292384 = ((n ^^^ divisorN : Nat) : Int) := xor_u32 n divisorN hn (by decide)
    have h2 := top_xor n hn h
    have hB : backN n = 2 * (n ^^^ divisorN) + 1 := by unfold backN; rw [if_pos h]
    rw [hB]
    obtain ⟨m, hm⟩ : ∃ m, m = n ^^^ divisorN := ⟨_, rfl⟩
    rw [← hm] at h1 h2 ⊢
    have h3 := or1_u32 m h2
    clear hB hm h
    go_enter Try.func25, Try.ntmps25
    go_wp2
    go_ret
    exact ⟨rfl, rfl⟩
  · have t1 : ((n : Int) / 2147483648 == 1) = false := by simp; omega
    have hB : backN n = 2 * n := by unfold backN; rw [if_neg h]
    have h3 : (n : Int) * 2 % 4294967296 = ((2 * n : Nat) : Int) := by omega
    rw [hB]
    clear hB
    have H3 := Lib.hid h3
    clear h3 h
    go_enter Try.func25, Try.ntmps25
    go_wp2
    go_ret
    have h3 : (n : Int) * 2 % 4294967296 = ((2 * n : Nat) : Int) := H3
    exact ⟨by rw [h3]; rfl, rfl⟩
set_option maxHeartbeats 1000000 in
theorem fit_any (n want : Nat) (w : World) (hn : n < 4294967296) (hw : want < 4294967296) :
    Calls Try.prog 14 #[.int .u32 n, .int .u32 want] w fun e w' => e = .returned (.int .u32 (fitN n want)) ∧ w = w' := by
  have h0 : want ^^^ onesN < 4294967296 := ones_lt hw
  have hx : bits .xor .u32 (want : Int) 4294967295 = ((want ^^^ onesN : Nat) : Int) := xor_u32 want onesN hw (by decide)
  unfold fitN
  obtain ⟨m, hm⟩ : ∃ m, m = want ^^^ onesN := ⟨_, rfl⟩
  rw [← hm] at hx h0 ⊢
  clear hm
  go_enter Try.func14, Try.ntmps14
  go_wp2
  go_loopw [5, 8] (fun x i wr => ∃ (j : Nat), x = .int .u32 (backsN j m) ∧ i = .int .i64 j ∧ j ≤ 32 ∧ w = wr) (fun _ i _ => 32 - (intOf i).toNat)
  case atStart => exact ⟨0, rfl, rfl, by omega, rfl⟩
  case round =>
    obtain ⟨j, rfl, rfl, hj, rfl⟩ := hrel
    have hl := backsN_lt j m h0
    by_cases hlt : j < 32
    · have t1 : decide ((j : Int) < 32) = true := by simp; omega
      have kb := back_any (backsN j m) w hl
      rw [← backsN_succ] at kb
      go_wp2_with (go_at_call 25; refine kb.mono ?_; rintro e w' ⟨rfl, rfl⟩)
      go_roundw
      case rel => exact ⟨j + 1, rfl, rfl, by omega, trivial⟩
      case measure => simp [intOf]; omega
    · have t1 : decide ((j : Int) < 32) = false := by simp; omega
      obtain rfl : j = 32 := by omega
      have h1 : bits .xor .u32 (backsN 32 m : Nat) (n : Int) = ((backsN 32 m ^^^ n : Nat) : Int) := xor_u32 _ n hl hn
      have h2 : bits .xor .u32 ((backsN 32 m ^^^ n : Nat) : Int) 4294967295 = ((backsN 32 m ^^^ n ^^^ onesN : Nat) : Int) := xor_u32 _ onesN (Nat.xor_lt_two_pow (n := 32) hl hn) (by decide)
      go_wp2
      go_ret
      exact ⟨rfl, rfl⟩
theorem bytesL_nat (x : Nat) : (bytesL x).map Int.toNat = wbytes x := by
  simp only [bytesL, wbytes, List.map_cons, List.map_nil]
  rw [show ((x : Int) % 256).toNat = x % 256 by omega, show ((x : Int) / 256 % 256).toNat = x / 256 % 256 by omega, show ((x : Int) / 65536 % 256).toNat = x / 65536 % 256 by omega, show ((x : Int) / 16777216).toNat = x / 16777216 by omega]
theorem bytesL_byte (x : Nat) (h : x < 4294967296) : ∀ z ∈ bytesL x, 0 ≤ z ∧ z ≤ 255 := by
  intro z hz
  simp only [bytesL, List.mem_cons, List.not_mem_nil, or_false] at hz
  omega
theorem sumL_word (zs : List Int) (x : Nat) : sumL (zs ++ bytesL x) = sumN (zs.map Int.toNat ++ wbytes x) := by
  unfold sumL; rw [List.map_append, bytesL_nat]
set_option maxRecDepth 100000 in
set_option maxHeartbeats 4000000 in
theorem crcFits_any (w : World) (a1 : Option Addr) (l1 c1 : Nat) (z1 : List Int) (h1 : Row8 w.heap.size w (.slice a1 l1 c1) z1) (want other : Nat) (hw : want < 4294967296) (ho : other < 4294967296) :
    Calls Try.prog 5 #[.slice a1 l1 c1, .int .u32 want, .int .u32 other] w fun e w' => e = .returned (.bool true) ∧ Below w.heap.size w w' := by
  obtain ⟨i0, hi, hz0, hz1, hz2⟩ := info_parts info_u8
  have e1 := h1.1.open.1
  go_enter Try.func5, Try.ntmps5
  go_wp2_with (go_at_call 9; refine held ?_)
  unfold Held
  refine (alive_any w).mono ?_
  rintro e w1 ⟨rfl, b1⟩
  by_cases g1 : l1 ≤ 1000
  rotate_left
  · have t1 : decide ((1000 : Int) < (l1 : Int)) = true := by simp; omega
    go_wp2
    go_ret
    exact ⟨rfl, b1⟩
  have t1 : decide ((1000 : Int) < (l1 : Int)) = false := by simp; omega
  have x1 := sumL_lt z1 h1.2
  have xw := fitN_lt (sumL z1) want x1 hw
  have hfit := fit_sum (z1.map Int.toNat) want
  have hback := fit_back (z1.map Int.toNat) other x1 ho
  have hiff := fit_iff (z1.map Int.toNat) want other x1 ho
  rw [← sumL_word] at hfit hback hiff
  have x2 := sumL_lt (z1 ++ bytesL other) (all_app h1.2 (bytesL_byte other ho))
  have k1 := fun (W : World) (h : Row8 W.heap.size W (.slice a1 l1 c1) z1) => sum_any a1 l1 c1 z1 W h (by omega)
  have kF := fun W => fit_any (sumL z1) want W x1 hw
  have kG := fun W => fit_any (sumL z1) (sumL (z1 ++ bytesL other)) W x1 x2
  rw [show fitN (sumL z1) (sumL (z1 ++ bytesL other)) = other from hback] at kG
  have hq : (((sumL (z1 ++ bytesL other) : Nat) : Int) == (want : Int)) = ((other : Int) == ((fitN (sumL z1) want : Nat) : Int)) := by
    rw [Bool.eq_iff_iff]
    simp only [beq_iff_eq]
    have : sumL (z1 ++ bytesL other) = want ↔ other = fitN (sumL z1) want := hiff
    omega
  obtain ⟨X, hX⟩ : ∃ X, X = sumL z1 := ⟨_, rfl⟩
  obtain ⟨V, hV⟩ : ∃ V, V = fitN (sumL z1) want := ⟨_, rfl⟩
  have hfit' : sumL (z1 ++ bytesL V) = want := by rw [hV]; exact hfit
  have kS := fun (W : World) (a : Option Addr) (c : Nat) (h : Row8 W.heap.size W (.slice a (l1 + 4) c) (z1 ++ bytesL V)) => sum_any a (l1 + 4) c (z1 ++ bytesL V) W h (by simp [bytesL]; omega)
  have kT := fun (W : World) (a : Option Addr) (c : Nat) (h : Row8 W.heap.size W (.slice a (l1 + 4) c) (z1 ++ bytesL other)) => sum_any a (l1 + 4) c (z1 ++ bytesL other) W h (by simp [bytesL]; omega)
  rw [hfit'] at kS
  rw [← hV] at xw kF hq
  rw [← hX] at k1 kF kG
  obtain ⟨M, hM⟩ : ∃ M, M = sumL (z1 ++ bytesL other) := ⟨_, rfl⟩
  rw [← hM] at kT kG hq
  have hzV := bytesL_byte V xw
  have hzo := bytesL_byte other ho
  have hz1' := h1.2
  clear hX hV hM hfit hfit' hback hiff x1 x2
  go_wp2_with (go_at_call 11; refine held ?_)
  unfold Held
  refine (k1 _ ((h1.below b1).mono b1.size)).mono ?_
  rintro e w2 ⟨rfl, b2⟩
  replace b2 := below_step b1 b2
  clear b1
  go_wp2_with (go_at_call 14; refine held ?_)
  unfold Held
  refine (kF _).mono ?_
  rintro e w3 ⟨rfl, rfl⟩
  clear kF
  go_wp2_with (at_builtin; refine held ?_)
  unfold Held
  have hl0 := World.ownsRow_lit (base := w2.heap.size) (e := 5) (size := 1) w2 #[] 0 (Nat.le_refl _) (by decide) rfl
  obtain ⟨W2, hW2⟩ : ∃ W2, W2 = w2.alloc (.cells #[] 5) := ⟨_, rfl⟩
  have bb : Below w2.heap.size w2 W2 := by rw [hW2]; exact (Below.refl _ w2).alloc (Nat.le_refl _) _
  rw [← hW2] at hl0 ⊢
  have b9 := below_step b2 bb
  have s2 := b2.size
  refine wpList_append_row rfl _ _ 28 rfl w2.heap.size 5 i0 Try.underlying28 hi hz0 hz1 hz2 (.slice (some ⟨w2.heap.size, 0, none⟩) 0 0) 0 [] rfl hl0 a1 l1 c1 w.heap.size z1 rfl (h1.1.below b9) (by omega) bb.size ?_
  intro v1 u1 o1 hg1 hv1
  have b10 : Below w.heap.size w u1 := b9.grown hg1 b9.size (fun b h => by simp [Value.ownBlock] at h; omega)
  rw [Nat.zero_add, List.nil_append] at o1
  have s10 : w2.heap.size ≤ u1.heap.size := Nat.le_trans bb.size hg1.size
  clear hl0 hW2 bb b9 hg1 hv1 b2
  go_wp2_with (go_at_call 15; refine held ?_)
  unfold Held
  refine (bytes_any V u1 xw).mono ?_
  rintro e u2 ⟨rfl, hu2⟩
  have bq : Below u1.heap.size u1 u2 := by rw [hu2]; exact ((Below.refl _ u1).alloc (Nat.le_refl _) _).alloc (by simp) _
  have hrB : Row8 u2.heap.size u2 (.slice (some ⟨u1.heap.size + 1, 0, none⟩) 4 4) (bytesL V) := by
    have := Row8.built (u1.alloc (bytesO V)) 52 (0, 0) (bytesL V) hzV (by simp [bytesL, maxLen]) _ rfl 4 rfl
    rw [hu2, show u1.heap.size + 1 = (u1.alloc (bytesO V)).heap.size from (World.size_alloc ..).symm]; exact this
  have o1' := ownsRow_same o1 fun b hb => bq.block b (o1.lt b hb).2
  have b11 := below_step b10 bq
  have s11 : w2.heap.size ≤ u2.heap.size := Nat.le_trans s10 bq.size
  clear hu2 bq o1 b10 s10
  go_wp2_with (at_builtin; refine held ?_)
  unfold Held
  refine wpList_append_row rfl _ _ 28 rfl w2.heap.size 5 i0 Try.underlying28 hi hz0 hz1 hz2 v1 l1 z1 rfl o1' _ 4 4 u2.heap.size (bytesL V) rfl hrB.1 (by omega) s11 ?_
  intro v2 u3 o2 hg2 hv2
  have b12 : Below w.heap.size w u3 := b11.grown hg2 b11.size (fun b h => by have := (o1'.lt b h).1; omega)
  clear hg2 hv2 o1' b11 hrB s11
  obtain ⟨va, vc, rfl, _⟩ := ownsRow_slice o2
  have kS' := kS u3 va vc ⟨(RowI.of_own o2).2, all_app hz1' hzV⟩
  clear kS o2
  go_wp2_with (go_at_call 11; refine held ?_)
  unfold Held
  refine kS'.mono ?_
  rintro e w4 ⟨rfl, b13⟩
  replace b13 := below_step b12 b13
  clear b12 kS' s2
  go_wp2_with (at_builtin; refine held ?_)
  unfold Held
  have hl0 := World.ownsRow_lit (base := w4.heap.size) (e := 5) (size := 1) w4 #[] 0 (Nat.le_refl _) (by decide) rfl
  obtain ⟨W2, hW2⟩ : ∃ W2, W2 = w4.alloc (.cells #[] 5) := ⟨_, rfl⟩
  have bb : Below w4.heap.size w4 W2 := by rw [hW2]; exact (Below.refl _ w4).alloc (Nat.le_refl _) _
  rw [← hW2] at hl0 ⊢
  have b9 := below_step b13 bb
  have s2 := b13.size
  refine wpList_append_row rfl _ _ 28 rfl w4.heap.size 5 i0 Try.underlying28 hi hz0 hz1 hz2 (.slice (some ⟨w4.heap.size, 0, none⟩) 0 0) 0 [] rfl hl0 a1 l1 c1 w.heap.size z1 rfl (h1.1.below b9) (by omega) bb.size ?_
  intro v1 u1 o1 hg1 hv1
  have b10 : Below w.heap.size w u1 := b9.grown hg1 b9.size (fun b h => by simp [Value.ownBlock] at h; omega)
  rw [Nat.zero_add, List.nil_append] at o1
  have s10 : w4.heap.size ≤ u1.heap.size := Nat.le_trans bb.size hg1.size
  clear hl0 hW2 bb b9 hg1 hv1 b13
  go_wp2_with (go_at_call 15; refine held ?_)
  unfold Held
  refine (bytes_any other u1 ho).mono ?_
  rintro e u2 ⟨rfl, hu2⟩
  have bq : Below u1.heap.size u1 u2 := by rw [hu2]; exact ((Below.refl _ u1).alloc (Nat.le_refl _) _).alloc (by simp) _
  have hrB : Row8 u2.heap.size u2 (.slice (some ⟨u1.heap.size + 1, 0, none⟩) 4 4) (bytesL other) := by
    have := Row8.built (u1.alloc (bytesO other)) 52 (0, 0) (bytesL other) hzo (by simp [bytesL, maxLen]) _ rfl 4 rfl
    rw [hu2, show u1.heap.size + 1 = (u1.alloc (bytesO other)).heap.size from (World.size_alloc ..).symm]; exact this
  have o1' := ownsRow_same o1 fun b hb => bq.block b (o1.lt b hb).2
  have b11 := below_step b10 bq
  have s11 : w4.heap.size ≤ u2.heap.size := Nat.le_trans s10 bq.size
  clear hu2 bq o1 b10 s10
  go_wp2_with (at_builtin; refine held ?_)
  unfold Held
  refine wpList_append_row rfl _ _ 28 rfl w4.heap.size 5 i0 Try.underlying28 hi hz0 hz1 hz2 v1 l1 z1 rfl o1' _ 4 4 u2.heap.size (bytesL other) rfl hrB.1 (by omega) s11 ?_
  intro v2 u3 o2 hg2 hv2
  have b12 : Below w.heap.size w u3 := b11.grown hg2 b11.size (fun b h => by have := (o1'.lt b h).1; omega)
  clear hg2 hv2 o1' b11 hrB s11
  obtain ⟨va, vc, rfl, _⟩ := ownsRow_slice o2
  have kT' := kT u3 va vc ⟨(RowI.of_own o2).2, all_app hz1' hzo⟩
  clear kT o2
  go_wp2_with (go_at_call 11; refine held ?_)
  unfold Held
  refine kT'.mono ?_
  rintro e w5 ⟨rfl, b14⟩
  replace b14 := below_step b12 b14
  clear b12 kT' s2
  obtain ⟨Q, hQ⟩ : ∃ Q, Q = ((other : Int) == (V : Int)) := ⟨_, rfl⟩
  rw [← hQ] at hq
  replace hQ := hQ.symm
  go_wp2_with (go_at_call 11; refine held ?_)
  unfold Held
  refine (k1 _ ((h1.below b14).mono b14.size)).mono ?_
  rintro e w6 ⟨rfl, b15⟩
  replace b15 := below_step b14 b15
  clear b14 k1
  go_wp2_with (go_at_call 14; refine held ?_)
  unfold Held
  refine (kG _).mono ?_
  rintro e w7 ⟨rfl, rfl⟩
  clear kG
  go_wp2
  go_ret
  exact ⟨by simp, b15⟩
theorem crcFits_int (w : World) (a1 : Option Addr) (l1 c1 : Nat) (z1 : List Int) (h1 : Row8 w.heap.size w (.slice a1 l1 c1) z1) (want other : Int) (hw : 0 ≤ want ∧ want ≤ 4294967295) (ho : 0 ≤ other ∧ other ≤ 4294967295) :
    Calls Try.prog 5 #[.slice a1 l1 c1, .int .u32 want, .int .u32 other] w fun e w' => e = .returned (.bool true) ∧ Below w.heap.size w w' := by
  have e1 : want = (want.toNat : Int) := by omega
  have e2 : other = (other.toNat : Int) := by omega
  rw [e1, e2]
  exact crcFits_any w a1 l1 c1 z1 h1 _ _ (by omega) (by omega)
end Go.Proofs.Ytcclakklaimiiaa
