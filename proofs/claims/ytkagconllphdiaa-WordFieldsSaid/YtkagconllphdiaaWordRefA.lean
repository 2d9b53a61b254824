/- The document's functions on words that only reckon: may, power, Field, Put, Sign. -/
import Derived.Test.YtkagconllphdiaaWordA
namespace Go.Proofs.Ytkagconllphdiaa
open Go.ChangeShapes Go.WideShapes Go.ChangeAt Go.RowKit
theorem NoField.cases2 {f n : Int} (h : NoField f n) : f < 0 ∨ (¬ f < 0 ∧ 31 < f) ∨ (¬ f < 0 ∧ f ≤ 31 ∧ n < 1) ∨ (¬ f < 0 ∧ f ≤ 31 ∧ ¬ n < 1 ∧ 32 < n) ∨ (¬ f < 0 ∧ f ≤ 31 ∧ ¬ n < 1 ∧ n ≤ 32 ∧ 32 < f + n) := by
  unfold NoField at h; omega
set_option maxHeartbeats 1000000 in
theorem rmay_no (f n : Int) (w : World) (h0 : NoField f n) :
    Calls Try.prog 34 #[.int .i64 f, .int .i64 n] w fun e w' => e = .returned (.bool false) ∧ w = w' := by
  rcases h0.cases2 with h0 | ⟨h1, h0⟩ | ⟨h1, h2, h0⟩ | ⟨h1, h2, h3, h0⟩ | ⟨h1, h2, h3, h4, h0⟩ <;>
  · go_enter Try.func34, Try.ntmps34
    go_wp2
    go_ret
    exact ⟨ret_bool (by first | rfl | (simp; omega)), rfl⟩
set_option maxHeartbeats 400000 in
theorem rmay_yes (f n : Nat) (w : World) (h2 : 1 ≤ n) (h3 : f + n ≤ 32) :
    Calls Try.prog 34 #[.int .i64 f, .int .i64 n] w fun e w' => e = .returned (.bool true) ∧ w = w' := by
  go_enter Try.func34, Try.ntmps34
  go_wp2
  go_ret
  exact ⟨ret_bool (by simp; omega), rfl⟩
/-- 2 to some power, not to be opened by the walk -/
def pow2 (n : Nat) : Nat := 2 ^ n
theorem pow2_le (k : Nat) (h : k ≤ 32) : pow2 k ≤ 4294967296 := two_le k h
theorem pow2_pos (k : Nat) : 1 ≤ pow2 k := Nat.one_le_two_pow
theorem pow2_succ (k : Nat) : pow2 (k + 1) = 2 * pow2 k := by unfold pow2; rw [Nat.pow_succ, Nat.mul_comm]
set_option maxHeartbeats 400000 in
theorem rpower_any (n : Nat) (w : World) (h2 : n ≤ 32) :
    Calls Try.prog 35 #[.int .i64 n] w fun e w' => e = .returned (.int .u64 (pow2 n)) ∧ w = w' := by
  go_enter Try.func35, Try.ntmps35
  go_wp2
  go_loop [3, 4] (fun o i => ∃ k : Nat, k ≤ n ∧ i = .int .i64 k ∧ o = .int .u64 (pow2 k)) (fun _ i => n - (intOf i).toNat)
  case atStart => exact ⟨0, by omega, rfl, rfl⟩
  case round =>
    obtain ⟨k, hk, rfl, rfl⟩ := hrel
    have hb := pow2_le k (by omega)
    by_cases hlt : k < n
    · go_wp2
      go_round
      case rel => exact ⟨k + 1, by omega, by go_num, by rw [pow2_succ]; go_num⟩
      case measure => simp [intOf]; omega
    · go_wp2
      go_ret
      exact ⟨ret_int (by rw [show k = n by omega]), rfl⟩
theorem rpower_int (n : Int) (w : World) (h0 : 0 ≤ n) (h2 : n ≤ 32) :
    Calls Try.prog 35 #[.int .i64 n] w fun e w' => e = .returned (.int .u64 (pow2 n.toNat)) ∧ w = w' := by
  obtain ⟨k, rfl⟩ := Int.eq_ofNat_of_zero_le h0
  exact rpower_any k w (by omega)
theorem rpower_quiet (n : Nat) (w : World) (h2 : n ≤ 32) :
    Calls Try.prog 35 #[.int .i64 n] w fun e w' => e = .returned (.int .u64 (pow2 n)) ∧ w' = w :=
  (rpower_any n w h2).mono fun _ _ h => ⟨h.1, h.2.symm⟩
theorem fieldN_pow2 (x f n : Nat) : fieldN x f n = x / pow2 f % pow2 n := rfl
theorem fieldN_le (x f n : Nat) : fieldN x f n ≤ x := Nat.le_trans (Nat.mod_le _ _) (Nat.div_le_self _ _)
theorem fieldN_lt (x f n : Nat) (hx : x < 4294967296) : fieldN x f n < 4294967296 := Nat.lt_of_le_of_lt (fieldN_le x f n) hx
theorem u64_in (n : Int) (h0 : 0 ≤ n) (h1 : n < 18446744073709551616) : IntKind.u64.wrap n = n := by
  rw [IntKind.wrap_u64]; omega
theorem rfield_val (x f n : Nat) (hx : x < 4294967296) : (IntKind.u64.wrap ((x : Int) / (pow2 f : Int))).tmod (pow2 n) % 4294967296 = (fieldN x f n : Int) := by
  have h1 := fieldN_lt x f n hx
  have h2 : x / pow2 f ≤ x := Nat.div_le_self _ _
  rw [← Int.natCast_ediv, u64_in _ (by generalize x / pow2 f = q at *; omega) (by generalize x / pow2 f = q at *; omega), Int.tmod_eq_emod_of_nonneg (Int.natCast_nonneg _), ← Int.natCast_emod, ← fieldN_pow2]
  omega
set_option maxHeartbeats 400000 in
theorem rfield_yes (x f n : Nat) (w : World) (hx : x < 4294967296) (h2 : 1 ≤ n) (h3 : f + n ≤ 32) :
    Calls Try.prog 17 #[.int .u32 x, .int .i64 f, .int .i64 n] w fun e w' => e = .returned (.tuple #[.int .u32 (fieldN x f n), .int .i64 0]) ∧ ∃ k, w' = w.drewN k := by
  have hb := pow2_le f (by omega)
  have hb' := pow2_pos f
  have hc := pow2_le n (by omega)
  have hc' := pow2_pos n
  go_enter Try.func17, Try.ntmps17
  go_wp2_with (go_at_call 34; refine (rmay_yes _ _ _ (by omega) (by omega)).mono ?_; rintro e w' ⟨rfl, rfl⟩)
  go_quiet ((go_at_call 35; exact Calls.quiet_of_same (rpower_quiet _ _ (by omega))))
  go_wp2
  go_ret2
  exact ⟨ret_tuple2 (val_int (rfield_val x f n hx)) rfl, _, rfl⟩
set_option maxHeartbeats 400000 in
theorem rfield_no (x f n : Int) (w : World) (h : NoField f n) :
    Calls Try.prog 17 #[.int .u32 x, .int .i64 f, .int .i64 n] w fun e w' => e = .returned (.tuple #[.int .u32 0, .int .i64 2]) ∧ w = w' := by
  go_enter Try.func17, Try.ntmps17
  go_wp2_with (go_at_call 34; refine (rmay_no _ _ _ h).mono ?_; rintro e w' ⟨rfl, rfl⟩)
  go_ret2
  exact ⟨rfl, rfl⟩
set_option maxHeartbeats 400000 in
theorem rput_no (x f n v : Int) (w : World) (h : NoField f n) :
    Calls Try.prog 19 #[.int .u32 x, .int .i64 f, .int .i64 n, .int .u32 v] w fun e w' => e = .returned (.tuple #[.int .u32 0, .int .i64 2]) ∧ w = w' := by
  go_enter Try.func19, Try.ntmps19
  go_wp2_with (go_at_call 34; refine (rmay_no _ _ _ h).mono ?_; rintro e w' ⟨rfl, rfl⟩)
  go_ret2
  exact ⟨rfl, rfl⟩
set_option maxHeartbeats 400000 in
theorem rput_big (x f n v : Nat) (w : World) (h2 : 1 ≤ n) (h3 : f + n ≤ 32) (hv : pow2 n ≤ v) (hv2 : v < 4294967296) :
    Calls Try.prog 19 #[.int .u32 x, .int .i64 f, .int .i64 n, .int .u32 v] w fun e w' => e = .returned (.tuple #[.int .u32 0, .int .i64 10]) ∧ w = w' := by
  have hd : (pow2 n : Int) ≤ (v : Int) := by omega
  go_enter Try.func19, Try.ntmps19
  go_wp2_with (first
    | (go_at_call 34; refine (rmay_yes _ _ _ (by omega) (by omega)).mono ?_; rintro e w' ⟨rfl, rfl⟩)
    | (go_at_call 35; refine (rpower_any _ _ (by omega)).mono ?_; rintro e w' ⟨rfl, rfl⟩))
  go_ret2
  exact ⟨rfl, rfl⟩
theorem put_split (x f n : Nat) : x = pow2 f * (pow2 n * (x / pow2 (f + n)) + fieldN x f n) + x % pow2 f := by
  unfold pow2 fieldN
  have h1 := Nat.div_add_mod (x / 2 ^ f) (2 ^ n)
  have h2 := Nat.div_add_mod x (2 ^ f)
  rw [Nat.div_div_eq_div_mul, ← Nat.pow_add] at h1
  rw [h1, h2]
theorem rput_val (x f n v : Nat) (hx : x < 4294967296) (h3 : f + n ≤ 32) (hv : v < pow2 n) :
    IntKind.u64.wrap (IntKind.u64.wrap ((x : Int) - IntKind.u64.wrap ((fieldN x f n : Int) * (pow2 f : Int))) + IntKind.u64.wrap ((v : Int) * (pow2 f : Int))) % 4294967296 = (putN x f n v : Int) := by
  have hs := put_split x f n
  have hp := putN_lt x f n v hx h3 hv
  have hp2 : putN x f n v = pow2 f * (pow2 n * (x / pow2 (f + n)) + v) + x % pow2 f := rfl
  have hv2 := shl_val f n v h3 hv
  rw [Nat.mul_add] at hs hp2
  have h1 : v * pow2 f < 4294967296 := hv2
  have e1 : (fieldN x f n : Int) * (pow2 f : Int) = ((pow2 f * fieldN x f n : Nat) : Int) := by rw [Nat.mul_comm]; simp
  have e2 : (v : Int) * (pow2 f : Int) = ((pow2 f * v : Nat) : Int) := by rw [Nat.mul_comm]; simp
  rw [e1, e2]
  generalize pow2 f * fieldN x f n = A at *
  rw [Nat.mul_comm] at h1
  generalize pow2 f * v = B at *
  generalize putN x f n v = C at *
  generalize pow2 f * (pow2 n * (x / pow2 (f + n))) = D at *
  generalize x % pow2 f = E at *
  simp only [IntKind.wrap_u64]
  omega
set_option maxHeartbeats 400000 in
theorem rput_yes (x f n v : Nat) (w : World) (hx : x < 4294967296) (h2 : 1 ≤ n) (h3 : f + n ≤ 32) (hv : v < pow2 n) :
    Calls Try.prog 19 #[.int .u32 x, .int .i64 f, .int .i64 n, .int .u32 v] w fun e w' => e = .returned (.tuple #[.int .u32 (putN x f n v), .int .i64 0]) ∧ ∃ k, w' = w.drewN k := by
  have hb := pow2_le f (by omega)
  have hb' := pow2_pos f
  have hc := pow2_le n (by omega)
  have hfl := fieldN_lt x f n hx
  have hd : ¬ (pow2 n : Int) ≤ (v : Int) := by omega
  go_enter Try.func19, Try.ntmps19
  go_wp2_with (first
    | (go_at_call 34; refine (rmay_yes _ _ _ (by omega) (by omega)).mono ?_; rintro e w' ⟨rfl, rfl⟩)
    | (go_at_call 17; refine (rfield_yes _ _ _ _ hx (by omega) (by omega)).mono ?_; rintro e w' ⟨rfl, k, rfl⟩)
    | (go_at_call 35; refine (rpower_any _ _ (by omega)).mono ?_; rintro e w' ⟨rfl, rfl⟩))
  go_ret2
  exact ⟨ret_tuple2 (val_int (rput_val x f n v hx h3 hv)) rfl, _, rfl⟩
theorem rsign_val (x n : Nat) : signN x n = if fieldN x 0 n < pow2 (n - 1) then (fieldN x 0 n : Int) else (fieldN x 0 n : Int) - (pow2 n : Int) := by
  unfold signN fieldN pow2
  simp
theorem signN_bd (x n : Nat) (h2 : 1 ≤ n) (h3 : n ≤ 32) : -2147483648 ≤ signN x n ∧ signN x n ≤ 2147483647 := by
  have e2 : 2 ^ (n - 1) * 2 = 2 ^ n := by rw [← Nat.pow_succ, show (n - 1).succ = n by omega]
  have h4 : x % 2 ^ n < 2 ^ n := Nat.mod_lt _ (Nat.two_pow_pos n)
  have h5 := two_le n h3
  unfold signN
  split <;> omega
theorem rfield_zero (x n : Nat) (w : World) (hx : x < 4294967296) (h2 : 1 ≤ n) (h3 : n ≤ 32) :
    Calls Try.prog 17 #[.int .u32 x, .int .i64 0, .int .i64 n] w fun e w' => e = .returned (.tuple #[.int .u32 (fieldN x 0 n), .int .i64 0]) ∧ ∃ k, w' = w.drewN k :=
  rfield_yes x 0 n w hx h2 (by omega)
set_option maxHeartbeats 400000 in
theorem rsign_lo (x n : Nat) (w : World) (hx : x < 4294967296) (h2 : 1 ≤ n) (h3 : n ≤ 32) (hs : fieldN x 0 n < pow2 (n - 1)) :
    Calls Try.prog 21 #[.int .u32 x, .int .i64 n] w fun e w' => e = .returned (.tuple #[.int .i32 (signN x n), .int .i64 0]) ∧ ∃ k, w' = w.drewN k := by
  have hb := rsign_val x n
  rw [if_pos hs] at hb
  have hd := signN_bd x n h2 h3
  have HB := Lib.hid hb; clear hb
  have hfl := fieldN_lt x 0 n hx
  have hp := pow2_le (n - 1) (by omega)
  have hs' : ¬ (pow2 ((n : Int) - 1).toNat : Int) ≤ (fieldN x 0 n : Int) := by rw [show ((n : Int) - 1).toNat = n - 1 by omega]; omega
  go_enter Try.func21, Try.ntmps21
  go_wp2_with (first
    | (go_at_call 17; refine (rfield_zero _ _ _ hx (by omega) (by omega)).mono ?_; rintro e w' ⟨rfl, k, rfl⟩)
    | (go_at_call 35; refine (rpower_int _ _ (by omega) (by omega)).mono ?_; rintro e w' ⟨rfl, rfl⟩))
  go_ret2
  exact ⟨ret_tuple2 (val_int (by rw [HB.out] at hd ⊢; unfold wrap32; omega)) rfl, _, rfl⟩
set_option maxHeartbeats 400000 in
theorem rsign_hi (x n : Nat) (w : World) (hx : x < 4294967296) (h2 : 1 ≤ n) (h3 : n ≤ 32) (hs : ¬ fieldN x 0 n < pow2 (n - 1)) :
    Calls Try.prog 21 #[.int .u32 x, .int .i64 n] w fun e w' => e = .returned (.tuple #[.int .i32 (signN x n), .int .i64 0]) ∧ ∃ k, w' = w.drewN k := by
  have hb := rsign_val x n
  rw [if_neg hs] at hb
  have hd := signN_bd x n h2 h3
  have HB := Lib.hid hb; clear hb
  have hfl := fieldN_lt x 0 n hx
  have hp := pow2_le (n - 1) (by omega)
  have hp2 := pow2_le n (by omega)
  have hs' : (pow2 ((n : Int) - 1).toNat : Int) ≤ (fieldN x 0 n : Int) := by rw [show ((n : Int) - 1).toNat = n - 1 by omega]; omega
  go_enter Try.func21, Try.ntmps21
  go_wp2_with (first
    | (go_at_call 17; refine (rfield_zero _ _ _ hx (by omega) (by omega)).mono ?_; rintro e w' ⟨rfl, k, rfl⟩)
    | (go_at_call 35; refine (rpower_int _ _ (by omega) (by omega)).mono ?_; rintro e w' ⟨rfl, rfl⟩))
  go_ret2
  exact ⟨ret_tuple2 (val_int (by rw [HB.out] at hd ⊢; unfold wrap32; omega)) rfl, _, rfl⟩
theorem rsign_yes (x n : Nat) (w : World) (hx : x < 4294967296) (h2 : 1 ≤ n) (h3 : n ≤ 32) :
    Calls Try.prog 21 #[.int .u32 x, .int .i64 n] w fun e w' => e = .returned (.tuple #[.int .i32 (signN x n), .int .i64 0]) ∧ ∃ k, w' = w.drewN k := by
  by_cases h : fieldN x 0 n < pow2 (n - 1)
  · exact rsign_lo x n w hx h2 h3 h
  · exact rsign_hi x n w hx h2 h3 h
set_option maxHeartbeats 400000 in
theorem rsign_no (x n : Int) (w : World) (h : NoField 0 n) :
    Calls Try.prog 21 #[.int .u32 x, .int .i64 n] w fun e w' => e = .returned (.tuple #[.int .i32 0, .int .i64 2]) ∧ w = w' := by
  go_enter Try.func21, Try.ntmps21
  go_wp2_with (go_at_call 17; refine (rfield_no _ _ _ _ h).mono ?_; rintro e w' ⟨rfl, rfl⟩)
  go_ret2
  exact ⟨rfl, rfl⟩
end Go.Proofs.Ytkagconllphdiaa
