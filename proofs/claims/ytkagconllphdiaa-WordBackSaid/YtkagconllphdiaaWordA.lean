/- The functions of package word that only reckon: mask, Field, Put, Sign, and the document's: may, power, Field, Put, Sign. -/
import Derived.Test.YtkagconllphdiaaRows
import Derived.WalkKit
import Derived.ProofKit
import Derived.OpenShut
import Derived.ShutString
import Derived.Outline
import Derived.Deep.QuietTactic
import Derived.BigQuiet
import Derived.Lib.Hide
import Derived.Test.YtkagconllphdiaaWordMath
namespace Go.Proofs.Ytkagconllphdiaa
open Go.ChangeShapes Go.WideShapes Go.ChangeAt Go.RowKit
theorem ret_tuple2 {a b a' b' : Value} (h : a = a') (h2 : b = b') : Ending.returned (.tuple #[a, b]) = .returned (.tuple #[a', b']) := by rw [h, h2]
theorem ret_int {k : IntKind} {a b : Int} (h : a = b) : Ending.returned (.int k a) = .returned (.int k b) := by rw [h]
theorem ret_bool {a b : Bool} (h : a = b) : Ending.returned (.bool a) = .returned (.bool b) := by rw [h]
theorem val_int {k : IntKind} {a b : Int} (h : a = b) : Value.int k a = .int k b := by rw [h]
set_option maxHeartbeats 400000 in
theorem mask_yes (f n : Nat) (w : World) (h2 : 1 ≤ n) (h3 : f + n ≤ 32) :
    Calls Try.prog 33 #[.int .i64 f, .int .i64 n] w fun e w' => e = .returned (.int .u32 (maskv f n)) ∧ w = w' := by
  go_enter Try.func33, Try.ntmps33
  go_wp2
  go_ret
  exact ⟨rfl, rfl⟩
/-- No field. -/
def NoField (f n : Int) : Prop := f < 0 ∨ n < 1 ∨ 32 ≤ f ∨ 32 - f < n
theorem NoField.cases {f n : Int} (h : NoField f n) : f < 0 ∨ (¬ f < 0 ∧ n < 1) ∨ (¬ f < 0 ∧ ¬ n < 1 ∧ 32 ≤ f) ∨ (¬ f < 0 ∧ ¬ n < 1 ∧ ¬ 32 ≤ f ∧ 32 - f < n) := by
  unfold NoField at h; omega
theorem NoField.not {f n : Int} (h : ¬ NoField f n) : ∃ a b : Nat, f = a ∧ n = b ∧ 1 ≤ b ∧ a + b ≤ 32 := by
  unfold NoField at h; exact ⟨f.toNat, n.toNat, by omega, by omega, by omega, by omega⟩
set_option maxHeartbeats 1000000 in
theorem mask_no (f n : Int) (w : World) (h0 : NoField f n) :
    Calls Try.prog 33 #[.int .i64 f, .int .i64 n] w fun e w' => e = .returned (.int .u32 0) ∧ w = w' := by
  rcases h0.cases with h0 | ⟨h1, h0⟩ | ⟨h1, h2, h0⟩ | ⟨h1, h2, h3, h0⟩ <;>
  · go_enter Try.func33, Try.ntmps33
    go_wp2
    go_ret
    exact ⟨rfl, rfl⟩
set_option maxHeartbeats 400000 in
theorem field_yes (x f n : Nat) (w : World) (hx2 : x < 4294967296) (h2 : 1 ≤ n) (h3 : f + n ≤ 32) :
    Calls Try.prog 16 #[.int .u32 x, .int .i64 f, .int .i64 n] w fun e w' => e = .returned (.tuple #[.int .u32 (fieldN x f n), .int .i64 0]) ∧ w = w' := by
  have hm := maskv_pos f n h2 h3
  go_enter Try.func16, Try.ntmps16
  go_wp2_with (go_at_call 33; refine (mask_yes _ _ _ (by omega) (by omega)).mono ?_; rintro e w' ⟨rfl, rfl⟩)
  go_ret2
  exact ⟨ret_tuple2 (val_int (field_val x f n hx2 h3)) rfl, rfl⟩
set_option maxHeartbeats 400000 in
theorem field_no (x f n : Int) (w : World) (h : NoField f n) :
    Calls Try.prog 16 #[.int .u32 x, .int .i64 f, .int .i64 n] w fun e w' => e = .returned (.tuple #[.int .u32 0, .int .i64 2]) ∧ w = w' := by
  go_enter Try.func16, Try.ntmps16
  go_wp2_with (go_at_call 33; refine (mask_no _ _ _ h).mono ?_; rintro e w' ⟨rfl, rfl⟩)
  go_ret2
  exact ⟨rfl, rfl⟩
set_option maxHeartbeats 400000 in
theorem put_no (x f n v : Int) (w : World) (h : NoField f n) :
    Calls Try.prog 18 #[.int .u32 x, .int .i64 f, .int .i64 n, .int .u32 v] w fun e w' => e = .returned (.tuple #[.int .u32 0, .int .i64 2]) ∧ w = w' := by
  go_enter Try.func18, Try.ntmps18
  go_wp2_with (go_at_call 33; refine (mask_no _ _ _ h).mono ?_; rintro e w' ⟨rfl, rfl⟩)
  go_ret2
  exact ⟨rfl, rfl⟩
set_option maxHeartbeats 400000 in
theorem put_big (x f n v : Nat) (w : World) (h2 : 1 ≤ n) (h3 : f + n ≤ 32) (hv : 2 ^ n ≤ v) :
    Calls Try.prog 18 #[.int .u32 x, .int .i64 f, .int .i64 n, .int .u32 v] w fun e w' => e = .returned (.tuple #[.int .u32 0, .int .i64 10]) ∧ w = w' := by
  have hm := maskv_pos f n h2 h3
  have hd : maskv f n / 2 ^ f < (v : Int) := by rw [maskv_div f n h3]; have : ((2 ^ n : Nat) : Int) ≤ v := by exact_mod_cast hv
                                                simp at this; omega
  go_enter Try.func18, Try.ntmps18
  go_wp2_with (go_at_call 33; refine (mask_yes _ _ _ (by omega) (by omega)).mono ?_; rintro e w' ⟨rfl, rfl⟩)
  go_ret2
  exact ⟨rfl, rfl⟩
set_option maxHeartbeats 400000 in
theorem put_yes (x f n v : Nat) (w : World) (hx : x < 4294967296) (h2 : 1 ≤ n) (h3 : f + n ≤ 32) (hv : v < 2 ^ n) :
    Calls Try.prog 18 #[.int .u32 x, .int .i64 f, .int .i64 n, .int .u32 v] w fun e w' => e = .returned (.tuple #[.int .u32 (putN x f n v), .int .i64 0]) ∧ w = w' := by
  have hm := maskv_pos f n h2 h3
  have hd : ¬ maskv f n / 2 ^ f < (v : Int) := by rw [maskv_div f n h3]; have : (v : Int) < ((2 ^ n : Nat) : Int) := by exact_mod_cast hv
                                                  simp at this; omega
  go_enter Try.func18, Try.ntmps18
  go_wp2_with (go_at_call 33; refine (mask_yes _ _ _ (by omega) (by omega)).mono ?_; rintro e w' ⟨rfl, rfl⟩)
  go_ret2
  exact ⟨ret_tuple2 (val_int (put_val x f n v hx h3 hv)) rfl, rfl⟩
set_option maxHeartbeats 400000 in
theorem sign_yes (x n : Nat) (w : World) (h2 : 1 ≤ n) (h3 : n ≤ 32) :
    Calls Try.prog 20 #[.int .u32 x, .int .i64 n] w fun e w' => e = .returned (.tuple #[.int .i32 (signN x n), .int .i64 0]) ∧ w = w' := by
  have hm := maskv_pos 0 n h2 (by omega)
  go_enter Try.func20, Try.ntmps20
  go_wp2_with (go_at_call 33; refine (mask_yes 0 _ _ (by omega) (by omega)).mono ?_; rintro e w' ⟨rfl, rfl⟩)
  go_ret2
  exact ⟨ret_tuple2 (val_int (sign_val x n h2 h3)) rfl, rfl⟩
set_option maxHeartbeats 400000 in
theorem sign_no (x n : Int) (w : World) (h : NoField 0 n) :
    Calls Try.prog 20 #[.int .u32 x, .int .i64 n] w fun e w' => e = .returned (.tuple #[.int .i32 0, .int .i64 2]) ∧ w = w' := by
  go_enter Try.func20, Try.ntmps20
  go_wp2_with (go_at_call 33; refine (mask_no _ _ _ h).mono ?_; rintro e w' ⟨rfl, rfl⟩)
  go_ret2
  exact ⟨rfl, rfl⟩
end Go.Proofs.Ytkagconllphdiaa
