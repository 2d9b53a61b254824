/- The walk of the law WordPuts. -/
import Derived.Test.YtkagconllphdiaaWordJoinsW
import Derived.Test.YtkagconllphdiaaWordSignsW
import Derived.Deep.QuietTactic
import Derived.BigQuiet
import Derived.WalkSmall
namespace Go.Proofs.Ytkagconllphdiaa
open Go.ChangeShapes Go.WideShapes Go.ChangeAt Go.RowKit
/-- what a number is cut to -/
def cutN (v n : Nat) : Nat := v / 2 ^ (32 - n)
theorem cutN_lt (v n : Nat) (hv : v < 4294967296) (h : n ≤ 32) : cutN v n < 2 ^ n := by
  unfold cutN
  rw [Nat.div_lt_iff_lt_mul (Nat.two_pow_pos _), ← Nat.pow_add, show n + (32 - n) = 32 by omega]
  exact hv
theorem cut_val (v n : Nat) : (v : Int) / 2 ^ (32 - n) = (cutN v n : Int) := by
  unfold cutN; simp
theorem field_put (x f n v : Nat) (hv : v < 2 ^ n) : fieldN (putN x f n v) f n = v := by
  apply Nat.eq_of_testBit_eq
  intro i
  rw [testBit_fieldN, testBit_putN _ _ _ _ _ hv]
  by_cases h : i < n
  · rw [if_neg (by omega), if_pos (by omega), show f + i - f = i by omega]; simp [h]
  · have : v.testBit i = false := Nat.testBit_lt_two_pow (Nat.lt_of_lt_of_le hv (Nat.pow_le_pow_right (by omega) (by omega)))
    simp [h, this]
theorem up_val (v n : Nat) (h3 : n ≤ 32) : (swN v n : Int) * 2 ^ (32 - n) % 4294967296 = (v : Int) * 2 ^ (32 - n) % 4294967296 := by
  have h := sw_mod v n h3
  have e : 2 ^ n * 2 ^ (32 - n) = 4294967296 := by rw [← Nat.pow_add, show n + (32 - n) = 32 by omega]
  have e1 : ∀ a : Nat, (a : Int) * 2 ^ (32 - n) % 4294967296 = ((a % 2 ^ n * 2 ^ (32 - n) : Nat) : Int) := by
    intro a
    rw [show (a : Int) * 2 ^ (32 - n) = ((a * 2 ^ (32 - n) : Nat) : Int) by simp, show (4294967296 : Int) = ((2 ^ n * 2 ^ (32 - n) : Nat) : Int) by rw [e]; rfl, ← Int.natCast_emod]
    exact congrArg _ (Nat.mul_mod_mul_right _ _ _)
  rw [e1, e1, h]
theorem bit_at (x k : Nat) : (x : Int) / 2 ^ k % 2 = if x.testBit k then 1 else 0 := by
  rw [Nat.testBit_eq_decide_div_mod_eq]
  rw [show (x : Int) / 2 ^ k % 2 = ((x / 2 ^ k % 2 : Nat) : Int) by simp]
  have : x / 2 ^ k % 2 < 2 := Nat.mod_lt _ (by omega)
  by_cases h : x / 2 ^ k % 2 = 1
  · rw [h]; simp
  · rw [if_neg (by simpa using h), show x / 2 ^ k % 2 = 0 by omega]; rfl
theorem put_bit (x f n v k : Nat) (hv : v < 2 ^ n) (h : k < f ∨ f + n ≤ k) : (putN x f n v : Int) / 2 ^ k % 2 = (x : Int) / 2 ^ k % 2 := by
  have e : (putN x f n v).testBit k = x.testBit k := by
    rw [testBit_putN _ _ _ _ _ hv]
    by_cases h1 : k < f
    · rw [if_pos h1]
    · rw [if_neg h1, if_neg (by omega)]
  rw [bit_at, bit_at, e]
attribute [local go_sem] and1_u32
set_option maxHeartbeats 1000000 in
theorem wordPuts_nat (x v fr bs : Nat) (w : World) (hx : x < 4294967296) (hv : v < 4294967296) :
    Calls Try.prog 7 #[.int .u32 x, .int .u32 v, .int .u8 fr, .int .u8 bs] w fun e w' => e = .returned (.bool true) ∧ Below w.heap.size w w' := by
  have hb := Below.refl w.heap.size w
  obtain ⟨f, hf⟩ : ∃ f, f = fr % 32 := ⟨_, rfl⟩
  obtain ⟨m, hm⟩ : ∃ m, m = bs % 32 := ⟨_, rfl⟩
  have e0 : (fr : Int) % 32 = (f : Int) := by omega
  have e1 : (bs : Int) % 32 = (m : Int) := by omega
  have hf32 : f < 32 := by omega
  have hm32 : m < 32 := by omega
  clear hf hm
  by_cases hn : 32 - f < 1 + m
  · obtain ⟨n, HN⟩ : ∃ n, n = 32 - f := ⟨_, rfl⟩
    have hn3 : (32 : Int) - f = (n : Int) := by omega
    have hn4 : (n : Int) < 1 + (m : Int) := by omega
    obtain ⟨hn5, hn6⟩ : 1 ≤ n ∧ f + n ≤ 32 := by omega
    have c1 := cut_val v n
    have c2 := cutN_lt v n hv (by omega)
    have c3 := field_put x f n _ c2
    have c4 := up_val (cutN v n) n (by omega)
    have c5 := swN_val (cutN v n) n
    have C2 := Lib.hid c2
    clear hn c2 HN
    go_enter Try.func7, Try.ntmps7
    go_wp2_with (first
      | (go_at_call 22; refine (alive_any _).mono ?_; rintro e w1 ⟨rfl, hb1⟩; replace hb := Below.step hb hb1; clear hb1)
      | (go_at_call 18; refine (put_yes _ _ _ _ _ hx hn5 hn6 C2.out).mono ?_; rintro e w2 ⟨rfl, rfl⟩)
      | (go_at_call 16; refine (field_yes _ _ _ _ (putN_lt _ _ _ _ hx hn6 C2.out) hn5 hn6).mono ?_; rintro e w2 ⟨rfl, rfl⟩)
      | (go_at_call 20; refine (sign_yes _ _ _ hn5 (by omega)).mono ?_; rintro e w2 ⟨rfl, rfl⟩))
    go_quiet (fail)
    go_wp2_with fail
    replace hb := below_drewN hb nq
    go_loopw [18] (fun i wr => ∃ k : Nat, k ≤ 32 ∧ i = .int .i64 k ∧ Below w.heap.size w wr) (fun i _ => 32 - (intOf i).toNat)
    case atStart => exact ⟨0, by omega, rfl, hb⟩
    case round =>
      obtain ⟨k, hk, rfl, hb⟩ := hrel
      by_cases hlt : k < 32
      · by_cases h1 : k < f
        · have hd : decide ((k : Int) < f) = true := by simp; omega
          have hp := put_bit x f n _ k C2.out (.inl h1)
          go_wp2_with fail
          go_quiet (fail)
          go_wp2_with fail
          go_roundw
          case rel => exact ⟨k + 1, by omega, by go_num, below_drewN hb nq⟩
          case measure => simp [intOf]; omega
        · have hd : decide ((k : Int) < f) = false := by simp; omega
          by_cases h2 : f + n ≤ k
          · omega
          · have hd2 : decide ((f : Int) + (n : Int) ≤ (k : Int)) = false := by simp; omega
            go_wp2_with fail
            go_quiet (fail)
            go_wp2_with fail
            go_roundw
            case rel => exact ⟨k + 1, by omega, by go_num, below_drewN hb nq⟩
            case measure => simp [intOf]; omega
      · go_wp2_with fail
        go_ret
        exact ⟨rfl, hb⟩
  · obtain ⟨n, HN⟩ : ∃ n, n = 1 + m := ⟨_, rfl⟩
    have hn3 : 1 + (m : Int) = (n : Int) := by omega
    have hn4 : ¬ (32 : Int) - f < (n : Int) := by omega
    obtain ⟨hn5, hn6⟩ : 1 ≤ n ∧ f + n ≤ 32 := by omega
    have c1 := cut_val v n
    have c2 := cutN_lt v n hv (by omega)
    have c3 := field_put x f n _ c2
    have c4 := up_val (cutN v n) n (by omega)
    have c5 := swN_val (cutN v n) n
    have C2 := Lib.hid c2
    clear hn c2 HN
    go_enter Try.func7, Try.ntmps7
    go_wp2_with (first
      | (go_at_call 22; refine (alive_any _).mono ?_; rintro e w1 ⟨rfl, hb1⟩; replace hb := Below.step hb hb1; clear hb1)
      | (go_at_call 18; refine (put_yes _ _ _ _ _ hx hn5 hn6 C2.out).mono ?_; rintro e w2 ⟨rfl, rfl⟩)
      | (go_at_call 16; refine (field_yes _ _ _ _ (putN_lt _ _ _ _ hx hn6 C2.out) hn5 hn6).mono ?_; rintro e w2 ⟨rfl, rfl⟩)
      | (go_at_call 20; refine (sign_yes _ _ _ hn5 (by omega)).mono ?_; rintro e w2 ⟨rfl, rfl⟩))
    go_quiet (fail)
    go_wp2_with fail
    replace hb := below_drewN hb nq
    go_loopw [18] (fun i wr => ∃ k : Nat, k ≤ 32 ∧ i = .int .i64 k ∧ Below w.heap.size w wr) (fun i _ => 32 - (intOf i).toNat)
    case atStart => exact ⟨0, by omega, rfl, hb⟩
    case round =>
      obtain ⟨k, hk, rfl, hb⟩ := hrel
      by_cases hlt : k < 32
      · by_cases h1 : k < f
        · have hd : decide ((k : Int) < f) = true := by simp; omega
          have hp := put_bit x f n _ k C2.out (.inl h1)
          go_wp2_with fail
          go_quiet (fail)
          go_wp2_with fail
          go_roundw
          case rel => exact ⟨k + 1, by omega, by go_num, below_drewN hb nq⟩
          case measure => simp [intOf]; omega
        · have hd : decide ((k : Int) < f) = false := by simp; omega
          by_cases h2 : f + n ≤ k
          · have hd2 : decide ((f : Int) + (n : Int) ≤ (k : Int)) = true := by simp; omega
            have hp := put_bit x f n _ k C2.out (.inr h2)
            go_wp2_with fail
            go_quiet (fail)
            go_wp2_with fail
            go_roundw
            case rel => exact ⟨k + 1, by omega, by go_num, below_drewN hb nq⟩
            case measure => simp [intOf]; omega
          · have hd2 : decide ((f : Int) + (n : Int) ≤ (k : Int)) = false := by simp; omega
            go_wp2_with fail
            go_quiet (fail)
            go_wp2_with fail
            go_roundw
            case rel => exact ⟨k + 1, by omega, by go_num, below_drewN hb nq⟩
            case measure => simp [intOf]; omega
      · go_wp2_with fail
        go_ret
        exact ⟨rfl, hb⟩
theorem wordPuts_any (x v f n : Int) (w : World) (hx0 : 0 ≤ x) (hx : x ≤ 4294967295) (hv0 : 0 ≤ v) (hv : v ≤ 4294967295) (hf : 0 ≤ f) (hn : 0 ≤ n) :
    Calls Try.prog 7 #[.int .u32 x, .int .u32 v, .int .u8 f, .int .u8 n] w fun e w' => e = .returned (.bool true) ∧ Below w.heap.size w w' := by
  obtain ⟨x, rfl⟩ := Int.eq_ofNat_of_zero_le hx0
  obtain ⟨v, rfl⟩ := Int.eq_ofNat_of_zero_le hv0
  obtain ⟨f, rfl⟩ := Int.eq_ofNat_of_zero_le hf
  obtain ⟨n, rfl⟩ := Int.eq_ofNat_of_zero_le hn
  exact wordPuts_nat x v f n w (by omega) (by omega)
end Go.Proofs.Ytkagconllphdiaa
