/- The walk of the laws WordJoins, WordPuts. -/
import Derived.Test.YtkagconllphdiaaWordBytes
import Derived.Deep.LoopGhost
namespace Go.Proofs.Ytkagconllphdiaa
open Go.ChangeShapes Go.WideShapes Go.ChangeAt Go.RowKit
theorem field_int (x f n : Int) (w : World) (h0 : 0 ≤ x) (hx2 : x < 4294967296) (h1 : 0 ≤ f) (h2 : 1 ≤ n) (h3 : f + n ≤ 32) :
    Calls Try.prog 16 #[.int .u32 x, .int .i64 f, .int .i64 n] w fun e w' => e = .returned (.tuple #[.int .u32 (fieldN x.toNat f.toNat n.toNat), .int .i64 0]) ∧ w = w' := by
  obtain ⟨a, rfl⟩ := Int.eq_ofNat_of_zero_le h0
  obtain ⟨b, rfl⟩ := Int.eq_ofNat_of_zero_le h1
  obtain ⟨c, rfl⟩ := Int.eq_ofNat_of_zero_le (show 0 ≤ n by omega)
  exact field_yes a b c w (by omega) (by omega) (by omega)
theorem put_field (x v f n : Int) (w : World) (h0 : 0 ≤ x) (hx2 : x < 4294967296) (h1 : 0 ≤ f) (h2 : 1 ≤ n) (h3 : f + n ≤ 32) (hv : v < ((2 ^ n.toNat : Nat) : Int)) (hv0 : 0 ≤ v) :
    Calls Try.prog 18 #[.int .u32 x, .int .i64 f, .int .i64 n, .int .u32 v] w fun e w' => e = .returned (.tuple #[.int .u32 (putN x.toNat f.toNat n.toNat v.toNat), .int .i64 0]) ∧ w = w' := by
  obtain ⟨a, rfl⟩ := Int.eq_ofNat_of_zero_le h0
  obtain ⟨b, rfl⟩ := Int.eq_ofNat_of_zero_le h1
  obtain ⟨c, rfl⟩ := Int.eq_ofNat_of_zero_le (show 0 ≤ n by omega)
  obtain ⟨d, rfl⟩ := Int.eq_ofNat_of_zero_le hv0
  exact put_yes a b c d w (by omega) (by omega) (by omega) (by exact_mod_cast hv)
theorem put_fld (x y f N : Nat) (n : Int) (w : World) (hn : n = (N : Int)) (hy : y < 4294967296) (h2 : 1 ≤ N) (h3 : f + N ≤ 32) :
    Calls Try.prog 18 #[.int .u32 y, .int .i64 f, .int .i64 n, .int .u32 (fieldN x f N)] w fun e w' => e = .returned (.tuple #[.int .u32 (putN y f N (fieldN x f N)), .int .i64 0]) ∧ w = w' := by
  subst hn
  exact put_yes y f N _ w hy h2 h3 (Nat.mod_lt _ (Nat.two_pow_pos N))
/-- WHAT THE WALK IS TOLD OF A SLICE OF INTEGERS THAT CAME IN -/
def IsRow (k : IntKind) (w : World) (a : Option Addr) (len cap : Nat) (zs : List Int) : Prop :=
  (a = none ∧ len = 0 ∧ cap = 0 ∧ zs = []) ∨
  ∃ x, a = some x ∧ len ≤ cap ∧ cap ≤ maxLen ∧ zs.length = cap ∧ (∀ i, i < zs.length → w.cell? (x.add i) = some (.int k (zs.getD i 0))) ∧ ∀ n ∈ zs, (Lit.int k n).wf = true
theorem IsRow.open_u8 {w : World} {a : Option Addr} {len cap : Nat} {zs : List Int} (h : IsRow .u8 w a len cap zs) :
    ∃ b off, (∀ i, i < len → w.cell? ⟨b, off + i, none⟩ = some (.int .u8 (zs.getD i 0))) ∧ ∀ i, i < len → a = some ⟨b, off, none⟩ ∧ 0 ≤ zs.getD i 0 ∧ zs.getD i 0 ≤ 255 := by
  rcases h with ⟨rfl, rfl, rfl, rfl⟩ | ⟨x, rfl, hl, _, hz, hc, hw⟩
  · exact ⟨0, 0, fun i h => (by omega), fun i h => (by omega)⟩
  · by_cases h0 : len = 0
    · exact ⟨0, 0, fun i h => (by omega), fun i h => (by omega)⟩
    · obtain ⟨b, off, spot⟩ := x
      have hspot : spot = none := by
        have := World.cell?_spot (hc 0 (by omega))
        simpa [Addr.add] using this
      subst hspot
      refine ⟨b, off, fun i hi => ?_, fun i hi => ⟨rfl, ?_⟩⟩
      · have := hc i (by omega)
        rwa [show (⟨b, off, none⟩ : Addr).add i = ⟨b, off + i, none⟩ from by unfold Addr.add; split <;> simp_all] at this
      · have hm : zs.getD i 0 ∈ zs := by
          have hiz : i < zs.length := by omega
          rw [show zs.getD i 0 = zs[i] from by simp [List.getD, List.getElem?_eq_getElem hiz]]; exact List.getElem_mem _
        exact bounds_u8 (hw _ hm)
/-- after so many low bits have come over from x -/
def Over (x v y from_ : Nat) : Prop := y < 4294967296 ∧ ∀ i, i < 32 → y.testBit i = if i < from_ then x.testBit i else v.testBit i
theorem Over.start (x v : Nat) (h : v < 4294967296) : Over x v v 0 := ⟨h, fun i _ => by rw [if_neg (by omega)]⟩
theorem fieldN_lt2 (x f n : Nat) : fieldN x f n < 2 ^ n := Nat.mod_lt _ (Nat.two_pow_pos n)
theorem testBit_fieldN (x f n i : Nat) : (fieldN x f n).testBit i = (decide (i < n) && x.testBit (f + i)) := by
  unfold fieldN; rw [Nat.testBit_mod_two_pow, Nat.testBit_div_two_pow, Nat.add_comm]
theorem Over.step {x v y f n : Nat} (h : Over x v y f) (h3 : f + n ≤ 32) : Over x v (putN y f n (fieldN x f n)) (f + n) := by
  refine ⟨putN_lt _ _ _ _ h.1 h3 (fieldN_lt2 _ _ _), fun i hi => ?_⟩
  rw [testBit_putN _ _ _ _ _ (fieldN_lt2 _ _ _), testBit_fieldN]
  have := h.2 i hi
  by_cases h1 : i < f
  · rw [if_pos h1, if_pos (by omega), this, if_pos h1]
  · rw [if_neg h1]
    by_cases h2 : i < f + n
    · rw [if_pos h2, if_pos h2, show f + (i - f) = i by omega]; simp; omega
    · rw [if_neg h2, if_neg h2, this, if_neg h1]
theorem Over.all {x v y : Nat} (h : Over x v y 32) (hx : x < 4294967296) : y = x := by
  apply Nat.eq_of_testBit_eq
  intro i
  by_cases hi : i < 32
  · rw [h.2 i hi, if_pos hi]
  · rw [high_bit _ i h.1 hi, high_bit _ i hx hi]
set_option maxHeartbeats 1000000 in
theorem wordJoins_nat (x v : Nat) (a : Option Addr) (len cap : Nat) (zs : List Int) (w : World) (hx : x < 4294967296) (hv : v < 4294967296) (hr : IsRow .u8 w a len cap zs) :
    Calls Try.prog 6 #[.int .u32 x, .int .u32 v, .slice a len cap] w fun e w' => e = .returned (.bool true) ∧ Below w.heap.size w w' := by
  have hb := Below.refl w.heap.size w
  by_cases hl : 40 < len
  · have hl' : (40 : Int) < (len : Int) := by omega
    go_enter Try.func6, Try.ntmps6
    go_wp2_with (go_at_call 22; refine (alive_any _).mono ?_; rintro e w1 ⟨rfl, hb1⟩; replace hb := Below.step hb hb1; clear hb1)
    go_ret
    exact ⟨rfl, hb⟩
  · have hl' : ¬ (40 : Int) < (len : Int) := by omega
    obtain ⟨b, off, hcell, hzs⟩ : ∃ b off, (∀ i, i < len → w.cell? ⟨b, off + i, none⟩ = some (.int .u8 (zs.getD i 0))) ∧ ∀ i, i < len → a = some ⟨b, off, none⟩ ∧ 0 ≤ zs.getD i 0 ∧ zs.getD i 0 ≤ 255 := hr.open_u8
    go_enter Try.func6, Try.ntmps6
    go_wp2_with (go_at_call 22; refine (alive_any _).mono ?_; rintro e w1 ⟨rfl, hb1⟩; replace hb := Below.step hb hb1; clear hb1)
    have hcell1 : ∀ i, i < len → w1.cell? ⟨b, off + i, none⟩ = some (.int .u8 (zs.getD i 0)) := fun i hi => cell_later hb (hcell i hi)
    go_loop [1, 8, 9] (fun y f i => ∃ Y F k : Nat, y = .int .u32 Y ∧ f = .int .i64 F ∧ i = .int .i64 k ∧ k ≤ len + 1 ∧ F ≤ 32 ∧ (k = len + 1 → F = 32) ∧ Over x v Y F) (fun _ _ i => len + 1 - (intOf i).toNat)
    case atStart => exact ⟨v, 0, 0, rfl, rfl, rfl, by omega, by omega, by omega, Over.start x v hv⟩
    case round =>
      obtain ⟨Y, F, k, rfl, rfl, rfl, hk, hF, hend, hov⟩ := hrel
      by_cases h32 : F < 32
      · by_cases hlt : k < len
        · obtain ⟨rfl, hz0, hz1⟩ := hzs k hlt
          have hc := hcell1 k hlt
          obtain ⟨c, hc8⟩ : ∃ c : Nat, zs.getD k 0 = (c : Int) := ⟨(zs.getD k 0).toNat, by omega⟩
          rw [hc8] at hc hz1
          clear hc8 hz0 hcell hcell1
          go_wp2_with (first
            | (go_at_call 16; refine (field_int _ _ _ _ (by omega) (by omega) (by omega) (by omega) (by omega)).mono ?_; rintro e w2 ⟨rfl, rfl⟩)
            | (go_at_call 18; refine (put_fld _ _ _ _ _ _ (by omega) hov.1 (by omega) (by omega)).mono ?_; rintro e w2 ⟨rfl, rfl⟩))
          all_goals
            go_round
            case rel => exact ⟨_, _, k + 1, rfl, val_int (by first | rfl | omega | (split <;> omega)), by go_num, by omega, by omega, by omega, hov.step (by omega)⟩
            case measure => simp [intOf]; omega
        · by_cases hle : k ≤ len
          · clear hcell hcell1 hzs
            go_wp2_with (first
              | (go_at_call 16; refine (field_int _ _ _ _ (by omega) (by omega) (by omega) (by omega) (by omega)).mono ?_; rintro e w2 ⟨rfl, rfl⟩)
              | (go_at_call 18; refine (put_fld _ _ _ _ _ _ (by omega) hov.1 (by omega) (by omega)).mono ?_; rintro e w2 ⟨rfl, rfl⟩))
            go_round
            case rel => exact ⟨_, _, k + 1, rfl, val_int (by first | rfl | omega | (split <;> omega)), by go_num, by omega, by omega, by omega, hov.step (by omega)⟩
            case measure => simp [intOf]; omega
          · exact absurd (hend (by omega)) (by omega)
      · obtain rfl : F = 32 := by omega
        obtain rfl := hov.all hx
        clear hcell hcell1 hzs
        by_cases hle : k ≤ len
        · go_wp2_with fail
          go_ret
          exact ⟨rfl, hb⟩
        · go_wp2_with fail
          go_ret
          exact ⟨rfl, hb⟩
theorem wordJoins_any (x v : Int) (a : Option Addr) (len cap : Nat) (zs : List Int) (w : World) (hx0 : 0 ≤ x) (hx : x ≤ 4294967295) (hv0 : 0 ≤ v) (hv : v ≤ 4294967295) (hr : IsRow .u8 w a len cap zs) :
    Calls Try.prog 6 #[.int .u32 x, .int .u32 v, .slice a len cap] w fun e w' => e = .returned (.bool true) ∧ Below w.heap.size w w' := by
  obtain ⟨x, rfl⟩ := Int.eq_ofNat_of_zero_le hx0
  obtain ⟨v, rfl⟩ := Int.eq_ofNat_of_zero_le hv0
  exact wordJoins_nat x v a len cap zs w (by omega) (by omega) hr
end Go.Proofs.Ytkagconllphdiaa
