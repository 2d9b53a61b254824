/- Parse: the word of a text, as the document makes it. -/
import Derived.Test.YtkagconllphdiaaWordParse
import Derived.WalkSpells
import Derived.WalkLawsBesides
namespace Go.Proofs.Ytkagconllphdiaa
open Go.ChangeShapes Go.WideShapes Go.ChangeAt Go.RowKit
/-- which of the first j digits a byte is; 16: none -/
def findN (c : UInt8) (j : Nat) : Nat := if 0 ≤ hexV c ∧ hexU c < j then hexU c else 16
theorem findN_zero (c : UInt8) : findN c 0 = 16 := by unfold findN; rw [if_neg (by omega)]
theorem findN_succ (c : UInt8) (m : Nat) (h : hexV c = m) : findN c (m + 1) = m := by
  have : hexU c = m := by unfold hexU; omega
  unfold findN; rw [if_pos (by omega), this]
theorem findN_same (c : UInt8) (m : Nat) (h : ¬ hexV c = m) : findN c (m + 1) = findN c m := by
  have := hexV_lt c
  unfold findN hexU
  by_cases h1 : 0 ≤ hexV c ∧ (hexV c).toNat < m
  · rw [if_pos h1, if_pos (by omega)]
  · rw [if_neg h1, if_neg (by omega)]
theorem findN_all (c : UInt8) (h : 0 ≤ hexV c) : findN c 16 = hexU c := by
  have := hexU_lt c
  unfold findN; rw [if_pos (by omega)]
theorem findN_none (c : UInt8) (h : hexV c < 0) : findN c 16 = 16 := by
  unfold findN; rw [if_neg (by omega)]
theorem findN_le (c : UInt8) (m : Nat) : findN c m ≤ 16 := by
  have := hexU_lt c
  unfold findN; split <;> omega
theorem hex_digit : ∀ (m : Fin 16) (c : Fin 256), (hexN m.val == c.val) = decide (hexV (UInt8.ofNat c.val) = m.val) := by decide +kernel
theorem eq_digit (s : ByteArray) (k m : Nat) (hk : k < s.size) (hm : m < 16) : ((strOfNums [(hexN m : Int)]).toList == (s.extract k (k + 1)).toList) = decide (hexV s.data[k] = m) := by
  rw [ByteArray.toList_eq, ByteArray.toList_eq, strOfNums_data]
  have h1 : (s.extract k (k + 1)).data.toList = [s.data[k]] := by
    rw [ByteArray.data_extract]
    apply List.ext_getElem
    · have hk' : k < s.data.size := hk
      simp
      omega
    · intro i h1 h2
      simp at h2
      subst h2
      simp
  rw [h1]
  have h2 := hex_digit ⟨m, hm⟩ ⟨s.data[k].toNat, s.data[k].toNat_lt⟩
  rw [show UInt8.ofNat (⟨s.data[k].toNat, s.data[k].toNat_lt⟩ : Fin 256).val = s.data[k] from UInt8.ofNat_toNat] at h2
  rw [← h2]
  have h3 := hexN_lt m hm
  rw [Bool.eq_iff_iff]
  simp only [List.map_cons, List.map_nil, Int.toNat_natCast, beq_iff_eq, List.cons.injEq, and_true]
  constructor
  · intro h; rw [← h]; simp; omega
  · intro h; rw [h]; simp
set_option maxHeartbeats 1000000 in
theorem rparse_any (s : ByteArray) (w : World) :
    Calls Try.prog 13 #[.string s] w fun e w' => e = .returned (.tuple #[.int .u32 (parseA s), .int .i64 (parseE s)]) ∧ Below w.heap.size w w' := by
  by_cases h8 : s.size = 8
  · have H8 := Lib.hid h8
    have h9 : ((s.size : Int) != 8) = false := by rw [bne_eq_false_iff_eq, h8]; rfl
    have h10 : s.size ≤ 8 := by omega
    have h11 : 8 ≤ s.size := by omega
    clear h8
    go_enter Try.func13, Try.ntmps13
    go_wp2_with fail
    go_loopw [4, 5] (fun a i wr => ∃ k : Nat, k ≤ 8 ∧ i = .int .i64 k ∧ a = .int .u32 (accN (s.data.toList.take k)) ∧ (∀ j (h : j < s.size), j < k → 0 ≤ hexV s.data[j]) ∧ Below w.heap.size w wr) (fun _ i _ => 8 - (intOf i).toNat)
    case atStart => exact ⟨0, by omega, rfl, rfl, fun j _ h => (by omega), Below.refl _ _⟩
    case round =>
      obtain ⟨k, hk, rfl, rfl, hall, hb⟩ := hrel
      by_cases hlt : k < 8
      · have hks : k < s.size := by omega
        have hv := hexV_lt s.data[k]
        have hal := accN_lt (s.data.toList.take k)
        have H1 := Lib.hid hall
        clear hall
        have hd8 : decide ((k : Int) < 8) = true := by simp; omega
        go_wp2_with fail
        obtain ⟨wo, hwo⟩ : ∃ wo : World, wo = wr := ⟨_, rfl⟩
        subst hwo
        go_loopw [6, 7] (fun n j wr => ∃ m : Nat, m ≤ 16 ∧ j = .int .u32 m ∧ n = .int .u32 (findN s.data[k] m) ∧ Below w.heap.size w wr) (fun _ j _ => 16 - (intOf j).toNat)
        case atStart => exact ⟨0, by omega, rfl, val_int (by rw [findN_zero]; rfl), hb⟩
        case round =>
          obtain ⟨m, hm, rfl, rfl, hb⟩ := hrel
          by_cases hlm : m < 16
          · by_cases hd : hexV s.data[k] = m
            · have hq := eq_digit s k m hks hlm
              rw [decide_eq_true hd] at hq
              have HD := Lib.hid hd
              clear hd
              go_wp2_with (go_at_call 32; refine (rdigit_any _ _ hlm).mono ?_; rintro e w1 ⟨rfl, hb1⟩; replace hb := Below.step hb hb1; clear hb1)
              go_roundw
              case rel => exact ⟨m + 1, by omega, by go_num, by rw [findN_succ _ _ HD.out], hb⟩
              case measure => simp [intOf]; omega
            · have hq := eq_digit s k m hks hlm
              rw [decide_eq_false hd] at hq
              have HD := Lib.hid hd
              clear hd
              go_wp2_with (go_at_call 32; refine (rdigit_any _ _ hlm).mono ?_; rintro e w1 ⟨rfl, hb1⟩; replace hb := Below.step hb hb1; clear hb1)
              go_roundw
              case rel => exact ⟨m + 1, by omega, by go_num, by rw [findN_same _ _ HD.out], hb⟩
              case measure => simp [intOf]; omega
          · obtain rfl : m = 16 := by omega
            by_cases hneg : hexV s.data[k] < 0
            · rw [findN_none _ hneg]
              go_wp2_with fail
              go_ret2
              obtain ⟨p1, p2⟩ := parse_bad s k hks hneg
              exact ⟨by rw [p1, p2]; rfl, hb⟩
            · rw [findN_all _ (by omega)]
              have hn := hexU_lt s.data[k]
              have hne : ((hexU s.data[k] : Int) == 16) = false := by rw [beq_eq_false_iff_ne]; omega
              have hneg' : 0 ≤ hexV s.data[k] := by omega
              go_wp2_with fail
              go_roundw
              case rel => exact ⟨k + 1, by omega, by go_num, by rw [take_snoc s k hks, accN_snoc]; exact val_int (by rw [Int.mul_comm]; simp), fun j h hj => by
                by_cases e : j = k
                · subst e; exact hneg'
                · exact H1.out j h (by omega), hb⟩
              case measure => simp [intOf]; omega
      · obtain rfl : k = 8 := by omega
        rw [show s.data.toList.take 8 = s.data.toList from List.take_of_length_le (by have := H8.out; simp; exact Nat.le_of_eq this)]
        go_wp2_with fail
        go_ret2
        obtain ⟨p1, p2⟩ := parse_good s H8.out (fun j h => hall j h (by have := H8.out; omega))
        exact ⟨by rw [p1, p2]; rfl, hb⟩
  · have h9 : ((s.size : Int) != 8) = true := by rw [bne_iff_ne]; omega
    obtain ⟨p1, p2⟩ := parse_short s h8
    go_enter Try.func13, Try.ntmps13
    go_wp2_with fail
    go_ret2
    exact ⟨by rw [p1, p2]; rfl, Below.refl _ _⟩
end Go.Proofs.Ytkagconllphdiaa
