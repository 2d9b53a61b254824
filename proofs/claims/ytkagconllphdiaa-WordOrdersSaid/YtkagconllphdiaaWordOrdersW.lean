/- The walk of the law WordOrders. -/
import Derived.Test.YtkagconllphdiaaWordBytes
import Derived.Test.YtkagconllphdiaaWordTextMath
import Derived.RegionTactic
import Derived.BigRegion
namespace Go.Proofs.Ytkagconllphdiaa
set_option linter.unusedVariables false
open Go.ChangeShapes Go.WideShapes Go.ChangeAt Go.RowKit
theorem dig_byte : ∀ c : Fin 256, (0 ≤ hexV (UInt8.ofNat c.val)) ↔ (48 ≤ c.val ∧ c.val ≤ 57 ∨ 97 ≤ c.val ∧ c.val ≤ 102) := by decide +kernel
set_option maxHeartbeats 1000000 in
theorem wordOrders_d1 (a b k c : Nat) (w : World) (ha : a < 4294967296) (hb4 : b < 4294967296) (p4 : 48 ≤ c) (p5 : c ≤ 57) (hd : 0 ≤ hexV (UInt8.ofNat c)) :
    Calls Try.prog 8 #[.int .u32 a, .int .u32 b, .int .u8 k, .int .u8 c] w fun e w' => e = .returned (.bool true) ∧ Below w.heap.size w w' := by
  have hb := Below.refl w.heap.size w
  have hs := textS_size a
  obtain ⟨m, hm⟩ : ∃ m, m = k % 8 := ⟨_, rfl⟩
  have e0 : (k : Int) % 8 = (m : Int) := by omega
  have hm8 : m < 8 := by omega
  clear hm
  have hlt := text_less a b ha hb4
  have hls := long_bad a
  have hss := short_bad a
  have hu := setS_eq a m c hm8
  have hus := setS_size a m c
  have s1 : ∀ W : World, (Op.stringOp .add ((textS a).extract 0 m) (strOfNums [(c : Int)])).run Try.prog W = .ok (.string ((textS a).extract 0 m ++ strOfNums [(c : Int)])) W :=
    fun W => run_string_add_sum W _ _ (by rw [ByteArray.size_extract, strOfNums_size, hs]; simp; omega)
  have s2 : ∀ W : World, (Op.stringOp .add ((textS a).extract 0 m ++ strOfNums [(c : Int)]) ((textS a).extract (m + 1) 8)).run Try.prog W = .ok (.string (setS a m c)) W :=
    fun W => by rw [run_string_add_sum W _ _ (by rw [ByteArray.size_append, ByteArray.size_extract, ByteArray.size_extract, strOfNums_size, hs]; simp; omega), hu]
  have s3 : ∀ W : World, (Op.stringOp .add (textS a) { data := #[48] }).run Try.prog W = .ok (.string (textS a ++ { data := #[48] })) W :=
    fun W => run_string_add_sum W _ _ (by rw [hs]; decide)
  have hlsz : (textS a ++ { data := #[48] }).size ≤ maxLen := by rw [ByteArray.size_append, hs]; decide
  have hssz : ((textS a).extract 0 7).size ≤ maxLen := by rw [ByteArray.size_extract, hs]; decide
  have husz : (setS a m c).size ≤ maxLen := by rw [hus]; decide
  have HLS := Lib.hid hlsz
  have HSS := Lib.hid hssz
  have HUS := Lib.hid husz
  clear hu hus hlsz hssz husz
  obtain ⟨p1, p2⟩ := set_good a m c hd
  have p3 := text_set a m c hd
  clear hd
  have d1 : decide ((48 : Int) ≤ (c : Int)) = true := by simp; omega
  have d2 : decide ((c : Int) ≤ 57) = true := by simp; omega
  have d3 : decide ((97 : Int) ≤ (c : Int)) = false := by simp; omega
  have d4 : decide ((c : Int) ≤ 102) = true := by simp; omega
  clear p4 p5
  go_enter Try.func8, Try.ntmps8
  go_wp2_with (first
      | (go_at_call 22; refine (alive_any _).mono ?_; rintro e w1 ⟨rfl, hb1⟩; replace hb := Below.step hb hb1; clear hb1)
      | (go_at_call 14; refine (text_any _ _).mono ?_; rintro e w1 ⟨rfl, hb1⟩; replace hb := Below.step hb hb1; clear hb1))
  have hk2 : (convert 42 9 (.slice (some ⟨w1.heap.size, 0, none⟩) 1 1)).run Try.prog ((w1.alloc (.cells #[.int .u8 c] 5)).drew) =
    .ok (.string (strOfNums [(c : Int)])) ((w1.alloc (.cells #[.int .u8 c] 5)).drew) := conv1 w1.drew c
  go_region
  replace hb := (hb.alloc hb.size (.cells #[.int .u8 c] 5)).drew
  go_wp2_with fail
  refine (parse_any _ _ HUS.out).mono ?_; rintro e w1 ⟨rfl, hb1⟩; replace hb := Below.step hb hb1; clear hb1
  go_wp2_with fail
  refine (parse_any _ _ HLS.out).mono ?_; rintro e w1 ⟨rfl, hb1⟩; replace hb := Below.step hb hb1; clear hb1
  go_wp2_with fail
  refine (parse_any _ _ HSS.out).mono ?_; rintro e w1 ⟨rfl, hb1⟩; replace hb := Below.step hb hb1; clear hb1
  go_wp2_with (go_at_call 14; refine (text_any _ _).mono ?_; rintro e w1 ⟨rfl, hb1⟩; replace hb := Below.step hb hb1; clear hb1)
  go_ret
  exact ⟨rfl, hb⟩
set_option maxHeartbeats 1000000 in
theorem wordOrders_d2 (a b k c : Nat) (w : World) (ha : a < 4294967296) (hb4 : b < 4294967296) (p4 : 97 ≤ c) (p5 : c ≤ 102) (hd : 0 ≤ hexV (UInt8.ofNat c)) :
    Calls Try.prog 8 #[.int .u32 a, .int .u32 b, .int .u8 k, .int .u8 c] w fun e w' => e = .returned (.bool true) ∧ Below w.heap.size w w' := by
  have hb := Below.refl w.heap.size w
  have hs := textS_size a
  obtain ⟨m, hm⟩ : ∃ m, m = k % 8 := ⟨_, rfl⟩
  have e0 : (k : Int) % 8 = (m : Int) := by omega
  have hm8 : m < 8 := by omega
  clear hm
  have hlt := text_less a b ha hb4
  have hls := long_bad a
  have hss := short_bad a
  have hu := setS_eq a m c hm8
  have hus := setS_size a m c
  have s1 : ∀ W : World, (Op.stringOp .add ((textS a).extract 0 m) (strOfNums [(c : Int)])).run Try.prog W = .ok (.string ((textS a).extract 0 m ++ strOfNums [(c : Int)])) W :=
    fun W => run_string_add_sum W _ _ (by rw [ByteArray.size_extract, strOfNums_size, hs]; simp; omega)
  have s2 : ∀ W : World, (Op.stringOp .add ((textS a).extract 0 m ++ strOfNums [(c : Int)]) ((textS a).extract (m + 1) 8)).run Try.prog W = .ok (.string (setS a m c)) W :=
    fun W => by rw [run_string_add_sum W _ _ (by rw [ByteArray.size_append, ByteArray.size_extract, ByteArray.size_extract, strOfNums_size, hs]; simp; omega), hu]
  have s3 : ∀ W : World, (Op.stringOp .add (textS a) { data := #[48] }).run Try.prog W = .ok (.string (textS a ++ { data := #[48] })) W :=
    fun W => run_string_add_sum W _ _ (by rw [hs]; decide)
  have hlsz : (textS a ++ { data := #[48] }).size ≤ maxLen := by rw [ByteArray.size_append, hs]; decide
  have hssz : ((textS a).extract 0 7).size ≤ maxLen := by rw [ByteArray.size_extract, hs]; decide
  have husz : (setS a m c).size ≤ maxLen := by rw [hus]; decide
  have HLS := Lib.hid hlsz
  have HSS := Lib.hid hssz
  have HUS := Lib.hid husz
  clear hu hus hlsz hssz husz
  obtain ⟨p1, p2⟩ := set_good a m c hd
  have p3 := text_set a m c hd
  clear hd
  have d1 : decide ((48 : Int) ≤ (c : Int)) = true := by simp; omega
  have d2 : decide ((c : Int) ≤ 57) = false := by simp; omega
  have d3 : decide ((97 : Int) ≤ (c : Int)) = true := by simp; omega
  have d4 : decide ((c : Int) ≤ 102) = true := by simp; omega
  clear p4 p5
  go_enter Try.func8, Try.ntmps8
  go_wp2_with (first
      | (go_at_call 22; refine (alive_any _).mono ?_; rintro e w1 ⟨rfl, hb1⟩; replace hb := Below.step hb hb1; clear hb1)
      | (go_at_call 14; refine (text_any _ _).mono ?_; rintro e w1 ⟨rfl, hb1⟩; replace hb := Below.step hb hb1; clear hb1))
  have hk2 : (convert 42 9 (.slice (some ⟨w1.heap.size, 0, none⟩) 1 1)).run Try.prog ((w1.alloc (.cells #[.int .u8 c] 5)).drew) =
    .ok (.string (strOfNums [(c : Int)])) ((w1.alloc (.cells #[.int .u8 c] 5)).drew) := conv1 w1.drew c
  go_region
  replace hb := (hb.alloc hb.size (.cells #[.int .u8 c] 5)).drew
  go_wp2_with fail
  refine (parse_any _ _ HUS.out).mono ?_; rintro e w1 ⟨rfl, hb1⟩; replace hb := Below.step hb hb1; clear hb1
  go_wp2_with fail
  refine (parse_any _ _ HLS.out).mono ?_; rintro e w1 ⟨rfl, hb1⟩; replace hb := Below.step hb hb1; clear hb1
  go_wp2_with fail
  refine (parse_any _ _ HSS.out).mono ?_; rintro e w1 ⟨rfl, hb1⟩; replace hb := Below.step hb hb1; clear hb1
  go_wp2_with (go_at_call 14; refine (text_any _ _).mono ?_; rintro e w1 ⟨rfl, hb1⟩; replace hb := Below.step hb hb1; clear hb1)
  go_ret
  exact ⟨rfl, hb⟩
set_option maxHeartbeats 1000000 in
theorem wordOrders_n1 (a b k c : Nat) (w : World) (ha : a < 4294967296) (hb4 : b < 4294967296) (p4 : c < 48) (hd : hexV (UInt8.ofNat c) < 0) :
    Calls Try.prog 8 #[.int .u32 a, .int .u32 b, .int .u8 k, .int .u8 c] w fun e w' => e = .returned (.bool true) ∧ Below w.heap.size w w' := by
  have hb := Below.refl w.heap.size w
  have hs := textS_size a
  obtain ⟨m, hm⟩ : ∃ m, m = k % 8 := ⟨_, rfl⟩
  have e0 : (k : Int) % 8 = (m : Int) := by omega
  have hm8 : m < 8 := by omega
  clear hm
  have hlt := text_less a b ha hb4
  have hls := long_bad a
  have hss := short_bad a
  have hu := setS_eq a m c hm8
  have hus := setS_size a m c
  have s1 : ∀ W : World, (Op.stringOp .add ((textS a).extract 0 m) (strOfNums [(c : Int)])).run Try.prog W = .ok (.string ((textS a).extract 0 m ++ strOfNums [(c : Int)])) W :=
    fun W => run_string_add_sum W _ _ (by rw [ByteArray.size_extract, strOfNums_size, hs]; simp; omega)
  have s2 : ∀ W : World, (Op.stringOp .add ((textS a).extract 0 m ++ strOfNums [(c : Int)]) ((textS a).extract (m + 1) 8)).run Try.prog W = .ok (.string (setS a m c)) W :=
    fun W => by rw [run_string_add_sum W _ _ (by rw [ByteArray.size_append, ByteArray.size_extract, ByteArray.size_extract, strOfNums_size, hs]; simp; omega), hu]
  have s3 : ∀ W : World, (Op.stringOp .add (textS a) { data := #[48] }).run Try.prog W = .ok (.string (textS a ++ { data := #[48] })) W :=
    fun W => run_string_add_sum W _ _ (by rw [hs]; decide)
  have hlsz : (textS a ++ { data := #[48] }).size ≤ maxLen := by rw [ByteArray.size_append, hs]; decide
  have hssz : ((textS a).extract 0 7).size ≤ maxLen := by rw [ByteArray.size_extract, hs]; decide
  have husz : (setS a m c).size ≤ maxLen := by rw [hus]; decide
  have HLS := Lib.hid hlsz
  have HSS := Lib.hid hssz
  have HUS := Lib.hid husz
  clear hu hus hlsz hssz husz
  obtain ⟨p1, p2⟩ := set_bad a m c hm8 hd
  clear hd
  have d1 : decide ((48 : Int) ≤ (c : Int)) = false := by simp; omega
  have d2 : decide ((c : Int) ≤ 57) = true := by simp; omega
  have d3 : decide ((97 : Int) ≤ (c : Int)) = false := by simp; omega
  have d4 : decide ((c : Int) ≤ 102) = true := by simp; omega
  clear p4
  go_enter Try.func8, Try.ntmps8
  go_wp2_with (first
      | (go_at_call 22; refine (alive_any _).mono ?_; rintro e w1 ⟨rfl, hb1⟩; replace hb := Below.step hb hb1; clear hb1)
      | (go_at_call 14; refine (text_any _ _).mono ?_; rintro e w1 ⟨rfl, hb1⟩; replace hb := Below.step hb hb1; clear hb1))
  have hk2 : (convert 42 9 (.slice (some ⟨w1.heap.size, 0, none⟩) 1 1)).run Try.prog ((w1.alloc (.cells #[.int .u8 c] 5)).drew) =
    .ok (.string (strOfNums [(c : Int)])) ((w1.alloc (.cells #[.int .u8 c] 5)).drew) := conv1 w1.drew c
  go_region
  replace hb := (hb.alloc hb.size (.cells #[.int .u8 c] 5)).drew
  go_wp2_with fail
  refine (parse_any _ _ HUS.out).mono ?_; rintro e w1 ⟨rfl, hb1⟩; replace hb := Below.step hb hb1; clear hb1
  go_wp2_with fail
  refine (parse_any _ _ HLS.out).mono ?_; rintro e w1 ⟨rfl, hb1⟩; replace hb := Below.step hb hb1; clear hb1
  go_wp2_with fail
  refine (parse_any _ _ HSS.out).mono ?_; rintro e w1 ⟨rfl, hb1⟩; replace hb := Below.step hb hb1; clear hb1
  go_wp2_with (go_at_call 14; refine (text_any _ _).mono ?_; rintro e w1 ⟨rfl, hb1⟩; replace hb := Below.step hb hb1; clear hb1)
  go_ret
  exact ⟨rfl, hb⟩
set_option maxHeartbeats 1000000 in
theorem wordOrders_n2 (a b k c : Nat) (w : World) (ha : a < 4294967296) (hb4 : b < 4294967296) (p4 : 48 ≤ c) (p5 : 57 < c) (p6 : c < 97) (hd : hexV (UInt8.ofNat c) < 0) :
    Calls Try.prog 8 #[.int .u32 a, .int .u32 b, .int .u8 k, .int .u8 c] w fun e w' => e = .returned (.bool true) ∧ Below w.heap.size w w' := by
  have hb := Below.refl w.heap.size w
  have hs := textS_size a
  obtain ⟨m, hm⟩ : ∃ m, m = k % 8 := ⟨_, rfl⟩
  have e0 : (k : Int) % 8 = (m : Int) := by omega
  have hm8 : m < 8 := by omega
  clear hm
  have hlt := text_less a b ha hb4
  have hls := long_bad a
  have hss := short_bad a
  have hu := setS_eq a m c hm8
  have hus := setS_size a m c
  have s1 : ∀ W : World, (Op.stringOp .add ((textS a).extract 0 m) (strOfNums [(c : Int)])).run Try.prog W = .ok (.string ((textS a).extract 0 m ++ strOfNums [(c : Int)])) W :=
    fun W => run_string_add_sum W _ _ (by rw [ByteArray.size_extract, strOfNums_size, hs]; simp; omega)
  have s2 : ∀ W : World, (Op.stringOp .add ((textS a).extract 0 m ++ strOfNums [(c : Int)]) ((textS a).extract (m + 1) 8)).run Try.prog W = .ok (.string (setS a m c)) W :=
    fun W => by rw [run_string_add_sum W _ _ (by rw [ByteArray.size_append, ByteArray.size_extract, ByteArray.size_extract, strOfNums_size, hs]; simp; omega), hu]
  have s3 : ∀ W : World, (Op.stringOp .add (textS a) { data := #[48] }).run Try.prog W = .ok (.string (textS a ++ { data := #[48] })) W :=
    fun W => run_string_add_sum W _ _ (by rw [hs]; decide)
  have hlsz : (textS a ++ { data := #[48] }).size ≤ maxLen := by rw [ByteArray.size_append, hs]; decide
  have hssz : ((textS a).extract 0 7).size ≤ maxLen := by rw [ByteArray.size_extract, hs]; decide
  have husz : (setS a m c).size ≤ maxLen := by rw [hus]; decide
  have HLS := Lib.hid hlsz
  have HSS := Lib.hid hssz
  have HUS := Lib.hid husz
  clear hu hus hlsz hssz husz
  obtain ⟨p1, p2⟩ := set_bad a m c hm8 hd
  clear hd
  have d1 : decide ((48 : Int) ≤ (c : Int)) = true := by simp; omega
  have d2 : decide ((c : Int) ≤ 57) = false := by simp; omega
  have d3 : decide ((97 : Int) ≤ (c : Int)) = false := by simp; omega
  have d4 : decide ((c : Int) ≤ 102) = true := by simp; omega
  clear p4 p5 p6
  go_enter Try.func8, Try.ntmps8
  go_wp2_with (first
      | (go_at_call 22; refine (alive_any _).mono ?_; rintro e w1 ⟨rfl, hb1⟩; replace hb := Below.step hb hb1; clear hb1)
      | (go_at_call 14; refine (text_any _ _).mono ?_; rintro e w1 ⟨rfl, hb1⟩; replace hb := Below.step hb hb1; clear hb1))
  have hk2 : (convert 42 9 (.slice (some ⟨w1.heap.size, 0, none⟩) 1 1)).run Try.prog ((w1.alloc (.cells #[.int .u8 c] 5)).drew) =
    .ok (.string (strOfNums [(c : Int)])) ((w1.alloc (.cells #[.int .u8 c] 5)).drew) := conv1 w1.drew c
  go_region
  replace hb := (hb.alloc hb.size (.cells #[.int .u8 c] 5)).drew
  go_wp2_with fail
  refine (parse_any _ _ HUS.out).mono ?_; rintro e w1 ⟨rfl, hb1⟩; replace hb := Below.step hb hb1; clear hb1
  go_wp2_with fail
  refine (parse_any _ _ HLS.out).mono ?_; rintro e w1 ⟨rfl, hb1⟩; replace hb := Below.step hb hb1; clear hb1
  go_wp2_with fail
  refine (parse_any _ _ HSS.out).mono ?_; rintro e w1 ⟨rfl, hb1⟩; replace hb := Below.step hb hb1; clear hb1
  go_wp2_with (go_at_call 14; refine (text_any _ _).mono ?_; rintro e w1 ⟨rfl, hb1⟩; replace hb := Below.step hb hb1; clear hb1)
  go_ret
  exact ⟨rfl, hb⟩
set_option maxHeartbeats 1000000 in
theorem wordOrders_n3 (a b k c : Nat) (w : World) (ha : a < 4294967296) (hb4 : b < 4294967296) (p4 : 48 ≤ c) (p5 : 57 < c) (p6 : 97 ≤ c) (p7 : 102 < c) (hd : hexV (UInt8.ofNat c) < 0) :
    Calls Try.prog 8 #[.int .u32 a, .int .u32 b, .int .u8 k, .int .u8 c] w fun e w' => e = .returned (.bool true) ∧ Below w.heap.size w w' := by
  have hb := Below.refl w.heap.size w
  have hs := textS_size a
  obtain ⟨m, hm⟩ : ∃ m, m = k % 8 := ⟨_, rfl⟩
  have e0 : (k : Int) % 8 = (m : Int) := by omega
  have hm8 : m < 8 := by omega
  clear hm
  have hlt := text_less a b ha hb4
  have hls := long_bad a
  have hss := short_bad a
  have hu := setS_eq a m c hm8
  have hus := setS_size a m c
  have s1 : ∀ W : World, (Op.stringOp .add ((textS a).extract 0 m) (strOfNums [(c : Int)])).run Try.prog W = .ok (.string ((textS a).extract 0 m ++ strOfNums [(c : Int)])) W :=
    fun W => run_string_add_sum W _ _ (by rw [ByteArray.size_extract, strOfNums_size, hs]; simp; omega)
  have s2 : ∀ W : World, (Op.stringOp .add ((textS a).extract 0 m ++ strOfNums [(c : Int)]) ((textS a).extract (m + 1) 8)).run Try.prog W = .ok (.string (setS a m c)) W :=
    fun W => by rw [run_string_add_sum W _ _ (by rw [ByteArray.size_append, ByteArray.size_extract, ByteArray.size_extract, strOfNums_size, hs]; simp; omega), hu]
  have s3 : ∀ W : World, (Op.stringOp .add (textS a) { data := #[48] }).run Try.prog W = .ok (.string (textS a ++ { data := #[48] })) W :=
    fun W => run_string_add_sum W _ _ (by rw [hs]; decide)
  have hlsz : (textS a ++ { data := #[48] }).size ≤ maxLen := by rw [ByteArray.size_append, hs]; decide
  have hssz : ((textS a).extract 0 7).size ≤ maxLen := by rw [ByteArray.size_extract, hs]; decide
  have husz : (setS a m c).size ≤ maxLen := by rw [hus]; decide
  have HLS := Lib.hid hlsz
  have HSS := Lib.hid hssz
  have HUS := Lib.hid husz
  clear hu hus hlsz hssz husz
  obtain ⟨p1, p2⟩ := set_bad a m c hm8 hd
  clear hd
  have d1 : decide ((48 : Int) ≤ (c : Int)) = true := by simp; omega
  have d2 : decide ((c : Int) ≤ 57) = false := by simp; omega
  have d3 : decide ((97 : Int) ≤ (c : Int)) = true := by simp; omega
  have d4 : decide ((c : Int) ≤ 102) = false := by simp; omega
  clear p4 p5 p6 p7
  go_enter Try.func8, Try.ntmps8
  go_wp2_with (first
      | (go_at_call 22; refine (alive_any _).mono ?_; rintro e w1 ⟨rfl, hb1⟩; replace hb := Below.step hb hb1; clear hb1)
      | (go_at_call 14; refine (text_any _ _).mono ?_; rintro e w1 ⟨rfl, hb1⟩; replace hb := Below.step hb hb1; clear hb1))
  have hk2 : (convert 42 9 (.slice (some ⟨w1.heap.size, 0, none⟩) 1 1)).run Try.prog ((w1.alloc (.cells #[.int .u8 c] 5)).drew) =
    .ok (.string (strOfNums [(c : Int)])) ((w1.alloc (.cells #[.int .u8 c] 5)).drew) := conv1 w1.drew c
  go_region
  replace hb := (hb.alloc hb.size (.cells #[.int .u8 c] 5)).drew
  go_wp2_with fail
  refine (parse_any _ _ HUS.out).mono ?_; rintro e w1 ⟨rfl, hb1⟩; replace hb := Below.step hb hb1; clear hb1
  go_wp2_with fail
  refine (parse_any _ _ HLS.out).mono ?_; rintro e w1 ⟨rfl, hb1⟩; replace hb := Below.step hb hb1; clear hb1
  go_wp2_with fail
  refine (parse_any _ _ HSS.out).mono ?_; rintro e w1 ⟨rfl, hb1⟩; replace hb := Below.step hb hb1; clear hb1
  go_wp2_with (go_at_call 14; refine (text_any _ _).mono ?_; rintro e w1 ⟨rfl, hb1⟩; replace hb := Below.step hb hb1; clear hb1)
  go_ret
  exact ⟨rfl, hb⟩
theorem wordOrders_nat (a b k c : Nat) (w : World) (ha : a < 4294967296) (hb4 : b < 4294967296) (hc : c < 256) :
    Calls Try.prog 8 #[.int .u32 a, .int .u32 b, .int .u8 k, .int .u8 c] w fun e w' => e = .returned (.bool true) ∧ Below w.heap.size w w' := by
  have hdig := dig_byte ⟨c, hc⟩
  dsimp only at hdig
  by_cases hd : 0 ≤ hexV (UInt8.ofNat c)
  · rcases hdig.1 hd with ⟨p4, p5⟩ | ⟨p4, p5⟩
    · exact wordOrders_d1 a b k c w ha hb4 p4 p5 hd
    · exact wordOrders_d2 a b k c w ha hb4 p4 p5 hd
  · have p4 : c < 48 ∨ (48 ≤ c ∧ 57 < c ∧ c < 97) ∨ (48 ≤ c ∧ 57 < c ∧ 97 ≤ c ∧ 102 < c) := by omega
    rcases p4 with p4 | ⟨p4, p5, p6⟩ | ⟨p4, p5, p6, p7⟩
    · exact wordOrders_n1 a b k c w ha hb4 p4 (by omega)
    · exact wordOrders_n2 a b k c w ha hb4 p4 p5 p6 (by omega)
    · exact wordOrders_n3 a b k c w ha hb4 p4 p5 p6 p7 (by omega)
theorem wordOrders_any (a b k c : Int) (w : World) (ha0 : 0 ≤ a) (ha : a ≤ 4294967295) (hb0 : 0 ≤ b) (hb : b ≤ 4294967295) (hk : 0 ≤ k) (hc0 : 0 ≤ c) (hc : c ≤ 255) :
    Calls Try.prog 8 #[.int .u32 a, .int .u32 b, .int .u8 k, .int .u8 c] w fun e w' => e = .returned (.bool true) ∧ Below w.heap.size w w' := by
  obtain ⟨a, rfl⟩ := Int.eq_ofNat_of_zero_le ha0
  obtain ⟨b, rfl⟩ := Int.eq_ofNat_of_zero_le hb0
  obtain ⟨k, rfl⟩ := Int.eq_ofNat_of_zero_le hk
  obtain ⟨c, rfl⟩ := Int.eq_ofNat_of_zero_le hc0
  exact wordOrders_nat a b k c w (by omega) (by omega) (by omega)
end Go.Proofs.Ytkagconllphdiaa
