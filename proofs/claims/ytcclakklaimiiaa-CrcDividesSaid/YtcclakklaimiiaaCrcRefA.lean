/- The walk of the document's digits, write and read. -/
import Derived.Test.YtcclakklaimiiaaCrcDivM
import Derived.Test.YtcclakklaimiiaaBuilt
import Derived.Test.YtcclakklaimiiaaCrcE
import Derived.Maps.AppendAt
namespace Go.Proofs.Ytcclakklaimiiaa
open Go Go.RowKit
set_option linter.unusedVariables false
set_option linter.unnecessarySimpa false
theorem info_int : (Try.prog.info? 3).map (fun i => (i.zero, i.size, i.bytes)) = some (some (.int .i64 0), 1, 8) := by kernel_rfl
/-- digits, as cells -/
def dv (l : List Nat) : List Value := l.map fun d : Nat => Value.int .i64 (d : Int)
theorem dv_app (a b : List Nat) : dv (a ++ b) = dv a ++ dv b := List.map_append
/-- digits, as numbers -/
def di (l : List Nat) : List Int := l.map fun d : Nat => (d : Int)
theorem dv_di (l : List Nat) : dv l = (di l).map (Value.int .i64) := by simp [dv, di]
theorem di_length (l : List Nat) : (di l).length = l.length := List.length_map ..
theorem di_at (l : List Nat) (j : Nat) (h : j < l.length) : (di l).getD j 0 = ((l.getD j 0 : Nat) : Int) := by
  simp [di, List.getD, List.getElem?_eq_getElem h]
theorem one_new (W : World) (x : Int) : ∀ j u, [Value.int .i64 x][j]? = some u → (W.alloc (.cells #[.int .i64 x] 3)).cell? ((⟨W.heap.size, 0, none⟩ : Addr).add j) = some u := cell_one_new _ _ _
set_option maxRecDepth 100000 in
set_option maxHeartbeats 2000000 in
theorem write_any (n : Nat) (w : World) (hn : n < 4294967296) :
    Calls Try.prog 30 #[.int .u32 n] w fun e w' => ∃ v, e = .returned v ∧ w'.ownsRow w.heap.size 3 1 v 32 (dv (writeL n)) ∧ Below w.heap.size w w' := by
  obtain ⟨i0, hi, hz0, hz1, hz2⟩ := info_parts info_int
  go_enter Try.func30, Try.ntmps30
  go_wp2
  go_loopw [0, 3, 4] (fun x v i wr => ∃ (k : Nat), k ≤ 32 ∧ x = .int .u32 ((n / 2 ^ k : Nat) : Int) ∧ i = .int .i64 (k : Int) ∧ wr.ownsRow w.heap.size 3 1 v k (dv (turnL (bitsL n k))) ∧ Below w.heap.size w wr) (fun _ _ i _ => 32 - (intOf i).toNat)
  case atStart => exact ⟨0, by omega, by simp, rfl, World.ownsRow_nil _ _ _ _, Below.refl _ _⟩
  case round =>
    obtain ⟨k, hk, rfl, rfl, hown, hb⟩ := hrel
    by_cases hlt : k < 32
    · have t1 : decide ((k : Int) < 32) = true := by simp; omega
      obtain ⟨c, hc⟩ : ∃ c, c = n / 2 ^ k := ⟨_, rfl⟩
      have hcl : c < 4294967296 := by rw [hc]; exact Nat.lt_of_le_of_lt (Nat.div_le_self _ _) hn
      have hsn := bitsL_snoc k n
      have hd2 : c / 2 = n / 2 ^ (k + 1) := by rw [hc, Nat.div_div_eq_div_mul, Nat.pow_succ]
      rw [← hc] at hsn ⊢
      have HD := Lib.hid hd2
      have HS := Lib.hid hsn
      have hn1 := Lib.hid (one_new wr (1 - (c : Int) % 2))
      have hbs := hb.size
      clear hc hd2 hsn
      go_wp2_with (at_builtin; refine held ?_)
      unfold Held
      refine wpList_append_own _ rfl _ _ 56 rfl w.heap.size 3 i0 (.int .i64 0) 1 8 Try.underlying56 hi hz0 hz1 hz2 rfl (by decide) _ k _ (by rfl) (hown.alloc _) ⟨wr.heap.size, 0, none⟩ 1 1 [.int .i64 (1 - (c : Int) % 2)] (by rfl) rfl hn1 (by simp [Value.oneCell']) (by simp only [maxLen]; omega) (by omega) (by simp; omega) ?_
      intro v' w1 hown' hgrow hnil
      have hb3 := (hb.alloc hbs (.cells #[.int .i64 (1 - (c : Int) % 2)] 3)).grown hgrow (by simp; omega) (fun g hg => (hown.lt g hg).1)
      clear hn1 hnil hgrow
      go_wp2
      go_roundw
      case rel =>
        have hd2 : c / 2 = n / 2 ^ (k + 1) := HD
        have hsn : bitsL n (k + 1) = bitsL n k ++ [c % 2] := HS
        refine ⟨k + 1, by omega, by rw [← hd2]; rfl, by go_num, ?_, hb3⟩
        rw [hsn, turnL, List.map_append, dv_app]
        have e : (1 - (c : Int) % 2) = ((1 - c % 2 : Nat) : Int) := by omega
        rw [e] at hown'
        exact hown'
      case measure => simp [intOf]; omega
    · have t1 : decide ((k : Int) < 32) = false := by simp; omega
      obtain rfl : k = 32 := by omega
      go_wp2
      go_ret
      exact ⟨_, rfl, hown, hb⟩
set_option maxRecDepth 100000 in
set_option maxHeartbeats 2000000 in
theorem digits_any (a : Option Addr) (len cap : Nat) (zs : List Int) (w : World) (hr : Row8 w.heap.size w (.slice a len cap) zs) (hsm : zs.length ≤ 1000000) :
    Calls Try.prog 29 #[.slice a len cap] w fun e w' => ∃ v, e = .returned v ∧ w'.ownsRow w.heap.size 3 1 v (8 * len) (dv (digL (zs.map Int.toNat))) ∧ Below w.heap.size w w' := by
  obtain ⟨i0, hi, hz0, hz1, hz2⟩ := info_parts info_int
  obtain ⟨hlen, b, off, hopen, hc⟩ := hr.1.open
  subst hlen
  go_enter Try.func29, Try.ntmps29
  go_wp2
  go_loopw [3, 4, 5, 6] (fun v i _ _ wr => ∃ (k : Nat), k ≤ zs.length ∧ i = .int .i64 (k : Int) ∧ wr.ownsRow w.heap.size 3 1 v (8 * k) (dv (digL ((zs.take k).map Int.toNat))) ∧ Below w.heap.size w wr) (fun _ i _ _ _ => zs.length - (intOf i).toNat)
  case atStart => exact ⟨0, by omega, rfl, World.ownsRow_nil _ _ _ _, Below.refl _ _⟩
  case round =>
    obtain ⟨k, hk, rfl, hown, hb⟩ := hrel
    by_cases hlt : k < zs.length
    · have t1 : decide ((k : Int) < (zs.length : Int)) = true := by simp; omega
      obtain ⟨rfl, hbn, _, _⟩ := hopen (by omega)
      have hck : wr.cell? ⟨b, off + k, none⟩ = some (.int .u8 (zs.getD k 0)) := (hb.cell (p := ⟨b, off + k, none⟩) hbn).trans (hc k hlt)
      obtain ⟨C, hC0, hC1⟩ : ∃ C : Nat, zs[k] = (C : Int) ∧ C ≤ 255 := by
        have h := hr.2 _ (List.getElem_mem hlt)
        exact ⟨zs[k].toNat, by omega, by omega⟩
      rw [getD_at _ _ hlt, hC0] at hck
      have hs : (zs.take (k + 1)).map Int.toNat = (zs.take k).map Int.toNat ++ [C] := by
        rw [List.take_succ_eq_append_getElem hlt, List.map_append, List.map_cons, List.map_nil, hC0, Int.toNat_natCast]
      have hs2 : digL ((zs.take (k + 1)).map Int.toNat) = digL ((zs.take k).map Int.toNat) ++ bitsL C 8 := by
        rw [hs, digL, List.flatMap_append]; simp [digL]
      obtain ⟨D, hD⟩ : ∃ D, D = digL ((zs.take k).map Int.toNat) := ⟨_, rfl⟩
      rw [← hD] at hown hs2
      have HS := Lib.hid hs2
      have HC := Lib.hid hc
      clear hs hs2 hD hC0 hc
      go_wp2_with fail
      go_loopw [3, 5, 6] (fun v c i wx => ∃ (m : Nat), m ≤ 8 ∧ c = .int .i64 ((C / 2 ^ m : Nat) : Int) ∧ i = .int .i64 (m : Int) ∧ wx.ownsRow w.heap.size 3 1 v (8 * k + m) (dv (D ++ bitsL C m)) ∧ Below w.heap.size w wx) (fun _ _ i _ => 8 - (intOf i).toNat)
      case atStart => exact ⟨0, by omega, by simp, rfl, by rw [show bitsL C 0 = [] from rfl, List.append_nil]; exact hown, hb⟩
      case round =>
        clear hown hb hck
        obtain ⟨m, hm, rfl, rfl, hown, hb⟩ := hrel
        by_cases hlt2 : m < 8
        · have t2 : decide ((m : Int) < 8) = true := by simp; omega
          obtain ⟨c, hc⟩ : ∃ c, c = C / 2 ^ m := ⟨_, rfl⟩
          have hcl : c ≤ 255 := by rw [hc]; exact Nat.le_trans (Nat.div_le_self _ _) hC1
          have hsn := bitsL_snoc m C
          have hd2 : c / 2 = C / 2 ^ (m + 1) := by rw [hc, Nat.div_div_eq_div_mul, Nat.pow_succ]
          rw [← hc] at hsn ⊢
          have HD := Lib.hid hd2
          have HS2 := Lib.hid hsn
          have hn1 := Lib.hid (one_new wr ((c : Int) % 2))
          have hbs := hb.size
          clear hc hd2 hsn
          go_wp2_with (at_builtin; refine held ?_)
          unfold Held
          refine wpList_append_own _ rfl _ _ 56 rfl w.heap.size 3 i0 (.int .i64 0) 1 8 Try.underlying56 hi hz0 hz1 hz2 rfl (by decide) _ (8 * k + m) _ (by rfl) (hown.alloc _) ⟨wr.heap.size, 0, none⟩ 1 1 [.int .i64 ((c : Int) % 2)] (by rfl) rfl hn1 (by simp [Value.oneCell']) (by simp only [maxLen]; omega) (by omega) (by simp; omega) ?_
          intro v' w1 hown' hgrow hnil
          have hb3 := (hb.alloc hbs (.cells #[.int .i64 ((c : Int) % 2)] 3)).grown hgrow (by simp; omega) (fun g hg => (hown.lt g hg).1)
          clear hn1 hnil hgrow
          go_wp2
          go_roundw
          case rel =>
            have hd2 : c / 2 = C / 2 ^ (m + 1) := HD
            have hsn : bitsL C (m + 1) = bitsL C m ++ [c % 2] := HS2
            refine ⟨m + 1, by omega, by rw [← hd2]; rfl, by go_num, ?_, hb3⟩
            rw [hsn, ← List.append_assoc, dv_app]
            exact hown'
          case measure => simp [intOf]; omega
        · have t2 : decide ((m : Int) < 8) = false := by simp; omega
          obtain rfl : m = 8 := by omega
          have hs2 : digL ((zs.take (k + 1)).map Int.toNat) = D ++ bitsL C 8 := HS
          rw [← hs2] at hown
          clear hs2
          go_wp2
          go_roundw
          case rel => exact ⟨k + 1, by omega, by go_num, hown, hb⟩
          case measure => simp [intOf]; omega
    · have t1 : decide ((k : Int) < (zs.length : Int)) = false := by simp; omega
      obtain rfl : k = zs.length := by omega
      rw [List.take_length] at hown
      go_wp2
      go_ret
      exact ⟨_, rfl, hown, hb⟩
set_option maxRecDepth 100000 in
set_option maxHeartbeats 2000000 in
theorem rread_any (a : Option Addr) (cap : Nat) (l : List Nat) (w : World) (hr : RowI .i64 w.heap.size w (.slice a 32 cap) (di l)) (hd : isDig l) :
    Calls Try.prog 31 #[.slice a 32 cap] w fun e w' => e = .returned (.int .u32 (wordL (turnL l))) ∧ w = w' := by
  obtain ⟨hlen, b, off, hopen, hc⟩ := hr.open
  obtain ⟨rfl, hbn, _, hcm⟩ := hopen (by decide)
  rw [di_length] at hlen
  go_enter Try.func31, Try.ntmps31
  go_wp2
  go_loopw [3, 4] (fun x i wr => ∃ (j : Nat), j ≤ 32 ∧ i = .int .i64 ((j : Int) - 1) ∧ x = .int .u32 (wordL ((turnL l).drop j)) ∧ w = wr) (fun _ i _ => (intOf i + 1).toNat)
  case atStart => exact ⟨32, by omega, rfl, by rw [List.drop_of_length_le (by rw [turnL, List.length_map]; omega)]; rfl, rfl⟩
  case round =>
    obtain ⟨j, hj, rfl, rfl, rfl⟩ := hrel
    by_cases h0 : j = 0
    · subst h0
      go_wp2
      go_ret
      exact ⟨rfl, rfl⟩
    · obtain ⟨i, rfl⟩ : ∃ i, j = i + 1 := ⟨j - 1, by omega⟩
      have e1 : ((i + 1 : Nat) : Int) - 1 = (i : Int) := by omega
      rw [e1]
      have t1 : decide ((0 : Int) ≤ (i : Int)) = true := by simp
      have hil : i < l.length := by omega
      have hd' := hd _ (List.getElem_mem hil)
      obtain ⟨c, hc0⟩ : ∃ c, c = l[i] := ⟨_, rfl⟩
      rw [← hc0] at hd'
      have hck : w.cell? ⟨b, off + i, none⟩ = some (.int .i64 (c : Int)) := by
        rw [hc i (by omega), di_at l i hil, hc0]
        simp [List.getD, List.getElem?_eq_getElem hil]
      have hW : wordL ((turnL l).drop i) = (1 - c) + 2 * wordL ((turnL l).drop (i + 1)) := by
        have hi2 : i < (turnL l).length := by rw [turnL, List.length_map]; exact hil
        rw [List.drop_eq_getElem_cons hi2, wordL]
        congr 1
        rw [hc0]; simp [turnL]
      have hB := wordL_lt ((turnL l).drop i) (fun x hx => turnL_dig l x (List.mem_of_mem_drop hx))
      have hB2 : wordL ((turnL l).drop i) < 4294967296 := Nat.lt_of_lt_of_le hB (by
        rw [List.length_drop, turnL, List.length_map]
        exact (show 2 ^ _ ≤ 2 ^ 32 from Nat.pow_le_pow_right (by decide) (by omega)))
      obtain ⟨N, hN⟩ : ∃ N, N = wordL ((turnL l).drop (i + 1)) := ⟨_, rfl⟩
      rw [← hN] at hW ⊢
      have HW := Lib.hid hW
      have hNb : 2 * N + (1 - c) < 4294967296 := by omega
      have HC := Lib.hid hc
      clear hN hW hB hB2 hc hc0 e1
      have v0 : (1 - (c : Int)) % 4294967296 = 1 - (c : Int) := by omega
      have hcc : c ≤ 1 := by omega
      go_wp2
      go_roundw
      case rel =>
        refine ⟨i, by omega, rfl, ?_, trivial⟩
        have hW : wordL ((turnL l).drop i) = (1 - c) + 2 * N := HW
        rw [hW]
        exact val_nat (by omega)
      case measure => simp [intOf]
end Go.Proofs.Ytcclakklaimiiaa
