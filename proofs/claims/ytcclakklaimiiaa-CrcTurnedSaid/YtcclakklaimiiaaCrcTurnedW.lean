/- The walk of the law CrcTurned. -/
import Derived.Test.YtcclakklaimiiaaCrcTurnM
import Derived.BigRegion
namespace Go.Proofs.Ytcclakklaimiiaa
open Go Go.RowKit
set_option linter.unusedVariables false
set_option linter.unnecessarySimpa false
set_option maxRecDepth 100000 in
set_option maxHeartbeats 4000000 in
theorem crcTurned_any (w : World) (a1 : Option Addr) (l1 c1 : Nat) (z1 : List Int) (h1 : Row8 w.heap.size w (.slice a1 l1 c1) z1) (at_ turn : Nat) (hat : at_ < 65536) (ht : turn < 4294967296) :
    Calls Try.prog 7 #[.slice a1 l1 c1, .int .u16 at_, .int .u32 turn] w fun e w' => e = .returned (.bool true) ∧ Below w.heap.size w w' := by
  have e1 := h1.1.open.1
  go_enter Try.func7, Try.ntmps7
  go_wp2_with (go_at_call 9; refine held ?_)
  unfold Held
  refine (alive_any w).mono ?_
  rintro e w1 ⟨rfl, b1⟩
  by_cases g1 : l1 ≤ 1500
  rotate_left
  · have t1 : decide ((1500 : Int) < (l1 : Int)) = true := by simp; omega
    go_wp2
    go_ret
    exact ⟨rfl, b1⟩
  have t1 : decide ((1500 : Int) < (l1 : Int)) = false := by simp; omega
  have hb1s := b1.size
  go_wp2_with (go_at_call 19; refine held ?_)
  unfold Held
  refine (seal_any a1 l1 c1 z1 w1 ((h1.below b1).mono b1.size) (by omega)).mono ?_
  rintro e w2 ⟨v, rfl, o2, b2⟩
  replace b2 := below_step b1 b2
  obtain ⟨ca, cc, rfl, hca⟩ := ownsRow_slice o2
  obtain ⟨g, rfl, hg⟩ := hca.resolve_left (by omega)
  have hgB := o2.lt g hg
  have hz1 := h1.2
  have hcs : ∀ z ∈ z1 ++ bytesL (sumL z1), 0 ≤ z ∧ z ≤ 255 := all_app hz1 (bytesL_byte _ (sumL_lt z1 hz1))
  have hlen : (z1 ++ bytesL (sumL z1)).length = l1 + 4 := by rw [List.length_append, e1]; rfl
  have hop := opens_sealed z1 hz1
  have htk : (z1 ++ bytesL (sumL z1)).take (l1 + 4 - 4) = z1 := by rw [show l1 + 4 - 4 = z1.length by omega, List.take_left]
  have HF := Lib.hid ((opens_iff _ hcs (by omega)).1 hop)
  have ko := open_any (some ⟨g, 0, none⟩) (l1 + 4) cc _ w2 ⟨(RowI.of_own o2).2, hcs⟩ (by omega)
  rw [htk, show l1 + 4 - 4 = z1.length by omega] at ko
  obtain ⟨cs, hcse⟩ : ∃ cs, cs = z1 ++ bytesL (sumL z1) := ⟨_, rfl⟩
  rw [← hcse] at o2 hcs hlen hop HF ko
  clear htk hcse b1
  obtain ⟨L, hL⟩ : ∃ L, L = l1 + 4 := ⟨_, rfl⟩
  rw [← hL] at o2 hlen ko ⊢
  have hL4 : 4 ≤ L := by omega
  have hL5 : L ≤ 1504 := by omega
  clear hL
  go_wp2_with (go_at_call 16; refine held ?_)
  unfold Held
  refine ko.mono ?_
  rintro e w3 ⟨b3, ⟨_, v3, rfl, o3⟩ | ⟨hno, _⟩⟩
  rotate_left
  · exact absurd hop hno
  try dsimp only
  have o2' := ownsRow_same o2 fun b hb => b3.block b (o2.lt b hb).2
  replace b3 := below_step b2 b3
  have cv3 := OwnBytes.conv o3
  have cv1 := convRow (P := Try.prog) (h1.1.below b3) 28 5 9 Try.underlying28 Try.underlying5 Try.underlying9
  clear ko o2 o3 b2 hop
  obtain ⟨M, hM⟩ : ∃ M, M = 8 * L - 31 := ⟨_, rfl⟩
  have hM1 : 1 ≤ M := by omega
  have hM2 : M ≤ 100000 := by omega
  have hMi : 8 * (L : Int) - 31 = (M : Int) := by omega
  have HM := Lib.hid hM
  have HL := Lib.hid hlen
  have HC := Lib.hid hcs
  have HA := Lib.hid ht
  have hw8 : wrap64 (8 * (L : Int)) = 8 * (L : Int) := by unfold wrap64; omega
  have hwM : wrap64 (M : Int) = (M : Int) := by unfold wrap64; omega
  clear hM hlen hcs ht
  go_wp2_with fail
  obtain ⟨R, hR⟩ : ∃ R, R = at_ % M := ⟨_, rfl⟩
  have hRM : R < M := by rw [hR]; exact Nat.mod_lt _ hM1
  have hRi : (at_ : Int) % (M : Int) = (R : Int) := by omega
  rw [hRi]
  have hL : M = 8 * L - 31 := HM
  have hR8 : R + 31 < 8 * L := by omega
  clear hR hRM hRi hL HM hM1 hM2 hMi hw8 hwM cv3 cv1 hat
  go_loopw [12] (fun i wr => ∃ (k : Nat) (ys : List Int), i = .int .i64 (k : Int) ∧ k ≤ 32 ∧ ys.length = L ∧ (∀ y ∈ ys, 0 ≤ y ∧ y ≤ 255) ∧ wr.ownsRow w1.heap.size 5 1 (.slice (some ⟨g, 0, none⟩) L cc) L (ys.map (Value.int .u8)) ∧ Hid (crcF onesN (ys.map Int.toNat) = crcF onesN (cs.map Int.toNat) ^^^ crcTs (8 * L - R) (turn % 2 ^ k)) ∧ Below w.heap.size w wr) (fun i _ => 32 - (intOf i).toNat)
  case atStart =>
    refine ⟨0, cs, rfl, by omega, HL, HC, o2', ?_, b3⟩
    show _ = _
    rw [Nat.pow_zero, Nat.mod_one, crcTs_zero, Nat.xor_zero]
  case round =>
    obtain ⟨k, ys, rfl, hk, hys, hyb, hown, HF2, hbl⟩ := hrel
    clear o2' b3
    by_cases hlt : k < 32
    · have t2 : decide ((k : Int) < 32) = true := by simp; omega
      by_cases hbit : turn.testBit k = true
      · have t3 : (bits .and .u32 ((turn : Int) / 2 ^ k) 1 == 1) = true := by rw [bit_of, hbit]; decide
        obtain ⟨j, hj⟩ : ∃ j, j = (R + k) / 8 := ⟨_, rfl⟩
        obtain ⟨r, hr⟩ : ∃ r, r = (R + k) % 8 := ⟨_, rfl⟩
        have hq1 : ((R : Int) + (k : Int)) / 8 = (j : Int) := by omega
        have hq2 : ((R : Int) + (k : Int)) % 8 = (r : Int) := by omega
        have hjL : j < L := by omega
        have hr8 : r < 8 := by omega
        have ck : wr.cell? ⟨g, j, none⟩ = some (.int .u8 (ys.getD j 0)) := by
          rw [hown.cellAt j (by omega), List.getElem?_map, getD_at _ _ (by omega), List.getElem?_eq_getElem (by omega)]; rfl
        have fk := hown.frozenAt j
        have hst := fun u => (hown.stored j u).1
        obtain ⟨C, hC0, hC1⟩ : ∃ C : Nat, ys.getD j 0 = (C : Int) ∧ C ≤ 255 := by
          rw [getD_at _ _ (by omega)]
          have h := hyb _ (List.getElem_mem (by omega : j < ys.length))
          exact ⟨ys[j].toNat, by omega, by omega⟩
        rw [hC0] at ck
        have HJ := Lib.hid hj
        have HR := Lib.hid hr
        have HC0 := Lib.hid hC0
        have HST := Lib.hid hst
        clear hj hr hC0 hst
        go_wp2_with fail
        go_region
        go_wp2
        go_roundw
        case rel =>
          obtain ⟨hx, hx2⟩ := xor_bit C r hC1 hr8
          refine ⟨k + 1, ys.set j ((C ^^^ 2 ^ r : Nat) : Int), by go_num, by omega, by rw [List.length_set]; exact hys, ?_, ?_, ?_, ?_⟩
          · intro y hy
            rcases List.mem_or_eq_of_mem_set hy with h | rfl
            · exact hyb y h
            · omega
          · rw [hx, List.map_set]
            have h := (show ∀ u, (wr.setCell ⟨g, j, none⟩ u).ownsRow w1.heap.size 5 1 (.slice (some ⟨g, 0, none⟩) L cc) L ((ys.map (Value.int .u8)).set j u) from HST) (.int .u8 ((C ^^^ 2 ^ r : Nat) : Int))
            exact ownsRow_same h fun b hb => rfl
          · exact flip_step _ ys L R k turn C j r hys HJ HR hR8 hlt HC0 hbit HF2
          · have h4 := hbl.setCell (p := ⟨g, j, none⟩) (by show w.heap.size ≤ g; omega) (.int .u8 (bits .xor .u8 (C : Int) (2 ^ r % 256)))
            exact ⟨h4.os, h4.tape, h4.output, h4.size, h4.block⟩
        case measure => simp [intOf]; omega
      · have t3 : (bits .and .u32 ((turn : Int) / 2 ^ k) 1 == 1) = false := by rw [bit_of, show turn.testBit k = false by simpa using hbit]; decide
        go_wp2_with fail
        go_roundw
        case rel => exact ⟨k + 1, ys, by go_num, by omega, hys, hyb, hown, skip_step _ _ L R k turn hR8 hlt hbit HF2, hbl⟩
        case measure => simp [intOf]; omega
    · have t2 : decide ((k : Int) < 32) = false := by simp; omega
      obtain rfl : k = 32 := by omega
      have hti := turned_iff cs ys L R turn hys hyb hL4 HA HF HF2
      have ko := open_any (some ⟨g, 0, none⟩) L cc ys wr ⟨(RowI.of_own hown).2, hyb⟩ (by omega)
      have HTI := Lib.hid hti
      clear hti
      go_wp2_with (go_at_call 16; refine held ?_)
      unfold Held
      refine ko.mono ?_
      have hti : opens ys ↔ turn = 0 := HTI
      rintro e w4 ⟨b4, ⟨hop, v4, rfl, o4⟩ | ⟨hno, rfl⟩⟩
      · obtain rfl := hti.1 hop
        try dsimp only
        replace b4 := below_step hbl b4
        clear HTI hti hop o4 ko
        go_wp2
        go_ret
        exact ⟨rfl, b4⟩
      · have h0 : ((turn : Int) != 0) = true := by
          have := fun h => hno (hti.2 h)
          simp; omega
        try dsimp only
        replace b4 := below_step hbl b4
        clear HTI hti hno ko
        go_wp2
        go_ret
        exact ⟨rfl, b4⟩
theorem crcTurned_int (w : World) (a1 : Option Addr) (l1 c1 : Nat) (z1 : List Int) (h1 : Row8 w.heap.size w (.slice a1 l1 c1) z1) (at_ turn : Int) (hat : 0 ≤ at_ ∧ at_ ≤ 65535) (ht : 0 ≤ turn ∧ turn ≤ 4294967295) :
    Calls Try.prog 7 #[.slice a1 l1 c1, .int .u16 at_, .int .u32 turn] w fun e w' => e = .returned (.bool true) ∧ Below w.heap.size w w' := by
  have e1 : at_ = (at_.toNat : Int) := by omega
  have e2 : turn = (turn.toNat : Int) := by omega
  rw [e1, e2]
  exact crcTurned_any w a1 l1 c1 z1 h1 _ _ (by omega) (by omega)
end Go.Proofs.Ytcclakklaimiiaa
