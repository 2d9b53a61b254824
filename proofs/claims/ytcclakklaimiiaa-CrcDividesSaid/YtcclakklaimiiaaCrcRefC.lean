/- The walk of the document's More. -/
import Derived.Test.YtcclakklaimiiaaCrcRefB
namespace Go.Proofs.Ytcclakklaimiiaa
open Go Go.RowKit
set_option linter.unusedVariables false
set_option linter.unnecessarySimpa false
theorem zeros_snoc (k : Nat) : List.replicate (k + 1) 0 = List.replicate k 0 ++ [0] := List.replicate_succ' ..
theorem step_head {zs l : List Nat} {N k V : Nat} (hz : zs.length = N) (hd : isDig zs) (hl : isDig l) (hk : k < N) (hV : valW zs = V ^^^ addG l (N - 1) k) :
    valW (zs.set k ((zs.getD k 0 + l.getD k 0) % 2)) = V ^^^ addG l (N - 1) (k + 1) := by
  rw [valW_set zs k _ (by omega) (dig_at hd _) (dig_at hl k), hV, addG, Nat.xor_assoc, hz]
theorem more_fin (n : Nat) (b : List Nat) (hb : ∀ x ∈ b, x < 256) (hn : n < 4294967296) (V : Nat) (hV : V = valW (digL b ++ List.replicate 32 0) ^^^ addG (writeL n) (8 * b.length + 32 - 1) 32) : V ^^^ onesN = moreN n b := by
  rw [hV, show 8 * b.length + 32 - 1 = 8 * b.length + 31 by omega, writeL_val n hn]
  unfold moreN
  rw [crcF_dig b hb, Nat.xor_comm (valW _)]
set_option maxRecDepth 100000 in
set_option maxHeartbeats 4000000 in
theorem rmore_any (n : Nat) (a : Option Addr) (len cap : Nat) (zs : List Int) (w : World) (hn : n < 4294967296) (hr : Row8 w.heap.size w (.slice a len cap) zs) (hsm : zs.length ≤ 10000) :
    Calls Try.prog 18 #[.int .u32 n, .slice a len cap] w fun e w' => e = .returned (.int .u32 (moreN n (zs.map Int.toNat))) ∧ Below w.heap.size w w' := by
  obtain ⟨i0, hi, hz0, hz1, hz2⟩ := info_parts info_int
  have hlen := hr.1.open.1
  have hzb := toNat_lt hr.2
  have hfin := more_fin n (zs.map Int.toNat) hzb hn
  rw [List.length_map, hlen] at hfin
  have kd := digits_any a len cap zs w hr (by omega)
  have hDl : (digL (zs.map Int.toNat)).length = 8 * len := by rw [digL_length, List.length_map, hlen]
  have hDd := digL_dig (zs.map Int.toNat)
  obtain ⟨D, hD⟩ : ∃ D, D = digL (zs.map Int.toNat) := ⟨_, rfl⟩
  obtain ⟨ANS, hANS⟩ : ∃ A, A = moreN n (zs.map Int.toNat) := ⟨_, rfl⟩
  rw [← hD] at kd hDl hDd hfin
  rw [← hANS] at hfin ⊢
  have HF := Lib.hid hfin
  clear hfin hD hANS hzb
  have hl1 : len ≤ 10000 := by omega
  go_enter Try.func18, Try.ntmps18
  go_wp2_with (go_at_call 29; refine held ?_)
  unfold Held
  refine kd.mono ?_
  rintro e w1 ⟨v1, rfl, o1, b1⟩
  go_wp2_with fail
  go_loopw [5, 6] (fun v x wr => ∃ (k : Nat), x = .int .i64 (k : Int) ∧ k ≤ 32 ∧ wr.ownsRow w.heap.size 3 1 v (8 * len + k) (dv (D ++ List.replicate k 0)) ∧ Below w.heap.size w wr) (fun _ x _ => 32 - (intOf x).toNat)
  case atStart => exact ⟨0, rfl, by omega, by rw [List.replicate_zero, List.append_nil]; exact o1, b1⟩
  case round =>
    clear o1 b1 kd
    obtain ⟨k, rfl, hk, hown, hb⟩ := hrel
    by_cases hlt : k < 32
    · have t1 : decide ((k : Int) < 32) = true := by simp; omega
      have hn1 := Lib.hid (one_new wr 0)
      have hbs := hb.size
      go_wp2_with (at_builtin; refine held ?_)
      unfold Held
      refine wpList_append_own _ rfl _ _ 56 rfl w.heap.size 3 i0 (.int .i64 0) 1 8 Try.underlying56 hi hz0 hz1 hz2 rfl (by decide) _ (8 * len + k) _ (by rfl) (hown.alloc _) ⟨wr.heap.size, 0, none⟩ 1 1 [.int .i64 0] (by rfl) rfl hn1 (by simp [Value.oneCell']) (by simp only [maxLen]; omega) (by omega) (by simp; omega) ?_
      intro v' w2 hown' hgrow hnil
      have hb3 := (hb.alloc hbs (.cells #[.int .i64 0] 3)).grown hgrow (by simp; omega) (fun g hg => (hown.lt g hg).1)
      clear hn1 hnil hgrow
      go_wp2
      go_roundw
      case rel =>
        refine ⟨k + 1, by go_num, by omega, ?_, hb3⟩
        rw [zeros_snoc, ← List.append_assoc, dv_app]
        exact hown'
      case measure => simp [intOf]; omega
    · have t1 : decide ((k : Int) < 32) = false := by simp; omega
      obtain rfl : k = 32 := by omega
      have hEl : (D ++ List.replicate 32 0).length = 8 * len + 32 := by rw [List.length_append, hDl, List.length_replicate]
      have hEd : isDig (D ++ List.replicate 32 0) := fun c h => (List.mem_append.1 h).elim (hDd c) (fun h => .inl (List.mem_replicate.1 h).2)
      obtain ⟨E, hE⟩ : ∃ E, E = D ++ List.replicate 32 0 := ⟨_, rfl⟩
      have HF2 : Hid (∀ V, V = valW E ^^^ addG (writeL n) (8 * len + 32 - 1) 32 → V ^^^ onesN = ANS) := by rw [hE]; exact HF
      rw [← hE] at hown hEl hEd
      clear hE hlt HF hDl hDd
      obtain ⟨ca, cc, rfl, hca⟩ := ownsRow_slice hown
      obtain ⟨g, rfl, hg⟩ := hca.resolve_left (by omega)
      have hgB := hown.lt g hg
      go_wp2_with (go_at_call 30; refine held ?_)
      unfold Held
      refine (write_any n wr hn).mono ?_
      rintro e w3 ⟨v3, rfl, o3, b3⟩
      have hown3 := ownsRow_same hown fun b hb => b3.block b (hown.lt b hb).2
      have hb3 := hb.trans (b3.mono hb.size)
      obtain ⟨la, lc, rfl, hla⟩ := ownsRow_slice o3
      obtain ⟨h, rfl, hh⟩ := hla.resolve_left (by omega)
      have hhB := o3.lt h hh
      obtain ⟨N, hN⟩ : ∃ N, N = 8 * len + 32 := ⟨_, rfl⟩
      have HN := Lib.hid hN
      have hN32 : 32 ≤ N := by omega
      have hNl : N ≤ 100000 := by omega
      have hgw : w.heap.size ≤ g := hgB.1
      have hgh : g ≠ h := by omega
      rw [← hN] at hown3 hEl HF2 ⊢
      have hWl := writeL_length n
      have hWd : isDig (writeL n) := turnL_dig _
      obtain ⟨L, hL⟩ : ∃ L, L = writeL n := ⟨_, rfl⟩
      rw [← hL] at o3 HF2 hWl hWd
      have hrB := wr.heap.size
      obtain ⟨S0, hS0⟩ : ∃ S0, S0 = wr.heap.size := ⟨_, rfl⟩
      rw [← hS0] at o3
      clear hN hL hS0 hown hb b3 hca hla hg hh hgB hhB hrB
      go_wp2_with fail
      go_loopw [8] (fun x wx => ∃ (k : Nat) (ys : List Nat), x = .int .i64 (k : Int) ∧ k ≤ 32 ∧ ys.length = N ∧ isDig ys ∧ Hid (valW ys = valW E ^^^ addG L (N - 1) k) ∧ wx.ownsRow w.heap.size 3 1 (.slice (some ⟨g, 0, none⟩) N cc) N (dv ys) ∧ wx.ownsRow S0 3 1 (.slice (some ⟨h, 0, none⟩) 32 lc) 32 (dv L) ∧ Below w.heap.size w wx) (fun x _ => 32 - (intOf x).toNat)
      case atStart => exact ⟨0, E, rfl, by omega, hEl, hEd, (by rw [addG, Nat.xor_zero] : valW E = valW E ^^^ addG L (N - 1) 0), hown3, o3, hb3⟩
      case round =>
        clear hown3 o3 hb3 hEl hEd
        obtain ⟨k, ys, rfl, hk, hys, hyd, hV, hown, ho3, hb⟩ := hrel
        by_cases hlt : k < 32
        · have t1 : decide ((k : Int) < 32) = true := by simp; omega
          have ck1 : wr.cell? ⟨g, k, none⟩ = some (.int .i64 ((ys.getD k 0 : Nat) : Int)) := by
            rw [hown.cellAt k (by omega), dv_at ys k (by omega)]
          have ck2 : wr.cell? ⟨h, k, none⟩ = some (.int .i64 ((L.getD k 0 : Nat) : Int)) := by
            rw [ho3.cellAt k (by omega), dv_at L k (by omega)]
          have fk := hown.frozenAt k
          have hst := Lib.hid (fun u => (hown.stored k u).1)
          have hA := dig_at hyd k
          have hB := dig_at hWd k
          have hStep := Lib.hid (step_head hys hyd hWd (by omega) hV)
          obtain ⟨A, hAe⟩ : ∃ A, A = ys.getD k 0 := ⟨_, rfl⟩
          obtain ⟨B, hBe⟩ : ∃ B, B = L.getD k 0 := ⟨_, rfl⟩
          rw [← hAe] at ck1 hA
          rw [← hBe] at ck2 hB
          have HA := Lib.hid hAe
          have HB := Lib.hid hBe
          have hA1 : A ≤ 1 := by omega
          have hB1 : B ≤ 1 := by omega
          have hkN : k < N := by omega
          clear hAe hBe hA hB
          go_wp2_with fail
          go_region
          go_wp2
          go_roundw
          case rel =>
            have hAe : A = ys.getD k 0 := HA
            have hBe : B = L.getD k 0 := HB
            refine ⟨k + 1, ys.set k ((ys.getD k 0 + L.getD k 0) % 2), by go_num, by omega, by rw [List.length_set]; exact hys, dig_set hyd _ _ (by omega), hStep, ?_, ?_, ?_⟩
            · have h := (show ∀ u, (wr.setCell ⟨g, k, none⟩ u).ownsRow w.heap.size 3 1 (.slice (some ⟨g, 0, none⟩) N cc) N ((dv ys).set k u) from hst) (.int .i64 (((A : Int) + (B : Int)) % 2))
              rw [dv_set, ← hAe, ← hBe, show (((A + B) % 2 : Nat) : Int) = ((A : Int) + (B : Int)) % 2 by omega]
              exact ownsRow_same h fun b hb => rfl
            · exact ownsRow_same ho3 fun b hb => by
                have : b = h := by simpa [Value.ownBlock] using hb.symm
                exact Below.heap_setCell wr ⟨g, k, none⟩ _ b (by show ¬ b = g; omega)
            · have h4 := hb.setCell (p := ⟨g, k, none⟩) hgw (.int .i64 (((A : Int) + (B : Int)) % 2))
              exact ⟨h4.os, h4.tape, h4.output, h4.size, h4.block⟩
          case measure => simp [intOf]; omega
        · have t1 : decide ((k : Int) < 32) = false := by simp; omega
          obtain rfl : k = 32 := by omega
          have hrow : RowI .i64 wr.heap.size wr (.slice (some ⟨g, 0, none⟩) N cc) (di ys) := (RowI.of_own (by rw [dv_di] at hown; exact hown)).2
          have hN : N = 8 * len + 32 := HN
          have hfin : valW ys ^^^ onesN = ANS := HF2 _ hV
          have kl := left_any (some ⟨g, 0, none⟩) cc ys (8 * len) wr (by rw [← hN]; exact hrow) hyd (by omega)
          rw [← hN, hfin] at kl
          clear hrow hN hfin HN HF2 hV hown ho3
          go_wp2_with (go_at_call 32; refine held ?_)
          unfold Held
          refine kl.mono ?_
          rintro e w4 ⟨lb, lc2, xs, rfl, hx, hxd, hval, b4⟩
          have kr := rread_any lb lc2 xs w4 hx hxd
          rw [hval] at kr
          replace b4 := hb.trans (b4.mono hb.size)
          clear kl hx hxd hval hb
          go_wp2_with (go_at_call 31; refine held ?_)
          unfold Held
          refine kr.mono ?_
          rintro e w5 ⟨rfl, rfl⟩
          clear kr
          go_wp2
          go_ret
          exact ⟨rfl, b4⟩
end Go.Proofs.Ytcclakklaimiiaa
