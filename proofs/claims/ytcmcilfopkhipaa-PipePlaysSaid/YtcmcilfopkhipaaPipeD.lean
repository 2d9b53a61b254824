/- pipe.Of, pipe.New, (*pipe.Pipe).Copy. -/
import Derived.Test.YtcmcilfopkhipaaPipeC
import Derived.Deep.Cut
namespace Go.Proofs.Ytcmcilfopkhipaa
open Go Go.RowKit
attribute [local go_sem] upV_value upV_skip upV_enter
set_option linter.unusedVariables false
set_option linter.unnecessarySimpa false
theorem pipe_new (W : World) (g m : Nat) (bs : List Int) (rd wr : Nat) (hr : IsRing W g m bs) (h1 : rd ≤ 64) (h2 : wr ≤ 64) :
    IsPipe (W.alloc (.cells #[.pointer (some ⟨g, 0, none⟩), .int .i64 rd, .int .i64 wr] 70)) W.heap.size g m bs rd wr :=
  ⟨World.alloc_heap_new W _, hr.same (Below.heap_alloc _ _ _ hr.lt), by have := hr.lt; omega, h1, h2⟩
set_option maxHeartbeats 1000000 in
theorem pof_any (c : Int) (a : Option Addr) (len cap : Nat) (xs : List Int) (rd wr : Int) (w : World) (hr : Row8 w.heap.size w (.slice a len cap) xs) (hs : len ≤ 1000000000000) :
    Calls Try.prog 15 #[.int .i64 c, .slice a len cap, .int .i64 rd, .int .i64 wr] w fun e w' => Below w.heap.size w w' ∧
      ((1 ≤ c ∧ c ≤ 64 ∧ (len : Int) ≤ c ∧ 0 ≤ rd ∧ 0 ≤ wr ∧ rd ≤ 64 ∧ wr ≤ 64 ∧ rd + wr ≠ 0 ∧ ∃ p g, e = .returned (.tuple #[.pointer (some ⟨p, 0, none⟩), .int .i64 0]) ∧ IsPipe w' p g c.toNat xs rd.toNat wr.toNat ∧ w.heap.size ≤ p ∧ w.heap.size ≤ g) ∨
       (¬ (1 ≤ c ∧ c ≤ 64 ∧ (len : Int) ≤ c) ∧ e = .returned (.tuple #[.pointer none, .int .i64 80])) ∨
       ((1 ≤ c ∧ c ≤ 64 ∧ (len : Int) ≤ c) ∧ ¬ (0 ≤ rd ∧ 0 ≤ wr ∧ rd ≤ 64 ∧ wr ≤ 64 ∧ rd + wr ≠ 0) ∧ e = .returned (.tuple #[.pointer none, .int .i64 90]))) := by
  obtain ⟨mn, hmn⟩ : ∃ mn, mn = min rd wr := ⟨_, rfl⟩
  obtain ⟨mx, hmx⟩ : ∃ mx, mx = max rd wr := ⟨_, rfl⟩
  have q1 : (if rd < wr then rd else wr) = mn := by split <;> omega
  have q2 : (if wr < rd then wr else rd) = mn := by split <;> omega
  have q3 : (if rd < wr then wr else rd) = mx := by split <;> omega
  have q4 : (if wr < rd then rd else wr) = mx := by split <;> omega
  go_enter Try.func15, Try.ntmps15
  go_wp2_with (go_at_call 37; refine held ?_)
  unfold Held
  refine (of_ring c a len cap xs w hr hs).mono ?_
  rintro e w1 ⟨hb, ⟨hc1, hc2, hc3, rfl, hI⟩ | ⟨hno, rfl⟩⟩
  · have hIl := hI.lt
    by_cases h1 : mn < 0
    · have t1 : decide (mn < 0) = true := by simpa using h1
      have H := Lib.hid (And.intro hmn hmx)
      clear hmn hmx
      go_wp2
      go_ret2
      have H' : mn = min rd wr ∧ mx = max rd wr := H
      exact ⟨hb, .inr (.inr ⟨⟨hc1, hc2, hc3⟩, by omega, rfl⟩)⟩
    · have t1 : decide (mn < 0) = false := by simpa using h1
      by_cases h2 : 64 < mx
      · have t2 : decide (64 < mx) = true := by simpa using h2
        have H := Lib.hid (And.intro hmn hmx)
        clear hmn hmx
        go_wp2
        go_ret2
        have H' : mn = min rd wr ∧ mx = max rd wr := H
        exact ⟨hb, .inr (.inr ⟨⟨hc1, hc2, hc3⟩, by omega, rfl⟩)⟩
      · have t2 : decide (64 < mx) = false := by simpa using h2
        have hp := pipe_new w1 w.heap.size c.toNat xs rd.toNat wr.toNat hI (by omega) (by omega)
        rw [show ((rd.toNat : Nat) : Int) = rd from by omega, show ((wr.toNat : Nat) : Int) = wr from by omega] at hp
        have hrr : 0 ≤ rd ∧ rd ≤ 64 ∧ 0 ≤ wr ∧ wr ≤ 64 := by omega
        obtain ⟨r1, r2, r3, r4⟩ := hrr
        by_cases h3 : rd + wr = 0
        · have t3 : (rd + wr == 0) = true := by simpa using h3
          clear hmn hmx
          go_wp2
          go_ret2
          exact ⟨hb, .inr (.inr ⟨⟨hc1, hc2, hc3⟩, by omega, rfl⟩)⟩
        · have t3 : (rd + wr == 0) = false := by simpa using h3
          clear hmn hmx
          go_wp2
          go_ret2
          exact ⟨hb.alloc hb.size _, .inl ⟨hc1, hc2, hc3, r1, r3, r2, r4, h3, _, _, rfl, hp, hb.size, Nat.le_refl _⟩⟩
  · clear hmn hmx
    go_wp2
    go_ret2
    exact ⟨hb, .inr (.inl ⟨hno, rfl⟩)⟩
theorem pnew_any (c : Nat) (w : World) (h1 : 1 ≤ c) (h2 : c ≤ 64) :
    Calls Try.prog 10 #[.int .i64 (c : Int)] w fun e w' => Below w.heap.size w w' ∧ ∃ p g, e = .returned (.tuple #[.pointer (some ⟨p, 0, none⟩), .int .i64 0]) ∧ IsPipe w' p g c [] 1 1 ∧ w.heap.size ≤ p ∧ w.heap.size ≤ g := by
  have k := pof_any (c : Int) none 0 0 [] 1 1 w ⟨.inl ⟨_, _, rfl, rfl⟩, by simp⟩ (by omega)
  go_enter Try.func10, Try.ntmps10
  go_wp2_with (go_at_call 15; refine held ?_)
  unfold Held
  refine k.mono ?_
  rintro e w1 ⟨hb, ⟨_, _, _, _, _, _, _, _, p, g, rfl, hp, h3, h4⟩ | ⟨hno, _⟩ | ⟨_, hno, _⟩⟩
  · go_wp2
    go_ret2
    exact ⟨hb, p, g, rfl, by simpa using hp, h3, h4⟩
  · exact absurd ⟨by omega, by omega, by omega⟩ hno
  · exact absurd ⟨by omega, by omega, by omega, by omega, by omega⟩ hno
set_option maxHeartbeats 2000000 in
theorem pcopy_any (W : World) (p g m : Nat) (bs : List Int) (rd wr : Nat) (h : IsPipe W p g m bs rd wr) :
    Calls Try.prog 22 #[.pointer (some ⟨p, 0, none⟩)] W fun e W' => ∃ p' g', e = .returned (.pointer (some ⟨p', 0, none⟩)) ∧ IsPipe W' p' g' m bs rd wr ∧ W.heap.size ≤ p' ∧ W.heap.size ≤ g' ∧ Below W.heap.size W W' := by
  have c0 := h.at_.c0
  go_enter Try.func22, Try.ntmps22
  go_upto_region 3 with fail
  have HX := Lib.hid (fun V (hV : Grows W.drew V) => ((h.same rfl rfl : IsPipe W.drew p g m bs rd wr).below hV))
  refine wp_region_anyV Grows (by kernel_rfl) 12 rfl ?_
  first
    | (refine anyV_val 0 (Grows.pre) rfl (by kernel_rfl) (by kernel_rfl) (by kernel_rfl) (by rfl) (v := ?av1) (fun W hW => ?ay1) (fun K hK => ?ar1); case ay1 => (have y0 := (HX W hW).at_.c0; have y1 := (HX W hW).at_.c1; have y2 := (HX W hW).at_.c2; go_simp; first | done | rfl))
    | refine anyV_skip 0 (Grows.pre) rfl (by kernel_rfl) (by kernel_rfl) (by kernel_rfl) (by rfl) (fun K hK => ?_)
  go_simp
  refine hK _ ?_
  clear hK K
  first
    | (refine anyV_val 1 (Grows.pre) rfl (by kernel_rfl) (by kernel_rfl) (by kernel_rfl) (by rfl) (v := ?av2) (fun W hW => ?ay2) (fun K hK => ?ar2); case ay2 => (have y0 := (HX W hW).at_.c0; have y1 := (HX W hW).at_.c1; have y2 := (HX W hW).at_.c2; go_simp; first | done | rfl))
    | refine anyV_skip 1 (Grows.pre) rfl (by kernel_rfl) (by kernel_rfl) (by kernel_rfl) (by rfl) (fun K hK => ?_)
  go_simp
  refine hK _ ?_
  clear hK K
  first
    | (refine anyV_val 2 (Grows.pre) rfl (by kernel_rfl) (by kernel_rfl) (by kernel_rfl) (by rfl) (v := ?av3) (fun W hW => ?ay3) (fun K hK => ?ar3); case ay3 => (have y0 := (HX W hW).at_.c0; have y1 := (HX W hW).at_.c1; have y2 := (HX W hW).at_.c2; go_simp; first | done | rfl))
    | refine anyV_skip 2 (Grows.pre) rfl (by kernel_rfl) (by kernel_rfl) (by kernel_rfl) (by rfl) (fun K hK => ?_)
  go_simp
  refine hK _ ?_
  clear hK K
  first
    | (refine anyV_val 3 (Grows.pre) rfl (by kernel_rfl) (by kernel_rfl) (by kernel_rfl) (by rfl) (v := ?av4) (fun W hW => ?ay4) (fun K hK => ?ar4); case ay4 => (have y0 := (HX W hW).at_.c0; have y1 := (HX W hW).at_.c1; have y2 := (HX W hW).at_.c2; go_simp; first | done | rfl))
    | refine anyV_skip 3 (Grows.pre) rfl (by kernel_rfl) (by kernel_rfl) (by kernel_rfl) (by rfl) (fun K hK => ?_)
  go_simp
  refine hK _ ?_
  clear hK K
  first
    | (refine anyV_val 5 (Grows.pre) rfl (by kernel_rfl) (by kernel_rfl) (by kernel_rfl) (by rfl) (v := ?av5) (fun W hW => ?ay5) (fun K hK => ?ar5); case ay5 => (have y0 := (HX W hW).at_.c0; have y1 := (HX W hW).at_.c1; have y2 := (HX W hW).at_.c2; go_simp; first | done | rfl))
    | refine anyV_skip 5 (Grows.pre) rfl (by kernel_rfl) (by kernel_rfl) (by kernel_rfl) (by rfl) (fun K hK => ?_)
  go_simp
  refine hK _ ?_
  clear hK K
  first
    | (refine anyV_val 6 (Grows.pre) rfl (by kernel_rfl) (by kernel_rfl) (by kernel_rfl) (by rfl) (v := ?av6) (fun W hW => ?ay6) (fun K hK => ?ar6); case ay6 => (have y0 := (HX W hW).at_.c0; have y1 := (HX W hW).at_.c1; have y2 := (HX W hW).at_.c2; go_simp; first | done | rfl))
    | refine anyV_skip 6 (Grows.pre) rfl (by kernel_rfl) (by kernel_rfl) (by kernel_rfl) (by rfl) (fun K hK => ?_)
  go_simp
  refine hK _ ?_
  clear hK K
  first
    | (refine anyV_val 7 (Grows.pre) rfl (by kernel_rfl) (by kernel_rfl) (by kernel_rfl) (by rfl) (v := ?av7) (fun W hW => ?ay7) (fun K hK => ?ar7); case ay7 => (have y0 := (HX W hW).at_.c0; have y1 := (HX W hW).at_.c1; have y2 := (HX W hW).at_.c2; go_simp; first | done | rfl))
    | refine anyV_skip 7 (Grows.pre) rfl (by kernel_rfl) (by kernel_rfl) (by kernel_rfl) (by rfl) (fun K hK => ?_)
  go_simp
  refine hK _ ?_
  clear hK K
  first
    | (refine anyV_val 8 (Grows.pre) rfl (by kernel_rfl) (by kernel_rfl) (by kernel_rfl) (by rfl) (v := ?av8) (fun W hW => ?ay8) (fun K hK => ?ar8); case ay8 => (have y0 := (HX W hW).at_.c0; have y1 := (HX W hW).at_.c1; have y2 := (HX W hW).at_.c2; go_simp; first | done | rfl))
    | refine anyV_skip 8 (Grows.pre) rfl (by kernel_rfl) (by kernel_rfl) (by kernel_rfl) (by rfl) (fun K hK => ?_)
  go_simp
  refine hK _ ?_
  clear hK K
  refine anyV_only 4 rfl (by kernel_rfl) (by rfl) (fun K hK => ?_)
  go_simp
  refine (copy_ring W.drew g m bs (h.ring.same rfl)).mono ?_
  rintro e w1 ⟨rfl, hI1, hb1⟩
  have y0 := ((h.same rfl rfl : IsPipe W.drew p g m bs rd wr).below hb1)
  refine ⟨_, rfl, hK _ _ hb1 ?_⟩
  clear hK K
  refine anyV_frame (fun K hK => ?_)
  go_simp
  refine hK _ ?_
  clear hK K
  first
    | (refine anyV_val 9 (Grows.pre) rfl (by kernel_rfl) (by kernel_rfl) (by kernel_rfl) (by rfl) (v := ?av9) (fun W hW => ?ay9) (fun K hK => ?ar9); case ay9 => (go_simp; first | done | rfl))
    | refine anyV_skip 9 (Grows.pre) rfl (by kernel_rfl) (by kernel_rfl) (by kernel_rfl) (by rfl) (fun K hK => ?_)
  go_simp
  refine hK _ ?_
  clear hK K
  refine anyV_only 10 rfl (by kernel_rfl) (by rfl) (fun K hK => ?_)
  go_simp
  have hG : Grows w1 (w1.alloc (.cells #[.pointer (some ⟨W.heap.size, 0, none⟩), .int .i64 rd, .int .i64 wr] 70)) := (Below.refl _ w1).alloc (Nat.le_refl _) _
  refine hK _ _ hG ?_
  clear hK K
  refine anyV_frame (fun K hK => ?_)
  go_simp
  refine hK _ ?_
  clear hK K
  first
    | (refine anyV_val 11 (Grows.pre) rfl (by kernel_rfl) (by kernel_rfl) (by kernel_rfl) (by rfl) (v := ?av10) (fun W hW => ?ay10) (fun K hK => ?ar10); case ay10 => (go_simp; first | done | rfl))
    | refine anyV_skip 11 (Grows.pre) rfl (by kernel_rfl) (by kernel_rfl) (by kernel_rfl) (by rfl) (fun K hK => ?_)
  go_simp
  refine hK _ ?_
  clear hK K
  refine anyV_done (by kernel_rfl) ?_
  go_wp2_with fail
  go_ret
  exact ⟨_, _, rfl, pipe_new w1 W.heap.size m bs rd wr hI1 h.rd64 h.wr64, hb1.size, Nat.le_refl _, (below_undrew hb1).alloc hb1.size _⟩
end Go.Proofs.Ytcmcilfopkhipaa
