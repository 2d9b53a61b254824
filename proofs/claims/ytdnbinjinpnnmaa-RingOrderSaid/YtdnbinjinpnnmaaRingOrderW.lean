/- The walk of the law RingOrder. -/
import Derived.Test.YtdnbinjinpnnmaaRingAlive
import Derived.Test.YtdnbinjinpnnmaaRowSlice
namespace Go.Proofs.Ytdnbinjinpnnmaa
open Go Go.RowKit
set_option linter.unusedVariables false
set_option linter.unnecessarySimpa false
set_option maxRecDepth 100000 in
set_option maxHeartbeats 4000000 in
theorem ringOrder_any (w : World) (c : Int) (hc0 : 0 ≤ c) (hc1 : c ≤ 255) (a1 : Option Addr) (l1 c1 : Nat) (z1 : List Int) (a2 : Option Addr) (l2 c2 : Nat) (z2 : List Int) (h1 : IsRow .u8 w a1 l1 c1 z1) (h2 : IsRow .u8 w a2 l2 c2 z2) :
    Calls Try.prog 3 #[.int .u8 c, .slice a1 l1 c1, .slice a2 l2 c2] w fun e w' => e = .returned (.bool true) ∧ Below w.heap.size w w' := by
  have r1 := h1.row8
  have r2 := h2.row8
  have e1 : (z1.take l1).length = l1 := h1.row.1
  have e2 : (z2.take l2).length = l2 := h2.row.1
  obtain ⟨xs, hxs⟩ : ∃ xs, xs = z1.take l1 := ⟨_, rfl⟩
  obtain ⟨ps, hps⟩ : ∃ ps, ps = z2.take l2 := ⟨_, rfl⟩
  rw [← hxs] at r1 e1
  rw [← hps] at r2 e2
  clear hxs hps h1 h2
  subst e1 e2
  obtain ⟨m, hm⟩ : ∃ m : Nat, 1 + c % 64 = (m : Int) := ⟨(1 + c % 64).toNat, by omega⟩
  have hm1 : 1 ≤ m := by omega
  have hm2 : m ≤ 64 := by omega
  go_enter Try.func3, Try.ntmps3
  by_cases hb : xs.length ≤ 2000 ∧ ps.length ≤ 500
  · obtain ⟨hb1, hb2⟩ := hb
    have t1 : decide ((2000 : Int) < (xs.length : Int)) = false := by simp; omega
    have t2 : decide ((500 : Int) < (ps.length : Int)) = false := by simp; omega
    go_wp2_with (first
      | (go_at_call 8; refine (alive_any w).mono ?_; rintro e w1 ⟨rfl, b1⟩)
      | (go_at_call 9; refine held ?_))
    unfold Held
    have hy := new_yes (m : Int) w1 (by omega) (by omega)
    have hI := IsRing.new w1 m hm1 hm2
    obtain ⟨W1, hW1⟩ : ∃ W1, W1 = w1.alloc (.cells (ringCells (fun _ => 0) (m : Int) 0 0) 50) := ⟨_, rfl⟩
    rw [← hW1] at hI hy
    have b2 : Below w.heap.size w W1 := by rw [hW1]; exact b1.alloc b1.size _
    have hgw := b1.size
    obtain ⟨g, hg⟩ : ∃ g, g = w1.heap.size := ⟨_, rfl⟩
    rw [← hg] at hI hy hgw
    clear hW1 hg b1
    refine hy.mono ?_
    rintro e W2 ⟨rfl, rfl⟩
    clear hy
    go_wp2_with fail
    go_loopw [10, 11, 40] (fun o t i wr => ∃ (k at' : Nat) (out bs : List Int), i = .int .i64 (k : Int) ∧ t = .int .i64 (at' : Int) ∧ o = .string (strOfNums out) ∧ k ≤ ps.length ∧ at' ≤ xs.length ∧ out ++ bs = xs.take at' ∧ IsRing wr g m bs ∧ Below w.heap.size w wr) (fun _ _ i _ => ps.length - (intOf i).toNat)
    case atStart => exact ⟨0, 0, [], [], rfl, rfl, rfl, Nat.zero_le _, Nat.zero_le _, by simp, hI, b2⟩
    case round =>
      obtain ⟨k, t, out, bs, rfl, rfl, rfl, hk, ht, hob, hIr, hbr⟩ := hrel
      have hol : out.length + bs.length = t := by
        have := congrArg List.length hob
        rw [List.length_append, List.length_take] at this; omega
      by_cases hlt : k < ps.length
      · have hz2 := r2.2 _ (List.getElem_mem hlt)
        rw [← getD_at _ _ hlt] at hz2
        obtain ⟨hlen2, bb, boff, hopen2, hc2⟩ := r2.1.open
        obtain ⟨rfl, hbn2, _, _⟩ := hopen2 (by omega)
        have hck : wr.cell? ⟨bb, boff + k, none⟩ = some (.int .u8 (ps.getD k 0)) := (hbr.cell (p := ⟨bb, boff + k, none⟩) hbn2).trans (hc2 k hlt)
        obtain ⟨n, hn⟩ : ∃ n : Nat, ps.getD k 0 % 80 = (n : Int) := ⟨(ps.getD k 0 % 80).toNat, by omega⟩
        have hn80 : n < 80 := by omega
        obtain ⟨x, hx⟩ : ∃ x, x = ps.getD k 0 := ⟨_, rfl⟩
        rw [← hx] at hck hn hz2
        have t3 : decide ((k : Int) < (ps.length : Int)) = true := by simp; omega
        clear hx
        have hsz := strOfNums_size out
        obtain ⟨O, hO⟩ : ∃ O, O = out.length := ⟨_, rfl⟩
        rw [← hO] at hsz hol
        have HO := Lib.hid hO
        have HB := Lib.hid hob
        clear hO hob
        by_cases h2 : k % 2 = 0
        · have t4 : decide ((k : Int) % 2 = 0) = true := by simp; omega
          have t5 : ((k : Int) % 2 == 0) = true := by simp; omega
          obtain ⟨hi, hhi⟩ : ∃ hi, hi = min xs.length (t + n) := ⟨_, rfl⟩
          have m1 : (if (xs.length : Int) < (t : Int) + (n : Int) then (xs.length : Int) else (t : Int) + (n : Int)) = (hi : Int) := by split <;> omega
          have m2 : (if (t : Int) + (n : Int) < (xs.length : Int) then (t : Int) + (n : Int) else (xs.length : Int)) = (hi : Int) := by split <;> omega
          have m3 : t ≤ hi := by omega
          have m4 : hi ≤ xs.length := by omega
          have hcap := r1.1.cap
          clear hhi
          go_wp2_with (first
            | (refine wpList_slice rfl 22 (.tmp 54) (some (.tmp 55)) (some (.tmp 61)) rfl a1 xs.length c1 t hi rfl (.inr ⟨_, rfl, rfl⟩) (.inr ⟨_, rfl, rfl⟩) (by kernel_rfl) (by kernel_rfl) m3 m4 hcap ?_; intro q hq)
            | (go_at_call 10; refine held ?_))
          unfold Held
          obtain ⟨hsub, hsubb⟩ := (r1.below hbr).sub t hi m3 m4
          rw [hq] at hsub hsubb
          have hgb : ¬ blockOf (.slice q (hi - t) (c1 - t)) g := fun h => by have := r1.lt g (hsubb g h); omega
          refine (write_ring wr g m bs q (hi - t) (c1 - t) _ hIr (hsub.mono hbr.size) hgb (by omega)).mono ?_
          rintro e w3 ⟨rfl, hI3, hW3⟩
          have hb3 := hbr.trans (below_of_wr hW3 hgw hbr.size)
          obtain ⟨kk, hkk⟩ : ∃ kk, kk = min (hi - t) (m - bs.length) := ⟨_, rfl⟩
          rw [← hkk]
          have hob : out ++ bs = xs.take t := HB
          have hI3' : IsRing w3 g m (bs ++ (xs.drop t).take kk) := by rw [List.take_take, Nat.min_comm, ← hkk] at hI3; exact hI3
          have hm64 := hIr.most_le
          have hob2 : out ++ (bs ++ (xs.drop t).take kk) = xs.take (t + kk) := by rw [← List.append_assoc, hob, List.take_add]
          have hml := hI3'.most_le
          obtain ⟨bs2, hbs2⟩ : ∃ bs2, bs2 = bs ++ (xs.drop t).take kk := ⟨_, rfl⟩
          have hbl : bs2.length = bs.length + kk := by rw [hbs2, List.length_append, List.length_take, List.length_drop]; omega
          rw [← hbs2] at hI3' hob2 hml
          obtain ⟨L, hL⟩ : ∃ L, L = bs2.length := ⟨_, rfl⟩
          obtain ⟨R, hR⟩ : ∃ R, R = m - L := ⟨_, rfl⟩
          have f1 : ((L : Int) + (R : Int) != (m : Int)) = false := by simp; omega
          have f2 : ((O : Int) + (L : Int) != (t : Int) + (kk : Int)) = false := by simp; omega
          have cl := fun W hW => len_ring W g m bs2 hW
          have cr := fun W hW => room_ring W g m bs2 hW
          have cc := fun W hW => cap_ring W g m bs2 hW
          rw [← hL] at cl cr
          rw [← hR] at cr
          have b1 : L ≤ 64 := by omega
          have b2 : R ≤ 64 := by omega
          have b3 : kk ≤ 2000 := by omega
          have b4 : t + kk ≤ xs.length := by omega
          have b5 : O ≤ 2000 := by omega
          have HB2 := Lib.hid hob2
          clear hkk hI3 hob hob2 hbs2 hbl hL hR hq hsub hsubb hgb m1 m2 hml
          go_wp2_with (first
            | (go_at_call 12; refine (cl _ hI3').mono ?_; rintro e w4 ⟨rfl, rfl⟩)
            | (go_at_call 13; refine (cr _ hI3').mono ?_; rintro e w4 ⟨rfl, rfl⟩)
            | (go_at_call 14; refine (cc _ hI3').mono ?_; rintro e w4 ⟨rfl, rfl⟩))
          go_roundw
          case rel => exact ⟨k + 1, t + kk, out, bs2, by go_num, by go_num, rfl, by omega, b4, HB2, hI3', hb3⟩
          case measure => simp [intOf]; omega
        · have t4 : decide ((k : Int) % 2 = 0) = false := by simp; omega
          have t5 : ((k : Int) % 2 == 0) = false := by simp; omega
          go_wp2_with (go_at_call 11; refine held ?_)
          unfold Held
          refine (read_ring wr g m bs n hIr).mono ?_
          rintro e w3 ⟨⟨v, rfl, ho, _⟩, hI3, hW3⟩
          rw [Int.toNat_natCast] at ho hI3
          have cv := OwnBytes.conv ho
          have hb3 := hbr.trans (below_of_wr hW3 hgw hbr.size)
          have hob : out ++ bs = xs.take t := HB
          have hOl : O = out.length := HO
          obtain ⟨rs, hrs⟩ : ∃ rs, rs = bs.take n := ⟨_, rfl⟩
          obtain ⟨bs2, hbs2⟩ : ∃ bs2, bs2 = bs.drop n := ⟨_, rfl⟩
          have hob2 : (out ++ rs) ++ bs2 = xs.take t := by rw [List.append_assoc, hrs, hbs2, List.take_append_drop, hob]
          have hbl : rs.length + bs2.length = bs.length := by rw [hrs, hbs2, List.length_take, List.length_drop]; omega
          rw [← hrs] at cv
          rw [← hbs2] at hI3
          have hml := hI3.most_le
          have ha := fun W => strAdd (P := Try.prog) out rs (by simp only [maxLen]; omega) W
          have hsz2 : (strOfNums (out ++ rs)).size = O + rs.length := by rw [strOfNums_size, List.length_append, hOl]
          obtain ⟨L, hL⟩ : ∃ L, L = bs2.length := ⟨_, rfl⟩
          obtain ⟨R, hR⟩ : ∃ R, R = m - L := ⟨_, rfl⟩
          obtain ⟨N, hN⟩ : ∃ N, N = rs.length := ⟨_, rfl⟩
          rw [← hN] at hsz2
          have f1 : ((L : Int) + (R : Int) != (m : Int)) = false := by simp; omega
          have f2 : ((O : Int) + (N : Int) + (L : Int) != (t : Int)) = false := by simp; omega
          have cl := fun W hW => len_ring W g m bs2 hW
          have cr := fun W hW => room_ring W g m bs2 hW
          have cc := fun W hW => cap_ring W g m bs2 hW
          rw [← hL] at cl cr
          rw [← hR] at cr
          have b1 : L ≤ 64 := by omega
          have b2 : R ≤ 64 := by omega
          have b3 : N ≤ 2000 := by omega
          have b5 : O ≤ 2000 := by omega
          have HB2 := Lib.hid hob2
          clear hob hob2 hbs2 hrs hbl hL hR hml ho hN hOl
          go_wp2_with (first
            | (go_at_call 12; refine (cl _ hI3).mono ?_; rintro e w4 ⟨rfl, rfl⟩)
            | (go_at_call 13; refine (cr _ hI3).mono ?_; rintro e w4 ⟨rfl, rfl⟩)
            | (go_at_call 14; refine (cc _ hI3).mono ?_; rintro e w4 ⟨rfl, rfl⟩))
          go_roundw
          case rel => exact ⟨k + 1, t, out ++ rs, bs2, by go_num, by go_num, rfl, by omega, by omega, HB2, hI3, hb3⟩
          case measure => simp [intOf]; omega
      · have t3 : decide ((k : Int) < (ps.length : Int)) = false := by simp; omega
        have ha := fun W => strAdd (P := Try.prog) out bs (by simp only [maxLen]; omega) W
        rw [hob] at ha
        have hcap := r1.1.cap
        have HB := Lib.hid hob
        clear hob
        go_wp2_with (go_at_call 15; refine held ?_)
        unfold Held
        refine (all_ring wr g m bs hIr).mono ?_
        rintro e w3 ⟨⟨v, rfl, ho, _⟩, hb3⟩
        have cv := OwnBytes.conv ho
        have hb4 := hbr.trans (hb3.mono hbr.size)
        obtain ⟨hsub, _⟩ := (r1.below hb4).sub 0 t (Nat.zero_le _) ht
        rw [Nat.sub_zero, List.drop_zero] at hsub
        go_wp2_with (refine wpList_slice (by rfl) 22 (.tmp 97) none (some (.tmp 98)) rfl a1 xs.length c1 0 t rfl (.inl ⟨rfl, rfl⟩) (.inr ⟨_, rfl, rfl⟩) (by kernel_rfl) (by kernel_rfl) (Nat.zero_le _) ht hcap ?_; intro q hq; rw [Nat.sub_zero, Nat.sub_zero] at hq; rw [hq] at hsub; have cv2 := convRow (P := Try.prog) hsub.1 22 5 9 Try.underlying22 Try.underlying5 Try.underlying9)
        go_ret
        exact ⟨rfl, hb4⟩
  · by_cases hx : xs.length ≤ 2000
    · have t1 : decide ((2000 : Int) < (xs.length : Int)) = false := by simp; omega
      have t2 : decide ((500 : Int) < (ps.length : Int)) = true := by simp; omega
      go_wp2_with (go_at_call 8; refine (alive_any w).mono ?_; rintro e w1 ⟨rfl, b1⟩)
      go_ret
      exact ⟨rfl, b1⟩
    · have t1 : decide ((2000 : Int) < (xs.length : Int)) = true := by simp; omega
      go_wp2_with (go_at_call 8; refine (alive_any w).mono ?_; rintro e w1 ⟨rfl, b1⟩)
      go_ret
      exact ⟨rfl, b1⟩
end Go.Proofs.Ytdnbinjinpnnmaa
