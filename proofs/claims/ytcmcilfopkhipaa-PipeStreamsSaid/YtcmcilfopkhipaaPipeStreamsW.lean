/- The walk of the law PipeStreams. -/
import Derived.Test.YtcmcilfopkhipaaPipeAlive
namespace Go.Proofs.Ytcmcilfopkhipaa
open Go Go.RowKit
set_option linter.unusedVariables false
set_option linter.unnecessarySimpa false
set_option maxRecDepth 100000 in
set_option maxHeartbeats 8000000 in
theorem pipeStreams_any (w : World) (c : Int) (hc0 : 0 ≤ c) (hc1 : c ≤ 255) (a1 : Option Addr) (l1 c1 : Nat) (z1 : List Int) (a2 : Option Addr) (l2 c2 : Nat) (z2 : List Int) (h1 : IsRow .u8 w a1 l1 c1 z1) (h2 : IsRow .u8 w a2 l2 c2 z2) :
    Calls Try.prog 3 #[.int .u8 c, .slice a1 l1 c1, .slice a2 l2 c2] w fun e w' => e = .returned (.bool true) ∧ Below w.heap.size w w' := by
  have r1 := h1.row8
  have r2 := h2.row8
  have e1 : (z1.take l1).length = l1 := h1.row.1
  have e2 : (z2.take l2).length = l2 := h2.row.1
  obtain ⟨xs, hxs⟩ : ∃ xs, xs = z1.take l1 := ⟨_, rfl⟩
  obtain ⟨ps, hps⟩ : ∃ ps, ps = z2.take l2 := ⟨_, rfl⟩
  rw [← hxs] at r1 e1
  rw [← hps] at r2 e2
  clear hxs hps h1 h2
  subst e1 e2
  obtain ⟨m, hm⟩ : ∃ m : Nat, 1 + c % 64 = (m : Int) := ⟨(1 + c % 64).toNat, by omega⟩
  have hm1 : 1 ≤ m := by omega
  have hm2 : m ≤ 64 := by omega
  go_enter Try.func3, Try.ntmps3
  by_cases hb : xs.length ≤ 1000 ∧ ps.length ≤ 300
  rotate_left
  · by_cases hx : xs.length ≤ 1000
    · have t1 : decide ((1000 : Int) < (xs.length : Int)) = false := by simp; omega
      have t2 : decide ((300 : Int) < (ps.length : Int)) = true := by simp; omega
      go_wp2_with (go_at_call 9; refine (palive_any w).mono ?_; rintro e w1 ⟨rfl, b1⟩)
      go_ret
      exact ⟨rfl, b1⟩
    · have t1 : decide ((1000 : Int) < (xs.length : Int)) = true := by simp; omega
      go_wp2_with (go_at_call 9; refine (palive_any w).mono ?_; rintro e w1 ⟨rfl, b1⟩)
      go_ret
      exact ⟨rfl, b1⟩
  obtain ⟨hb1, hb2⟩ := hb
  have t1 : decide ((1000 : Int) < (xs.length : Int)) = false := by simp; omega
  have t2 : decide ((300 : Int) < (ps.length : Int)) = false := by simp; omega
  go_wp2_with (first
    | (go_at_call 9; refine (palive_any w).mono ?_; rintro e w1 ⟨rfl, b1⟩)
    | (go_at_call 10; refine held ?_))
  unfold Held
  refine (pnew_any m w1 hm1 hm2).mono ?_
  rintro e w2 ⟨hbn, p, g, rfl, hP, hpw, hgw⟩
  have b2 := b1.trans (hbn.mono b1.size)
  have hpw : w.heap.size ≤ p := Nat.le_trans b1.size hpw
  have hgw : w.heap.size ≤ g := Nat.le_trans b1.size hgw
  clear hbn b1
  go_wp2_with fail
  go_loopw [10, 11, 51] (fun o t i wr => ∃ (k at' : Nat) (out bs : List Int), i = .int .i64 (k : Int) ∧ t = .int .i64 (at' : Int) ∧ o = .string (strOfNums out) ∧ k ≤ ps.length ∧ at' ≤ xs.length ∧ out ++ bs = xs.take at' ∧ IsPipe wr p g m bs 1 1 ∧ Below w.heap.size w wr) (fun _ _ i _ => ps.length - (intOf i).toNat)
  case atStart => exact ⟨0, 0, [], [], rfl, rfl, rfl, Nat.zero_le _, Nat.zero_le _, by simp, hP, b2⟩
  case round =>
    clear hP b2
    obtain ⟨k, t, out, bs, rfl, rfl, rfl, hk, ht, hob, hPr, hbr⟩ := hrel
    have hol : out.length + bs.length = t := by
      have := congrArg List.length hob
      rw [List.length_append, List.length_take] at this; omega
    by_cases hlt : k < ps.length
    · have hz2 := r2.2 _ (List.getElem_mem hlt)
      rw [← getD_at _ _ hlt] at hz2
      obtain ⟨hlen2, bb, boff, hopen2, hc2⟩ := r2.1.open
      obtain ⟨rfl, hbn2, _, _⟩ := hopen2 (by omega)
      have hck : wr.cell? ⟨bb, boff + k, none⟩ = some (.int .u8 (ps.getD k 0)) := (hbr.cell (p := ⟨bb, boff + k, none⟩) hbn2).trans (hc2 k hlt)
      obtain ⟨n, hn⟩ : ∃ n : Nat, ps.getD k 0 % 40 = (n : Int) := ⟨(ps.getD k 0 % 40).toNat, by omega⟩
      have hn40 : n < 40 := by omega
      obtain ⟨x, hx⟩ : ∃ x, x = ps.getD k 0 := ⟨_, rfl⟩
      rw [← hx] at hck hn hz2
      have t3 : decide ((k : Int) < (ps.length : Int)) = true := by simp; omega
      have HB := Lib.hid hob
      have hml := hPr.ring.most_le
      clear hx hob hc2
      by_cases h2 : k % 2 = 0
      · have t4 : decide ((k : Int) % 2 = 0) = true := by simp; omega
        have t5 : ((k : Int) % 2 == 0) = true := by simp; omega
        obtain ⟨hi, hhi⟩ : ∃ hi, hi = min xs.length (t + n) := ⟨_, rfl⟩
        have m1 : (if (xs.length : Int) < (t : Int) + (n : Int) then (xs.length : Int) else (t : Int) + (n : Int)) = (hi : Int) := by split <;> omega
        have m2 : (if (t : Int) + (n : Int) < (xs.length : Int) then (t : Int) + (n : Int) else (xs.length : Int)) = (hi : Int) := by split <;> omega
        have m3 : t ≤ hi := by omega
        have m4 : hi ≤ xs.length := by omega
        have hcap := r1.1.cap
        clear hhi
        go_wp2_with (first
          | (refine wpList_slice (by rfl) 22 (.tmp 63) (some (.tmp 64)) (some (.tmp 70)) rfl a1 xs.length c1 t hi rfl (.inr ⟨_, rfl, rfl⟩) (.inr ⟨_, rfl, rfl⟩) (by kernel_rfl) (by kernel_rfl) m3 m4 hcap ?_; intro q hq)
          | (go_at_call 11; refine held ?_))
        unfold Held
        obtain ⟨hsub, hsubb⟩ := (r1.below hbr).sub t hi m3 m4
        rw [hq] at hsub hsubb
        have hgb : ¬ blockOf (.slice q (hi - t) (c1 - t)) g := fun h => by have := r1.lt g (hsubb g h); omega
        refine (pwrite_any wr p g m bs 1 1 hPr q (hi - t) (c1 - t) _ (hsub.mono hbr.size) hgb (by omega)).mono ?_
        rintro e w3 ⟨rfl, hP3, hw3⟩
        have hb3 := hbr.trans (below_of_wr hw3 hgw hbr.size)
        have hob : out ++ bs = xs.take t := HB
        obtain ⟨D, hD⟩ : ∃ D, D = hi - t := ⟨_, rfl⟩
        rw [← hD]
        have ebs : writeBs m bs 1 1 ((xs.drop t).take (hi - t)) = bs ++ ((xs.drop t).take (hi - t)).take (m - bs.length) := rfl
        rw [ebs, ← hD] at hP3
        by_cases hA : 0 < D ∧ m - bs.length = 0
        · rw [show writeR m bs 1 1 D = (0, 1, 0) from by unfold writeR; rw [if_neg (by decide), if_neg (by decide), if_pos hA]]
          rw [hA.2, List.take_zero, List.append_nil] at hP3
          have u1 : decide ((0 : Int) < (D : Int)) = true := by simp; omega
          clear ebs hsub hsubb hgb m1 m2 hD hob
          go_wp2_with fail
          go_roundw
          case rel => exact ⟨k + 1, t, out, bs, by go_num, by go_num, rfl, by omega, ht, HB, hP3, hb3⟩
          case measure => simp [intOf]; omega
        · obtain ⟨kk, hkk⟩ : ∃ kk, kk = min D (m - bs.length) := ⟨_, rfl⟩
          rw [show writeR m bs 1 1 D = ((kk : Int), 0, 0) from by unfold writeR; rw [if_neg (by decide), if_neg (by decide), if_neg hA, hkk]]
          have hP3' : IsPipe w3 p g m (bs ++ (xs.drop t).take kk) 1 1 := by rw [List.take_take, Nat.min_comm, ← hkk] at hP3; exact hP3
          have hob2 : out ++ (bs ++ (xs.drop t).take kk) = xs.take (t + kk) := by rw [← List.append_assoc, hob, List.take_add]
          have b3 : kk ≤ 1000 := by omega
          have b4 : t + kk ≤ xs.length := by omega
          have hz : D = 0 ∨ ¬ kk = 0 := by omega
          have HB2 := Lib.hid hob2
          rcases hz with hz | hz
          · obtain rfl : kk = 0 := by omega
            have hP4 : IsPipe w3 p g m bs 1 1 := by simpa using hP3'
            clear ebs hsub hsubb hgb m1 m2 hD hob hob2 hkk hP3 hA HB2 hP3' b4
            subst hz
            go_wp2_with fail
            go_roundw
            case rel => exact ⟨k + 1, t, out, bs, by go_num, by go_num, rfl, by omega, ht, HB, hP4, hb3⟩
            case measure => simp [intOf]; omega
          · have u1 : ((kk : Int) == 0) = false := by simpa using hz
            have hDp : 0 < D := by omega
            have u2 : decide ((0 : Int) < (D : Int)) = true := by simp; omega
            clear ebs hsub hsubb hgb m1 m2 hD hob hob2 hkk hP3 hA
            go_wp2_with fail
            go_roundw
            case rel => exact ⟨k + 1, t + kk, out, _, by go_num, by go_num, rfl, by omega, b4, HB2, hP3', hb3⟩
            case measure => simp [intOf]; omega
      · have t4 : decide ((k : Int) % 2 = 0) = false := by simp; omega
        have t5 : ((k : Int) % 2 == 0) = false := by simp; omega
        go_wp2_with (go_at_call 12; refine held ?_)
        unfold Held
        refine (pread_any wr p g m bs 1 1 hPr n).mono ?_
        rintro e w3 ⟨v, rfl, ho, hP3, hw3⟩
        have hb3 := hbr.trans (below_of_wr hw3 hgw hbr.size)
        have hob : out ++ bs = xs.take t := HB
        have ebs : readBs bs 1 (n : Int) = bs.drop n := by unfold readBs; rw [if_neg (by decide), Int.toNat_natCast]
        rw [ebs] at hP3
        by_cases hn0 : n = 0
        · subst hn0
          rw [show readR bs 1 1 ((0 : Nat) : Int) = ([], 0, 0) from rfl] at ho ⊢
          have cv := OwnBytes.conv ho
          obtain ⟨va, vc, rfl, _⟩ := ownsRow_slice ho
          have ha := strAdd (P := Try.prog) out [] (by simp only [maxLen, List.length_nil]; omega)
          rw [List.append_nil] at ha
          have cv' : (convert 22 9 (.slice va 0 vc)).run Try.prog w3 = .ok (.string (strOfNums [])) w3 := cv
          clear cv
          clear ho ebs hob
          go_wp2_with fail
          go_roundw
          case rel => exact ⟨k + 1, t, out, bs, by go_num, by go_num, rfl, by omega, ht, HB, hP3, hb3⟩
          case measure => simp [intOf]; omega
        · have u1 : decide ((0 : Int) < (n : Int)) = true := by simp; omega
          by_cases hb0 : bs.length = 0
          · have er : readR bs 1 1 (n : Int) = ([], 1, 0) := by
              unfold readR
              rw [if_neg (by decide), if_neg (by omega), if_neg (by omega), if_pos hb0, if_pos (by decide)]
            rw [er] at ho ⊢
            have cv := OwnBytes.conv ho
            obtain ⟨va, vc, rfl, _⟩ := ownsRow_slice ho
            have ha := strAdd (P := Try.prog) out [] (by simp only [maxLen, List.length_nil]; omega)
            rw [List.append_nil] at ha
            have cv' : (convert 22 9 (.slice va 0 vc)).run Try.prog w3 = .ok (.string (strOfNums [])) w3 := cv
            clear cv
            have ed : bs.drop n = bs := by rw [List.eq_nil_of_length_eq_zero hb0]; simp
            rw [ed] at hP3
            clear ho ebs hob er
            go_wp2_with fail
            go_roundw
            case rel => exact ⟨k + 1, t, out, bs, by go_num, by go_num, rfl, by omega, ht, HB, hP3, hb3⟩
            case measure => simp [intOf]; omega
          · have er : readR bs 1 1 (n : Int) = (bs.take n, 0, 0) := by
              unfold readR
              rw [if_neg (by decide), if_neg (by omega), if_neg (by omega), if_neg hb0, Int.toNat_natCast]
            rw [er] at ho ⊢
            have cv := OwnBytes.conv ho
            obtain ⟨rs, hrs⟩ : ∃ rs, rs = bs.take n := ⟨_, rfl⟩
            have hrl : ¬ rs.length = 0 := by rw [hrs, List.length_take]; omega
            have hrl2 : rs.length ≤ 64 := by rw [hrs, List.length_take]; omega
            have hob2 : (out ++ rs) ++ bs.drop n = xs.take t := by rw [List.append_assoc, hrs, List.take_append_drop, hob]
            simp only [← hrs] at ho cv ⊢
            obtain ⟨va, vc, rfl, _⟩ := ownsRow_slice ho
            have ha := strAdd (P := Try.prog) out rs (by simp only [maxLen]; omega)
            obtain ⟨N, hN⟩ : ∃ N, N = rs.length := ⟨_, rfl⟩
            rw [← hN] at cv ⊢
            have u2 : ((N : Int) == 0) = false := by simp; omega
            have HB2 := Lib.hid hob2
            clear ho ebs hob er hob2 hrs hrl hrl2 hN
            go_wp2_with fail
            go_roundw
            case rel => exact ⟨k + 1, t, out ++ rs, bs.drop n, by go_num, by go_num, rfl, by omega, ht, HB2, hP3, hb3⟩
            case measure => simp [intOf]; omega
    · have t3 : decide ((k : Int) < (ps.length : Int)) = false := by simp; omega
      have hcap := r1.1.cap
      have hml := hPr.ring.most_le
      have kc := close_pipe_any wr p g m bs 1 1 hPr true
      have HB := Lib.hid hob
      clear hob
      go_wp2_with (go_at_call 13; refine held ?_)
      unfold Held
      refine kc.mono ?_
      rintro e w3 (⟨h0, _⟩ | ⟨_, rfl, hP3, hw3⟩)
      · exact absurd h0 (by decide)
      have hP3' : IsPipe w3 p g m bs 1 0 := hP3
      have hb3 : Below w.heap.size w w3 := hbr.trans (below_of_wr hw3 hpw hbr.size)
      have hob : out ++ bs = xs.take t := HB
      clear kc hP3 hw3 hPr hbr
      go_wp2_with fail
      go_loopw [10, 21] (fun o i wr => ∃ (j : Nat) (out bs : List Int), i = .int .i64 (j : Int) ∧ o = .string (strOfNums out) ∧ j ≤ 70 ∧ bs.length ≤ 64 - j ∧ out ++ bs = xs.take t ∧ IsPipe wr p g m bs 1 0 ∧ Below w.heap.size w wr) (fun _ i _ => 70 - (intOf i).toNat)
      case atStart => exact ⟨0, out, bs, rfl, rfl, by omega, by omega, hob, hP3', hb3⟩
      case round =>
        clear HB hob hP3' hb3 hol
        obtain ⟨j, out, bs, rfl, rfl, hj, hbj, hob, hPr, hbr⟩ := hrel
        have hol : out.length + bs.length = t := by
          have := congrArg List.length hob
          rw [List.length_append, List.length_take] at this; omega
        by_cases hlt : j < 70
        · have t3 : decide ((j : Int) < 70) = true := by simp; omega
          have HB := Lib.hid hob
          go_wp2_with (go_at_call 12; refine held ?_)
          unfold Held
          refine (pread_any wr p g m bs 1 0 hPr 9).mono ?_
          rintro e w3 ⟨v, rfl, ho, hP3, hw3⟩
          have hb3 := hbr.trans (below_of_wr hw3 hgw hbr.size)
          have ebs : readBs bs 1 9 = bs.drop 9 := rfl
          rw [ebs] at hP3
          by_cases hb0 : bs.length = 0
          · obtain rfl : bs = [] := List.eq_nil_of_length_eq_zero hb0
            rw [show readR [] 1 0 9 = ([], 2, 0) from rfl] at ho ⊢
            have cv := OwnBytes.conv ho
            obtain ⟨va, vc, rfl, _⟩ := ownsRow_slice ho
            have ha := strAdd (P := Try.prog) out [] (by simp only [maxLen, List.length_nil]; omega)
            rw [List.append_nil] at ha
            have cv' : (convert 22 9 (.slice va 0 vc)).run Try.prog w3 = .ok (.string (strOfNums [])) w3 := cv
            clear cv
            have hsz : (strOfNums out).size = t := by rw [strOfNums_size]; simpa using hol
            clear ho ebs hob
            go_wp2_with fail
            go_roundw
            case rel => exact ⟨j + 1, out, [], by go_num, rfl, by omega, by simp, HB, hP3, hb3⟩
            case measure => simp [intOf]; omega
          · have er : readR bs 1 0 9 = (bs.take 9, 0, 0) := by
              unfold readR
              rw [if_neg (by decide), if_neg (by decide), if_neg (by decide), if_neg hb0]; rfl
            rw [er] at ho ⊢
            have cv := OwnBytes.conv ho
            obtain ⟨rs, hrs⟩ : ∃ rs, rs = bs.take 9 := ⟨_, rfl⟩
            have hrl : ¬ rs.length = 0 := by rw [hrs, List.length_take]; omega
            have hrl2 : rs.length ≤ 64 := by rw [hrs, List.length_take]; omega
            have hob2 : (out ++ rs) ++ bs.drop 9 = xs.take t := by rw [List.append_assoc, hrs, List.take_append_drop, hob]
            have hdl : (bs.drop 9).length ≤ 64 - (j + 1) := by rw [List.length_drop]; omega
            simp only [← hrs] at ho cv ⊢
            obtain ⟨va, vc, rfl, _⟩ := ownsRow_slice ho
            have ha := strAdd (P := Try.prog) out rs (by simp only [maxLen]; omega)
            obtain ⟨N, hN⟩ : ∃ N, N = rs.length := ⟨_, rfl⟩
            rw [← hN] at cv ⊢
            have u2 : ((N : Int) == 0) = false := by simp; omega
            have HB2 := Lib.hid hob2
            clear ho ebs hob er hob2 hrs hrl hrl2 hN
            go_wp2_with fail
            go_roundw
            case rel => exact ⟨j + 1, out ++ rs, bs.drop 9, by go_num, rfl, by omega, hdl, HB2, hP3, hb3⟩
            case measure => simp [intOf]; omega
        · have t3 : decide ((j : Int) < 70) = false := by simp; omega
          obtain rfl : bs = [] := List.eq_nil_of_length_eq_zero (by omega)
          rw [List.append_nil] at hob
          subst hob
          obtain ⟨hsub, _⟩ := (r1.below hbr).sub 0 t (Nat.zero_le _) ht
          rw [Nat.sub_zero, List.drop_zero] at hsub
          go_wp2_with (refine wpList_slice (by rfl) 22 (.tmp 174) none (some (.tmp 175)) rfl a1 xs.length c1 0 t rfl (.inl ⟨rfl, rfl⟩) (.inr ⟨_, rfl, rfl⟩) (by kernel_rfl) (by kernel_rfl) (Nat.zero_le _) ht hcap ?_; intro q hq; rw [Nat.sub_zero, Nat.sub_zero] at hq; rw [hq] at hsub; have cv2 := convRow (P := Try.prog) hsub.1 22 5 9 Try.underlying22 Try.underlying5 Try.underlying9)
          go_ret
          exact ⟨rfl, hbr⟩
end Go.Proofs.Ytcmcilfopkhipaa
