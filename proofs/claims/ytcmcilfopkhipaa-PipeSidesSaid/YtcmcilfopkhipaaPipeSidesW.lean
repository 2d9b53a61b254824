/- The walk of the law PipeSides. -/
import Derived.Test.YtcmcilfopkhipaaPipeOps
import Derived.Deep.Cut
import Derived.Deep.CutRange
import Derived.Deep.CutBlock
namespace Go.Proofs.Ytcmcilfopkhipaa
open Go Go.RowKit
set_option linter.unusedVariables false
set_option linter.unnecessarySimpa false
def readyR (m : Nat) (bs : List Int) (rd ws : Nat) (s : Bool) : Bool := decide (0 < cnt rd ws s) && !waitsB m bs rd ws s
theorem read1_cases (m : Nat) (bs : List Int) (rd ws : Nat) : ((readR bs rd ws 1).2.2 = 90 ∧ readyR m bs rd ws false = false) ∨ ((readR bs rd ws 1).2.2 = 0 ∧ (readR bs rd ws 1).2.1 = 1 ∧ readyR m bs rd ws false = false ∧ 0 < ws) ∨
    ((readR bs rd ws 1).2.2 = 0 ∧ readyR m bs rd ws false = true ∧ ((readR bs rd ws 1).2.1 = 2 ∨ (readR bs rd ws 1).2.1 = 0)) := by
  unfold readR readyR waitsB cnt
  by_cases h0 : rd = 0
  · subst h0; left; exact ⟨rfl, rfl⟩
  · have hp : 0 < rd := by omega
    by_cases hb : bs.length = 0 <;> by_cases hw : 0 < ws <;> simp [h0, hb, hw, hp]
theorem write1_cases (m : Nat) (bs : List Int) (rd ws : Nat) : ((writeR m bs rd ws 1).2.2 = 90 ∧ readyR m bs rd ws true = false) ∨ ((writeR m bs rd ws 1).2.2 = 0 ∧ (writeR m bs rd ws 1).2.1 = 1 ∧ readyR m bs rd ws true = false ∧ 0 < rd) ∨
    ((writeR m bs rd ws 1).2.2 = 0 ∧ readyR m bs rd ws true = true ∧ ((writeR m bs rd ws 1).2.1 = 3 ∨ (writeR m bs rd ws 1).2.1 = 0)) := by
  unfold writeR readyR waitsB cnt
  by_cases h0 : ws = 0
  · subst h0; left; exact ⟨rfl, rfl⟩
  · have hp : 0 < ws := by omega
    by_cases h1 : rd = 0
    · subst h1; right; right; simp [h0, hp]
    · have hq : 0 < rd := by omega
      by_cases hb : m - bs.length = 0 <;> simp [h0, h1, hb, hp, hq]
set_option maxRecDepth 100000 in
set_option maxHeartbeats 8000000 in
theorem pipeSides_any (w : World) (st : StV) (a1 : Option Addr) (l1 c1 : Nat) (o1 : List OpV) (hst : IsSt w.heap.size w st) (h1 : IsOps w.heap.size w a1 l1 c1 o1) :
    Calls Try.prog 5 #[.agg #[.int .i64 st.c, .slice st.a st.len st.cap, .int .i64 st.rd, .int .i64 st.wr], .slice a1 l1 c1] w fun e w' => e = .returned (.bool true) ∧ Below w.heap.size w w' := by
  have s1 := h1.small
  obtain ⟨W0, hW0⟩ : ∃ W0, W0 = w.alloc (.cells #[.int .i64 st.c, .slice st.a st.len st.cap, .int .i64 st.rd, .int .i64 st.wr] 36) := ⟨_, rfl⟩
  have hX0 : StAt W0 w.heap.size st := by rw [hW0]; exact World.alloc_heap_new w _
  have b0 : Below w.heap.size w W0 := by rw [hW0]; exact (Below.refl _ w).alloc (Nat.le_refl _) _
  have hxl : st.cap ≤ 9223372036854775807 ∧ st.len ≤ st.cap ∨ st.len = 0 := by
    rcases hst.row.1 with ⟨_, _, h, _⟩ | ⟨_, _, _, h, _, h5, h6, _⟩
    · injection h with e1 e2 e3; exact .inr e2
    · injection h with e1 e2 e3; simp only [maxLen] at h6; left; omega
  go_enter Try.func5, Try.ntmps5
  go_wp2_with (go_at_call 9; refine held ?_)
  unfold Held
  rw [← hW0]
  obtain ⟨sb, hsb⟩ : ∃ sb, sb = w.heap.size := ⟨_, rfl⟩
  rw [← hsb] at hX0 ⊢
  clear hW0 hsb
  refine (palive_any W0).mono ?_
  rintro e w1 ⟨rfl, b1⟩
  have hX1 := hX0.below b1
  have b1 := b0.trans (b1.mono b0.size)
  clear b0 hX0
  go_wp2_with (go_at_call 14; refine held ?_)
  unfold Held
  refine (great_any _ w1 a1 l1 c1 o1 (h1.below b1)).mono ?_
  rintro e w2 ⟨rfl, ⟨rfl, hl1, hk1⟩ | rfl⟩
  rotate_left
  · go_wp2
    go_ret
    exact ⟨rfl, b1⟩
  have y0 := hX1.c0
  have y1 := hX1.c1
  have y2 := hX1.c2
  have y3 := hX1.c3
  have hsr := (hst.row.below b1).mono b1.size
  obtain ⟨sc, sa, slen, scap, sxs, srd, swr⟩ := st
  simp only at y0 y1 y2 y3 hxl hsr
  by_cases hl : slen ≤ 200
  rotate_left
  · have t1 : decide ((200 : Int) < (slen : Int)) = true := by simp; omega
    go_wp2
    go_ret
    exact ⟨rfl, b1⟩
  have t1 : decide ((200 : Int) < (slen : Int)) = false := by simp; omega
  go_wp2_with (go_at_call 15; refine held ?_)
  unfold Held
  refine (pof_any sc sa slen scap sxs srd swr w1 hsr (by omega)).mono ?_
  rintro e w2 ⟨hbo, ⟨g1, g2, g3, g4, g5, g6, g7, g8, p, g, rfl, hP, hpw, hgw⟩ | ⟨_, rfl⟩ | ⟨_, _, rfl⟩⟩
  rotate_left
  · go_wp2
    go_ret
    exact ⟨rfl, b1.trans (hbo.mono b1.size)⟩
  · go_wp2
    go_ret
    exact ⟨rfl, b1.trans (hbo.mono b1.size)⟩
  have hpw : w.heap.size ≤ p := Nat.le_trans b1.size hpw
  have hgw : w.heap.size ≤ g := Nat.le_trans b1.size hgw
  have b2 := b1.trans (hbo.mono b1.size)
  obtain ⟨m, hm⟩ : ∃ m, m = sc.toNat := ⟨_, rfl⟩
  obtain ⟨rd, hrd⟩ : ∃ rd, rd = srd.toNat := ⟨_, rfl⟩
  obtain ⟨ws, hwr⟩ : ∃ ws, ws = swr.toNat := ⟨_, rfl⟩
  rw [← hm, ← hrd, ← hwr] at hP
  clear hm hrd hwr y0 y1 y2 y3 hX1 hsr hbo b1 hst
  go_wp2_with fail
  go_loopw [48] (fun i wld => ∃ (k : Nat) (bs : List Int) (rd ws : Nat), i = .int .i64 (k : Int) ∧ k ≤ l1 ∧ IsPipe wld p g m bs rd ws ∧ Below w.heap.size w wld) (fun i _ => l1 - (intOf i).toNat)
  case atStart => exact ⟨0, _, _, _, rfl, Nat.zero_le _, hP, b2⟩
  case round =>
    clear hP b2
    obtain ⟨k, bs, rd, ws, rfl, hk, hPr, hbr⟩ := hrel
    by_cases hlt : k < l1
    rotate_left
    · have t3 : decide ((k : Int) < (l1 : Int)) = false := by simp; omega
      go_wp2_with fail
      go_ret
      exact ⟨rfl, hbr⟩
    have t3 : decide ((k : Int) < (l1 : Int)) = true := by simp; omega
    obtain ⟨hol, h0 | ⟨b, off, rfl, hbl, h3, h4, hc⟩⟩ := h1.below hbr
    · omega
    obtain ⟨x1, x2, x3, x4, ho⟩ := hc k (by omega)
    have hol3 := hk1 _ (List.getElem_mem (by omega : k < o1.length))
    obtain ⟨o, he⟩ : ∃ o, o = o1[k] := ⟨_, rfl⟩
    rw [← he] at x1 x2 x3 x4 ho hol3
    have hgo : ¬ blockOf (.slice o.a o.len o.cap) g := fun h => by have := ho.row.lt g h; omega
    have hro := ho.row.mono hbr.size
    obtain ⟨ok, oa, olen, ocap, obs, on, ow⟩ := o
    simp only at x1 x2 x3 x4 hgo hro hol3
    clear hc he ho
    go_upto_block 2 with fail
    go_cut [] from 56 to 91 (fun wx => ∃ (bs : List Int) (rd ws : Nat), IsPipe wx p g m bs rd ws ∧ Below w.heap.size w wx)
    case first =>
      by_cases e0 : ok = 0
      · subst e0
        go_wp2_with (go_at_call 11; refine (pwrite_any _ p g m bs rd ws hPr oa olen ocap obs hro hgo (by omega)).mono ?_; rintro e w3 ⟨rfl, hP3, hw3⟩)
        go_meet
        exact ⟨_, _, _, hP3, hbr.trans (below_of_wr hw3 hgw hbr.size)⟩
      have u0 : (ok == 0) = false := by simpa using e0
      by_cases e1 : ok = 1
      · subst e1
        go_wp2_with (go_at_call 12; refine (pread_any _ p g m bs rd ws hPr on).mono ?_; rintro e w3 ⟨v3, rfl, ho3, hP3, hw3⟩)
        go_meet
        exact ⟨_, _, _, hP3, hbr.trans (below_of_wr hw3 hgw hbr.size)⟩
      have u1 : (ok == 1) = false := by simpa using e1
      by_cases e2 : ok = 2
      · subst e2
        have kO : Calls Try.prog 20 #[.pointer (some ⟨p, 0, none⟩), .bool ow] wr fun e W' => ∃ v rd ws, e = .returned v ∧ IsPipe W' p g m bs rd ws ∧ Below w.heap.size w W' :=
          (open_pipe_any wr p g m bs rd ws hPr ow).mono fun e W' h => by
            rcases h with ⟨_, rfl, rfl⟩ | ⟨_, _, rfl, hP3, hw3⟩
            · exact ⟨_, _, _, rfl, hPr, hbr⟩
            · exact ⟨_, _, _, rfl, hP3, hbr.trans (below_of_wr hw3 hpw hbr.size)⟩
        go_wp2_with (go_at_call 20; refine kO.mono ?_; rintro e w3 ⟨v3, rd3, ws3, rfl, hP3, hb3⟩)
        go_meet
        exact ⟨_, _, _, hP3, hb3⟩
      have u2 : (ok == 2) = false := by simpa using e2
      by_cases e3 : ok = 3
      · subst e3
        have kO : Calls Try.prog 13 #[.pointer (some ⟨p, 0, none⟩), .bool ow] wr fun e W' => ∃ v rd ws, e = .returned v ∧ IsPipe W' p g m bs rd ws ∧ Below w.heap.size w W' :=
          (close_pipe_any wr p g m bs rd ws hPr ow).mono fun e W' h => by
            rcases h with ⟨_, rfl, rfl⟩ | ⟨_, rfl, hP3, hw3⟩
            · exact ⟨_, _, _, rfl, hPr, hbr⟩
            · exact ⟨_, _, _, rfl, hP3, hbr.trans (below_of_wr hw3 hpw hbr.size)⟩
        go_wp2_with (go_at_call 13; refine kO.mono ?_; rintro e w3 ⟨v3, rd3, ws3, rfl, hP3, hb3⟩)
        go_meet
        exact ⟨_, _, _, hP3, hb3⟩
      have u3 : (ok == 3) = false := by simpa using e3
      go_wp2_with fail
      go_meet
      exact ⟨_, _, _, hPr, hbr⟩
    case rest =>
      clear hPr hbr hro x1 x2 x3 x4
      obtain ⟨bs, rd, ws, hPr, hbr⟩ := hcut
      have kc := fun (w : World) (C : Array Value) (n c : Nat) => Lib.run_convert_bytes_const (P := Try.prog) w 22 5 C n c Try.underlying22 Try.underlying5
      go_wp2_with (go_at_call 22; refine (pcopy_any _ p g m bs rd ws hPr).mono ?_; rintro e w2 ⟨q, h, rfl, hQ2, hq2, hh2, hb2⟩; refine held ?_)
      unfold Held
      have hlt2 := hPr.lt
      have hP2 := hPr.below hb2
      have b2 := hbr.trans (hb2.mono hbr.size)
      have hhw : w.heap.size ≤ h := Nat.le_trans hbr.size hh2
      clear hb2 hPr
      obtain ⟨A, hA⟩ : ∃ A, A = (readR bs rd ws 1).2.1 := ⟨_, rfl⟩
      obtain ⟨F, hF⟩ : ∃ F, F = (readR bs rd ws 1).2.2 := ⟨_, rfl⟩
      have kr := pread_any w2 q h m bs rd ws hQ2 1
      rw [← hA, ← hF] at kr
      have HR := Lib.hid (read1_cases m bs rd ws)
      rw [← hA, ← hF] at HR
      clear hA hF
      go_wp2_with (go_at_call 12; refine kr.mono ?_; rintro e w3 ⟨v3, rfl, ho3, _, hw3⟩; refine held ?_)
      unfold Held
      have hP3 : IsPipe w3 p g m bs rd ws := hP2.same (hw3.block p hP2.lt.1 (by show ¬ p = h; omega)) (hw3.block g hP2.lt.2 (by show ¬ g = h; omega))
      have b3 := b2.trans (below_of_wr hw3 hhw b2.size)
      clear kr ho3 hw3 hP2 hQ2 hq2 hh2 hlt2 b2
      go_wp2_with (go_at_call 22; refine (pcopy_any _ p g m bs rd ws hP3).mono ?_; rintro e w4 ⟨q2, j, rfl, hQ4, hq4, hj4, hb4⟩; refine held ?_)
      unfold Held
      have hlt4 := hP3.lt
      have hP4 := hP3.below hb4
      have b4 := b3.trans (hb4.mono b3.size)
      have hjw : w.heap.size ≤ j := Nat.le_trans b3.size hj4
      have hr5 := Row8.built w4 5 (1, 2) [97] (by decide) (by decide) #[.int .u8 97] rfl 1 rfl
      have hQ5 : IsPipe (w4.alloc (.cells #[.int .u8 97] 5 (1, 2))) q2 j m bs rd ws := hQ4.below ((Below.refl _ w4).alloc (Nat.le_refl _) _)
      have hP5 : IsPipe (w4.alloc (.cells #[.int .u8 97] 5 (1, 2))) p g m bs rd ws := hP4.below ((Below.refl _ w4).alloc (Nat.le_refl _) _)
      have b5 : Below w.heap.size w (w4.alloc (.cells #[.int .u8 97] 5 (1, 2))) := b4.alloc b4.size _
      have hjl := hQ4.lt
      have kw := pwrite_any _ q2 j m bs rd ws hQ5 _ _ _ _ hr5 (by rintro ⟨_, h⟩; simp at h; omega) (by decide)
      obtain ⟨B1, hB1⟩ : ∃ B1, B1 = (writeR m bs rd ws 1).1 := ⟨_, rfl⟩
      obtain ⟨B, hB⟩ : ∃ B, B = (writeR m bs rd ws 1).2.1 := ⟨_, rfl⟩
      obtain ⟨G, hG⟩ : ∃ G, G = (writeR m bs rd ws 1).2.2 := ⟨_, rfl⟩
      rw [← hB1, ← hB, ← hG] at kw
      have HW := Lib.hid (write1_cases m bs rd ws)
      rw [← hB, ← hG] at HW
      clear hB1 hB hG hb4 hP3
      go_wp2_with (go_at_call 11; refine kw.mono ?_; rintro e w6 ⟨rfl, _, hw6⟩; refine held ?_)
      unfold Held
      have hP6 : IsPipe w6 p g m bs rd ws := hP5.same (hw6.block p hP5.lt.1 (by show ¬ p = j; omega)) (hw6.block g hP5.lt.2 (by show ¬ g = j; omega))
      have b6 := b5.trans (below_of_wr hw6 hjw b5.size)
      clear kw hr5 hQ5 hP5 b5 hw6 hQ4 hP4 hq4 hj4 hlt4 b4 b3 hjl kc
      go_upto_region 23 with fail
      go_cut [135] from 110 to 135 (fun s wx => s = .bool false ∧ IsPipe wx p g m bs rd ws ∧ Below w.heap.size w wx)
      case first =>
        obtain ⟨R, hR⟩ : ∃ R, R = readyR m bs rd ws false := ⟨_, rfl⟩
        have kR : Calls Try.prog 23 #[.pointer (some ⟨p, 0, none⟩), .bool false] w6 fun e W' => e = .returned (.bool R) ∧ IsPipe W' p g m bs rd ws ∧ Below w.heap.size w W' :=
          (ready_any w6 p g m bs rd ws hP6 false).mono fun e W' h => ⟨by rw [hR]; exact h.1, hP6.below h.2, b6.trans (h.2.mono b6.size)⟩
        have hcs : (F = 90 ∧ R = false) ∨ (F = 0 ∧ A = 1 ∧ R = false ∧ 0 < ws) ∨ (F = 0 ∧ R = true ∧ (A = 2 ∨ A = 0)) := by rw [hR]; exact HR
        clear hR HR HW
        rcases hcs with ⟨rfl, rfl⟩ | ⟨rfl, rfl, rfl, hws⟩ | ⟨rfl, rfl, hA⟩
        · go_wp2_with (go_at_call 23; refine kR.mono ?_; rintro e w7 ⟨rfl, hP7, b7⟩)
          go_meet
          exact ⟨rfl, hP7, b7⟩
        · have z0 : ((ws : Int) == 0) = false := by simp; omega
          go_wp2_with (first
            | (go_at_call 23; refine kR.mono ?_; rintro e w7 ⟨rfl, hP7, b7⟩)
            | (go_at_call 18; refine (writers_any _ p g m bs rd ws hP7).mono ?_; rintro e w8 ⟨rfl, rfl⟩))
          go_meet
          exact ⟨rfl, hP7, b7⟩
        · have z1 : (A == 1) = false := by rcases hA with rfl | rfl <;> rfl
          clear hA
          by_cases hws : ws = 0
          · have z0 : ((ws : Int) == 0) = true := by simp; omega
            go_wp2_with (first
              | (go_at_call 23; refine kR.mono ?_; rintro e w7 ⟨rfl, hP7, b7⟩)
              | (go_at_call 18; refine (writers_any _ p g m bs rd ws hP7).mono ?_; rintro e w8 ⟨rfl, rfl⟩))
            go_meet
            exact ⟨rfl, hP7, b7⟩
          · have z0 : ((ws : Int) == 0) = false := by simp; omega
            go_wp2_with (first
              | (go_at_call 23; refine kR.mono ?_; rintro e w7 ⟨rfl, hP7, b7⟩)
              | (go_at_call 18; refine (writers_any _ p g m bs rd ws hP7).mono ?_; rintro e w8 ⟨rfl, rfl⟩))
            go_meet
            exact ⟨rfl, hP7, b7⟩
      case rest =>
        clear hP6 b6 HR
        obtain ⟨rfl, hP6, b6⟩ := hcut
        go_upto_region 25 with fail
        go_cut [161] from 136 to 161 (fun s wx => s = .bool false ∧ IsPipe wx p g m bs rd ws ∧ Below w.heap.size w wx)
        case first =>
          obtain ⟨R, hR⟩ : ∃ R, R = readyR m bs rd ws true := ⟨_, rfl⟩
          have kR : ∀ V, IsPipe V p g m bs rd ws → Below w.heap.size w V → Calls Try.prog 23 #[.pointer (some ⟨p, 0, none⟩), .bool true] V fun e W' => e = .returned (.bool R) ∧ IsPipe W' p g m bs rd ws ∧ Below w.heap.size w W' :=
            fun V hV bV => (ready_any V p g m bs rd ws hV true).mono fun e W' h => ⟨by rw [hR]; exact h.1, hV.below h.2, bV.trans (h.2.mono bV.size)⟩
          have hcs : (G = 90 ∧ R = false) ∨ (G = 0 ∧ B = 1 ∧ R = false ∧ 0 < rd) ∨ (G = 0 ∧ R = true ∧ (B = 3 ∨ B = 0)) := by rw [hR]; exact HW
          clear hR HW
          rcases hcs with ⟨rfl, rfl⟩ | ⟨rfl, rfl, rfl, hrd⟩ | ⟨rfl, rfl, hB⟩
          · go_wp2_with (go_at_call 23; refine (kR _ hP6 b6).mono ?_; rintro e w7 ⟨rfl, hP7, b7⟩)
            go_meet
            exact ⟨rfl, hP7, b7⟩
          · have z0 : ((rd : Int) == 0) = false := by simp; omega
            go_wp2_with (first
              | (go_at_call 23; refine (kR _ hP6 b6).mono ?_; rintro e w7 ⟨rfl, hP7, b7⟩)
              | (go_at_call 17; refine (readers_any _ p g m bs rd ws hP7).mono ?_; rintro e w8 ⟨rfl, rfl⟩))
            go_meet
            exact ⟨rfl, hP7, b7⟩
          · have z1 : (B == 1) = false := by rcases hB with rfl | rfl <;> rfl
            clear hB
            by_cases hrd : rd = 0
            · have z0 : ((rd : Int) == 0) = true := by simp; omega
              go_wp2_with (first
                | (go_at_call 23; refine (kR _ hP6 b6).mono ?_; rintro e w7 ⟨rfl, hP7, b7⟩)
                | (go_at_call 17; refine (readers_any _ p g m bs rd ws hP7).mono ?_; rintro e w8 ⟨rfl, rfl⟩))
              go_meet
              exact ⟨rfl, hP7, b7⟩
            · have z0 : ((rd : Int) == 0) = false := by simp; omega
              go_wp2_with (first
                | (go_at_call 23; refine (kR _ hP6 b6).mono ?_; rintro e w7 ⟨rfl, hP7, b7⟩)
                | (go_at_call 17; refine (readers_any _ p g m bs rd ws hP7).mono ?_; rintro e w8 ⟨rfl, rfl⟩))
              go_meet
              exact ⟨rfl, hP7, b7⟩
        case rest =>
          clear hP6 b6
          obtain ⟨rfl, hP6, b6⟩ := hcut
          go_wp2_with fail
          go_roundw
          case rel => exact ⟨k + 1, bs, rd, ws, by go_num, by omega, hP6, b6⟩
          case measure => simp [intOf]; omega
end Go.Proofs.Ytcmcilfopkhipaa
