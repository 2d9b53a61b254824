/- The walk of the law FramesParts. -/
import Derived.Test.YtdacdfnfbknndaaFrmGrown
namespace Go.Proofs.Ytdacdfnfbknndaa
open Go Go.RowKit
attribute [local go_sem] upV_value upV_skip upV_enter
set_option linter.unusedVariables false
set_option linter.unnecessarySimpa false
set_option linter.unusedSimpArgs false
theorem readE_cases (fs : List Fr) (k off n : Int) : readE fs k off n = 0 ∨ readE fs k off n ≠ 0 := by by_cases h : readE fs k off n = 0 <;> simp [h]
theorem readE_zero {fs : List Fr} {k off n : Int} (h : readE fs k off n = 0) : ∃ (i : Nat) (hi : i < fs.length) (o m : Nat), k = i ∧ fs[i].n ≠ 0 ∧ off = o ∧ n = m ∧ o + m ≤ 64 := by
  unfold readE at h
  split at h
  · rename_i h1
    split at h
    · rename_i h2
      obtain ⟨i, hi, rfl, hn⟩ := okF_true h1
      obtain ⟨o, m, rfl, rfl, hm⟩ := inF_true h2
      exact ⟨i, hi, o, m, rfl, hn, rfl, rfl, hm⟩
    · cases h
  · cases h
theorem readE_of {fs : List Fr} {i : Nat} (hi : i < fs.length) (hn : fs[i].n ≠ 0) {o m : Nat} (hm : o + m ≤ 64) : readE fs i o m = 0 := by
  unfold readE
  rw [okF_at hi, decide_eq_true hn, if_pos rfl, if_pos]
  exact decide_eq_true ⟨by omega, by omega, by omega, by omega⟩
theorem readL_of {fs : List Fr} {i : Nat} (hi : i < fs.length) (hn : fs[i].n ≠ 0) {o m : Nat} (hm : o + m ≤ 64) : readL fs i o m = (fs[i].b.drop o).take m := by
  unfold readL
  rw [readE_of hi hn hm, if_pos rfl, frAt_at hi]
  simp
theorem readL_not {fs : List Fr} {k off n : Int} (h : readE fs k off n ≠ 0) : readL fs k off n = [] := by unfold readL; rw [if_neg h]
theorem readE_i64 (fs : List Fr) (k off n : Int) : readE fs k off n = 0 ∨ readE fs k off n = 2 ∨ readE fs k off n = 41 := by
  unfold readE
  split
  · split
    · exact .inl rfl
    · exact .inr (.inl rfl)
  · exact .inr (.inr rfl)
set_option maxRecDepth 100000 in
set_option maxHeartbeats 8000000 in
theorem framesParts_any (W : World) (a : Option Addr) (len cap : Nat) (os : List OpM) (h : IsOps W.heap.size W a len cap os) (x : OpM) (hx : IsOp W.heap.size W x) (cut : Int) (hc1 : 0 ≤ cut) (hc2 : cut ≤ 255) :
    Calls Try.prog 3 #[.slice a len cap, .agg #[.int .i64 x.k, .int .i64 x.f, .int .i64 x.o, .int .i64 x.n, .slice x.a x.len x.cap], .int .u8 cut] W fun e W' => e = .returned (.bool true) ∧ Below W.heap.size W W' := by
  obtain ⟨W1, hW1⟩ : ∃ W1, W1 = W.alloc (.cells #[.int .i64 x.k, .int .i64 x.f, .int .i64 x.o, .int .i64 x.n, .slice x.a x.len x.cap] 25) := ⟨_, rfl⟩
  have bW1 : Below W.heap.size W W1 := by rw [hW1]; exact (Below.refl _ W).alloc (Nat.le_refl _) _
  have x1 : BoxO W1 W.heap.size x := by rw [hW1]; exact BoxO.new W x
  go_enter Try.func3, Try.ntmps3
  go_wp2_with (go_at_call 10; refine held ?_)
  unfold Held
  rw [← hW1]
  clear hW1
  refine (alive_any W1).mono ?_
  rintro e w2 ⟨rfl, b2⟩
  have x2 := x1.below b2
  have bW2 := bW1.trans (b2.mono bW1.size)
  have h2 := (h.below bW2).mono bW2.size
  clear bW1 b2 x1
  go_wp2_with (go_at_call 11; refine held ?_)
  unfold Held
  refine (great_any _ w2 a len cap os h2).mono ?_
  rintro e w3 ⟨rfl, ⟨rfl, hl1, hl2⟩ | rfl⟩
  rotate_left
  · go_wp2
    go_ret
    exact ⟨rfl, bW2⟩
  have kg := grown_any w2 a len cap os h2 hl1 hl2
  go_wp2_with (go_at_call 12; refine held ?_)
  unfold Held
  refine kg.mono ?_
  rintro e w3 ⟨p, g, cp, rfl, hF, hg, hp, b3⟩
  have hol := h.1
  have hGl := growF_len 12 os
  obtain ⟨fs, hfs⟩ : ∃ fs, fs = growF 12 os := ⟨_, rfl⟩
  rw [← hfs] at hF hGl
  have x3 := x2.below b3
  have bW3 := bW2.trans (b3.mono bW2.size)
  clear hfs kg h2 b3 x2 bW2 h hx hl1 hl2
  obtain ⟨c0, c1, c2, c3, c4⟩ := x3.cells
  have hE := readE_i64 fs x.f x.o x.n
  have k3 := read_any p g cp fs x.f x.o x.n w3 hF
  have K3 := Lib.hid k3
  clear k3
  go_wp2_with (go_at_call 13; refine held ?_)
  unfold Held
  refine Calls.mono K3 ?_
  rintro e w4 ⟨v4, rfl, o4, b4⟩
  have x4 := x3.below b4
  have bW4 := bW3.trans (b4.mono bW3.size)
  have F4 := hF.below b4
  clear K3 c0 c1 c2 c3 c4 x3 b4 bW3 hF
  obtain ⟨c0, c1, c2, c3, c4⟩ := x4.cells
  obtain ⟨a4, k4, rfl, hop4⟩ := own_open o4
  by_cases h0 : readE fs x.f x.o x.n = 0
  rotate_left
  · have t1 : (readE fs x.f x.o x.n != 0) = true := by simpa using h0
    rw [readL_not h0]
    clear h0 hE
    go_wp2_with fail
    go_ret
    exact ⟨rfl, bW4⟩
  obtain ⟨i, hi, o, m, ef, hn, eo, en, hom⟩ := readE_zero h0
  obtain ⟨xk, xf, xo, xn, xa, xl, xc, xb⟩ := x
  simp only at ef eo en c0 c1 c2 c3 c4 o4 h0 hop4 ⊢
  subst ef eo en
  rw [h0]
  rw [readL_of hi hn hom] at o4 hop4 ⊢
  have h64 := F4.len.at hi
  have hLl : ((fs[i].b.drop o).take m).length = m := by rw [List.length_take, List.length_drop]; omega
  rw [hLl] at o4 hop4 ⊢
  obtain ⟨q, hq⟩ : ∃ q : Nat, q = cut.toNat % (m + 1) := ⟨_, rfl⟩
  have hqm : q ≤ m := by rw [hq]; have := Nat.mod_lt cut.toNat (show m + 1 > 0 by omega); omega
  obtain ⟨ct, rfl⟩ : ∃ ct : Nat, cut = ct := ⟨cut.toNat, by omega⟩
  rw [Int.toNat_natCast] at hq
  have hqi : ((ct : Int)).tmod ((m : Int) + 1) = (q : Int) := by rw [hq]; rfl
  have e5 := readE_of hi hn (show o + q ≤ 64 by omega)
  have l5 := readL_of hi hn (show o + q ≤ 64 by omega)
  have e6 := readE_of hi hn (show (o + q) + (m - q) ≤ 64 by omega)
  have l6 := readL_of hi hn (show (o + q) + (m - q) ≤ 64 by omega)
  have K5 := Lib.hid (fun (W' : World) (hf : FrAt W' p g cp fs) => by
    have := read_any p g cp fs i o q W' hf
    rw [e5, l5] at this
    exact this)
  have K6 := Lib.hid (fun (W' : World) (hf : FrAt W' p g cp fs) => by
    have := read_any p g cp fs i ((o + q : Nat) : Int) ((m - q : Nat) : Int) W' hf
    rw [e6, l6] at this
    rw [show ((o + q : Nat) : Int) = (o : Int) + (q : Int) by omega, show ((m - q : Nat) : Int) = (m : Int) - (q : Int) by omega] at this
    exact this)
  have hs : ((fs[i].b.drop o).take q) ++ ((fs[i].b.drop (o + q)).take (m - q)) = (fs[i].b.drop o).take m := by
    rw [← List.drop_drop, ← List.take_add, show q + (m - q) = m by omega]
  have hl5 : ((fs[i].b.drop o).take q).length = q := by rw [List.length_take, List.length_drop]; omega
  have hl6 : ((fs[i].b.drop (o + q)).take (m - q)).length = m - q := by rw [List.length_take, List.length_drop]; omega
  obtain ⟨L4, hL4⟩ : ∃ L, L = (fs[i].b.drop o).take m := ⟨_, rfl⟩
  obtain ⟨L5, hL5⟩ : ∃ L, L = (fs[i].b.drop o).take q := ⟨_, rfl⟩
  obtain ⟨L6, hL6⟩ : ∃ L, L = (fs[i].b.drop (o + q)).take (m - q) := ⟨_, rfl⟩
  rw [← hL4] at o4 hs hLl
  rw [← hL5] at K5 hs hl5
  rw [← hL6] at K6 hs hl6
  have ha := fun W => strAdd (P := Try.prog) L5 L6 (by simp only [maxLen]; omega) W
  rw [hs] at ha
  have HA := Lib.hid ha
  have H4 := Lib.hid o4
  have HX := Lib.hid hLl
  have H5 := Lib.hid hl5
  have H6 := Lib.hid hl6
  have HF := Lib.hid F4
  clear ha hs hL4 hL5 hL6 e5 l5 e6 l6 hn o4 h0 hE hLl hl5 hl6 hq hop4 h64 F4
  go_wp2_with (go_at_call 13; refine held ?_)
  unfold Held
  refine Calls.mono ((show ∀ W' (hf : FrAt W' p g cp fs), _ from K5) w4 HF) ?_
  rintro e w5 ⟨v5, rfl, o5, b5⟩
  have x5 := x4.below b5
  have bW5 := bW4.trans (b5.mono bW4.size)
  have F5 := FrAt.below HF b5
  have p4 := row_below H4 b5
  clear K5 c0 c1 c2 c3 c4 x4 b5 bW4 HF H4
  obtain ⟨c0, c1, c2, c3, c4⟩ := x5.cells
  obtain ⟨a5, k5, rfl, hop5⟩ := own_open o5
  clear hop5
  go_wp2_with (go_at_call 13; refine held ?_)
  unfold Held
  refine Calls.mono ((show ∀ W' (hf : FrAt W' p g cp fs), _ from K6) w5 F5) ?_
  rintro e w6 ⟨v6, rfl, o6, b6⟩
  have bW6 := bW5.trans (b6.mono bW5.size)
  have q4 := row_below p4 b6
  have q5 := row_below o5 b6
  clear K6 c0 c1 c2 c3 c4 x5 b6 bW5 F5 p4 o5
  obtain ⟨a6, k6, rfl, hop6⟩ := own_open o6
  have v4 := OwnBytes.conv (show w6.ownsRow _ _ _ _ L4.length _ by rw [show L4.length = m from HX]; exact q4)
  have v5 := OwnBytes.conv q5
  have v6 := OwnBytes.conv o6
  have ha := (show ∀ W, _ from HA)
  clear q4 q5 o6 hop6
  go_wp2
  go_ret
  exact ⟨rfl, bW6⟩
end Go.Proofs.Ytdacdfnfbknndaa
