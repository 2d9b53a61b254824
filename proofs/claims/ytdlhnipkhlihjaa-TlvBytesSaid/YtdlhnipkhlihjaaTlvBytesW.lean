/- The walk of the law TlvBytes. -/
import Derived.Test.YtdlhnipkhlihjaaTlvReadT
import Derived.Test.YtdlhnipkhlihjaaTlvRefSame
namespace Go.Proofs.Ytdlhnipkhlihjaa
open Go Go.RowKit
set_option linter.unusedVariables false
set_option linter.unnecessarySimpa false
set_option maxRecDepth 100000 in
set_option maxHeartbeats 8000000 in
theorem tlvBytes_any (w : World) (a1 : Option Addr) (l1 c1 : Nat) (f1 : Forest) (h1 : SlF w.heap.size w a1 l1 c1 f1) (a2 : Option Addr) (l2 c2 : Nat) (zs : List Int) (h2 : Row8 w.heap.size w (.slice a2 l2 c2) zs) :
    Calls Try.prog 7 #[.slice a1 l1 c1, .slice a2 l2 c2] w fun e w' => e = .returned (.bool true) ∧ Below w.heap.size w w' := by
  have hzl := h2.1.open.1
  go_enter Try.func7, Try.ntmps7
  go_wp2_with (go_at_call 11; refine held ?_)
  unfold Held
  refine (great_any f1 w w.heap.size a1 l1 c1 1 h1 (by omega)).mono ?_
  rintro e w1' ⟨⟨g1, rfl, _, hg1⟩, rfl⟩
  by_cases t1 : g1 ≤ 10000
  rotate_left
  · have t2 : decide ((10000 : Int) < (g1 : Int)) = true := by simp; omega
    go_wp2
    go_ret
    exact ⟨rfl, Below.refl _ _⟩
  have t2 : decide ((10000 : Int) < (g1 : Int)) = false := by simp; omega
  by_cases t3 : l2 ≤ 10000
  rotate_left
  · have t4 : decide ((10000 : Int) < (l2 : Int)) = true := by simp; omega
    clear hg1 h1 h2
    go_wp2
    go_ret
    exact ⟨rfl, Below.refl _ _⟩
  have t4 : decide ((10000 : Int) < (l2 : Int)) = false := by simp; omega
  have n1 : f1.cnt ≤ 10000 := by have := hg1 (by omega); omega
  clear hg1
  have cv := convRow (P := Try.prog) h2.1 25 5 9 Try.underlying25 Try.underlying5 Try.underlying9
  have KB1 := Lib.hid (tbytes_any f1 w a1 l1 c1 h1 (by omega))
  have H1 := Lib.hid h1
  have H2 := Lib.hid h2
  clear h1 h2
  go_wp2_with (go_at_call 12; refine held ?_)
  unfold Held
  refine Calls.mono KB1 ?_
  rintro e w1 ⟨v1, rfl, o1, b1⟩
  try dsimp only
  have KB2 := Lib.hid (rbytes_any f1 w1 a1 l1 c1 (((show SlF w.heap.size w a1 l1 c1 f1 from H1).below b1).mono b1.size) (by omega))
  clear KB1 cv
  go_wp2_with (go_at_call 22; refine held ?_)
  unfold Held
  refine Calls.mono KB2 ?_
  rintro e w2 ⟨v2, rfl, o2, b2⟩
  try dsimp only
  have o1' := ownsRow_same o1 fun q hq => b2.block q (o1.lt q hq).2
  have hb1 := b1.size
  replace b2 := below_step b1 b2
  have KR1 := Lib.hid (tRead_any zs w2 a2 l2 c2 (((show Row8 w.heap.size w (.slice a2 l2 c2) zs from H2).below b2).mono b2.size) (by omega))
  clear KB2 o1 b1
  go_wp2_with (go_at_call 21; refine held ?_)
  unfold Held
  refine Calls.mono KR1 ?_
  rintro e w3 ⟨b3, ra, rl, rc, E, rfl, hX⟩
  try dsimp only
  have o1 := ownsRow_same o1' fun q hq => b3.block q (by have := (o1'.lt q hq); have := (o1'.lt q hq).2; omega)
  have o2' := ownsRow_same o2 fun q hq => b3.block q (o2.lt q hq).2
  have hb2 := b2.size
  have b3' := below_step b2 b3
  have KR2 := Lib.hid (rRead_any zs w3 a2 l2 c2 (((show Row8 w.heap.size w (.slice a2 l2 c2) zs from H2).below b3').mono b3'.size) (by omega))
  clear KR1
  go_wp2_with (go_at_call 23; refine held ?_)
  unfold Held
  refine Calls.mono KR2 ?_
  rintro e w4 ⟨b4, sa, sl, sc, E2, rfl, hY⟩
  try dsimp only
  have hb3 := b3.size
  have b4' := below_step b3' b4
  -- both are the same fields
  obtain ⟨g, hE, hXs, hYs⟩ : ∃ g : Forest, E2 = E ∧ SlF w3.heap.size w3 ra rl rc g ∧ SlF w4.heap.size w4 sa sl sc g := by
    rcases hX with ⟨hn, rfl, rfl, rfl, rfl⟩ | ⟨f, hf, rfl, hs⟩
    · rcases hY with ⟨_, rfl, rfl, rfl, rfl⟩ | ⟨f', hf', _⟩
      · exact ⟨.nil, rfl, ⟨rfl, .inl rfl⟩, ⟨rfl, .inl rfl⟩⟩
      · rw [hn] at hf'; cases hf'
    · rcases hY with ⟨hn, _⟩ | ⟨f', hf', rfl, hs'⟩
      · rw [hn] at hf; cases hf
      · rw [hf] at hf'
        injection hf' with hf'
        subst hf'
        exact ⟨f, rfl, hs, hs'⟩
  subst hE
  have hb4 := b4.size
  have hXs4 : SlF w4.heap.size w4 ra rl rc g := (hXs.below b4).mono hb4
  have o14 := ownsRow_same o1 fun q hq => b4.block q (by have := (o1.lt q hq).2; omega)
  have o24 := ownsRow_same o2' fun q hq => b4.block q (by have := (o2'.lt q hq).2; omega)
  have KC := Lib.hid (check_any f1 w4 a1 l1 c1 (((show SlF w.heap.size w a1 l1 c1 f1 from H1).below b4').mono b4'.size) (by omega))
  clear KR2 hX hY hXs o1 o2 o1' o2'
  go_wp2_with (go_at_call 24; refine held ?_)
  unfold Held
  refine Calls.mono KC ?_
  rintro e w5 ⟨rfl, b5⟩
  have b5' := below_step b4' b5
  have hb5 := b5.size
  have o15 := ownsRow_same o14 fun q hq => b5.block q (o14.lt q hq).2
  have o25 := ownsRow_same o24 fun q hq => b5.block q (o24.lt q hq).2
  have cv1 := convRow (P := Try.prog) (RowI.of_own o15).2 25 5 9 Try.underlying25 Try.underlying5 Try.underlying9
  have cv2 := convRow (P := Try.prog) (RowI.of_own o25).2 25 5 9 Try.underlying25 Try.underlying5 Try.underlying9
  obtain ⟨va2, vc2, rfl, _⟩ := ownsRow_slice o25
  have KS := Lib.hid (tsize_any f1 w5 a1 l1 c1 (((show SlF w.heap.size w a1 l1 c1 f1 from H1).below b5').mono b5'.size) (by omega))
  have SX := Lib.hid (And.intro ((hXs4.below b5).mono hb5) ((hYs.below b5).mono hb5))
  clear KC hXs4 hYs o14 o24 o15 o25
  go_wp2_with (go_at_call 25; refine held ?_)
  unfold Held
  refine Calls.mono KS ?_
  rintro e w6 ⟨rfl, b6⟩
  have b6' := below_step b5' b6
  have hb6 := b6.size
  obtain ⟨sx, sy⟩ := (show SlF w5.heap.size w5 ra rl rc g ∧ SlF w5.heap.size w5 sa sl sc g from SX)
  have KM := Lib.hid (rsame_any g g w6 w6.heap.size ra rl rc sa sl sc (Nat.le_refl _) ((sx.below b6).mono hb6) ((sy.below b6).mono hb6))
  have hsz := sizeR_out f1
  have hsz1 : (sizeR f1 == ((outB f1).length : Int)) = true := by simpa using hsz
  have HS := Lib.hid hsz
  clear KS SX sx sy cv1 cv2 hsz
  go_wp2_with (go_at_call 17; refine held ?_)
  unfold Held
  refine Calls.mono KM ?_
  rintro e w7 ⟨rr, rfl, hrr, b7⟩
  obtain rfl : rr = true := by simpa using hrr
  have b7' := below_step b6' b7
  have cv := convRow (P := Try.prog) ((show Row8 w.heap.size w (.slice a2 l2 c2) zs from H2).below b7').1 25 5 9 Try.underlying25 Try.underlying5 Try.underlying9
  clear KM hrr
  go_wp2
  go_ret
  exact ⟨rfl, b7'⟩
end Go.Proofs.Ytdlhnipkhlihjaa
