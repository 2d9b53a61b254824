/- The walk of the law TlvBack. -/
import Derived.Test.YtdlhnipkhlihjaaTlvBackM
import Derived.Test.YtdlhnipkhlihjaaTlvRefSame
import Derived.Test.YtdlhnipkhlihjaaTlvJoinedW
import Derived.Deep.Cut
import Derived.Deep.CutRange
import Derived.Deep.CutBlock
namespace Go.Proofs.Ytdlhnipkhlihjaa
open Go Go.RowKit
set_option linter.unusedVariables false
set_option linter.unnecessarySimpa false
set_option maxRecDepth 100000 in
set_option maxHeartbeats 8000000 in
theorem tlvBack_any (w : World) (a1 : Option Addr) (l1 c1 : Nat) (f1 : Forest) (h1 : SlF w.heap.size w a1 l1 c1 f1) (a2 : Option Addr) (l2 c2 : Nat) (zs : List Int) (h2 : Row8 w.heap.size w (.slice a2 l2 c2) zs) (at_ : Nat) (hat : at_ ≤ 65535) :
    Calls Try.prog 6 #[.slice a1 l1 c1, .slice a2 l2 c2, .int .u16 (at_ : Int)] w fun e w' => e = .returned (.bool true) ∧ Below w.heap.size w w' := by
  have hzl := h2.1.open.1
  go_enter Try.func6, Try.ntmps6
  go_wp2_with (go_at_call 10; refine held ?_)
  unfold Held
  refine (alive_any w).mono ?_
  rintro e w1 ⟨rfl, b1⟩
  go_wp2_with (go_at_call 11; refine held ?_)
  unfold Held
  refine (great_any f1 w1 w.heap.size a1 l1 c1 1 (h1.below b1) (by omega)).mono ?_
  rintro e w1' ⟨⟨g1, rfl, _, hg1⟩, rfl⟩
  by_cases t1 : g1 ≤ 10000
  rotate_left
  · have t2 : decide ((10000 : Int) < (g1 : Int)) = true := by simp; omega
    go_wp2
    go_ret
    exact ⟨rfl, b1⟩
  have t2 : decide ((10000 : Int) < (g1 : Int)) = false := by simp; omega
  by_cases t3 : l2 ≤ 10000
  rotate_left
  · have t4 : decide ((10000 : Int) < (l2 : Int)) = true := by simp; omega
    clear hg1 h1 h2
    go_wp2
    go_ret
    exact ⟨rfl, b1⟩
  have t4 : decide ((10000 : Int) < (l2 : Int)) = false := by simp; omega
  have n1 : f1.cnt ≤ 10000 := by have := hg1 (by omega); omega
  clear hg1
  have hw1 := b1.size
  have KB := Lib.hid (tbytes_any f1 w1 a1 l1 c1 ((h1.below b1).mono b1.size) (by omega))
  have H1 := Lib.hid h1
  have H2 := Lib.hid h2
  clear h1 h2
  go_wp2_with (go_at_call 12; refine held ?_)
  unfold Held
  refine Calls.mono KB ?_
  rintro e w2 ⟨v2, rfl, o2, b2⟩
  try dsimp only
  have b2' := below_step b1 b2
  clear KB
  go_upto_if 38 with fail
  go_cut [10, 11, 12, 13] from 38 (fun _ _ _ _ wx => Below w.heap.size w wx)
  case first =>
    rcases tlvE_cases f1 with ⟨hE, _⟩ | ⟨hE, hsz⟩
    · have tq : (tlvE f1 == 0) = false := by rw [hE]; rfl
      clear hE
      go_wp2
      go_meet
      exact b2'
    have tq : (tlvE f1 == 0) = true := by rw [hE]; rfl
    have hoB : outB f1 = f1.layF := by unfold outB; rw [if_neg (by omega)]
    rw [hoB] at o2
    have HHE := Lib.hid hE
    have HOB := Lib.hid hoB
    have hlay := Forest.layF_le f1
    have hf1 : readL 1 f1.layF = some f1 := read_lay f1 1 0 (by decide) (Int.le_refl _) hsz
    have hby := (show SlF w.heap.size w a1 l1 c1 f1 from H1).bytes
    obtain ⟨va, vc, rfl, hva⟩ := ownsRow_slice o2
    have hr2 : Row8 w2.heap.size w2 (.slice va f1.layF.length vc) f1.layF := ⟨(RowI.of_own o2).2, hby⟩
    have KR := Lib.hid (tRead_any f1.layF w2 va f1.layF.length vc hr2 (by omega))
    have HF1 := Lib.hid hf1
    clear hE hoB hf1
    go_wp2_with (go_at_call 21; refine held ?_)
    unfold Held
    refine Calls.mono KR ?_
    rintro e w3 ⟨b3, ra, rl, rc, E, rfl, hX⟩
    try dsimp only
    obtain ⟨rfl, hS3⟩ : E = 0 ∧ SlF w3.heap.size w3 ra rl rc f1 := by
      rcases hX with ⟨hn, _⟩ | ⟨f', hf', rfl, hs⟩
      · rw [(show readL 1 f1.layF = some f1 from HF1)] at hn; cases hn
      · rw [(show readL 1 f1.layF = some f1 from HF1)] at hf'
        injection hf' with hf'
        subst hf'
        exact ⟨rfl, hs⟩
    have hw2 := b2'.size
    have b3' := below_step b2' b3
    have KS := Lib.hid (rsame_any f1 f1 w3 w3.heap.size a1 l1 c1 ra rl rc (Nat.le_refl _) (((show SlF w.heap.size w a1 l1 c1 f1 from H1).below b3').mono b3'.size) hS3)
    have hr3 := Lib.hid ((hr2.below b3).mono b3.size)
    clear KR hX hS3 o2 hr2
    go_wp2_with (go_at_call 17; refine held ?_)
    unfold Held
    refine Calls.mono KS ?_
    rintro e w4 ⟨rr, rfl, hrr, b4⟩
    obtain rfl : rr = true := by simpa using hrr
    have hw3 := b3'.size
    have b4' := below_step b3' b4
    clear KS hrr
    by_cases ho : l1 = 1
    rotate_left
    · have t5 : ((l1 : Int) == 1) = false := by simp; omega
      clear ho
      go_wp2
      go_meet
      exact b4'
    have t5 : ((l1 : Int) == 1) = true := by simp; omega
    obtain ⟨t, bs, k, hfc⟩ : ∃ t bs k, f1 = .cons t bs k .nil := by
      have h20 := (show SlF w.heap.size w a1 l1 c1 f1 from H1).1
      cases f1 with
      | nil => simp [Forest.length] at h20; omega
      | cons t bs k r =>
        have hr0 : r = .nil := Forest.len_nil (by simp only [Forest.length] at h20; omega)
        exact ⟨t, bs, k, by rw [hr0]⟩
    have hlen5 : 5 ≤ f1.layF.length := by
      rw [hfc, Forest.layF]
      simp only [List.length_append, List.length_cons, List.length_nil]
      omega
    have hcut := fun j h0 hj => read_cut t bs k (by rw [← hfc]; exact hsz) j h0 hj
    rw [← hfc] at hcut
    have HC := Lib.hid hcut
    have hjl : at_ % f1.layF.length < f1.layF.length := Nat.mod_lt _ (by omega)
    have hw4 := b4'.size
    have hr4 : Row8 w4.heap.size w4 (.slice va f1.layF.length vc) f1.layF := ((show Row8 w3.heap.size w3 (.slice va f1.layF.length vc) f1.layF from hr3).below b4).mono b4.size
    have hcap := hr4.1.cap
    have KR2 := Lib.hid (fun q (hq : sliced va 0 (at_ % f1.layF.length) vc 1 = .slice q (at_ % f1.layF.length) vc) => tRead_any (f1.layF.take (at_ % f1.layF.length)) w4 q (at_ % f1.layF.length) vc (by
      have h20 := (hr4.sub 0 (at_ % f1.layF.length) (Nat.zero_le _) (by omega)).1
      rw [hq] at h20
      exact h20) (by rw [List.length_take]; omega))
    have hle := Nat.le_of_lt hjl
    clear hfc hcut hby hsz hr4 hr3 ho
    go_wp2_with first
      | (refine wpList_slice (by rfl) 25 (.tmp 56) none (some (.tmp 61)) rfl va f1.layF.length vc 0 (at_ % f1.layF.length) rfl (.inl ⟨rfl, rfl⟩) (.inr ⟨_, rfl, rfl⟩) (by kernel_rfl) (by kernel_rfl) (Nat.zero_le _) hle hcap ?_; intro q hq)
      | (go_at_call 21; refine held ?_)
    unfold Held
    refine Calls.mono ((show ∀ q, sliced va 0 (at_ % f1.layF.length) vc 1 = .slice q (at_ % f1.layF.length) vc → _ from KR2) q hq) ?_
    rintro e w5 ⟨b5, sa, sl, sc, E, rfl, hX⟩
    try dsimp only
    have b5' := below_step b4' b5
    clear KR2 hq
    by_cases hj : at_ % f1.layF.length = 0
    · have hE : E = 0 := by
        rcases hX with ⟨hn, _⟩ | ⟨_, _, h, _⟩
        · rw [hj, List.take_zero, readL_nil] at hn; cases hn
        · exact h
      have t6 : ((at_ : Int) % (f1.layF.length : Int) == 0) = true := by simp; omega
      subst hE
      clear hX hj
      go_wp2
      go_meet
      exact b5'
    · have hE : E = 220 := by
        rcases hX with ⟨_, h, _⟩ | ⟨f', hf', _⟩
        · exact h
        · rw [(show ∀ j, 0 < j → j < f1.layF.length → readL 1 (f1.layF.take j) = none from HC) _ (by omega) hjl] at hf'
          cases hf'
      have t6 : ((at_ : Int) % (f1.layF.length : Int) == 0) = false := by simp; omega
      subst hE
      clear hX hj
      go_wp2
      go_meet
      exact b5'
  case rest =>
    have hww := hcut.size
    have KR := Lib.hid (tRead_any zs wc a2 l2 c2 (((show Row8 w.heap.size w (.slice a2 l2 c2) zs from H2).below hcut).mono hcut.size) (by omega))
    go_wp2_with (go_at_call 21; refine held ?_)
    unfold Held
    refine Calls.mono KR ?_
    rintro e w3 ⟨b3, ra, rl, rc, E, rfl, hX⟩
    try dsimp only
    have b3' := below_step hcut b3
    clear KR
    rcases hX with ⟨hn, rfl, rfl, rfl, rfl⟩ | ⟨f, hf, rfl, hs⟩
    · clear hn
      go_wp2
      go_ret
      exact ⟨rfl, b3'⟩
    have hcn := cnt_read _ 1 zs f (Nat.le_refl _) hf
    have hz := (show Row8 w.heap.size w (.slice a2 l2 c2) zs from H2).2
    have hlz := lay_read _ 1 zs f (Nat.le_refl _) hz hf
    have hsz := size_read _ 1 zs f 0 (Nat.le_refl _) (Int.le_refl _) (by omega) hz hf
    have hE0 : tlvE f = 0 := by unfold tlvE; rw [if_neg (by omega)]
    have hO : outB f = zs := by unfold outB; rw [if_neg (by omega)]; exact hlz
    have kb := tbytes_any f w3 ra rl rc hs (by omega)
    rw [hE0, hO] at kb
    have KB := Lib.hid kb
    clear hE0 hO hlz hsz hcn hf kb hz
    go_wp2_with (go_at_call 12; refine held ?_)
    unfold Held
    refine Calls.mono KB ?_
    rintro e w4 ⟨v4, rfl, o4, b4⟩
    try dsimp only
    have hw3 := b3'.size
    have b4' := below_step b3' b4
    have cv1 := convRow (P := Try.prog) (RowI.of_own o4).2 25 5 9 Try.underlying25 Try.underlying5 Try.underlying9
    have cv2 := convRow (P := Try.prog) ((show Row8 w.heap.size w (.slice a2 l2 c2) zs from H2).below b4').1 25 5 9 Try.underlying25 Try.underlying5 Try.underlying9
    clear KB o4
    go_wp2
    go_ret
    exact ⟨rfl, b4'⟩
theorem tlvBack_all (w : World) (a1 : Option Addr) (l1 c1 : Nat) (f1 : Forest) (h1 : SlF w.heap.size w a1 l1 c1 f1) (a2 : Option Addr) (l2 c2 : Nat) (zs : List Int) (h2 : Row8 w.heap.size w (.slice a2 l2 c2) zs) (k : Int) (hk : (Lit.int .u16 k).wf = true) :
    Calls Try.prog 6 #[.slice a1 l1 c1, .slice a2 l2 c2, .int .u16 k] w fun e w' => e = .returned (.bool true) ∧ Below w.heap.size w w' := by
  have bk := bounds_u16 hk
  obtain ⟨m, rfl⟩ : ∃ m : Nat, k = (m : Int) := ⟨k.toNat, by omega⟩
  exact tlvBack_any w a1 l1 c1 f1 h1 a2 l2 c2 zs h2 m (by omega)
end Go.Proofs.Ytdlhnipkhlihjaa
