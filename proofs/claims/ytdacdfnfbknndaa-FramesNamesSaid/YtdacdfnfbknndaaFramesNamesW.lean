/- The walk of the law FramesNames. -/
import Derived.Test.YtdacdfnfbknndaaFrmGrown
import Derived.Test.YtdacdfnfbknndaaFrmNone
namespace Go.Proofs.Ytdacdfnfbknndaa
open Go Go.RowKit
attribute [local go_sem] upV_value upV_skip upV_enter
set_option linter.unusedVariables false
set_option linter.unnecessarySimpa false
set_option linter.unusedSimpArgs false
def nm0 : List Fr := newL 2
def nm1 : List Fr := [⟨zeros, 1⟩, ⟨zeros, 0⟩]
def nm2 : List Fr := [⟨zeros, 1⟩, ⟨zeros, 1⟩]
def nm3 : List Fr := [⟨zeros, 2⟩, ⟨zeros, 1⟩]
def nm4 : List Fr := [⟨zeros, 0⟩, ⟨zeros, 1⟩]
def nm5 : List Fr := [⟨zeros, 1⟩, ⟨putB zeros 62 [97, 98], 1⟩]
theorem nm2_small : Small nm2 := by
  intro x hx
  simp only [nm2, List.mem_cons, List.not_mem_nil, or_false] at hx
  rcases hx with rfl | rfl <;> decide
theorem nm3_small : Small nm3 := by
  intro x hx
  simp only [nm3, List.mem_cons, List.not_mem_nil, or_false] at hx
  rcases hx with rfl | rfl <;> decide
theorem nm4_small : Small nm4 := by
  intro x hx
  simp only [nm4, List.mem_cons, List.not_mem_nil, or_false] at hx
  rcases hx with rfl | rfl <;> decide
set_option maxRecDepth 100000 in
set_option maxHeartbeats 16000000 in
theorem framesNames_any (W : World) : Calls Try.prog 8 #[] W fun e W' => e = .returned (.bool true) ∧ Below W.heap.size W W' := by
  have kc := fun (w : World) (C : Array Value) (n c : Nat) => Lib.run_convert_bytes_const (P := Try.prog) w 23 5 C n c Try.underlying23 Try.underlying5
  go_enter Try.func8, Try.ntmps8
  go_wp2_with (go_at_call 14; refine held ?_)
  unfold Held
  refine (new_any 2 W (by decide) (by decide)).mono ?_
  rintro e w0 ⟨p, g, rfl, h0, hp, hg, b0⟩
  replace h0 : FrAt w0 p g 2 nm0 := h0
  have k0 := take_any p g 2 nm0 w0 h0
  rw [show takeV nm0 = 0 from rfl, show takeE nm0 = 0 from rfl, show takeL nm0 = nm1 from rfl] at k0
  have K0 := Lib.hid k0
  clear k0
  go_wp2_with (go_at_call 23; refine held ?_)
  unfold Held
  refine Calls.mono K0 ?_
  rintro e w1 ⟨rfl, h1, hw1⟩
  have b1 := b0.trans (below_of_wr hw1 hg b0.size)
  clear K0 h0 hw1 b0
  have k1 := take_any p g 2 nm1 w1 h1
  rw [show takeV nm1 = 1 from rfl, show takeE nm1 = 0 from rfl, show takeL nm1 = nm2 from rfl] at k1
  have K1 := Lib.hid k1
  clear k1
  go_wp2_with (go_at_call 23; refine held ?_)
  unfold Held
  refine Calls.mono K1 ?_
  rintro e w2 ⟨rfl, h2, hw2⟩
  have b2 := b1.trans (below_of_wr hw2 hg b1.size)
  clear K1 h1 hw2 b1
  have k2 := share_any p g 2 nm2 0 w2 h2 nm2_small
  rw [show (if okF nm2 0 then (0 : Int) else 41) = 0 from rfl, show shareF nm2 0 = nm3 from rfl] at k2
  have K2 := Lib.hid k2
  clear k2
  go_wp2_with (go_at_call 29; refine held ?_)
  unfold Held
  refine Calls.mono K2 ?_
  rintro e w3 ⟨rfl, h3, hw3⟩
  have b3 := b2.trans (below_of_wr hw3 hg b2.size)
  clear K2 h2 hw3 b2
  have k3 := drop_any p g 2 nm3 0 w3 h3 nm3_small
  rw [show (if okF nm3 0 then (frAt nm3 0).n - 1 else 0) = 1 from rfl, show (if okF nm3 0 then (0 : Int) else 41) = 0 from rfl, show dropF nm3 0 = nm2 from rfl] at k3
  have K3 := Lib.hid k3
  clear k3
  go_wp2_with (go_at_call 24; refine held ?_)
  unfold Held
  refine Calls.mono K3 ?_
  rintro e w4 ⟨rfl, h4, hw4⟩
  have b4 := b3.trans (below_of_wr hw4 hg b3.size)
  clear K3 h3 hw4 b3
  have k4 := drop_any p g 2 nm2 0 w4 h4 nm2_small
  rw [show (if okF nm2 0 then (frAt nm2 0).n - 1 else 0) = 0 from rfl, show (if okF nm2 0 then (0 : Int) else 41) = 0 from rfl, show dropF nm2 0 = nm4 from rfl] at k4
  have K4 := Lib.hid k4
  clear k4
  go_wp2_with (go_at_call 24; refine held ?_)
  unfold Held
  refine Calls.mono K4 ?_
  rintro e w5 ⟨rfl, h5, hw5⟩
  have b5 := b4.trans (below_of_wr hw5 hg b4.size)
  clear K4 h4 hw5 b4
  have k5 := drop_any p g 2 nm4 0 w5 h5 nm4_small
  rw [show (if okF nm4 0 then (frAt nm4 0).n - 1 else 0) = 0 from rfl, show (if okF nm4 0 then (0 : Int) else 41) = 41 from rfl, show dropF nm4 0 = nm4 from rfl] at k5
  have K5 := Lib.hid k5
  clear k5
  go_wp2_with (go_at_call 24; refine held ?_)
  unfold Held
  refine Calls.mono K5 ?_
  rintro e w6 ⟨rfl, h6, hw6⟩
  have b6 := b5.trans (below_of_wr hw6 hg b5.size)
  clear K5 h5 hw6 b5
  have k6 := take_any p g 2 nm4 w6 h6
  rw [show takeV nm4 = 0 from rfl, show takeE nm4 = 0 from rfl, show takeL nm4 = nm2 from rfl] at k6
  have K6 := Lib.hid k6
  clear k6
  go_wp2_with (go_at_call 23; refine held ?_)
  unfold Held
  refine Calls.mono K6 ?_
  rintro e w7 ⟨rfl, h7, hw7⟩
  have b7 := b6.trans (below_of_wr hw7 hg b6.size)
  clear K6 h6 hw7 b6
  obtain ⟨V7, hV7⟩ : ∃ V, V = w7.alloc (.cells #[.int .u8 97, .int .u8 98, .int .u8 99] 5 (3, 4)) := ⟨_, rfl⟩
  have bV7 : Below w7.heap.size w7 V7 := by rw [hV7]; exact (Below.refl _ _).alloc (Nat.le_refl _) _
  have r7 : Row8 V7.heap.size V7 (.slice (some ⟨w7.heap.size, 0, none⟩) 3 3) [97, 98, 99] := by rw [hV7]; exact Row8.built w7 5 (3, 4) [97, 98, 99] (by decide) (by decide) _ rfl 3 rfl
  have hh7 := h7.below bV7
  have bb7 := b7.trans (bV7.mono b7.size)
  have k7 := write_any p g 2 nm2 1 62 (some ⟨w7.heap.size, 0, none⟩) 3 3 [97, 98, 99] V7.heap.size V7 hh7 r7 (by decide)
  rw [show readE nm2 1 62 ([97, 98, 99] : List Int).length = 2 from rfl, show writeF nm2 1 62 [97, 98, 99] = nm2 from rfl] at k7
  have K7 := Lib.hid k7
  clear k7 r7
  go_wp2_with (go_at_call 18; refine held ?_)
  unfold Held
  rw [← hV7]
  clear hV7
  refine Calls.mono K7 ?_
  rintro e w8 ⟨rfl, h8, hw8⟩
  have b8 := bb7.trans (below_of_wr hw8 hg bb7.size)
  clear K7 h7 hw8 b7 bb7 hh7 bV7
  obtain ⟨V8, hV8⟩ : ∃ V, V = w8.alloc (.cells #[.int .u8 97, .int .u8 98] 5 (2, 3)) := ⟨_, rfl⟩
  have bV8 : Below w8.heap.size w8 V8 := by rw [hV8]; exact (Below.refl _ _).alloc (Nat.le_refl _) _
  have r8 : Row8 V8.heap.size V8 (.slice (some ⟨w8.heap.size, 0, none⟩) 2 2) [97, 98] := by rw [hV8]; exact Row8.built w8 5 (2, 3) [97, 98] (by decide) (by decide) _ rfl 2 rfl
  have hh8 := h8.below bV8
  have bb8 := b8.trans (bV8.mono b8.size)
  have k8 := write_any p g 2 nm2 1 62 (some ⟨w8.heap.size, 0, none⟩) 2 2 [97, 98] V8.heap.size V8 hh8 r8 (by decide)
  rw [show readE nm2 1 62 ([97, 98] : List Int).length = 0 from rfl, show writeF nm2 1 62 [97, 98] = nm5 from rfl] at k8
  have K8 := Lib.hid k8
  clear k8 r8
  go_wp2_with (go_at_call 18; refine held ?_)
  unfold Held
  rw [← hV8]
  clear hV8
  refine Calls.mono K8 ?_
  rintro e w9 ⟨rfl, h9, hw9⟩
  have b9 := bb8.trans (below_of_wr hw9 hg bb8.size)
  clear K8 h8 hw9 b8 bb8 hh8 bV8
  have k9 := double_any p g 2 nm5 1 w9 h9
  rw [show dblV nm5 1 = 0 from rfl, show dblE nm5 1 = 40 from rfl, show dblL nm5 1 = nm5 from rfl] at k9
  have K9 := Lib.hid k9
  clear k9
  go_wp2_with (go_at_call 17; refine held ?_)
  unfold Held
  refine Calls.mono K9 ?_
  rintro e w10 ⟨rfl, h10, hw10⟩
  have b10 := b9.trans (below_of_wr hw10 hg b9.size)
  clear K9 h9 hw10 b9
  have k10 := double_any p g 2 nm5 2 w10 h10
  rw [show dblV nm5 2 = 0 from rfl, show dblE nm5 2 = 41 from rfl, show dblL nm5 2 = nm5 from rfl] at k10
  have K10 := Lib.hid k10
  clear k10
  go_wp2_with (go_at_call 17; refine held ?_)
  unfold Held
  refine Calls.mono K10 ?_
  rintro e w11 ⟨rfl, h11, hw11⟩
  have b11 := b10.trans (below_of_wr hw11 hg b10.size)
  clear K10 h10 hw11 b10
  go_wp2_with (go_at_call 14; refine held ?_)
  unfold Held
  refine (new_bad 0 _ (by decide)).mono ?_
  rintro e w11 ⟨rfl, rfl⟩
  go_wp2_with (go_at_call 14; refine held ?_)
  unfold Held
  refine (new_bad 257 _ (by decide)).mono ?_
  rintro e w11 ⟨rfl, rfl⟩
  clear h11
  obtain ⟨V, hV⟩ : ∃ V, V = w11.alloc (.cells #[.slice none 0 0] 62) := ⟨_, rfl⟩
  have hz : V.heap[w11.heap.size]? = some (.cells #[.slice none 0 0] 62) := by rw [hV]; exact World.alloc_heap_new _ _
  have bV : Below W.heap.size W V := by rw [hV]; exact b11.alloc b11.size _
  obtain ⟨z, hze⟩ : ∃ z, z = w11.heap.size := ⟨_, rfl⟩
  rw [← hze] at hz
  have hn : NoMem V none := .inl rfl
  have hm : NoMem V (some ⟨z, 0, none⟩) := .inr ⟨z, rfl, hz⟩
  go_wp2_with (go_at_call 23; refine held ?_)
  unfold Held
  rw [← hV]
  try rw [← hze]
  clear hV hze b11
  refine (take_none V none hn).mono ?_
  rintro e V ⟨rfl, rfl⟩
  go_wp2_with (go_at_call 24; refine held ?_)
  unfold Held
  refine (drop_none _ _ 0 hm).mono ?_
  rintro e wy ⟨rfl, rfl⟩
  go_wp2_with (go_at_call 13; refine held ?_)
  unfold Held
  refine (read_none _ none 0 0 0 hn).mono ?_
  rintro e wy ⟨rfl, rfl⟩
  go_wp2_with (go_at_call 17; refine held ?_)
  unfold Held
  refine (double_none _ _ 0 hm).mono ?_
  rintro e wy ⟨rfl, rfl⟩
  go_wp2_with (go_at_call 10; refine held ?_)
  unfold Held
  refine (alive_any _).mono ?_
  rintro e wa ⟨rfl, ba⟩
  have na : NoMem wa none := .inl rfl
  have ma := hm.below ba
  have za := (ba.block z (Array.getElem?_eq_some_iff.1 hz).1).trans hz
  have bA := bV.trans (ba.mono bV.size)
  clear hn hm hz ba bV
  go_wp2_with (go_at_call 29; refine held ?_)
  unfold Held
  refine (share_none _ none 0 na).mono ?_
  rintro e wy ⟨rfl, rfl⟩
  go_wp2_with (go_at_call 18; refine held ?_)
  unfold Held
  refine (write_none _ _ 0 0 none 0 0 ma).mono ?_
  rintro e wy ⟨rfl, rfl⟩
  go_wp2_with (go_at_call 19; refine held ?_)
  unfold Held
  refine (refs_none _ none 0 na).mono ?_
  rintro e wy ⟨rfl, rfl⟩
  go_wp2_with (go_at_call 22; refine held ?_)
  unfold Held
  refine (free_none z _ za).mono ?_
  rintro e wb ⟨rfl, bb⟩
  have nb : NoMem wb none := .inl rfl
  have zb := (bb.block z (Array.getElem?_eq_some_iff.1 za).1).trans za
  have bB := bA.trans (bb.mono bA.size)
  clear na ma za bb bA
  go_wp2_with (go_at_call 27; refine held ?_)
  unfold Held
  refine (len_none _ none nb).mono ?_
  rintro e wy ⟨rfl, rfl⟩
  go_wp2_with (go_at_call 21; refine held ?_)
  unfold Held
  refine (used_none z _ zb).mono ?_
  rintro e wc ⟨v, rfl, o, bc⟩
  have nc : NoMem wc none := .inl rfl
  have bC := bB.trans (bc.mono bB.size)
  obtain ⟨ac, cc, rfl⟩ := sl_own o
  clear nb zb bc bB o
  go_wp2_with (go_at_call 20; refine held ?_)
  unfold Held
  refine (copy_none _ none nc).mono ?_
  rintro e wy ⟨rfl, rfl⟩
  go_wp2
  go_ret
  exact ⟨rfl, bC⟩
end Go.Proofs.Ytdacdfnfbknndaa
