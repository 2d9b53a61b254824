/- The chapter's first examples. -/
import Derived.Test.YtcmcilfopkhipaaPipeD
import Derived.Test.YtcmcilfopkhipaaRowSlice
namespace Go.Proofs.Ytcmcilfopkhipaa
open Go Go.RowKit
set_option linter.unusedVariables false
set_option linter.unnecessarySimpa false
theorem pipeAlive1 : ((strOfNums [97, 98, 99, 100]).toList == [97, 98, 99, 100]) = true := by rw [ByteArray.toList_eq]; decide
set_option maxRecDepth 100000 in
set_option maxHeartbeats 2000000 in
theorem palive_any (w : World) : Calls Try.prog 9 #[] w fun e w' => e = .returned (.bool true) ∧ Below w.heap.size w w' := by
  have kc := fun (w : World) (C : Array Value) (n c : Nat) => Lib.run_convert_bytes_const (P := Try.prog) w 22 5 C n c Try.underlying22 Try.underlying5
  have s1 := pipeAlive1
  go_enter Try.func9, Try.ntmps9
  go_wp2_with (go_at_call 10; refine held ?_)
  unfold Held
  refine (pnew_any 4 w (by decide) (by decide)).mono ?_
  rintro e w1 ⟨b1, p, g, rfl, hP1, hp, hg⟩
  go_wp2_with (go_at_call 12; refine held ?_)
  unfold Held
  refine (pread_any w1 p g 4 [] 1 1 hP1 1).mono ?_
  rintro e w2 ⟨v2, rfl, ho2, hP2, hw2⟩
  have hP2' : IsPipe w2 p g 4 [] 1 1 := hP2
  have b2 := b1.trans (below_of_wr hw2 hg b1.size)
  have hr := Row8.built w2 5 (6, 7) [97, 98, 99, 100, 101, 102] (by decide) (by decide) #[.int .u8 97, .int .u8 98, .int .u8 99, .int .u8 100, .int .u8 101, .int .u8 102] rfl 6 rfl
  have hP3 : IsPipe (w2.alloc (.cells #[.int .u8 97, .int .u8 98, .int .u8 99, .int .u8 100, .int .u8 101, .int .u8 102] 5 (6, 7))) p g 4 [] 1 1 := hP2'.below ((Below.refl _ w2).alloc (Nat.le_refl _) _)
  have b3 : Below w.heap.size w (w2.alloc (.cells #[.int .u8 97, .int .u8 98, .int .u8 99, .int .u8 100, .int .u8 101, .int .u8 102] 5 (6, 7))) := b2.alloc b2.size _
  have hg2 := hP2'.lt.2
  have k3 := pwrite_any _ p g 4 [] 1 1 hP3 _ _ _ _ hr (by rintro ⟨_, h⟩; simp at h; omega) (by decide)
  simp only [show readR [] 1 1 1 = ([], 1, 0) from rfl]
  go_wp2_with (go_at_call 11; refine held ?_)
  unfold Held
  refine k3.mono ?_
  rintro e w4 ⟨rfl, hP4, hw4⟩
  have hP4' : IsPipe w4 p g 4 [97, 98, 99, 100] 1 1 := hP4
  have b4 := b3.trans (below_of_wr hw4 hg b3.size)
  simp only [show writeR 4 [] 1 1 6 = (4, 0, 0) from rfl]
  clear k3 hr hP3 hP4 hw4 hP2 hP1 hw2 ho2
  go_wp2_with (go_at_call 12; refine held ?_)
  unfold Held
  refine (pread_any w4 p g 4 [97, 98, 99, 100] 1 1 hP4' 9).mono ?_
  rintro e w5 ⟨v5, rfl, ho5, hP5, hw5⟩
  have b5 := b4.trans (below_of_wr hw5 hg b4.size)
  have cv : (convert 22 9 v5).run Try.prog w5 = .ok (.string (strOfNums [97, 98, 99, 100])) w5 := OwnBytes.conv (zs := [97, 98, 99, 100]) ho5
  simp only [show readR [97, 98, 99, 100] 1 1 9 = ([97, 98, 99, 100], 0, 0) from rfl]
  clear ho5 hP5 hw5
  go_wp2_with fail
  go_ret
  exact ⟨rfl, b5⟩
end Go.Proofs.Ytcmcilfopkhipaa
