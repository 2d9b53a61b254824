/- The walk of the document's Bytes. -/
import Derived.Test.YtdlhnipkhlihjaaTlvD
import Derived.Test.YtdlhnipkhlihjaaTlvMay
import Derived.Test.YtdlhnipkhlihjaaTlvRefLay
namespace Go.Proofs.Ytdlhnipkhlihjaa
open Go Go.RowKit
set_option linter.unusedVariables false
set_option linter.unnecessarySimpa false
set_option maxHeartbeats 1000000 in
theorem rbytes_any (f : Forest) (W : World) (a : Option Addr) (len cap : Nat) (h : SlF W.heap.size W a len cap f) (hc : f.cnt ≤ 20000) :
    Calls Try.prog 22 #[.slice a len cap] W fun e W' => ∃ v, e = .returned (.tuple #[v, .int .i64 (tlvE f)]) ∧ W'.ownsRow W.heap.size 5 1 v (outB f).length ((outB f).map (Value.int .u8)) ∧ Below W.heap.size W W' := by
  have kc := may_any f W a len cap 1 h (by decide) hc
  rw [if_neg (by omega)] at kc
  have kl := fun (W1 : World) (hb : Below W.heap.size W W1) => rlay_any f W1 a len cap ((h.below hb).mono hb.size) hc
  go_enter Try.func22, Try.ntmps22
  go_wp2_with (go_at_call 35; refine held ?_)
  unfold Held
  refine kc.mono ?_
  rintro e w1 ⟨rfl, b1⟩
  by_cases h0 : f.sizeL 1 0 < 0
  · have e1 : tlvE f = 220 := by unfold tlvE; rw [if_pos h0]
    have e2 : outB f = [] := by unfold outB; rw [if_pos h0]
    have t1 : decide (f.sizeL 1 0 < 0) = true := by simpa using h0
    have E1 := Lib.hid e1
    have E2 := Lib.hid e2
    clear e1 e2
    go_wp2
    go_ret2
    have e1 : tlvE f = 220 := E1
    have e2 : outB f = [] := E2
    exact ⟨_, by rw [e1]; rfl, by rw [e2]; exact World.ownsRow_nil _ _ _ _, b1⟩
  · have e1 : tlvE f = 0 := by unfold tlvE; rw [if_neg h0]
    have e2 : outB f = f.layF := by unfold outB; rw [if_neg h0]
    have t1 : decide (f.sizeL 1 0 < 0) = false := by simpa using h0
    have E1 := Lib.hid e1
    have E2 := Lib.hid e2
    have k2 := kl w1 b1
    clear kl kc e1 e2
    go_wp2_with (go_at_call 36; refine held ?_)
    unfold Held
    refine k2.mono ?_
    rintro e w2 ⟨v, rfl, o2, b2⟩
    have o3 : w2.ownsRow W.heap.size 5 1 v f.layF.length (f.layF.map (Value.int .u8)) := by
      have hb := b1.size
      refine ⟨o2.1, ?_⟩
      rcases o2.2 with h | ⟨g, cap, cur, h0, h1, h2⟩
      · exact .inl h
      · exact .inr ⟨g, cap, cur, h0, by omega, h2⟩
    have b3 := below_step b1 b2
    clear k2 o2
    go_wp2
    go_ret2
    have e1 : tlvE f = 0 := E1
    have e2 : outB f = f.layF := E2
    exact ⟨_, by rw [e1]; rfl, by rw [e2]; exact o3, b3⟩
end Go.Proofs.Ytdlhnipkhlihjaa
