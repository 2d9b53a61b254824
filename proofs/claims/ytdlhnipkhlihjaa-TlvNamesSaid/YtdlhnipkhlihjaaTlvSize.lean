/- The walk of tlv.Size. -/
import Derived.Test.YtdlhnipkhlihjaaTlvD
namespace Go.Proofs.Ytdlhnipkhlihjaa
open Go Go.RowKit
set_option linter.unusedVariables false
set_option linter.unnecessarySimpa false
def sizeR (f : Forest) : Int := if f.sizeL 1 0 < 0 then 0 else f.sizeL 1 0
theorem tsize_any (f : Forest) (W : World) (a : Option Addr) (len cap : Nat) (h : SlF W.heap.size W a len cap f) (hc : f.cnt ≤ 20000) :
    Calls Try.prog 25 #[.slice a len cap] W fun e W' => e = .returned (.int .i64 (sizeR f)) ∧ Below W.heap.size W W' := by
  have ks := size_any f W a len cap 1 h (by decide) hc
  go_enter Try.func25, Try.ntmps25
  go_wp2_with (go_at_call 38; refine held ?_)
  unfold Held
  refine Calls.mono ks ?_
  rintro e w1 ⟨rfl, b1⟩
  obtain ⟨S, hS⟩ : ∃ S, S = f.sizeL 1 0 := ⟨_, rfl⟩
  rw [← hS]
  have HS := Lib.hid hS
  clear ks hS
  by_cases h0 : 0 < S
  · have t1 : decide ((0 : Int) < S) = true := by simpa using h0
    have HR := Lib.hid (show S = sizeR f by unfold sizeR; rw [← (show S = f.sizeL 1 0 from HS), if_neg (by omega)])
    go_wp2
    go_ret
    exact ⟨by rw [← (show S = sizeR f from HR)]; rfl, b1⟩
  · have t1 : decide ((0 : Int) < S) = false := by simpa using h0
    have HR := Lib.hid (show 0 = sizeR f by unfold sizeR; rw [← (show S = f.sizeL 1 0 from HS)]; split <;> omega)
    go_wp2
    go_ret
    exact ⟨by rw [← (show 0 = sizeR f from HR)]; rfl, b1⟩
end Go.Proofs.Ytdlhnipkhlihjaa
