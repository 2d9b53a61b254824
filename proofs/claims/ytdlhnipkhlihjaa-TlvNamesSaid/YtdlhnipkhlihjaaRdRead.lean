/- The walk of word.Read. -/
import Derived.Test.YtdlhnipkhlihjaaRdWords
namespace Go.Proofs.Ytdlhnipkhlihjaa
open Go Go.RowKit
set_option linter.unusedVariables false
set_option linter.unnecessarySimpa false
/-- what Read answers -/
def readV (zs : List Int) : Int := if zs.length = 4 then (leW zs 0 4 : Nat) else 0
def readE (zs : List Int) : Int := if zs.length = 4 then 0 else 10
set_option maxHeartbeats 1000000 in
theorem read_any (a : Option Addr) (len cap : Nat) (zs : List Int) (w : World) (hr : Row8 w.heap.size w (.slice a len cap) zs) (hsm : zs.length ≤ 140737488350000) :
    Calls Try.prog 47 #[.slice a len cap] w fun e w' => e = .returned (.tuple #[.int .u32 (readV zs), .int .i64 (readE zs)]) ∧ Below w.heap.size w w' := by
  go_enter Try.func47, Try.ntmps47
  go_wp2_with fail
  go_wp2_with (go_at_call 33; refine (words_in 0 a len cap zs w hr hsm).mono ?_; rintro e w1 ⟨hb, ⟨h4, v, rfl, hown, hnil⟩ | ⟨h4, rfl⟩⟩ <;> refine held ?_)
  · unfold Held
    have hown' := RowI.of_own hown
    obtain ⟨hn, hrow⟩ := hown'
    obtain ⟨a1, cap1, rfl⟩ := hrow.slice
    obtain ⟨_, b, off, hopen, hc⟩ := hrow.open
    have hl1 : (wordsV zs (zs.length / 4)).length = zs.length / 4 := wordsV_length _ _
    by_cases h1 : zs.length = 4
    · have h5 : zs.length / 4 = 1 := by omega
      have hl2 : (wordsV zs (zs.length / 4)).length = 1 := by omega
      obtain ⟨rfl, _⟩ := hopen (by omega)
      have c0 := hc 0 (by omega)
      have e0 : (wordsV zs (zs.length / 4)).getD 0 0 = leW zs 0 4 := by rw [h5]; rfl
      rw [e0] at c0
      rw [hl2]
      simp only [Nat.add_zero] at c0
      have HH := Lib.hid h1
      clear hc e0 hopen hl1 hl2 h1 h5 hown hrow hnil hn h4
      go_wp2
      go_ret2
      have h1 : zs.length = 4 := HH
      exact ⟨by simp [readV, readE, h1], hb⟩
    · have hq : (((wordsV zs (zs.length / 4)).length : Int) != 1) = true := by simp; omega
      have HH := Lib.hid h1
      clear hc hopen hl1 h1 hown hrow hnil hn h4
      go_wp2
      go_ret2
      have h1 : ¬ zs.length = 4 := HH
      exact ⟨by simp [readV, readE, h1], hb⟩
  · unfold Held
    have HH := Lib.hid h4
    clear h4
    go_wp2
    go_ret2
    have h4 : zs.length % 4 ≠ 0 := HH
    have h1 : ¬ zs.length = 4 := by omega
    exact ⟨by simp [readV, readE, h1], hb⟩
end Go.Proofs.Ytdlhnipkhlihjaa
