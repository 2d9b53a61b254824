/- The law WordBytes. -/
import Derived.Test.YtkagconllphdiaaWordBytesW
namespace Go.Proofs.Ytkagconllphdiaa
open Go Go.RowKit
set_option linter.unusedVariables false
set_option maxHeartbeats 1000000 in
theorem wordBytes_any (x : Int) (w : World) (a1 : Option Addr) (l1 c1 : Nat) (z1 : List Int) (a2 : Option Addr) (l2 c2 : Nat) (z2 : List Int) (hx0 : 0 ≤ x) (hx : x ≤ 4294967295) (h1 : IsRow .u32 w a1 l1 c1 z1) (h2 : IsRow .u8 w a2 l2 c2 z2) :
    Calls Try.prog 9 #[.int .u32 x, .slice a1 l1 c1, .slice a2 l2 c2] w fun e w' => e = .returned (.bool true) ∧ Below w.heap.size w w' := by
  obtain ⟨x, rfl⟩ := Int.eq_ofNat_of_zero_le hx0
  by_cases g1 : 400 < l1
  · have g : (400 : Int) < (l1 : Int) := by omega
    go_enter Try.func9, Try.ntmps9
    go_wp2_with fail
    go_ret
    exact ⟨rfl, Below.refl _ _⟩
  by_cases g2 : 1600 < l2
  · have g : ¬ (400 : Int) < (l1 : Int) := by omega
    have g' : (1600 : Int) < (l2 : Int) := by omega
    go_enter Try.func9, Try.ntmps9
    go_wp2_with fail
    go_ret
    exact ⟨rfl, Below.refl _ _⟩
  obtain ⟨e1, r1, k1⟩ := h1.row
  have r2 := h2.row8
  have e2 := h2.row.1
  have hl : RowI .u32 w.heap.size w (.slice a1 (z1.take l1).length c1) (z1.take l1) := by rw [e1]; exact r1
  have hlz : ∀ z ∈ z1.take l1, 0 ≤ z ∧ z < 4294967296 := fun z hz => by have := bounds_u32 (k1 z hz); omega
  have hs2 : (z2.take l2).length ≤ 140737488350000 := by omega
  have hrow : ∀ W, Below w.heap.size w W → Row8 W.heap.size W (.slice a2 l2 c2) (z2.take l2) := fun W hW => r2.below hW |>.mono hW.size
  rw [← e1]
  by_cases h4 : (z2.take l2).length % 4 = 0
  · refine wordBytes_gen x a1 a2 c1 l2 c2 (z1.take l1) (z2.take l2) w (by omega) hl hlz r2 (by omega) (by omega) hs2 ((z2.take l2).length / 4) 0 (wordsV (z2.take l2) ((z2.take l2).length / 4)) (wordsV_length _ _) (by rw [wordsV_length]; omega)
      (fun W hW => (words_in 0 a2 l2 c2 _ W (hrow W hW) hs2).mono fun _ _ h => h.yes h4) (fun W hW => (refwords_any a2 l2 c2 _ W (hrow W hW) hs2).mono fun _ _ h => h.yes h4) _ _ rfl rfl ?_
    by_cases h5 : (z2.take l2).length = 4
    · exact .inl ⟨rfl, by omega, by simp only [readV, h5]; rfl, by simp only [readE, h5]; rfl⟩
    · exact .inr (.inr ⟨rfl, by simp only [bne_iff_ne]; omega, by simp only [readV, h5]; rfl, by simp only [readE, h5]; rfl⟩)
  · refine wordBytes_gen x a1 a2 c1 l2 c2 (z1.take l1) (z2.take l2) w (by omega) hl hlz r2 (by omega) (by omega) hs2 0 10 [] rfl (by simp)
      (fun W hW => (words_in 0 a2 l2 c2 _ W (hrow W hW) hs2).mono fun _ _ h => h.no h4) (fun W hW => (refwords_any a2 l2 c2 _ W (hrow W hW) hs2).mono fun _ _ h => h.no h4) _ _ rfl rfl ?_
    have h5 : ¬ (z2.take l2).length = 4 := by omega
    exact .inr (.inl ⟨rfl, by simp only [readV, h5]; rfl, by simp only [readE, h5]; rfl⟩)
end Go.Proofs.Ytkagconllphdiaa
