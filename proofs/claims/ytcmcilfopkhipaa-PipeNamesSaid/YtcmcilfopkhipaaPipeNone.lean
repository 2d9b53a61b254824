/- A pipe that is none: what each function does with it. -/
import Derived.Test.YtcmcilfopkhipaaPipeAlive
namespace Go.Proofs.Ytcmcilfopkhipaa
open Go Go.RowKit
set_option linter.unusedVariables false
set_option linter.unnecessarySimpa false
/-- a zero pipe lies in the block b -/
def ZeroAt (W : World) (b : Nat) : Prop := W.heap[b]? = some (.cells #[.pointer none, .int .i64 0, .int .i64 0] 70 (0, 0))
theorem ZeroAt.cell {W : World} {b : Nat} (h : ZeroAt W b) (i : Nat) (v : Value) (hv : (#[.pointer none, .int .i64 0, .int .i64 0] : Array Value)[i]? = some v) : W.cell? ⟨b, i, none⟩ = some v := by
  rw [cell_of_row W b i _ _ _ h]; exact hv
theorem ZeroAt.lt {W : World} {b : Nat} (h : ZeroAt W b) : b < W.heap.size := (Array.getElem?_eq_some_iff.1 h).1
theorem ZeroAt.below {W B : World} {b : Nat} (h : ZeroAt W b) (hb : Below W.heap.size W B) : ZeroAt B b := (hb.block _ h.lt).trans h
/-- A PIPE THAT IS NONE -/
def NoPipe (W : World) (p : Option Addr) : Prop := p = none ∨ ∃ b, p = some ⟨b, 0, none⟩ ∧ ZeroAt W b
theorem NoPipe.nil (W : World) : NoPipe W none := .inl rfl
theorem NoPipe.zero {W : World} {b : Nat} (h : ZeroAt W b) : NoPipe W (some ⟨b, 0, none⟩) := .inr ⟨b, rfl, h⟩
theorem nmay_any (W : World) (p : Option Addr) (s : Int) (h : NoPipe W p) : Calls Try.prog 31 #[.pointer p, .int .i64 s] W fun e w' => e = .returned (.int .i64 1) ∧ W = w' := by
  rcases h with rfl | ⟨b, rfl, h⟩
  · go_enter Try.func31, Try.ntmps31
    go_wp2
    go_ret
    exact ⟨rfl, rfl⟩
  · have c0 := h.cell 0 _ rfl
    go_enter Try.func31, Try.ntmps31
    go_wp2
    go_ret
    exact ⟨rfl, rfl⟩
theorem nread_any (W : World) (p : Option Addr) (n : Int) (h : NoPipe W p) : Calls Try.prog 12 #[.pointer p, .int .i64 n] W fun e w' => e = .returned (.tuple #[.slice none 0 0, .int .i64 0, .int .i64 1]) ∧ W = w' := by
  go_enter Try.func12, Try.ntmps12
  go_wp2_with (go_at_call 31; refine (nmay_any W p 0 h).mono ?_; rintro e w1 ⟨rfl, rfl⟩)
  go_ret3
  exact ⟨rfl, rfl⟩
theorem nwrite_any (W : World) (p : Option Addr) (a : Option Addr) (len cap : Nat) (h : NoPipe W p) : Calls Try.prog 11 #[.pointer p, .slice a len cap] W fun e w' => e = .returned (.tuple #[.int .i64 0, .int .i64 0, .int .i64 1]) ∧ W = w' := by
  go_enter Try.func11, Try.ntmps11
  go_wp2_with (go_at_call 31; refine (nmay_any W p 1 h).mono ?_; rintro e w1 ⟨rfl, rfl⟩)
  go_ret3
  exact ⟨rfl, rfl⟩
theorem nclose_any (W : World) (p : Option Addr) (h : NoPipe W p) : Calls Try.prog 13 #[.pointer p, .bool true] W fun e w' => e = .returned (.tuple #[.bool false, .int .i64 1]) ∧ W = w' := by
  have hs : Calls Try.prog 36 #[.bool true] W fun e w' => e = .returned (.int .i64 1) ∧ W = w' := side_any W true
  go_enter Try.func13, Try.ntmps13
  go_wp2_with (first
    | (go_at_call 36; refine hs.mono ?_; rintro e w1 ⟨rfl, rfl⟩)
    | (go_at_call 31; refine (nmay_any W p 1 h).mono ?_; rintro e w1 ⟨rfl, rfl⟩))
  go_ret2
  exact ⟨rfl, rfl⟩
theorem nopen_any (W : World) (p : Option Addr) (h : NoPipe W p) : Calls Try.prog 20 #[.pointer p, .bool true] W fun e w' => e = .returned (.int .i64 1) ∧ W = w' := by
  have hs : Calls Try.prog 36 #[.bool true] W fun e w' => e = .returned (.int .i64 1) ∧ W = w' := side_any W true
  go_enter Try.func20, Try.ntmps20
  go_wp2_with (first
    | (go_at_call 36; refine hs.mono ?_; rintro e w1 ⟨rfl, rfl⟩)
    | (go_at_call 31; refine (nmay_any W p 1 h).mono ?_; rintro e w1 ⟨rfl, rfl⟩))
  go_ret
  exact ⟨rfl, rfl⟩
theorem nready_any (W : World) (p : Option Addr) (h : NoPipe W p) : Calls Try.prog 23 #[.pointer p, .bool true] W fun e w' => e = .returned (.bool false) ∧ W = w' := by
  have hs : Calls Try.prog 36 #[.bool true] W fun e w' => e = .returned (.int .i64 1) ∧ W = w' := side_any W true
  go_enter Try.func23, Try.ntmps23
  go_wp2_with (first
    | (go_at_call 36; refine hs.mono ?_; rintro e w1 ⟨rfl, rfl⟩)
    | (go_at_call 31; refine (nmay_any W p 1 h).mono ?_; rintro e w1 ⟨rfl, rfl⟩))
  go_ret
  exact ⟨rfl, rfl⟩
theorem nreaders_nil (W : World) : Calls Try.prog 17 #[.pointer none] W fun e w' => e = .returned (.int .i64 0) ∧ W = w' := by
  have k : Calls Try.prog 38 #[.pointer none, .int .i64 0] W fun e w' => e = .returned (.int .i64 0) ∧ W = w' := by
    go_enter Try.func38, Try.ntmps38
    go_wp2
    go_ret
    exact ⟨rfl, rfl⟩
  go_enter Try.func17, Try.ntmps17
  go_wp2_with (go_at_call 38; refine k.mono ?_; rintro e w1 ⟨rfl, rfl⟩)
  go_ret
  exact ⟨rfl, rfl⟩
theorem nwriters_zero (W : World) (b : Nat) (h : ZeroAt W b) : Calls Try.prog 18 #[.pointer (some ⟨b, 0, none⟩)] W fun e w' => e = .returned (.int .i64 0) ∧ W = w' := by
  have c2 := h.cell 2 _ rfl
  have k : Calls Try.prog 38 #[.pointer (some ⟨b, 0, none⟩), .int .i64 1] W fun e w' => e = .returned (.int .i64 0) ∧ W = w' := by
    go_enter Try.func38, Try.ntmps38
    go_wp2
    go_ret
    exact ⟨rfl, rfl⟩
  go_enter Try.func18, Try.ntmps18
  go_wp2_with (go_at_call 38; refine k.mono ?_; rintro e w1 ⟨rfl, rfl⟩)
  go_ret
  exact ⟨rfl, rfl⟩
theorem nall_nil (W : World) : Calls Try.prog 19 #[.pointer none] W fun e w' => e = .returned (.slice none 0 0) ∧ W = w' := by
  go_enter Try.func19, Try.ntmps19
  go_wp2
  go_ret
  exact ⟨rfl, rfl⟩
theorem ncap_zero (W : World) (b : Nat) (h : ZeroAt W b) : Calls Try.prog 24 #[.pointer (some ⟨b, 0, none⟩)] W fun e w' => e = .returned (.int .i64 0) ∧ W = w' := by
  have c0 := h.cell 0 _ rfl
  go_enter Try.func24, Try.ntmps24
  go_wp2_with (go_at_call 41; refine (cap_none W none (.inl rfl)).mono ?_; rintro e w1 ⟨rfl, rfl⟩)
  go_ret
  exact ⟨rfl, rfl⟩
theorem ngone_any (W : World) (p : Option Addr) (h : NoPipe W p) : Calls Try.prog 21 #[.pointer p] W fun e w' => e = .returned (.bool false) ∧ W = w' := by
  rcases h with rfl | ⟨b, rfl, h⟩
  · go_enter Try.func21, Try.ntmps21
    go_wp2
    go_ret
    exact ⟨rfl, rfl⟩
  · have c0 := h.cell 0 _ rfl
    go_enter Try.func21, Try.ntmps21
    go_wp2
    go_ret
    exact ⟨rfl, rfl⟩
theorem ncopy_nil (W : World) : Calls Try.prog 22 #[.pointer none] W fun e w' => e = .returned (.pointer none) ∧ W = w' := by
  go_enter Try.func22, Try.ntmps22
  go_wp2
  go_ret
  exact ⟨rfl, rfl⟩
end Go.Proofs.Ytcmcilfopkhipaa
