/- Copy and Of. -/
import Derived.Test.YtcmcilfopkhipaaRingMore
import Derived.Laws.Rows
import Derived.Deep.WholeRow
namespace Go.Proofs.Ytcmcilfopkhipaa
open Go Go.RowKit
set_option linter.unusedVariables false
set_option linter.unnecessarySimpa false
set_option maxRecDepth 100000 in
set_option maxHeartbeats 1000000 in
theorem of_ring (c : Int) (a : Option Addr) (len cap : Nat) (zs : List Int) (w : World) (hr : Row8 w.heap.size w (.slice a len cap) zs) (hs : len ≤ 1000000000000) :
    Calls Try.prog 37 #[.int .i64 c, .slice a len cap] w fun e w' => Below w.heap.size w w' ∧
      ((1 ≤ c ∧ c ≤ 64 ∧ (len : Int) ≤ c ∧ e = .returned (.tuple #[.pointer (some ⟨w.heap.size, 0, none⟩), .int .i64 0]) ∧ IsRing w' w.heap.size c.toNat zs) ∨
       (¬ (1 ≤ c ∧ c ≤ 64 ∧ (len : Int) ≤ c) ∧ e = .returned (.tuple #[.pointer none, .int .i64 80]))) := by
  by_cases hc : 1 ≤ c ∧ c ≤ 64
  · have hy := new_yes c w hc.1 hc.2
    obtain ⟨n, rfl⟩ : ∃ n : Nat, c = n := ⟨c.toNat, by omega⟩
    have hI := IsRing.new w n (by omega) (by omega)
    have hlen : zs.length = len := hr.1.open.1
    have hr2 : Row8 (w.alloc (.cells (ringCells (fun _ => 0) n 0 0) 86)).heap.size (w.alloc (.cells (ringCells (fun _ => 0) n 0 0) 86)) (.slice a len cap) zs :=
      (hr.below ((Below.refl _ w).alloc (Nat.le_refl _) _)).mono (by simp)
    have hg : ¬ blockOf (.slice a len cap) w.heap.size := fun h => by have := hr.lt _ h; omega
    have hw := write_ring _ _ _ _ a len cap zs hI hr2 hg hs
    simp only [List.length_nil, Nat.sub_zero, List.nil_append] at hw
    have e1 : (((n : Nat) : Int) < 1) = False := by simp; omega
    go_enter Try.func37, Try.ntmps37
    go_wp2_with (first
      | (go_at_call 49; refine hy.mono ?_; rintro e w1 ⟨rfl, rfl⟩)
      | (go_at_call 33; refine hw.mono ?_; rintro e w2 ⟨rfl, hI2, hW⟩; refine held ?_))
    unfold Held
    have hb : Below w.heap.size w w2 := by
      refine ⟨hW.os.trans rfl, hW.tape.trans rfl, hW.output.trans rfl, ?_, fun b hb => ?_⟩
      · have := hW.size; simp at this; omega
      · exact (hW.block b (by simp; omega) (by show ¬ b = _; omega)).trans (Below.heap_alloc w _ b hb)
    by_cases hl : len ≤ n
    · have t1 : decide (((min len n : Nat) : Int) < (len : Int)) = false := by simp; omega
      go_wp2
      go_ret2
      refine ⟨hb, .inl ⟨by omega, by omega, by omega, rfl, ?_⟩⟩
      rw [List.take_of_length_le (by omega)] at hI2
      simpa using hI2
    · have t1 : decide (((min len n : Nat) : Int) < (len : Int)) = true := by simp; omega
      go_wp2
      go_ret2
      exact ⟨hb, .inr ⟨by omega, rfl⟩⟩
  · have hy := new_no c w (by omega)
    go_enter Try.func37, Try.ntmps37
    go_wp2_with (go_at_call 49; refine hy.mono ?_; rintro e w1 ⟨rfl, rfl⟩)
    go_ret2
    exact ⟨Below.refl _ _, .inr ⟨fun h => hc ⟨h.1, h.2.1⟩, rfl⟩⟩
theorem ringCells_one (f : Nat → Int) (a b c : Int) : (ringCells f a b c).all (·.oneCell') = true := by
  rw [Array.all_eq_true_iff_forall_mem]
  intro x hx
  simp only [ringCells, List.mem_toArray, List.mem_append, List.mem_map, List.mem_cons, List.not_mem_nil, or_false] at hx
  rcases hx with ⟨i, _, rfl⟩ | rfl | rfl | rfl <;> rfl
set_option maxRecDepth 100000 in
set_option maxHeartbeats 1000000 in
theorem copy_ring (W : World) (g most : Nat) (bs : List Int) (h : IsRing W g most bs) :
    Calls Try.prog 40 #[.pointer (some ⟨g, 0, none⟩)] W fun e W' => e = .returned (.pointer (some ⟨W.heap.size, 0, none⟩)) ∧ IsRing W' W.heap.size most bs ∧ Below W.heap.size W W' := by
  obtain ⟨f, first, hR, h1, h2, hf, hn, hL, hb⟩ := h
  have hz := zeroRing
  have hs := size_ringCells (fun _ => 0) 0 0 0
  have hs2 := size_ringCells f most first bs.length
  have hi : (Try.prog.info? 86).map (·.size) = some 67 := by kernel_rfl
  go_enter Try.func40, Try.ntmps40
  go_wp2_with (first
    | (go_at_call 47; refine (none_no W g f most first bs.length hR (by omega)).mono ?_; rintro e w1 ⟨rfl, rfl⟩)
    | (refine wpList_load_row rfl 86 (.tmp 7) rfl g rfl _ _ _ _ hR Try.underlying86 rfl (by rw [hs2]; exact hi) ?_)
    | (refine wpList_store_row rfl 86 (.tmp 3) (.tmp 8) rfl W.heap.size (ringCells f most first bs.length) rfl rfl 86 (ringCells (fun _ => 0) 0 0 0) (World.alloc_heap_new W _) (by rw [hs2]; exact hi) (by rw [hs, hs2]) (ringCells_one _ _ _ _) ?_))
  go_ret
  rw [World.setRow_alloc_new]
  exact ⟨rfl, ⟨f, first, World.alloc_heap_new W _, h1, h2, hf, hn, hL, hb⟩, (Below.refl _ W).alloc (Nat.le_refl _) _⟩
end Go.Proofs.Ytcmcilfopkhipaa
