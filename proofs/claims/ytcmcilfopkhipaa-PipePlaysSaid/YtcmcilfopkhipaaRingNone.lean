/- A ring that is none: what each function does with it. -/
import Derived.Test.YtcmcilfopkhipaaRingBase
namespace Go.Proofs.Ytcmcilfopkhipaa
open Go Go.RowKit Go.Shelf
attribute [local go_sem] Oper.semAt_some
set_option linter.unusedVariables false
set_option linter.unnecessarySimpa false
/-- A RING THAT IS NONE: no pointer, or one to a ring without capacity -/
def NoRing (W : World) (p : Option Addr) : Prop := p = none ∨ ∃ g, p = some ⟨g, 0, none⟩ ∧ RingAt W g (fun _ => 0) 0 0 0
theorem NoRing.below {n : Nat} {W B : World} {p : Option Addr} (h : NoRing W p) (hb : Below n W B) (hn : ∀ g, p = some ⟨g, 0, none⟩ → g < n) : NoRing B p := by
  rcases h with h | ⟨g, h, hR⟩
  · exact .inl h
  · exact .inr ⟨g, h, hR.below (hn g h) hb⟩
theorem none_yes (W : World) (p : Option Addr) (h : NoRing W p) :
    Calls Try.prog 47 #[.pointer p] W fun e w' => e = .returned (.bool true) ∧ W = w' := by
  rcases h with rfl | ⟨g, rfl, hR⟩
  · go_enter Try.func47, Try.ntmps47
    go_wp2
    go_ret
    exact ⟨rfl, rfl⟩
  · have c1 := hR.most
    go_enter Try.func47, Try.ntmps47
    go_wp2
    go_ret
    exact ⟨rfl, rfl⟩
theorem len_none (W : World) (p : Option Addr) (h : NoRing W p) :
    Calls Try.prog 34 #[.pointer p] W fun e w' => e = .returned (.int .i64 0) ∧ W = w' := by
  go_enter Try.func34, Try.ntmps34
  go_wp2_with (go_at_call 47; refine (none_yes W p h).mono ?_; rintro e w1 ⟨rfl, rfl⟩)
  go_ret
  exact ⟨rfl, rfl⟩
theorem cap_none (W : World) (p : Option Addr) (h : NoRing W p) :
    Calls Try.prog 41 #[.pointer p] W fun e w' => e = .returned (.int .i64 0) ∧ W = w' := by
  go_enter Try.func41, Try.ntmps41
  go_wp2_with (go_at_call 47; refine (none_yes W p h).mono ?_; rintro e w1 ⟨rfl, rfl⟩)
  go_ret
  exact ⟨rfl, rfl⟩
theorem room_none (W : World) (p : Option Addr) (h : NoRing W p) :
    Calls Try.prog 46 #[.pointer p] W fun e w' => e = .returned (.int .i64 0) ∧ W = w' := by
  go_enter Try.func46, Try.ntmps46
  go_wp2_with (first
    | (go_at_call 41; refine (cap_none W p h).mono ?_; rintro e w1 ⟨rfl, rfl⟩)
    | (go_at_call 34; refine (len_none W p h).mono ?_; rintro e w1 ⟨rfl, rfl⟩))
  go_ret
  exact ⟨rfl, rfl⟩
theorem copy_none (W : World) (p : Option Addr) (h : NoRing W p) :
    Calls Try.prog 40 #[.pointer p] W fun e w' => e = .returned (.pointer none) ∧ W = w' := by
  go_enter Try.func40, Try.ntmps40
  go_wp2_with (go_at_call 47; refine (none_yes W p h).mono ?_; rintro e w1 ⟨rfl, rfl⟩)
  go_ret
  exact ⟨rfl, rfl⟩
theorem write_none (W : World) (p : Option Addr) (a : Option Addr) (len cap : Nat) (h : NoRing W p) :
    Calls Try.prog 33 #[.pointer p, .slice a len cap] W fun e w' => e = .returned (.int .i64 0) ∧ W = w' := by
  have m1 : (if (len : Int) < 0 then (len : Int) else 0) = 0 := by split <;> omega
  have m2 : (if 0 < (len : Int) then 0 else (len : Int)) = 0 := by split <;> omega
  have m3 : (if 0 < len then (0 : Int) else (len : Int)) = 0 := by split <;> omega
  go_enter Try.func33, Try.ntmps33
  go_wp2_with (go_at_call 46; refine (room_none W p h).mono ?_; rintro e w1 ⟨rfl, rfl⟩)
  go_loopw [13] (fun i wr => ∃ k : Nat, k ≤ 0 ∧ i = .int .i64 (k : Int) ∧ W = wr) (fun _ _ => 0)
  case atStart => exact ⟨0, Nat.le_refl _, rfl, rfl⟩
  case round =>
    obtain ⟨k, hk, rfl, rfl⟩ := hrel
    obtain rfl : k = 0 := by omega
    go_wp2
    go_ret
    exact ⟨rfl, rfl⟩
set_option maxHeartbeats 1000000 in
theorem bytes1_none (B1 : Nat) (p : Option Addr) (w : World) (hB : B1 < w.heap.size) (c1 : w.cell? ⟨B1, 0, none⟩ = some (.pointer p)) (h : NoRing w p) (hp : ∀ g, p = some ⟨g, 0, none⟩ → g < w.heap.size) :
    Iter Try.prog 53 #[.pointer (some ⟨B1, 0, none⟩)] (byteV (fun _ => 0) 1 0) (fun b => b = B1) (List.range 0) w := by
  intro l J Jx S0 W hW hJ hJx hlt hX hY h0
  have C1 : W.cell? ⟨B1, 0, none⟩ = some (.pointer p) := (hW.cell (p := ⟨B1, 0, none⟩) hB).trans c1
  have hR : NoRing W p := h.below hW hp
  refine (callsIn_wide (n := 101)).1 ?_
  refine callsIn_of_wp Try.func53 rfl trivial ?_ rfl
  simp only [Try.ntmps53, List.size_toArray, List.length_cons, List.length_nil, Nat.reduceAdd, Nat.reduceSub, Array.replicate_succ, Array.replicate_zero, List.push_toArray, List.append_toArray, List.nil_append, List.cons_append]
  have hch : Fence.wide.fn 34 := trivial
  gi_wp2_with (gi_at_call 34; refine (callsIn_wide.2 (len_none W p hR)).mono ?_; rintro e w1 ⟨rfl, rfl⟩)
  clear hch
  gi_loopw [6] (fun i wr => i = .int .i64 0 ∧ J 0 S0 wr) (fun i _ => 0)
  case atStart => exact ⟨rfl, h0⟩
  case round =>
    obtain ⟨rfl, hJs⟩ := hrel
    gi_wp2
    go_end0
    exact ⟨⟨_, rfl⟩, .inl ⟨S0, by simpa using hJs⟩⟩
set_option maxRecDepth 100000 in
set_option maxHeartbeats 4000000 in
theorem peek_none (p : Option Addr) (m : Int) (w : World) (h : NoRing w p) (hp : ∀ g, p = some ⟨g, 0, none⟩ → g < w.heap.size) :
    Calls Try.prog 48 #[.pointer p, .int .i64 m] w fun e w' => e = .returned (.slice none 0 0) ∧ Below w.heap.size w w' := by
  refine (callsIn_wide (n := 102)).1 ?_
  refine callsIn_of_wp_marks Try.func48 rfl trivial ?_ rfl
  simp only [Try.ntmps48, List.size_toArray, List.length_cons, List.length_nil, Nat.reduceAdd, Nat.reduceSub, Array.replicate_succ, Array.replicate_zero, List.push_toArray, List.append_toArray, List.nil_append, List.cons_append]
  have hch : Fence.wide.fn 52 := trivial
  gi_wp2
  refine wideScope ?_
  gi_wp2
  refine wpIn_label ?_
  gi_wp2_with (gi_at_call 52; refine (bytes_in Fence.wide _ trivial rfl _ _).mono ?_; rintro e w' ⟨rfl, rfl⟩)
  obtain ⟨W3, hW3⟩ : ∃ W3, W3 = ((w.alloc (.cells #[.int .i64 m] 3)).alloc (.cells #[.slice none 0 0] 22)).alloc (.cells #[.pointer p] 67) := ⟨_, rfl⟩
  have sz : W3.heap.size = w.heap.size + 3 := by rw [hW3]; simp
  have bW : Below w.heap.size w W3 := by rw [hW3]; exact (((Below.refl _ w).alloc (Nat.le_refl _) _).alloc (by simp) _).alloc (by simp; omega) _
  have bO : Boxed W3 (w.heap.size + 1) 22 (.slice none 0 0) := by
    rw [hW3]
    have := Boxed.new (w.alloc (.cells #[.int .i64 m] 3)) 22 (.slice none 0 0)
    rw [World.size_alloc] at this
    exact this.alloc _
  have bS : Boxed W3 (w.heap.size + 1 + 1) 67 (.pointer p) := by
    rw [hW3]
    have := Boxed.new ((w.alloc (.cells #[.int .i64 m] 3)).alloc (.cells #[.slice none 0 0] 22)) 67 (.pointer p)
    rw [World.size_alloc, World.size_alloc] at this
    exact this
  rw [← hW3]
  refine range_law (gf := 53) rfl (enters_of Try.func53 (by kernel_rfl) rfl)
    (bytes1_none (w.heap.size + 1 + 1) p W3 (by omega) bS.cell (h.below bW hp) (fun g hg => by have := hp g hg; omega)) (fun _ => rfl)
    (fun k S A => S = (fun _ => False) ∧ Boxed A (w.heap.size + 1) 22 (.slice none 0 0) ∧ Below w.heap.size w A)
    (fun c k S A => False)
    (fun b => False) ?hX ?hI ?hIx ?hlt ?h0
    (fun k => { tmps := #[.pointer p, .int .i64 m, undef, .pointer (some ⟨w.heap.size, 0, none⟩), .slice none 0 0, .pointer (some ⟨w.heap.size + 1, 0, none⟩),
      .int .i64 k, .int .u8 ((fun _ => 0) ((0 + k) % 1)), .pointer p, .func (.func 53) #[] #[.pointer (some ⟨w.heap.size + 1 + 1, 0, none⟩)],
      .int .i64 k, .int .u8 ((fun _ => 0) ((0 + k) % 1)), undef, undef, undef, undef, undef, undef, undef, undef], defers := [] }) ?assign ?body ?done ?stop
  case hX =>
    rintro b rfl
    exact ⟨by omega, fun h => h⟩
  case hI =>
    rintro k S A A' ⟨rfl, h2, h7⟩ hs
    exact ⟨rfl, (hs.block _ (.inl (by omega))).trans h2, h7.trans (hs.below (fun b hb => .inl (by omega)))⟩
  case hIx => exact fun c k S A A' h _ => h
  case hlt =>
    rintro k S A ⟨rfl, h2⟩ b hb
    exact hb.elim
  case h0 => exact ⟨rfl, bO, bW⟩
  case assign =>
    intro l' k A K hK
    dsimp only [byteV]
    gi_wp2
    exact hK
  case body =>
    intro l' k hk
    simp at hk
  case done =>
    rintro D S A hD hS ⟨rfl, h2, h7⟩ hK
    have c2 := h2.cell
    gi_wp2
    refine ⟨by simp, .inl ⟨_, _, rfl, run_takeDeferred hK, ?_⟩⟩
    exact ⟨.slice none 0 0, by simp [results, Try.results48, go_sem], rfl, h7.trans (SameOn.below (SameOn.putObj (p := fun b => b < w.heap.size) _ _ _ (by show ¬ D < w.heap.size; omega)) (fun b hb => hb))⟩
  case stop =>
    intro D c k S A hD hS hk h
    exact h.elim
theorem all_none (p : Option Addr) (w : World) (h : NoRing w p) (hp : ∀ g, p = some ⟨g, 0, none⟩ → g < w.heap.size) :
    Calls Try.prog 39 #[.pointer p] w fun e w' => e = .returned (.slice none 0 0) ∧ Below w.heap.size w w' := by
  go_enter Try.func39, Try.ntmps39
  go_wp2_with (first
    | (go_at_call 34; refine (len_none w p h).mono ?_; rintro e w1 ⟨rfl, rfl⟩)
    | (go_at_call 48; refine (peek_none p 0 w h hp).mono ?_; rintro e w1 ⟨rfl, hb⟩))
  go_ret
  exact ⟨rfl, hb⟩
theorem read_none (p : Option Addr) (m : Int) (w : World) (h : NoRing w p) (hp : ∀ g, p = some ⟨g, 0, none⟩ → g < w.heap.size) :
    Calls Try.prog 35 #[.pointer p, .int .i64 m] w fun e w' => e = .returned (.slice none 0 0) ∧ Below w.heap.size w w' := by
  go_enter Try.func35, Try.ntmps35
  go_wp2_with (go_at_call 48; refine (peek_none p m w h hp).mono ?_; rintro e w1 ⟨rfl, hb⟩)
  go_ret
  exact ⟨rfl, hb⟩
end Go.Proofs.Ytcmcilfopkhipaa
