/- A ring that holds bytes: what each function does with it. -/
import Derived.Test.YtcmcilfopkhipaaRingPeek
namespace Go.Proofs.Ytcmcilfopkhipaa
open Go Go.RowKit
set_option linter.unusedVariables false
set_option linter.unnecessarySimpa false
/-- A RING OF SO MANY AT MOST, WITH THESE BYTES -/
def IsRing (W : World) (g most : Nat) (bs : List Int) : Prop := ∃ (f : Nat → Int) (first : Nat), RingAt W g f most first bs.length ∧ 1 ≤ most ∧ most ≤ 64 ∧ first < most ∧ bs.length ≤ most ∧ ringL f most first bs.length = bs ∧ ∀ z ∈ bs, 0 ≤ z ∧ z ≤ 255
section
variable {W : World} {g most : Nat} {bs : List Int}
theorem IsRing.lt (h : IsRing W g most bs) : g < W.heap.size := by obtain ⟨f, first, h, _⟩ := h; exact h.lt
theorem IsRing.same {B : World} (h : IsRing W g most bs) (hs : B.heap[g]? = W.heap[g]?) : IsRing B g most bs := by
  obtain ⟨f, first, h, h1⟩ := h
  exact ⟨f, first, h.same hs, h1⟩
theorem IsRing.below {n : Nat} {B : World} (h : IsRing W g most bs) (hn : g < n) (hb : Below n W B) : IsRing B g most bs := h.same (hb.block _ hn)
theorem IsRing.most_le (h : IsRing W g most bs) : 1 ≤ most ∧ most ≤ 64 ∧ bs.length ≤ most := by obtain ⟨f, first, h, h1, h2, h3, h4, h5⟩ := h; exact ⟨h1, h2, h4⟩
theorem IsRing.bytes (h : IsRing W g most bs) : ∀ z ∈ bs, 0 ≤ z ∧ z ≤ 255 := by obtain ⟨f, first, h, h1, h2, h3, h4, h5, h6⟩ := h; exact h6
end
theorem ringL_take (f : Nat → Int) (most first n k : Nat) : (ringL f most first n).take k = ringL f most first (min k n) := by
  unfold ringL
  rw [← List.map_take, List.take_range]
theorem ringL_getD (f : Nat → Int) (most first n j : Nat) (h : j < n) : (ringL f most first n).getD j 0 = f ((first + j) % most) := by
  simp [ringL, List.getD, h]
theorem getD_in_bytes {zs : List Int} (hz : ∀ z ∈ zs, 0 ≤ z ∧ z ≤ 255) (j : Nat) : 0 ≤ zs.getD j 0 ∧ zs.getD j 0 ≤ 255 := by
  by_cases h : j < zs.length
  · rw [getD_at _ _ h]; exact hz _ (List.getElem_mem h)
  · rw [show zs.getD j 0 = 0 from by simp [List.getD, List.getElem?_eq_none (Nat.le_of_not_lt h)]]; omega
theorem IsRing.new (w : World) (c : Nat) (h1 : 1 ≤ c) (h2 : c ≤ 64) : IsRing (w.alloc (.cells (ringCells (fun _ => 0) c 0 0) 86)) w.heap.size c [] :=
  ⟨fun _ => 0, 0, World.alloc_heap_new w _, h1, h2, by omega, by simp, rfl, by simp⟩
theorem write_ring (W : World) (g most : Nat) (bs : List Int) (a : Option Addr) (len cap : Nat) (zs : List Int) (h : IsRing W g most bs) (hr : Row8 W.heap.size W (.slice a len cap) zs) (hg : ¬ blockOf (.slice a len cap) g) (hs : len ≤ 1000000000000) :
    Calls Try.prog 33 #[.pointer (some ⟨g, 0, none⟩), .slice a len cap] W fun e W' =>
      e = .returned (.int .i64 ((min len (most - bs.length) : Nat) : Int)) ∧ IsRing W' g most (bs ++ zs.take (most - bs.length)) ∧ Wr (· = g) (· = g) W W' := by
  obtain ⟨f, first, hR, h1, h2, hf, hn, hL, hb⟩ := h
  have hz := hr.2
  have hlen : zs.length = len := hr.1.open.1
  refine (write_any W g f most first bs.length a len cap zs hR h1 h2 hf hn hr hg hs).mono ?_
  rintro e W' ⟨f', rfl, hR', hA, hB, hw⟩
  have el : (bs ++ zs.take (most - bs.length)).length = bs.length + min len (most - bs.length) := by
    rw [List.length_append, List.length_take, hlen, Nat.min_comm]
  refine ⟨rfl, ⟨f', first, by rw [el]; exact hR', h1, h2, hf, by rw [el]; omega, ?_, ?_⟩, hw⟩
  · apply List.ext_getElem (by rw [ringL_length])
    intro j i1 i2
    rw [← getD_at _ _ i1, ringL_getD _ _ _ _ _ i2]
    by_cases hj : j < bs.length
    · rw [List.getElem_append_left hj, hB j hj, ← getD_at _ _ hj]
      rw [← congrArg (fun l => l.getD j 0) hL, ringL_getD _ _ _ _ _ hj]
    · rw [List.getElem_append_right (by omega)]
      have := hA (j - bs.length) (by omega)
      rw [show bs.length + (j - bs.length) = j from by omega] at this
      rw [this, List.getElem_take, getD_at _ _ (by omega)]
  · intro z hz'
    rcases List.mem_append.1 hz' with h | h
    · exact hb z h
    · exact hz z (List.mem_of_mem_take h)
theorem peek_ring (W : World) (g most : Nat) (bs : List Int) (m : Int) (h : IsRing W g most bs) :
    Calls Try.prog 48 #[.pointer (some ⟨g, 0, none⟩), .int .i64 m] W fun e W' => OwnBytes W.heap.size (bs.take m.toNat) e W' ∧ Below W.heap.size W W' := by
  obtain ⟨f, first, hR, h1, h2, hf, hn, hL, hb⟩ := h
  refine (peek_raw g f most first bs.length m W hR h1 h2 hf hn).mono ?_
  rintro e W' ⟨ho, hb⟩
  rw [Nat.min_comm, ← ringL_take, hL] at ho
  exact ⟨ho, hb⟩
theorem len_ring (W : World) (g most : Nat) (bs : List Int) (h : IsRing W g most bs) :
    Calls Try.prog 34 #[.pointer (some ⟨g, 0, none⟩)] W fun e w' => e = .returned (.int .i64 (bs.length : Int)) ∧ W = w' := by
  obtain ⟨f, first, hR, h1, h2, hf, hn, hL, hb⟩ := h
  exact len_any W g f most first bs.length hR (by omega)
theorem cap_ring (W : World) (g most : Nat) (bs : List Int) (h : IsRing W g most bs) :
    Calls Try.prog 41 #[.pointer (some ⟨g, 0, none⟩)] W fun e w' => e = .returned (.int .i64 (most : Int)) ∧ W = w' := by
  obtain ⟨f, first, hR, h1, h2, hf, hn, hL, hb⟩ := h
  exact cap_any W g f most first bs.length hR (by omega)
theorem room_ring (W : World) (g most : Nat) (bs : List Int) (h : IsRing W g most bs) :
    Calls Try.prog 46 #[.pointer (some ⟨g, 0, none⟩)] W fun e w' => e = .returned (.int .i64 ((most - bs.length : Nat) : Int)) ∧ W = w' := by
  obtain ⟨f, first, hR, h1, h2, hf, hn, hL, hb⟩ := h
  refine (room_any W g f most first bs.length hR (by omega) (by omega) (by omega) (by omega)).mono ?_
  rintro e w1 ⟨rfl, rfl⟩
  exact ⟨by rw [show ((most - bs.length : Nat) : Int) = (most : Int) - (bs.length : Int) from by omega], rfl⟩
theorem none_ring (W : World) (g most : Nat) (bs : List Int) (h : IsRing W g most bs) :
    Calls Try.prog 47 #[.pointer (some ⟨g, 0, none⟩)] W fun e w' => e = .returned (.bool false) ∧ W = w' := by
  obtain ⟨f, first, hR, h1, h2, hf, hn, hL, hb⟩ := h
  exact none_no W g f most first bs.length hR (by omega)
theorem all_ring (W : World) (g most : Nat) (bs : List Int) (h : IsRing W g most bs) :
    Calls Try.prog 39 #[.pointer (some ⟨g, 0, none⟩)] W fun e W' => OwnBytes W.heap.size bs e W' ∧ Below W.heap.size W W' := by
  go_enter Try.func39, Try.ntmps39
  have hp := peek_ring W g most bs bs.length h
  rw [Int.toNat_natCast, List.take_length] at hp
  go_wp2_with (first
    | (go_at_call 34; refine (len_ring W g most bs h).mono ?_; rintro e w1 ⟨rfl, rfl⟩)
    | (go_at_call 48; refine hp.mono ?_; rintro e w1 ⟨⟨v, rfl, ho, hnil⟩, hb⟩))
  go_ret
  exact ⟨⟨v, rfl, ho, hnil⟩, hb⟩
theorem ownsRow_slice {W : World} {base : Nat} {e : TypeId} {size : Nat} {v : Value} {n : Nat} {xs : List Value} (h : W.ownsRow base e size v n xs) : ∃ a cap, v = .slice a n cap ∧ (n = 0 ∨ ∃ g', a = some ⟨g', 0, none⟩ ∧ v.ownBlock = some g') := by
  rcases h.2 with ⟨rfl, h0⟩ | ⟨g', cap, cur, rfl, h1, h2, h3, h4, _⟩
  · exact ⟨none, 0, by rw [h0], .inl h0⟩
  · exact ⟨_, _, rfl, .inr ⟨g', rfl, rfl⟩⟩
set_option maxRecDepth 100000 in
set_option maxHeartbeats 1000000 in
theorem read_ring (W : World) (g most : Nat) (bs : List Int) (m : Int) (h : IsRing W g most bs) :
    Calls Try.prog 35 #[.pointer (some ⟨g, 0, none⟩), .int .i64 m] W fun e W' => OwnBytes W.heap.size (bs.take m.toNat) e W' ∧ IsRing W' g most (bs.drop m.toNat) ∧ Wr (· = g) (· = g) W W' := by
  have hp := peek_ring W g most bs m h
  have hgl := h.lt
  go_enter Try.func35, Try.ntmps35
  go_wp2_with (go_at_call 48; refine hp.mono ?_; rintro e w1 ⟨⟨v, rfl, ho, hnil⟩, hb⟩; obtain ⟨K, hK⟩ : ∃ K, K = (bs.take m.toNat).length := ⟨_, rfl⟩; rw [← hK] at ho hnil; obtain ⟨va, vc, rfl, hv⟩ := ownsRow_slice ho; have hKl : K ≤ bs.length := (by rw [hK, List.length_take]; omega); have HK := Lib.hid hK; clear hK; refine held ?_)
  unfold Held
  have h1 := h.below hgl hb
  by_cases hK0 : K = 0
  · have t1 : decide ((0 : Int) < (K : Int)) = false := by simp; omega
    go_wp2
    go_ret
    have hK : K = (bs.take m.toNat).length := HK
    have ed : bs.drop m.toNat = bs := by
      rw [hK, List.length_take] at hK0
      rcases Nat.eq_zero_or_pos bs.length with h0 | h0
      · rw [List.eq_nil_of_length_eq_zero h0]; simp
      · rw [show m.toNat = 0 from by omega]; rfl
    rw [ed]
    exact ⟨⟨.slice va K vc, rfl, by rw [← hK]; exact ho, by rw [← hK]; exact hnil⟩, h1, Wr.of_below hb⟩
  · have t1 : decide ((0 : Int) < (K : Int)) = true := by simp; omega
    obtain ⟨f, first, hR, h2, h3, hf, hn, hL, hbt⟩ := h1
    obtain ⟨n, hn2⟩ : ∃ n, n = bs.length := ⟨_, rfl⟩
    obtain ⟨p, hp2⟩ : ∃ p : Nat, p = (first + K) % most := ⟨_, rfl⟩
    have hp64 : p < most := by rw [hp2]; exact Nat.mod_lt _ h2
    have ep : ((first : Int) + (K : Int)) % (most : Int) = (p : Int) := by rw [hp2]; push_cast; rfl
    have a1 := hR.most
    have a2 := hR.first
    have a3 := hR.num
    have fz := hR.frozen 65
    have m0 : ((most : Int) == 0) = false := by simp; omega
    have m1 : (0 : Int) < (most : Int) := by omega
    have m2 : ¬ (most : Int) = 0 := by omega
    have m3 : ¬ most = 0 := by omega
    have hR2 : RingAt (w1.setCell ⟨g, 65, none⟩ (.int .i64 (p : Int))).drew g f most p bs.length := hR.set 65 _ (ringCells_65 _ _ _ _ _)
    have HP := Lib.hid hp2
    rw [← hn2] at a3 hKl
    clear hp2
    go_wp2_with fail
    have a1d : w1.drew.cell? ⟨g, 64, none⟩ = some (.int .i64 most) := a1
    have a2d : w1.drew.cell? ⟨g, 65, none⟩ = some (.int .i64 first) := a2
    have a3d : w1.drew.cell? ⟨g, 66, none⟩ = some (.int .i64 n) := a3
    have fzd : w1.drew.frozen? ⟨g, 65, none⟩ = false := fz
    go_region
    have e3 := hR2.num
    have ef := hR2.frozen 66
    rw [← hn2] at e3
    clear a1 a2 a3 fz a1d a2d a3d fzd
    go_wp2
    go_ret
    have hK : K = (bs.take m.toNat).length := HK
    have hp2 : p = (first + K) % most := HP
    have ed : bs.drop m.toNat = bs.drop K := by
      rw [List.length_take] at hK
      by_cases hm : m.toNat ≤ bs.length
      · rw [show K = m.toNat from by omega]
      · rw [List.drop_eq_nil_of_le (by omega), List.drop_eq_nil_of_le (by omega)]
    rw [ed]
    have hgW : ∀ b, (Value.slice va K vc).ownBlock = some b → b ≠ g := fun b hb2 e => by
      have := (ho.lt b hb2).1
      omega
    have hW' : Wr (· = g) (· = g) W ((w1.setCell ⟨g, 65, none⟩ (.int .i64 (p : Int))).setCell ⟨g, 66, none⟩ (.int .i64 ((bs.length : Int) - (K : Int)))).drew :=
      (((Wr.of_below (S := (· = g)) hb).setCell (p := ⟨g, 65, none⟩) (.inl rfl) _).setCell (p := ⟨g, 66, none⟩) (.inl rfl) _).drew
    refine ⟨⟨.slice va K vc, rfl, ?_, by rw [← hK]; exact hnil⟩, ⟨f, p, ?_, h2, h3, hp64, ?_, ?_, fun z hz => hbt z (List.mem_of_mem_drop hz)⟩, hW'⟩
    · rw [← hK]
      refine ownsRow_same ho fun b hb2 => ?_
      have hne := hgW b hb2
      exact (Below.heap_setCell _ ⟨g, 66, none⟩ _ b hne).trans (Below.heap_setCell _ ⟨g, 65, none⟩ _ b hne)
    · have := hR2.set 66 (.int .i64 ((bs.length : Int) - (K : Int))) (ringCells_66 _ _ _ _ _)
      rw [List.length_drop, show ((bs.length - K : Nat) : Int) = (bs.length : Int) - (K : Int) from by omega]
      exact this
    · rw [List.length_drop]; omega
    · apply List.ext_getElem (by rw [ringL_length])
      intro j i1 i2
      rw [ringL_length] at i1
      rw [List.length_drop] at i1
      rw [← getD_at _ _ (by rw [ringL_length, List.length_drop]; exact i1), ringL_getD _ _ _ _ _ (by rw [List.length_drop]; exact i1), List.getElem_drop, ← getD_at _ _ (by omega)]
      rw [← congrArg (fun l => l.getD (K + j) 0) hL, ringL_getD _ _ _ _ _ (by omega), hp2, show (first + (K + j)) = (first + K) + j from by omega]
      congr 1
      simp [Nat.add_mod]
end Go.Proofs.Ytcmcilfopkhipaa
