/- The walk of bytes.Clone, crc.Seal and crc.Open. -/
import Derived.Test.YtcclakklaimiiaaCrcFitsW
import Derived.Test.YtcclakklaimiiaaRdRead
import Derived.Test.YtcclakklaimiiaaRowSlice
namespace Go.Proofs.Ytcclakklaimiiaa
open Go Go.RowKit
set_option linter.unusedVariables false
set_option linter.unnecessarySimpa false
set_option maxHeartbeats 1000000 in
theorem clone_any (a : Option Addr) (len cap : Nat) (zs : List Int) (w : World) (hr : Row8 w.heap.size w (.slice a len cap) zs) (hsm : zs.length ≤ 140737488350000) :
    Calls Try.prog 28 #[.slice a len cap] w fun e w' => ∃ v, e = .returned v ∧ w'.ownsRow w.heap.size 5 1 v len (zs.map (Value.int .u8)) ∧ Below w.heap.size w w' := by
  obtain ⟨i0, hi, hz0, hz1, hz2⟩ := info_parts info_u8
  have e1 := hr.1.open.1
  have qn := fun (a : Option Addr) (n c : Nat) (W : World) => Lib.run_eql_slice_nil (P := Try.prog) W 28 5 a n c 0 0 Try.underlying28
  cases a with
  | none =>
    have h0 : len = 0 := by
      rcases hr.1 with ⟨_, _, h, _⟩ | ⟨_, _, _, h, _⟩
      · injection h
      · injection h with h; cases h
    subst h0
    have hz : zs = [] := List.eq_nil_of_length_eq_zero e1
    subst hz
    go_enter Try.func28, Try.ntmps28
    go_wp2
    go_ret
    exact ⟨_, rfl, World.ownsRow_nil _ _ _ _, Below.refl _ _⟩
  | some p =>
    go_enter Try.func28, Try.ntmps28
    go_wp2_with (at_builtin; refine held ?_)
    unfold Held
    have hl0 := World.ownsRow_lit (base := w.heap.size) (e := 5) (size := 1) w #[] 0 (Nat.le_refl _) (by decide) rfl
    obtain ⟨W2, hW2⟩ : ∃ W2, W2 = w.alloc (.cells #[] 5) := ⟨_, rfl⟩
    have bb : Below w.heap.size w W2 := by rw [hW2]; exact (Below.refl _ w).alloc (Nat.le_refl _) _
    rw [← hW2] at hl0 ⊢
    refine wpList_append_row rfl _ _ 28 rfl w.heap.size 5 i0 Try.underlying28 hi hz0 hz1 hz2 (.slice (some ⟨w.heap.size, 0, none⟩) 0 0) 0 [] rfl hl0 (some p) len cap w.heap.size zs rfl (hr.1.below bb) (by omega) bb.size ?_
    intro v1 u1 o1 hg1 hv1
    have b10 : Below w.heap.size w u1 := bb.grown hg1 bb.size (fun b h => by simp [Value.ownBlock] at h; omega)
    rw [Nat.zero_add, List.nil_append] at o1
    clear hl0 hW2 bb hg1 hv1
    go_wp2
    go_ret
    exact ⟨_, rfl, o1, b10⟩
set_option maxHeartbeats 1000000 in
theorem seal_any (a : Option Addr) (len cap : Nat) (zs : List Int) (w : World) (hr : Row8 w.heap.size w (.slice a len cap) zs) (hsm : zs.length ≤ 140737488340000) :
    Calls Try.prog 19 #[.slice a len cap] w fun e w' => ∃ v, e = .returned v ∧ w'.ownsRow w.heap.size 5 1 v (len + 4) ((zs ++ bytesL (sumL zs)).map (Value.int .u8)) ∧ Below w.heap.size w w' := by
  obtain ⟨i0, hi, hz0, hz1, hz2⟩ := info_parts info_u8
  have e1 := hr.1.open.1
  have xl := sumL_lt zs hr.2
  have kc := clone_any a len cap zs w hr (by omega)
  have ks := fun (W : World) (h : Row8 W.heap.size W (.slice a len cap) zs) => sum_any a len cap zs W h (by omega)
  obtain ⟨V, hV⟩ : ∃ V, V = sumL zs := ⟨_, rfl⟩
  rw [← hV] at ks xl ⊢
  have hzV := bytesL_byte V xl
  clear hV
  go_enter Try.func19, Try.ntmps19
  go_wp2_with (go_at_call 28; refine held ?_)
  unfold Held
  refine kc.mono ?_
  rintro e w1 ⟨v1, rfl, o1, b1⟩
  go_wp2_with (go_at_call 11; refine held ?_)
  unfold Held
  refine (ks _ ((hr.below b1).mono b1.size)).mono ?_
  rintro e w2 ⟨rfl, b2⟩
  have o2 := ownsRow_same o1 fun b hb => b2.block b (o1.lt b hb).2
  replace b2 := below_step b1 b2
  clear b1 o1 kc ks
  go_wp2_with (go_at_call 15; refine held ?_)
  unfold Held
  refine (bytes_any V w2 xl).mono ?_
  rintro e u2 ⟨rfl, hu2⟩
  have bq : Below w2.heap.size w2 u2 := by rw [hu2]; exact ((Below.refl _ w2).alloc (Nat.le_refl _) _).alloc (by simp) _
  have hrB : Row8 u2.heap.size u2 (.slice (some ⟨w2.heap.size + 1, 0, none⟩) 4 4) (bytesL V) := by
    have := Row8.built (w2.alloc (bytesO V)) 52 (0, 0) (bytesL V) hzV (by simp [bytesL, maxLen]) _ rfl 4 rfl
    rw [hu2, show w2.heap.size + 1 = (w2.alloc (bytesO V)).heap.size from (World.size_alloc ..).symm]; exact this
  have o3 := ownsRow_same o2 fun b hb => bq.block b (o2.lt b hb).2
  have b3 := below_step b2 bq
  clear hu2 bq o2 b2
  go_wp2_with (at_builtin; refine held ?_)
  unfold Held
  refine wpList_append_row rfl _ _ 28 rfl w.heap.size 5 i0 Try.underlying28 hi hz0 hz1 hz2 v1 len zs rfl o3 _ 4 4 u2.heap.size (bytesL V) rfl hrB.1 (by omega) b3.size ?_
  intro v2 u3 o4 hg2 hv2
  have b4 : Below w.heap.size w u3 := b3.grown hg2 b3.size (fun b h => by have := (o3.lt b h).1; omega)
  clear hg2 hv2 o3 b3 hrB
  go_wp2
  go_ret
  exact ⟨_, rfl, o4, b4⟩
/-- bytes that are sealed -/
def opens (zs : List Int) : Prop := 4 ≤ zs.length ∧ leW (zs.drop (zs.length - 4)) 0 4 = sumL (zs.take (zs.length - 4))
set_option maxHeartbeats 2000000 in
theorem open_any (a : Option Addr) (len cap : Nat) (zs : List Int) (w : World) (hr : Row8 w.heap.size w (.slice a len cap) zs) (hsm : zs.length ≤ 140737488340000) :
    Calls Try.prog 16 #[.slice a len cap] w fun e w' => Below w.heap.size w w' ∧
      ((opens zs ∧ ∃ v, e = .returned (.tuple #[v, .int .i64 0]) ∧ w'.ownsRow w.heap.size 5 1 v (len - 4) ((zs.take (len - 4)).map (Value.int .u8))) ∨ (¬ opens zs ∧ e = .returned (.tuple #[.slice none 0 0, .int .i64 230]))) := by
  have e1 := hr.1.open.1
  have hcap := hr.1.cap
  by_cases h4 : 4 ≤ len
  rotate_left
  · have t1 : decide ((len : Int) - 4 < 0) = true := by simp; omega
    go_enter Try.func16, Try.ntmps16
    go_wp2
    go_ret2
    exact ⟨Below.refl _ _, .inr ⟨fun h => h4 (by have := h.1; omega), rfl⟩⟩
  have t1 : decide ((len : Int) - 4 < 0) = false := by simp; omega
  obtain ⟨N, hN⟩ : ∃ N, N = len - 4 := ⟨_, rfl⟩
  have hN2 : len = N + 4 := by omega
  have hO : opens zs ↔ leW (zs.drop N) 0 4 = sumL (zs.take N) := by
    unfold opens
    rw [e1, ← hN]
    exact ⟨fun h => h.2, fun h => ⟨by omega, h⟩⟩
  rw [← hN]
  have hn4 : (len : Int) - 4 = (N : Int) := by omega
  obtain ⟨s1, _⟩ := hr.sub N len (by omega) (Nat.le_refl _)
  obtain ⟨s2, _⟩ := hr.sub 0 N (Nat.zero_le _) (by omega)
  rw [List.drop_zero] at s2
  rw [List.take_of_length_le (by rw [List.length_drop]; omega)] at s1
  obtain ⟨_, b, off, hopen, _⟩ := hr.1.open
  obtain ⟨rfl, hbl, _, hcm⟩ := hopen (by omega)
  clear hopen
  have g1 : sliced (some ⟨b, off, none⟩) N len cap 1 = .slice (some ⟨b, off + N, none⟩) (len - N) (cap - N) := by
    unfold sliced
    rw [if_neg (by omega)]
    simp [Addr.add_lit]
  have g2 : sliced (some ⟨b, off, none⟩) 0 N cap 1 = .slice (some ⟨b, off, none⟩) N cap := by
    unfold sliced
    rw [if_neg (by omega)]
    simp [Addr.add_lit]
  rw [g1] at s1
  rw [g2] at s2
  clear g1 g2
  have hl4 : (zs.drop N).length = 4 := by rw [List.length_drop]; omega
  have hlN : (zs.take N).length = N := by rw [List.length_take]; omega
  have kr := fun (W : World) (q : Option Addr) (c : Nat) (h : Row8 W.heap.size W (.slice q (len - N) c) (zs.drop N)) => read_any q (len - N) c (zs.drop N) W h (by omega)
  have eV : readV (zs.drop N) = (leW (zs.drop N) 0 4 : Nat) := by unfold readV; rw [if_pos hl4]
  have eE : readE (zs.drop N) = 0 := by unfold readE; rw [if_pos hl4]
  rw [eV, eE] at kr
  have ks := fun (W : World) (q : Option Addr) (c : Nat) (h : Row8 W.heap.size W (.slice q N c) (zs.take N)) => sum_any q N c (zs.take N) W h (by omega)
  have kc := fun (W : World) (q : Option Addr) (c : Nat) (h : Row8 W.heap.size W (.slice q N c) (zs.take N)) => clone_any q N c (zs.take N) W h (by omega)
  obtain ⟨L, hL⟩ : ∃ L, L = leW (zs.drop N) 0 4 := ⟨_, rfl⟩
  obtain ⟨S, hS⟩ : ∃ S, S = sumL (zs.take N) := ⟨_, rfl⟩
  rw [← hL] at kr hO
  rw [← hS] at ks hO
  have hll : len ≤ 140737488340000 := by omega
  have hcc : cap ≤ 9223372036854775807 := by simp only [maxLen] at hcm; omega
  have hNl : N ≤ len := by omega
  have hcN : ¬ cap = N := by omega
  have k1 := kr w _ _ s1
  have HO := Lib.hid hO
  have H2 := Lib.hid s2
  have HK := Lib.hid ks
  have HC := Lib.hid kc
  clear hO eV eE hL hS hN hl4 hlN e1 hN2 kr s1 s2 ks kc hcm
  go_enter Try.func16, Try.ntmps16
  go_wp2_with (go_at_call 27; refine held ?_)
  unfold Held
  refine k1.mono ?_
  rintro e w1 ⟨rfl, b1⟩
  try dsimp only
  have s2 : Row8 w.heap.size w (.slice (some ⟨b, off, none⟩) N cap) (zs.take N) := H2
  have k2 := (show ∀ (W : World) (q : Option Addr) (c : Nat), Row8 W.heap.size W (.slice q N c) (zs.take N) → Calls Try.prog 11 #[.slice q N c] W fun e w' => e = .returned (.int .u32 S) ∧ Below W.heap.size W w' from HK) w1 _ _ ((s2.below b1).mono b1.size)
  clear k1 HK s2
  go_wp2_with (go_at_call 11; refine held ?_)
  unfold Held
  refine k2.mono ?_
  rintro e w2 ⟨rfl, b2⟩
  replace b2 := below_step b1 b2
  clear k2 b1
  by_cases hLS : L = S
  · subst hLS
    have s2 : Row8 w.heap.size w (.slice (some ⟨b, off, none⟩) N cap) (zs.take N) := H2
    have k3 := (show ∀ (W : World) (q : Option Addr) (c : Nat), Row8 W.heap.size W (.slice q N c) (zs.take N) → Calls Try.prog 28 #[.slice q N c] W fun e w' => ∃ v, e = .returned v ∧ w'.ownsRow W.heap.size 5 1 v N ((zs.take N).map (Value.int .u8)) ∧ Below W.heap.size W w' from HC) w2 _ _ ((s2.below b2).mono b2.size)
    clear HC s2
    go_wp2_with (go_at_call 28; refine held ?_)
    unfold Held
    refine k3.mono ?_
    rintro e w3 ⟨v, rfl, o3, b3⟩
    have o4 : w3.ownsRow w.heap.size 5 1 v N ((zs.take N).map (Value.int .u8)) := by
      have hb2 := b2.size
      refine ⟨o3.1, ?_⟩
      rcases o3.2 with h | ⟨g, cap, cur, h0, h1, h2⟩
      · exact .inl h
      · exact .inr ⟨g, cap, cur, h0, by omega, h2⟩
    replace b3 := below_step b2 b3
    clear k3 o3 b2
    go_wp2
    go_ret2
    exact ⟨b3, .inl ⟨(show opens zs ↔ True from HO).2 trivial, v, rfl, o4⟩⟩
  · have hne : ((L : Int) != (S : Int)) = true := by simp; omega
    have hLS' := Lib.hid hLS
    clear hLS
    go_wp2
    go_ret2
    exact ⟨b2, .inr ⟨fun h => hLS' ((show opens zs ↔ L = S from HO).1 h), rfl⟩⟩
end Go.Proofs.Ytcclakklaimiiaa
