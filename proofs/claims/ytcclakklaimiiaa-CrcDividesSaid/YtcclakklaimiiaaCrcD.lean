/- The walk of crc.More and crc.Sum. -/
import Derived.Test.YtcclakklaimiiaaCrcC
import Derived.Maps.OwnIn
namespace Go.Proofs.Ytcclakklaimiiaa
open Go Go.RowKit
attribute [local go_sem] Oper.semAt_some
set_option linter.unusedVariables false
set_option linter.unnecessarySimpa false
/-- what half bytes leave -/
def crcH (s : Nat) (hs : List Nat) : Nat := hs.foldl (fun s h => crcTs 4 (s ^^^ h)) s
theorem crcH_succ (s : Nat) (hs : List Nat) (k : Nat) (h : k < hs.length) : crcH s (hs.take (k + 1)) = crcTs 4 (crcH s (hs.take k) ^^^ hs[k]) := by
  rw [List.take_succ_eq_append_getElem h]
  simp only [crcH, List.foldl_append, List.foldl_cons, List.foldl_nil]
theorem crcH_all (zs : List Int) : ∀ s, crcH s (halvesL zs) = crcF s (zs.map Int.toNat) := by
  induction zs with
  | nil => intro s; rfl
  | cons z r ih =>
    intro s
    have e : halvesL (z :: r) = [z.toNat % 16, z.toNat / 16] ++ halvesL r := rfl
    rw [e, List.map_cons, crcF, ← ih, ← crc_byte]
    simp only [crcH, List.foldl_append, List.foldl_cons, List.foldl_nil]
theorem halvesL_lt (zs : List Int) (hz : ∀ z ∈ zs, 0 ≤ z ∧ z ≤ 255) : ∀ h ∈ halvesL zs, h < 16 := by
  intro h hh
  obtain ⟨z, hz1, hz2⟩ := List.mem_flatMap.1 hh
  have := hz z hz1
  simp at hz2
  omega
theorem crcH_lt (s : Nat) (hs : List Nat) (hl : ∀ h ∈ hs, h < 16) (h : s < 4294967296) : crcH s hs < 4294967296 := by
  induction hs generalizing s with
  | nil => exact h
  | cons x r ih =>
    have hx := hl x (List.mem_cons_self ..)
    exact ih _ (fun y hy => hl y (List.mem_cons_of_mem _ hy)) (crcTs_lt 4 (Nat.xor_lt_two_pow (n := 32) h (by omega)))
set_option maxRecDepth 100000 in
set_option maxHeartbeats 4000000 in
theorem more_any (n : Nat) (a : Option Addr) (len cap : Nat) (zs : List Int) (w : World) (hn : n < 4294967296) (hr : Row8 w.heap.size w (.slice a len cap) zs) (hsm : zs.length ≤ 140737488350000) :
    Calls Try.prog 13 #[.int .u32 n, .slice a len cap] w fun e w' => e = .returned (.int .u32 (moreN n (zs.map Int.toNat))) ∧ Below w.heap.size w w' := by
  refine (callsIn_wide (n := 102)).1 ?_
  refine callsIn_of_wp_marks Try.func13 rfl trivial ?_ rfl
  simp only [Try.ntmps13, List.size_toArray, List.length_cons, List.length_nil, Nat.reduceAdd, Nat.reduceSub, Array.replicate_succ, Array.replicate_zero, List.push_toArray, List.append_toArray, List.nil_append, List.cons_append]
  have hf1 : Fence.wide.fn 23 := trivial
  have hf2 : Fence.wide.fn 24 := trivial
  gi_wp2_with (gi_at_call 23; refine held ?_)
  unfold Held
  refine callsIn_wide.2 ((table_any _).mono ?_)
  rintro e W1 ⟨rfl, hb1⟩
  have hB1 : Boxed W1 w.heap.size 22 (.int .u32 n) := (hb1.block _ (by simp)).trans (Boxed.new w 22 (.int .u32 n))
  have c1 := hB1.cell
  have f1 := hB1.frozen
  have hl1 := hB1.lt
  have hbw : Below w.heap.size w W1 := ((Below.refl _ w).alloc (Nat.le_refl _) _).trans (hb1.mono (by simp))
  clear hb1
  rw [tabV_all]
  have hx : bits .xor .u32 (n : Int) 4294967295 = ((n ^^^ 4294967295 : Nat) : Int) := xor_u32 n 4294967295 hn (by decide)
  gi_wp2_with (gi_at_call 24; refine held ?_)
  unfold Held
  rw [← tabV_all]
  clear hx c1 f1
  obtain ⟨V, hV⟩ : ∃ V, V = (W1.setCell ⟨w.heap.size, 0, none⟩ (.int .u32 (n ^^^ 4294967295 : Nat))).alloc (.cells (tabV 16) 46) := ⟨_, rfl⟩
  have eV : (W1.setCell ⟨w.heap.size, 0, none⟩ (.int .u32 (n ^^^ 4294967295 : Nat))).heap.size = W1.heap.size := by show (W1.heap.modify _ _).size = _; rw [Array.size_modify]
  have sV : V.heap.size = W1.heap.size + 1 := by rw [hV, World.size_alloc, eV]
  have bV : Boxed V w.heap.size 22 (.int .u32 (n ^^^ 4294967295 : Nat)) := by rw [hV]; exact (hB1.set _).alloc _
  have tV : V.heap[W1.heap.size]? = some (.cells (tabV 16) 46) := by rw [hV, ← eV]; exact World.alloc_heap_new _ _
  have bW : Below w.heap.size w V := by rw [hV]; exact (hbw.setCell (p := ⟨w.heap.size, 0, none⟩) (Nat.le_refl _) _).alloc (by rw [eV]; omega) _
  rw [← hV]
  clear hV eV
  refine (halves_in Fence.wide _ trivial rfl _ _ _ _).mono ?_
  rintro e V2 ⟨rfl, hV2⟩
  have sV2 : V2.heap.size = W1.heap.size + 2 := by rw [hV2, World.size_alloc, sV]
  have bV2 : Boxed V2 w.heap.size 22 (.int .u32 (n ^^^ 4294967295 : Nat)) := by rw [hV2]; exact bV.alloc _
  have cV2 : Boxed V2 (W1.heap.size + 1) 28 (.slice a len cap) := by rw [hV2, ← sV]; exact Boxed.new _ _ _
  have tV2 : V2.heap[W1.heap.size]? = some (.cells (tabV 16) 46) := by rw [hV2]; exact (Below.heap_alloc V _ _ (by omega)).trans tV
  have bW2 : Below w.heap.size w V2 := by rw [hV2]; exact bW.alloc (by omega) _
  rw [sV]
  clear hV2 bV tV bW sV
  gi_wp2
  have hr3 : Row8 V2.heap.size V2 (.slice a len cap) zs := (hr.same fun b hb => bW2.block b (hr.lt b hb)).mono (by omega)
  refine range_law (gf := 36) rfl (enters_of Try.func36 (by kernel_rfl) rfl)
    (halves1_iter (W1.heap.size + 1) _ zs V2 (by omega) cV2.cell hr3 (by omega)) (fun _ => rfl)
    (fun k S A => S = (fun b => b = w.heap.size) ∧ Boxed A w.heap.size 22 (.int .u32 (crcH (n ^^^ 4294967295) ((halvesL zs).take k) : Nat)) ∧ A.heap[W1.heap.size]? = some (.cells (tabV 16) 46) ∧ Below w.heap.size w A)
    (fun c k S A => False)
    (fun b => b = w.heap.size) ?hX ?hI ?hIx ?hlt ?h0
    (fun h => { tmps := #[.int .u32 n, .slice a len cap, .pointer (some ⟨w.heap.size, 0, none⟩), undef, .int .u32 0, .pointer (some ⟨W1.heap.size, 0, none⟩), .int .u32 (h : Nat), .agg (tabV 16), .int .u32 n, .int .u32 (n ^^^ 4294967295 : Nat),
      .slice a len cap, .func (.func 36) #[] #[.pointer (some ⟨W1.heap.size + 1, 0, none⟩)], .int .u32 (h : Nat), undef, undef, undef, undef, undef, undef, undef, undef, undef, undef, undef], defers := [] }) ?assign ?body ?done ?stop
  case hX =>
    rintro b (rfl | hb)
    · exact ⟨by omega, fun h => by omega⟩
    · have := hr.lt b hb
      exact ⟨by omega, fun h => by omega⟩
  case hI =>
    rintro k S A A' ⟨rfl, h1, h2, h3⟩ hs
    exact ⟨rfl, (hs.block _ (.inr rfl)).trans h1, (hs.block _ (.inl (by omega))).trans h2, h3.trans (hs.below (fun b hb => .inl (by omega)))⟩
  case hIx => intro c k S A A' h; exact h.elim
  case hlt =>
    rintro k S A ⟨rfl, h1, h2, h3⟩ b rfl
    exact h1.lt
  case h0 => exact ⟨rfl, bV2, tV2, bW2⟩
  case assign =>
    intro l' k A K hK
    gi_wp2
    exact hK
  case body =>
    rintro l' k hk S A ⟨rfl, h1, h2, h3⟩
    have hh := halvesL_lt zs hr.2 _ (List.getElem_mem hk)
    have hN := crcH_lt (n ^^^ 4294967295) ((halvesL zs).take k) (fun x hx => halvesL_lt zs hr.2 x (List.mem_of_mem_take hx)) (Nat.xor_lt_two_pow (n := 32) hn (by decide))
    have hsc := crcH_succ (n ^^^ 4294967295) (halvesL zs) k hk
    obtain ⟨N, hNe⟩ : ∃ N, N = crcH (n ^^^ 4294967295) ((halvesL zs).take k) := ⟨_, rfl⟩
    obtain ⟨h, hhe⟩ : ∃ h, h = (halvesL zs)[k] := ⟨_, rfl⟩
    rw [← hNe] at h1 hN hsc
    rw [← hhe] at hh hsc ⊢
    obtain ⟨X, hX⟩ : ∃ X, X = N ^^^ h := ⟨_, rfl⟩
    have hhalf := crc_half N h hh
    rw [← hX] at hsc hhalf
    have hXl : X < 4294967296 := by rw [hX]; exact Nat.xor_lt_two_pow (n := 32) hN (by omega)
    obtain ⟨Y, hY⟩ : ∃ Y, Y = crcTs 4 (X % 16) := ⟨_, rfl⟩
    have hYl : Y < 4294967296 := by rw [hY]; exact crcTs_lt 4 (by omega)
    obtain ⟨J, hJ⟩ : ∃ J, J = X % 16 := ⟨_, rfl⟩
    have hJ16 : J < 16 := by omega
    have ha15 : bits .and .u32 (X : Int) 15 = (J : Int) := by rw [and15_u32]; omega
    have hc : A.cell? ⟨W1.heap.size, J, none⟩ = some (.int .u32 (Y : Nat)) := by
      rw [hY, ← hJ]
      simp only [World.cell?, h2]
      rw [tabV_at _ _ hJ16, if_pos hJ16]
      rfl
    have hxv : bits .xor .u32 (N : Int) (h : Int) = (X : Int) := by rw [hX]; exact xor_u32 N h hN (by omega)
    have hfin : bits .xor .u32 ((N : Int) / 16) (Y : Int) = ((crcTs 4 X : Nat) : Int) := by
      rw [show (N : Int) / 16 = ((N / 16 : Nat) : Int) by omega, xor_u32 _ _ (by omega) hYl, hY, hhalf]
    have c1 := h1.cell
    have f1 := h1.frozen
    rw [← hY] at hhalf
    have hJ16 : (J : Int) < 16 := by omega
    have k1 : Boxed (A.setCell ⟨w.heap.size, 0, none⟩ (.int .u32 (crcTs 4 X : Nat))).drew w.heap.size 22 (.int .u32 (crcH (n ^^^ 4294967295) ((halvesL zs).take (k + 1)) : Nat)) := by rw [hsc]; exact h1.set _
    have k2 : (A.setCell ⟨w.heap.size, 0, none⟩ (.int .u32 (crcTs 4 X : Nat))).drew.heap[W1.heap.size]? = some (.cells (tabV 16) 46) := (Below.heap_setCell A ⟨w.heap.size, 0, none⟩ _ W1.heap.size (by show ¬ W1.heap.size = w.heap.size; omega)).trans h2
    have k3 : Below w.heap.size w (A.setCell ⟨w.heap.size, 0, none⟩ (.int .u32 (crcTs 4 X : Nat))).drew := by
      have h4 := h3.setCell (p := ⟨w.heap.size, 0, none⟩) (Nat.le_refl _) (.int .u32 (crcTs 4 X : Nat))
      exact ⟨h4.os, h4.tape, h4.output, h4.size, h4.block⟩
    have k4 : Wr (fun b => b = w.heap.size) (fun b => b = w.heap.size) A (A.setCell ⟨w.heap.size, 0, none⟩ (.int .u32 (crcTs 4 X : Nat))).drew := ((Wr.refl (fun b => b = w.heap.size) A).setCell (p := ⟨w.heap.size, 0, none⟩) (.inl rfl) _).drew
    have KK : Hid (RoundPost (fun k S A => S = (fun b => b = w.heap.size) ∧ Boxed A w.heap.size 22 (.int .u32 (crcH (n ^^^ 4294967295) ((halvesL zs).take k) : Nat)) ∧ A.heap[W1.heap.size]? = some (.cells (tabV 16) 46) ∧ Below w.heap.size w A) (fun c k S A => False) k (fun b => b = w.heap.size) A .normal { tmps := #[], defers := [] } (A.setCell ⟨w.heap.size, 0, none⟩ (.int .u32 (crcTs 4 X : Nat))).drew) := ⟨_, ⟨rfl, k1, k2, k3⟩, k4⟩
    clear hhalf hX hY hNe hhe h2 hJ hsc k1 k2 k3 k4
    gi_wp2
    gi_region
    all_goals exact KK
  case done =>
    rintro D S A hD hS ⟨rfl, h1, h2, h3⟩ hK
    rw [List.take_length, crcH_all] at h1
    have hl := crcF_lt (zs.map Int.toNat) (fun x hx => by obtain ⟨z, hz, rfl⟩ := List.mem_map.1 hx; have := hr.2 z hz; omega) (n ^^^ 4294967295) (Nat.xor_lt_two_pow (n := 32) hn (by decide))
    obtain ⟨N, hNe⟩ : ∃ N, N = crcF (n ^^^ 4294967295) (zs.map Int.toNat) := ⟨_, rfl⟩
    rw [← hNe] at h1 hl
    have c1 := h1.cell
    have HN := Lib.hid hNe
    clear hNe
    have hx : bits .xor .u32 (N : Int) 4294967295 = ((N ^^^ 4294967295 : Nat) : Int) := xor_u32 N 4294967295 hl (by decide)
    gi_wp2
    refine ⟨by simp, .inl ⟨_, _, rfl, run_takeDeferred hK, ?_⟩⟩
    refine ⟨.int .u32 (moreN n (zs.map Int.toNat) : Nat), ?_, rfl, h3.trans (SameOn.below (SameOn.putObj (p := fun b => b < w.heap.size) _ _ _ (by show ¬ D < w.heap.size; omega)) (fun b hb => hb))⟩
    have hNe : N = crcF (n ^^^ 4294967295) (zs.map Int.toNat) := HN
    rw [show moreN n (zs.map Int.toNat) = N ^^^ 4294967295 by rw [hNe]; rfl]
    clear hNe HN
    simp [results, Try.results13, go_sem]
  case stop =>
    rintro D c k S A hD hS hk h hK
    exact h.elim
end Go.Proofs.Ytcclakklaimiiaa
