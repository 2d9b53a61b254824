/- The walk of the document's long division. -/
import Derived.Test.YtcclakklaimiiaaCrcRefA
import Derived.Test.YtcclakklaimiiaaRowSlice
import Derived.Test.YtcclakklaimiiaaAppendInt
import Derived.BigRegion
namespace Go.Proofs.Ytcclakklaimiiaa
open Go Go.RowKit
set_option linter.unusedVariables false
set_option linter.unnecessarySimpa false
theorem dig_set {l : List Nat} (h : isDig l) (j x : Nat) (hx : x = 0 ∨ x = 1) : isDig (l.set j x) := by
  intro c hc
  rcases List.mem_or_eq_of_mem_set hc with h2 | rfl
  · exact h c h2
  · exact hx
theorem dig_at {l : List Nat} (h : isDig l) (j : Nat) : l.getD j 0 = 0 ∨ l.getD j 0 = 1 := by
  by_cases hj : j < l.length
  · rw [show l.getD j 0 = l[j] from by simp [List.getD, List.getElem?_eq_getElem hj]]; exact h _ (List.getElem_mem hj)
  · left; simp [List.getD, List.getElem?_eq_none (Nat.le_of_not_lt hj)]
theorem dv_at (l : List Nat) (j : Nat) (h : j < l.length) : (dv l)[j]? = some (.int .i64 ((l.getD j 0 : Nat) : Int)) := by
  simp [dv, List.getD, List.getElem?_eq_getElem h]
theorem dv_length (l : List Nat) : (dv l).length = l.length := List.length_map ..
theorem dv_set (l : List Nat) (j x : Nat) : dv (l.set j x) = (dv l).set j (.int .i64 (x : Int)) := List.map_set ..
/-- the divisor's block -/
def byO : Obj := .cells (dv byL).toArray 3
theorem byO_lit : Obj.cells #[.int .i64 1, .int .i64 0, .int .i64 0, .int .i64 0, .int .i64 0, .int .i64 0, .int .i64 1, .int .i64 0, .int .i64 0, .int .i64 1, .int .i64 1, .int .i64 0, .int .i64 0, .int .i64 0, .int .i64 0, .int .i64 0, .int .i64 1, .int .i64 0, .int .i64 0, .int .i64 0, .int .i64 1, .int .i64 1, .int .i64 1, .int .i64 0, .int .i64 1, .int .i64 1, .int .i64 0, .int .i64 1, .int .i64 1, .int .i64 0, .int .i64 1, .int .i64 1, .int .i64 1] 3 = byO := by kernel_rfl
theorem byO_at {W : World} {b : Nat} (hW : W.heap[b]? = some byO) (k : Nat) (h : k < 33) : W.cell? ⟨b, k, none⟩ = some (.int .i64 ((byL.getD k 0 : Nat) : Int)) := by
  unfold byO at hW
  simp only [World.cell?, hW]
  rw [List.getElem?_toArray, dv_at byL k h]; rfl
theorem step_word {zs : List Nat} {N i k V : Nat} (hz : zs.length = N) (hd : isDig zs) (hi : i + 32 < N) (hk : k < 33) (hV : valW zs = V ^^^ addG byL (N - 1 - i) k) :
    valW (zs.set (i + k) ((zs.getD (i + k) 0 + byL.getD k 0) % 2)) = V ^^^ addG byL (N - 1 - i) (k + 1) := by
  rw [valW_set zs (i + k) _ (by omega) (dig_at hd _) (byL_bit k hk), hV, addG, Nat.xor_assoc, hz, show N - 1 - (i + k) = N - 1 - i - k by omega]
theorem set_other {zs : List Nat} {j i x : Nat} (h : j ≠ i) : (zs.set i x).getD j 0 = zs.getD j 0 := by
  simp [List.getD, Ne.symm h]
theorem set_same {zs : List Nat} {i x : Nat} (h : i < zs.length) : (zs.set i x).getD i 0 = x := by
  simp [List.getD, h]
theorem di_drop (l : List Nat) (m : Nat) : (di l).drop m = di (l.drop m) := by simp [di, List.map_drop]
set_option maxRecDepth 100000 in
set_option maxHeartbeats 4000000 in
theorem left_any (a : Option Addr) (cap : Nat) (l : List Nat) (m : Nat) (w : World) (hr : RowI .i64 w.heap.size w (.slice a (m + 32) cap) (di l)) (hd : isDig l) (hm : m ≤ 1000000) :
    Calls Try.prog 32 #[.slice a (m + 32) cap] w fun e w' => ∃ (b : Option Addr) (c : Nat) (ys : List Nat), e = .returned (.slice b 32 c) ∧ RowI .i64 w'.heap.size w' (.slice b 32 c) (di ys) ∧ isDig ys ∧ wordL (turnL ys) = valW l ^^^ onesN ∧ Below w.heap.size w w' := by
  obtain ⟨i0, hi, hz0, hz1, hz2⟩ := info_parts info_int
  have hlen := hr.open.1
  rw [di_length] at hlen
  go_enter Try.func32, Try.ntmps32
  go_wp2_with (at_builtin; refine held ?_)
  unfold Held
  rw [byO_lit]
  obtain ⟨W1, hW1⟩ : ∃ W1, W1 = w.alloc byO := ⟨_, rfl⟩
  have hby : W1.heap[w.heap.size]? = some byO := by rw [hW1]; exact World.alloc_heap_new w _
  have b1 : Below w.heap.size w W1 := by rw [hW1]; exact (Below.refl _ w).alloc (Nat.le_refl _) _
  have s1 : W1.heap.size = w.heap.size + 1 := by rw [hW1]; simp
  rw [← hW1]
  clear hW1
  refine wpList_append_int rfl _ _ 56 rfl W1.heap.size 3 i0 Try.underlying56 hi hz0 hz1 hz2 (.slice none 0 0) 0 [] rfl (World.ownsRow_nil _ _ _ _) a (m + 32) cap w.heap.size (di l) rfl (hr.below b1) (by omega) (Nat.le_refl _) ?_
  intro v1 u1 o1 hg1 hv1
  rw [Nat.zero_add, List.nil_append, ← dv_di] at o1
  have hby1 : u1.heap[w.heap.size]? = some byO := (hg1.block _ (by omega) (by simp [Value.ownBlock])).trans hby
  have b2 : Below w.heap.size w u1 := b1.grown hg1 b1.size (by simp [Value.ownBlock])
  have s2 := hg1.size
  obtain ⟨ca, cc, rfl, hca⟩ := ownsRow_slice o1
  obtain ⟨g, rfl, hg⟩ := hca.resolve_left (by omega)
  have hgB := o1.lt g hg
  have hcc := (RowI.of_own (by rw [dv_di] at o1; exact o1)).2
  have hcap := hcc.cap
  have hcm : cc ≤ maxLen := by
    rcases hcc with ⟨_, _, h, _⟩ | ⟨_, _, _, h, _, _, h6, _⟩
    · injection h with _ h; omega
    · injection h with _ _ h; omega
  obtain ⟨N, hN⟩ : ∃ N, N = m + 32 := ⟨_, rfl⟩
  rw [← hN] at o1 hlen hcap ⊢
  have hNm : (N : Int) - 32 = (m : Int) := by omega
  have hNl : N ≤ 1000032 := by omega
  have hg2 : w.heap.size < g := by omega
  have HN := Lib.hid hN
  clear hN hg1 hv1 hby b1 s1 hca hcc hgB s2
  simp only [maxLen] at hcm
  go_wp2_with fail
  go_loopw [5, 6] (fun x _ wr => ∃ (i : Nat) (ys : List Nat), x = .int .i64 (i : Int) ∧ i ≤ m ∧ ys.length = N ∧ isDig ys ∧ Hid (valW ys = valW l) ∧ Hid (∀ j, j < i → ys.getD j 0 = 0) ∧ wr.ownsRow W1.heap.size 3 1 (.slice (some ⟨g, 0, none⟩) N cc) N (dv ys) ∧ wr.heap[w.heap.size]? = some byO ∧ Below w.heap.size w wr) (fun x _ _ => m - (intOf x).toNat)
  case atStart => exact ⟨0, l, rfl, by omega, hlen, hd, rfl, fun j h => by omega, o1, hby1, b2⟩
  case round =>
    clear o1 hby1 b2
    obtain ⟨i, ys, rfl, hi2, hys, hyd, hV, hZ, hown, hby, hb⟩ := hrel
    have hN : N = m + 32 := HN
    by_cases hlt : i < m
    · have t1 : decide ((i : Int) + 32 < (N : Int)) = true := by simp; omega
      have hi32 : i + 32 < N := by omega
      have ck : wr.cell? ⟨g, i, none⟩ = some (.int .i64 ((ys.getD i 0 : Nat) : Int)) := by
        rw [hown.cellAt i (by omega), dv_at ys i (by omega)]
      rcases dig_at hyd i with h0 | h1
      · rw [h0] at ck
        have H0 := Lib.hid h0
        clear h0 hN
        go_wp2_with fail
        go_roundw
        case rel =>
          refine ⟨i + 1, ys, by go_num, by omega, hys, hyd, hV, ?_, hown, hby, hb⟩
          intro j hj
          by_cases hji : j = i
          · rw [hji]; exact H0
          · exact hZ j (by omega)
        case measure => simp [intOf]; omega
      · rw [h1] at ck
        have H1 := Lib.hid h1
        clear h1 hN
        go_wp2_with fail
        go_loopw [6] (fun x wx => ∃ (k : Nat) (zs : List Nat), x = .int .i64 (k : Int) ∧ k ≤ 33 ∧ zs.length = N ∧ isDig zs ∧ Hid (valW zs = valW l ^^^ addG byL (N - 1 - i) k) ∧ Hid (∀ j, j < i → zs.getD j 0 = 0) ∧ Hid ((k = 0 → zs.getD i 0 = 1) ∧ (0 < k → zs.getD i 0 = 0)) ∧ wx.ownsRow W1.heap.size 3 1 (.slice (some ⟨g, 0, none⟩) N cc) N (dv zs) ∧ wx.heap[w.heap.size]? = some byO ∧ Below w.heap.size w wx) (fun x _ => 33 - (intOf x).toNat)
        case atStart => exact ⟨0, ys, rfl, by omega, hys, hyd, (by rw [addG, Nat.xor_zero]; exact hV : valW ys = valW l ^^^ addG byL (N - 1 - i) 0), hZ, ⟨fun _ => H1, fun h => by omega⟩, hown, hby, hb⟩
        case round =>
          clear hown hby hb ck hV hZ H1 hyd hys
          obtain ⟨k, zs, rfl, hk, hzs, hzd, hV, hZ, hI, hown, hby, hb⟩ := hrel
          by_cases hk2 : k < 33
          · have t2 : decide ((k : Int) ≤ 32) = true := by simp; omega
            have ck1 : wr.cell? ⟨g, i + k, none⟩ = some (.int .i64 ((zs.getD (i + k) 0 : Nat) : Int)) := by
              rw [hown.cellAt (i + k) (by omega), dv_at zs (i + k) (by omega)]
            have ck2 := byO_at hby k hk2
            have fk := hown.frozenAt (i + k)
            have hst := Lib.hid (fun u => (hown.stored (i + k) u).1)
            have hA := dig_at hzd (i + k)
            have hB := byL_bit k hk2
            have hStep := Lib.hid (step_word hzs hzd hi32 hk2 hV)
            obtain ⟨A, hAe⟩ : ∃ A, A = zs.getD (i + k) 0 := ⟨_, rfl⟩
            obtain ⟨B, hBe⟩ : ∃ B, B = byL.getD k 0 := ⟨_, rfl⟩
            rw [← hAe] at ck1 hA
            rw [← hBe] at ck2 hB
            have HA := Lib.hid hAe
            have HB := Lib.hid hBe
            have hA1 : A ≤ 1 := by omega
            have hB1 : B ≤ 1 := by omega
            clear hAe hBe hA hB
            have HBY := Lib.hid hby
            clear hby
            go_wp2_with fail
            go_region
            go_wp2
            go_roundw
            case rel =>
              have hAe : A = zs.getD (i + k) 0 := HA
              have hBe : B = byL.getD k 0 := HB
              refine ⟨k + 1, zs.set (i + k) ((zs.getD (i + k) 0 + byL.getD k 0) % 2), by go_num, by omega, by rw [List.length_set]; exact hzs, dig_set hzd _ _ (by omega), hStep, ?_, ?_, ?_, ?_, ?_⟩
              · intro j hj
                rw [set_other (by omega)]; exact hZ j hj
              · refine ⟨fun h => by omega, fun _ => ?_⟩
                by_cases h0 : k = 0
                · subst h0
                  have h1 := hI.1 rfl
                  rw [Nat.add_zero, set_same (by omega), h1]; rfl
                · rw [set_other (by omega)]; exact hI.2 (by omega)
              · have h := (show ∀ u, (wr.setCell ⟨g, i + k, none⟩ u).ownsRow W1.heap.size 3 1 (.slice (some ⟨g, 0, none⟩) N cc) N ((dv zs).set (i + k) u) from hst) (.int .i64 (((A : Int) + (B : Int)) % 2))
                rw [dv_set, ← hAe, ← hBe, show (((A + B) % 2 : Nat) : Int) = ((A : Int) + (B : Int)) % 2 by omega]
                exact ownsRow_same h fun b hb => rfl
              · exact (Below.heap_setCell wr ⟨g, i + k, none⟩ _ w.heap.size (by show ¬ w.heap.size = g; omega)).trans HBY
              · have h4 := hb.setCell (p := ⟨g, i + k, none⟩) (by show w.heap.size ≤ g; omega) (.int .i64 (((A : Int) + (B : Int)) % 2))
                exact ⟨h4.os, h4.tape, h4.output, h4.size, h4.block⟩
            case measure => simp [intOf]; omega
          · have t2 : decide ((k : Int) ≤ 32) = false := by simp; omega
            obtain rfl : k = 33 := by omega
            have hN : N = m + 32 := HN
            have hV2 : valW zs = valW l := by
              have h := show valW zs = valW l ^^^ addG byL (N - 1 - i) 33 from hV
              rw [h, show N - 1 - i = 32 + (m - 1 - i) by omega, addG_by, Nat.xor_zero]
            have HV2 := Lib.hid hV2
            clear hV2 hN hV
            go_wp2_with fail
            go_roundw
            case rel =>
              refine ⟨i + 1, zs, by go_num, by omega, hzs, hzd, HV2, ?_, hown, hby, hb⟩
              intro j hj
              by_cases hji : j = i
              · rw [hji]; exact hI.2 (by omega)
              · exact hZ j (by omega)
            case measure => simp [intOf]; omega
    · obtain rfl : i = m := by omega
      have t1 : decide ((i : Int) + 32 < (N : Int)) = false := by simp; omega
      have hcN : ¬ cc = i := by omega
      have hiN : i ≤ N := by omega
      have h32 : N - i = 32 := by omega
      have hrow := (RowI.of_own (by rw [dv_di] at hown; exact hown)).2
      obtain ⟨hsub, _⟩ := hrow.sub i N hiN (Nat.le_refl _)
      have g1 : sliced (some ⟨g, 0, none⟩) i N cc 1 = .slice (some ⟨g, i, none⟩) 32 (cc - i) := by
        unfold sliced
        rw [if_neg (by omega), h32]
        simp [Addr.add_lit]
      rw [g1, List.take_of_length_le (by rw [List.length_drop, di_length]; omega), di_drop] at hsub
      have hval := read_val ys i (by omega) hyd hZ
      rw [show valW ys = valW l from hV] at hval
      have HS := Lib.hid hsub
      have HVL := Lib.hid hval
      clear hrow g1 hsub hval hN hZ hV
      go_wp2
      go_ret
      exact ⟨_, _, ys.drop i, rfl, HS, fun c h => hyd c (List.mem_of_mem_drop h), HVL, hb⟩
end Go.Proofs.Ytcclakklaimiiaa
