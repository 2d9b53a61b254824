/- The walk of the document's Words, of word.Read. -/
import Derived.Test.YtkagconllphdiaaWordAll
namespace Go.Proofs.Ytkagconllphdiaa
open Go Go.RowKit
set_option linter.unusedVariables false
set_option linter.unnecessarySimpa false
set_option maxRecDepth 100000 in
set_option maxHeartbeats 400000 in
theorem refwords_any (a : Option Addr) (len cap : Nat) (zs : List Int) (w : World) (hr : Row8 w.heap.size w (.slice a len cap) zs) (hsm : zs.length ≤ 140737488350000) :
    Calls Try.prog 25 #[.slice a len cap] w (WordsPost w zs) := by
  obtain ⟨i0, hi, hz0, hz1, hz2⟩ := info_parts info_u32
  obtain ⟨hr1, hz⟩ := hr
  obtain ⟨hlen, b, off, hopen, hc⟩ := hr1.open
  subst hlen
  go_enter Try.func25, Try.ntmps25
  by_cases h4 : zs.length % 4 = 0
  · have hq : (((zs.length : Nat) : Int) % 4 != 0) = false := by simp; omega
    have H4 := Lib.hid h4
    clear h4
    go_wp2
    go_loopw [4, 5] (fun v i wr => ∃ q : Nat, q ≤ zs.length ∧ q % 4 = 0 ∧ i = .int .i64 q ∧ Below w.heap.size w wr ∧ wr.ownsRow w.heap.size 22 1 v (q / 4) ((wordsV zs (q / 4)).map (Value.int .u32)) ∧ (v = .slice none 0 0 ↔ q / 4 = 0)) (fun _ i _ => zs.length + 4 - (intOf i).toNat)
    case atStart => exact ⟨0, Nat.zero_le _, rfl, rfl, Below.refl _ _, World.ownsRow_nil _ _ _ _, by simp⟩
    case round =>
      have h4 : zs.length % 4 = 0 := H4
      obtain ⟨k, hk, hk4, rfl, hb, hown, hnil⟩ := hrel
      by_cases hlt : k < zs.length
      · obtain ⟨rfl, hbn, _, _⟩ := hopen (by omega)
        have cell : ∀ j, k + j < zs.length → ∃ x : Nat, wr.cell? ⟨b, off + (k + j), none⟩ = some (.int .u8 x) ∧ x ≤ 255 ∧ zs.getD (k + j) 0 = x := fun j hj => by
          have h := hz _ (List.getElem_mem hj)
          rw [← getD_at _ _ hj] at h
          refine ⟨(zs.getD (k + j) 0).toNat, ?_, by omega, by omega⟩
          rw [Int.toNat_of_nonneg h.1]
          exact (hb.cell (p := ⟨b, off + (k + j), none⟩) hbn).trans (hc _ hj)
        obtain ⟨x0, c0, l0, e0⟩ := cell 0 (by omega)
        obtain ⟨x1, c1, l1, e1⟩ := cell 1 (by omega)
        obtain ⟨x2, c2, l2, e2⟩ := cell 2 (by omega)
        obtain ⟨x3, c3, l3, e3⟩ := cell 3 (by omega)
        have t1 : decide ((k : Int) < ((zs.length : Nat) : Int)) = true := by simp; omega
        have i0' : (0 : Int) ≤ (k : Int) := by omega
        have i1' : (k : Int) + 1 < (zs.length : Int) := by omega
        have i2' : (k : Int) + 2 < (zs.length : Int) := by omega
        have i3' : (k : Int) + 3 < (zs.length : Int) := by omega
        have j1' : (0 : Int) ≤ (k : Int) + 1 := by omega
        have j2' : (0 : Int) ≤ (k : Int) + 2 := by omega
        have j3' : (0 : Int) ≤ (k : Int) + 3 := by omega
        have w1' : IntKind.i64.wrap ((k : Int) + 1) = (k : Int) + 1 := by rw [IntKind.wrap_i64]; omega
        have w2' : IntKind.i64.wrap ((k : Int) + 2) = (k : Int) + 2 := by rw [IntKind.wrap_i64]; omega
        have w3' : IntKind.i64.wrap ((k : Int) + 3) = (k : Int) + 3 := by rw [IntKind.wrap_i64]; omega
        have hbw : b < wr.heap.size := by have := hb.size; omega
        have hm1 : k / 4 + 1 ≤ maxLen := by simp only [maxLen]; omega
        have hne : some b ≠ u4.ownBlock := fun e => by have := (hown.lt b e.symm).1; omega
        have E := Lib.hid (And.intro e0 (And.intro e1 (And.intro e2 e3)))
        have HC := Lib.hid hc
        have hsz := hb.size
        have HK := Lib.hid hk4
        clear e0 e1 e2 e3 hc cell h4 hk4
        rw [Nat.add_zero] at c0
        rw [show k + 2 = ((k : Int) + 2).toNat from by omega] at c2
        rw [show k + 3 = ((k : Int) + 3).toNat from by omega] at c3
        go_wp2_with fail
        go_region_held3 (fun w' => w'.cell? ⟨b, off + k, none⟩ = some (.int .u8 x0) ∧ w'.cell? ⟨b, off + (k + 1), none⟩ = some (.int .u8 x1) ∧ w'.cell? ⟨b, off + ((k : Int) + 2).toNat, none⟩ = some (.int .u8 x2) ∧ w'.cell? ⟨b, off + ((k : Int) + 3).toNat, none⟩ = some (.int .u8 x3))
          (first
            | go_keep
            | (go_split_ands
               refine ⟨?_, ?_, ?_, ?_⟩
               · (rw [hgrow.cell_far _ (by simp; omega) hne]; assumption)
               · (rw [hgrow.cell_far _ (by simp; omega) hne]; assumption)
               · (rw [hgrow.cell_far _ (by simp; omega) hne]; assumption)
               · (rw [hgrow.cell_far _ (by simp; omega) hne]; assumption)))
          ((refine step_append_lies _ (by rfl) _ _ _ (by rfl) w.heap.size 22 i0 _ 1 4 Try.underlying45 hi hz0 hz1 hz2 rfl (by omega) _ (k / 4) _ (by rfl) ((hown.alloc _).drew)
                ⟨wr.heap.size, 0, none⟩ 1 1 [_] (by rfl) (by rfl) (World.news_of_block (cs := #[_]) (t := 22) (fr := (0, 0)) (heap_alloc_new wr _)) (by simp [Value.oneCell'])
                (by omega) hm1 (by omega) (by simp; omega) (wr.heap.size + 1) (by simp) ?_; intro gg cp w1 hown1 hgrow hat hlt1))
        go_wp2
        have hk4 : k % 4 = 0 := HK
        have hE : zs.getD (k + 0) 0 = x0 ∧ zs.getD (k + 1) 0 = x1 ∧ zs.getD (k + 2) 0 = x2 ∧ zs.getD (k + 3) 0 = x3 := E
        have hh4 : zs.length % 4 = 0 := H4
        refine ⟨⟨k + 4, by omega, by omega, by congr 1, (hb.alloc hsz _).drew.grown hgrow (by simp; omega) (fun g hg => (hown.lt g hg).1), ?_, by simp⟩, by simp [intOf]; omega⟩
        rw [show (k + 4) / 4 = k / 4 + 1 from by omega, wordsV_succ, List.map_append]
        have ev : leW zs (4 * (k / 4)) 4 = x0 + 256 * x1 + 65536 * x2 + 16777216 * x3 := by
          rw [show 4 * (k / 4) = k from by omega]
          simp only [leW, hE, Int.toNat_natCast]
          omega
        rw [ev]
        simp only [IntKind.wrap_u32] at hown1
        rw [show ((((x0 : Int) % 4294967296 + 256 * ((x1 : Int) % 4294967296) % 4294967296) % 4294967296 + 65536 * ((x2 : Int) % 4294967296) % 4294967296) % 4294967296 + 16777216 * ((x3 : Int) % 4294967296) % 4294967296) % 4294967296 = ((x0 + 256 * x1 + 65536 * x2 + 16777216 * x3 : Nat) : Int) from by omega] at hown1
        exact hown1
      · obtain rfl : k = zs.length := by omega
        go_wp2
        go_ret2
        refine ⟨hb, .inl ⟨h4, u4, rfl, hown, hnil.trans ?_⟩⟩
        omega
  · have hq : (((zs.length : Nat) : Int) % 4 != 0) = true := by simp; omega
    have H4 := Lib.hid h4
    clear h4
    have hb := Below.refl w.heap.size w
    go_wp2
    go_ret2
    exact ⟨hb, .inr ⟨H4, rfl⟩⟩
end Go.Proofs.Ytkagconllphdiaa
