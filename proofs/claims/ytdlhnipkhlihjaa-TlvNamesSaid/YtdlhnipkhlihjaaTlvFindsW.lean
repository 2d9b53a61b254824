/- The walk of the law TlvFinds. -/
import Derived.Test.YtdlhnipkhlihjaaTlvVal
import Derived.Test.YtdlhnipkhlihjaaAnyP
namespace Go.Proofs.Ytdlhnipkhlihjaa
open Go Go.RowKit
attribute [local go_sem] upV_value upV_skip upV_enter
set_option linter.unusedVariables false
set_option linter.unnecessarySimpa false
set_option linter.unusedSimpArgs false
def fT (r : Option (List Int × Forest)) (tag : Int) : Int := match r with | none => 0 | some _ => tag
def fB (r : Option (List Int × Forest)) : List Int := match r with | none => [] | some (b, _) => b
def fK (r : Option (List Int × Forest)) : Forest := match r with | none => .nil | some (_, k) => k
theorem FindPost.fld {W W' : World} {r : Option (List Int × Forest)} {tag : Int} {e : Ending} (h : FindPost W r tag e W') :
    ∃ (a : Option Addr) (len cap : Nat) (ka : Option Addr) (kl kc : Nat), e = .returned (.tuple #[.agg #[.int .i64 (fT r tag), .slice a len cap, .slice ka kl kc], .bool r.isSome]) ∧ Fld W' (fT r tag) (fB r) (fK r) a len cap ka kl kc ∧ Below W.heap.size W W' := by
  obtain ⟨hb, h⟩ := h
  cases r with
  | none => exact ⟨none, 0, 0, none, 0, 0, h, ⟨row8_none _ _, slF_none _ _, by simp [fT], by simp [fT], by decide⟩, hb⟩
  | some p =>
    obtain ⟨b, k⟩ := p
    obtain ⟨a, len, cap, ka, kl, kc, h1, h2⟩ := h
    exact ⟨a, len, cap, ka, kl, kc, h1, h2, hb⟩
/-- a field in a block of its own -/
def BoxT (W : World) (x : Nat) (t : Int) (a : Option Addr) (len cap : Nat) (ka : Option Addr) (kl kc : Nat) : Prop := W.heap[x]? = some (.cells #[.int .i64 t, .slice a len cap, .slice ka kl kc] 30)
section
variable {W W' : World} {x : Nat} {t : Int} {a : Option Addr} {len cap : Nat} {ka : Option Addr} {kl kc : Nat}
theorem BoxT.below (h : BoxT W x t a len cap ka kl kc) (hb : Below W.heap.size W W') : BoxT W' x t a len cap ka kl kc := (hb.block x (Array.getElem?_eq_some_iff.1 h).1).trans h
theorem BoxT.cells (h : BoxT W x t a len cap ka kl kc) : W.cell? ⟨x, 0, none⟩ = some (.int .i64 t) ∧ W.cell? ⟨x, 1, none⟩ = some (.slice a len cap) ∧ W.cell? ⟨x, 2, none⟩ = some (.slice ka kl kc) :=
  ⟨by rw [cell_of_row W _ 0 _ _ _ h]; rfl, by rw [cell_of_row W _ 1 _ _ _ h]; rfl, by rw [cell_of_row W _ 2 _ _ _ h]; rfl⟩
/-- a literal of one field -/
theorem one_lit {bs : List Int} {k : Forest} (h : Fld W t bs k a len cap ka kl kc) (V : World) (hV : V = W.alloc (.cells #[.int .i64 t, .slice a len cap, .slice ka kl kc] 30) ∨ V = (W.alloc (.cells #[.int .i64 t, .slice a len cap, .slice ka kl kc] 30)).drew) :
    Below W.heap.size W V ∧ SlF V.heap.size V (some ⟨W.heap.size, 0, none⟩) 1 1 (.cons t bs k .nil) := by
  have h1 := one_field W 0 t a len cap bs ka kl kc k h.t1 h.t2 h.row (by have := h.small; omega) h.kids
  have h2 : Below W.heap.size W (W.alloc (.cells #[.int .i64 t, .slice a len cap, .slice ka kl kc] 30)) := (Below.refl _ _).alloc (Nat.le_refl _) _
  rcases hV with rfl | rfl
  · exact ⟨h2, h1⟩
  · exact ⟨⟨h2.os, h2.tape, h2.output, h2.size, h2.block⟩, h1.below ⟨rfl, rfl, rfl, Nat.le_refl _, fun _ _ => rfl⟩⟩
end
theorem SlF.step {W W' : World} {a : Option Addr} {len cap : Nat} {f : Forest} (h : SlF W.heap.size W a len cap f) (hb : Below W.heap.size W W') : SlF W'.heap.size W' a len cap f := (h.below hb).mono hb.size
theorem wrap64_succ (i l : Nat) (h : i < l) (hl : l ≤ 9223372036854775807) : wrap64 ((i : Int) + 1) = (i : Int) + 1 := by unfold wrap64; omega
theorem idx_next (i : Nat) (hw : wrap64 ((i : Int) + 1) = (i : Int) + 1) : Value.int .i64 (wrap64 ((i : Int) + 1)) = Value.int .i64 ((i + 1 : Nat) : Int) := by rw [hw]; rfl
theorem meas_next (i l : Nat) (h : i < l) (hw : wrap64 ((i : Int) + 1) = (i : Int) + 1) : l - (intOf (Value.int .i64 (wrap64 ((i : Int) + 1)))).toNat < l - (intOf (Value.int .i64 (i : Int))).toNat := by rw [hw]; simp only [intOf]; omega
/-- two literals of one field each -/
def LitC (V : World) (f g : Forest) (v1 v2 : Value) (w2 : World) : Prop := ∃ x y, v1 = .slice (some ⟨x, 0, none⟩) 1 1 ∧ v2 = .slice (some ⟨y, 0, none⟩) 1 1 ∧ SlF w2.heap.size w2 (some ⟨x, 0, none⟩) 1 1 f ∧ SlF w2.heap.size w2 (some ⟨y, 0, none⟩) 1 1 g ∧ Grows V w2
set_option maxRecDepth 100000 in
set_option maxHeartbeats 16000000 in
theorem tlvFinds_any (w : World) (a1 : Option Addr) (l1 c1 : Nat) (f1 : Forest) (h1 : SlF w.heap.size w a1 l1 c1 f1) (a2 : Option Addr) (l2 c2 : Nat) (f2 : Forest) (h2 : SlF w.heap.size w a2 l2 c2 f2) (tag nth : Int) (ht1 : -9223372036854775808 ≤ tag) (ht2 : tag ≤ 9223372036854775807) (hn1 : -9223372036854775808 ≤ nth) (hn2 : nth ≤ 9223372036854775807) (n : Nat) (hnn : n < 18446744073709551616) :
    Calls Try.prog 5 #[.slice a1 l1 c1, .slice a2 l2 c2, .int .i64 tag, .int .i64 nth, .int .u64 (n : Int)] w fun e w' => e = .returned (.bool true) ∧ Below w.heap.size w w' := by
  go_enter Try.func5, Try.ntmps5
  go_wp2_with (go_at_call 11; refine held ?_)
  unfold Held
  refine (great_any f1 w w.heap.size a1 l1 c1 1 h1 (by omega)).mono ?_
  rintro e w1' ⟨⟨g1, rfl, _, hg1⟩, rfl⟩
  by_cases t1 : g1 ≤ 10000
  rotate_left
  · have t2 : decide ((10000 : Int) < (g1 : Int)) = true := by simp; omega
    go_wp2
    go_ret
    exact ⟨rfl, Below.refl _ _⟩
  have t2 : decide ((10000 : Int) < (g1 : Int)) = false := by simp; omega
  have n1 : f1.cnt ≤ 10000 := by have := hg1 (by omega); omega
  clear hg1
  go_wp2_with (go_at_call 11; refine held ?_)
  unfold Held
  refine (great_any f2 w w.heap.size a2 l2 c2 1 h2 (by omega)).mono ?_
  rintro e w1' ⟨⟨g2, rfl, _, hg2⟩, rfl⟩
  by_cases t3 : g2 ≤ 10000
  rotate_left
  · have t4 : decide ((10000 : Int) < (g2 : Int)) = true := by simp; omega
    go_wp2
    go_ret
    exact ⟨rfl, Below.refl _ _⟩
  have t4 : decide ((10000 : Int) < (g2 : Int)) = false := by simp; omega
  have n2 : f2.cnt ≤ 10000 := by have := hg2 (by omega); omega
  clear hg2 t1 t3
  obtain ⟨r, hr⟩ : ∃ r, r = findF f1 tag nth := ⟨_, rfl⟩
  have k3 := find_any f1 w w.heap.size (Nat.le_refl _) a1 l1 c1 h1 (by omega) tag nth hn2 hn1
  have k4 := fun (W' : World) (hb : Below w.heap.size w W') => rfind_any f1 W' w.heap.size hb.size a1 l1 c1 (h1.below hb) (by omega) tag nth
  rw [← hr] at k3 k4
  have K3 := Lib.hid k3
  have K4 := Lib.hid k4
  obtain ⟨T, hT⟩ : ∃ T, T = fT r tag := ⟨_, rfl⟩
  obtain ⟨Bb, hBb⟩ : ∃ B, B = fB r := ⟨_, rfl⟩
  obtain ⟨Kk, hKk⟩ : ∃ K, K = fK r := ⟨_, rfl⟩
  obtain ⟨S, hS⟩ : ∃ S, S = r.isSome := ⟨_, rfl⟩
  have HT := Lib.hid (And.intro hT (And.intro hBb (And.intro hKk hS)))
  clear hr k3 k4 hT hBb hKk hS
  go_wp2_with (go_at_call 13; refine held ?_)
  unfold Held
  refine Calls.mono K3 ?_
  rintro e w3 hP3
  obtain ⟨a3, l3, c3, ka3, kl3, kc3, rfl, F3, b3⟩ := hP3.fld
  rw [← (show T = _ ∧ Bb = _ ∧ Kk = _ ∧ S = _ from HT).1, ← (show T = _ ∧ Bb = _ ∧ Kk = _ ∧ S = _ from HT).2.1, ← (show T = _ ∧ Bb = _ ∧ Kk = _ ∧ S = _ from HT).2.2.1] at F3
  rw [← (show T = _ ∧ Bb = _ ∧ Kk = _ ∧ S = _ from HT).1, ← (show T = _ ∧ Bb = _ ∧ Kk = _ ∧ S = _ from HT).2.2.2]
  clear hP3 K3
  go_wp2_with ((fail_if_success (unfold Held)); refine at_store (t := 30) rfl ?_)
  unfold Held
  refine wpList_store_row rfl 30 (.tmp 11) (.tmp 34) rfl w3.heap.size #[.int .i64 T, .slice a3 l3 c3, .slice ka3 kl3 kc3] rfl rfl 30 zT (World.alloc_heap_new _ _) infoT rfl (agg3_one ..) ?_
  rw [World.setRow_alloc_new]
  obtain ⟨V3, hV3⟩ : ∃ V3, V3 = w3.alloc (.cells #[.int .i64 T, .slice a3 l3 c3, .slice ka3 kl3 kc3] 30) := ⟨_, rfl⟩
  have bb3 : Below w3.heap.size w3 V3 := by rw [hV3]; exact (Below.refl _ _).alloc (Nat.le_refl _) _
  obtain ⟨x3, hx3⟩ : ∃ x3, x3 = w3.heap.size := ⟨_, rfl⟩
  have X3 : BoxT V3 x3 T a3 l3 c3 ka3 kl3 kc3 := by rw [hV3, hx3]; exact World.alloc_heap_new _ _
  have B3 := b3.trans (bb3.mono b3.size)
  have G3 := F3.below bb3
  rw [← hV3, ← hx3]
  clear hV3 hx3 bb3 b3 F3
  have k4 := (show ∀ (W' : World) (hb : Below w.heap.size w W'), _ from K4) V3 B3
  have K5 := Lib.hid k4
  clear k4 K4
  go_wp2_with (go_at_call 15; refine held ?_)
  unfold Held
  refine Calls.mono K5 ?_
  rintro e w4 hP4
  obtain ⟨a4, l4, c4, ka4, kl4, kc4, rfl, F4, b4⟩ := hP4.fld
  rw [← (show T = _ ∧ Bb = _ ∧ Kk = _ ∧ S = _ from HT).1, ← (show T = _ ∧ Bb = _ ∧ Kk = _ ∧ S = _ from HT).2.1, ← (show T = _ ∧ Bb = _ ∧ Kk = _ ∧ S = _ from HT).2.2.1] at F4
  rw [← (show T = _ ∧ Bb = _ ∧ Kk = _ ∧ S = _ from HT).1, ← (show T = _ ∧ Bb = _ ∧ Kk = _ ∧ S = _ from HT).2.2.2]
  clear hP4 K5
  go_wp2_with ((fail_if_success (unfold Held)); refine at_store (t := 30) rfl ?_)
  unfold Held
  refine wpList_store_row rfl 30 (.tmp 13) (.tmp 41) rfl w4.heap.size #[.int .i64 T, .slice a4 l4 c4, .slice ka4 kl4 kc4] rfl rfl 30 zT (World.alloc_heap_new _ _) infoT rfl (agg3_one ..) ?_
  rw [World.setRow_alloc_new]
  obtain ⟨V4, hV4⟩ : ∃ V4, V4 = w4.alloc (.cells #[.int .i64 T, .slice a4 l4 c4, .slice ka4 kl4 kc4] 30) := ⟨_, rfl⟩
  have bb4 : Below w4.heap.size w4 V4 := by rw [hV4]; exact (Below.refl _ _).alloc (Nat.le_refl _) _
  obtain ⟨x4, hx4⟩ : ∃ x4, x4 = w4.heap.size := ⟨_, rfl⟩
  have X4 : BoxT V4 x4 T a4 l4 c4 ka4 kl4 kc4 := by rw [hV4, hx4]; exact World.alloc_heap_new _ _
  have b34 : Below V3.heap.size V3 V4 := b4.trans (bb4.mono b4.size)
  have B4 := B3.trans (b34.mono B3.size)
  have G4 := F4.below bb4
  have H3 := G3.below b34
  have Y3 := X3.below b34
  rw [← hV4, ← hx4]
  clear hV4 hx4 bb4 b4 F4 b34 G3 X3 B3
  have K6 := Lib.hid (number_any tag n hnn V4)
  go_wp2_with (go_at_call 16; refine held ?_)
  unfold Held
  refine Calls.mono K6 ?_
  rintro e w5 ⟨a5, c5, rfl, r5, b5⟩
  clear K6
  go_wp2_with ((fail_if_success (unfold Held)); refine at_store (t := 30) rfl ?_)
  unfold Held
  refine wpList_store_row rfl 30 (.tmp 15) (.tmp 45) rfl w5.heap.size #[.int .i64 tag, .slice a5 8 c5, .slice none 0 0] rfl rfl 30 zT (World.alloc_heap_new _ _) infoT rfl (agg3_one ..) ?_
  rw [World.setRow_alloc_new]
  obtain ⟨V5, hV5⟩ : ∃ V5, V5 = w5.alloc (.cells #[.int .i64 tag, .slice a5 8 c5, .slice none 0 0] 30) := ⟨_, rfl⟩
  have bb5 : Below w5.heap.size w5 V5 := by rw [hV5]; exact (Below.refl _ _).alloc (Nat.le_refl _) _
  obtain ⟨x5, hx5⟩ : ∃ x5, x5 = w5.heap.size := ⟨_, rfl⟩
  have X5 : BoxT V5 x5 tag a5 8 c5 none 0 0 := by rw [hV5, hx5]; exact World.alloc_heap_new _ _
  have b45 : Below V4.heap.size V4 V5 := b5.trans (bb5.mono b5.size)
  have B5 := B4.trans (b45.mono B4.size)
  have G5 : Fld V5 tag (numB n) .nil a5 8 c5 none 0 0 := ⟨(r5.below bb5).mono bb5.size, slF_none _ _, ht1, ht2, by rw [numB_len]; decide⟩
  have I3 := H3.below b45
  have I4 := G4.below b45
  have Z3 := Y3.below b45
  have Z4 := X4.below b45
  rw [← hV5, ← hx5]
  clear hV5 hx5 bb5 b5 r5 b45 H3 G4 Y3 X4 B4
  have HX : Hid (∀ W', Grows V5.drew W' → (W'.cell? ⟨x3, 0, none⟩ = some (.int .i64 T) ∧ W'.cell? ⟨x3, 1, none⟩ = some (.slice a3 l3 c3) ∧ W'.cell? ⟨x3, 2, none⟩ = some (.slice ka3 kl3 kc3)) ∧ (W'.cell? ⟨x4, 0, none⟩ = some (.int .i64 T) ∧ W'.cell? ⟨x4, 1, none⟩ = some (.slice a4 l4 c4) ∧ W'.cell? ⟨x4, 2, none⟩ = some (.slice ka4 kl4 kc4)) ∧ (W'.cell? ⟨x5, 0, none⟩ = some (.int .i64 tag) ∧ W'.cell? ⟨x5, 1, none⟩ = some (.slice a5 8 c5) ∧ W'.cell? ⟨x5, 2, none⟩ = some (.slice none 0 0))) := fun W' hW => by
    have hW' : Below V5.heap.size V5 W' := below_undrew hW
    exact ⟨(Z3.below hW').cells, (Z4.below hW').cells, (X5.below hW').cells⟩
  have J3 : Fld V5.drew T Bb Kk a3 l3 c3 ka3 kl3 kc3 := I3.below ⟨rfl, rfl, rfl, Nat.le_refl _, fun _ _ => rfl⟩
  have J4 : Fld V5.drew T Bb Kk a4 l4 c4 ka4 kl4 kc4 := I4.below ⟨rfl, rfl, rfl, Nat.le_refl _, fun _ _ => rfl⟩
  have J5 : Fld V5.drew tag (numB n) .nil a5 8 c5 none 0 0 := G5.below ⟨rfl, rfl, rfl, Nat.le_refl _, fun _ _ => rfl⟩
  have D1 := (h1.below B5)
  have D2 := (h2.below B5)
  clear J3 J4 J5 Z3 Z4 X5
  go_wp2_with fail
  refine wp_region_anyV Grows (by kernel_rfl) 30 rfl ?_
  first
    | (refine anyV_val 0 (Grows.pre) rfl (by kernel_rfl) (by kernel_rfl) (by kernel_rfl) (by rfl) (v := ?av1) (fun W hW => ?ay1) (fun K hK => ?ar1); case ay1 => (obtain ⟨⟨z0, z1, z2⟩, ⟨y0, y1, y2⟩, ⟨v0, v1, v2⟩⟩ := (show ∀ W', Grows V5.drew W' → _ from HX) W hW; go_simp; first | done | rfl))
    | refine anyV_skip 0 (Grows.pre) rfl (by kernel_rfl) (by kernel_rfl) (by kernel_rfl) (by rfl) (fun K hK => ?_)
  go_simp
  refine hK _ ?_
  clear hK K
  first
    | (refine anyV_val 1 (Grows.pre) rfl (by kernel_rfl) (by kernel_rfl) (by kernel_rfl) (by rfl) (v := ?av2) (fun W hW => ?ay2) (fun K hK => ?ar2); case ay2 => (obtain ⟨⟨z0, z1, z2⟩, ⟨y0, y1, y2⟩, ⟨v0, v1, v2⟩⟩ := (show ∀ W', Grows V5.drew W' → _ from HX) W hW; go_simp; first | done | rfl))
    | refine anyV_skip 1 (Grows.pre) rfl (by kernel_rfl) (by kernel_rfl) (by kernel_rfl) (by rfl) (fun K hK => ?_)
  go_simp
  refine hK _ ?_
  clear hK K
  first
    | (refine anyV_val 2 (Grows.pre) rfl (by kernel_rfl) (by kernel_rfl) (by kernel_rfl) (by rfl) (v := ?av3) (fun W hW => ?ay3) (fun K hK => ?ar3); case ay3 => (obtain ⟨⟨z0, z1, z2⟩, ⟨y0, y1, y2⟩, ⟨v0, v1, v2⟩⟩ := (show ∀ W', Grows V5.drew W' → _ from HX) W hW; go_simp; first | done | rfl))
    | refine anyV_skip 2 (Grows.pre) rfl (by kernel_rfl) (by kernel_rfl) (by kernel_rfl) (by rfl) (fun K hK => ?_)
  go_simp
  refine hK _ ?_
  clear hK K
  first
    | (refine anyV_val 3 (Grows.pre) rfl (by kernel_rfl) (by kernel_rfl) (by kernel_rfl) (by rfl) (v := ?av4) (fun W hW => ?ay4) (fun K hK => ?ar4); case ay4 => (obtain ⟨⟨z0, z1, z2⟩, ⟨y0, y1, y2⟩, ⟨v0, v1, v2⟩⟩ := (show ∀ W', Grows V5.drew W' → _ from HX) W hW; go_simp; first | done | rfl))
    | refine anyV_skip 3 (Grows.pre) rfl (by kernel_rfl) (by kernel_rfl) (by kernel_rfl) (by rfl) (fun K hK => ?_)
  go_simp
  refine hK _ ?_
  clear hK K
  first
    | (refine anyV_val 4 (Grows.pre) rfl (by kernel_rfl) (by kernel_rfl) (by kernel_rfl) (by rfl) (v := ?av5) (fun W hW => ?ay5) (fun K hK => ?ar5); case ay5 => (obtain ⟨⟨z0, z1, z2⟩, ⟨y0, y1, y2⟩, ⟨v0, v1, v2⟩⟩ := (show ∀ W', Grows V5.drew W' → _ from HX) W hW; go_simp; first | done | rfl))
    | refine anyV_skip 4 (Grows.pre) rfl (by kernel_rfl) (by kernel_rfl) (by kernel_rfl) (by rfl) (fun K hK => ?_)
  go_simp
  refine hK _ ?_
  clear hK K
  first
    | (refine anyV_val 6 (Grows.pre) rfl (by kernel_rfl) (by kernel_rfl) (by kernel_rfl) (by rfl) (v := ?av6) (fun W hW => ?ay6) (fun K hK => ?ar6); case ay6 => (obtain ⟨⟨z0, z1, z2⟩, ⟨y0, y1, y2⟩, ⟨v0, v1, v2⟩⟩ := (show ∀ W', Grows V5.drew W' → _ from HX) W hW; go_simp; first | done | rfl))
    | refine anyV_skip 6 (Grows.pre) rfl (by kernel_rfl) (by kernel_rfl) (by kernel_rfl) (by rfl) (fun K hK => ?_)
  go_simp
  refine hK _ ?_
  clear hK K
  refine anyV_pair (LitC V5.drew (.cons T Bb Kk .nil) (.cons T Bb Kk .nil)) 5 7 rfl rfl (by decide) (by kernel_rfl) (by kernel_rfl) (by kernel_rfl) (by simp) (by rfl) (by rfl) (fun v => by rfl) (fun v => by rfl) (fun K hK => ?p1) (fun K hK => ?p2) ?p3
  case p1 =>
    go_simp
    obtain ⟨U1, hU1⟩ : ∃ U1, U1 = (V5.alloc (.cells #[.int .i64 T, .slice a3 l3 c3, .slice ka3 kl3 kc3] 30)).drew := ⟨_, rfl⟩
    obtain ⟨d1, s1⟩ := one_lit I3 U1 (.inr hU1)
    have d1' : Grows V5.drew U1 := ⟨d1.os, d1.tape, d1.output, d1.size, d1.block⟩
    have M4 := I4.below d1
    rw [← hU1]
    clear hU1
    refine hK _ _ d1' ?_
    clear hK K
    go_simp
    obtain ⟨U2, hU2⟩ : ∃ U2, U2 = U1.alloc (.cells #[.int .i64 T, .slice a4 l4 c4, .slice ka4 kl4 kc4] 30) := ⟨_, rfl⟩
    obtain ⟨d2, s2⟩ := one_lit M4 U2 (.inl hU2)
    rw [← hU2]
    exact ⟨d2, _, _, rfl, rfl, s1.step d2, s2, Grows.pre.trans d1' d2⟩
  case p2 =>
    go_simp
    obtain ⟨U1, hU1⟩ : ∃ U1, U1 = (V5.alloc (.cells #[.int .i64 T, .slice a4 l4 c4, .slice ka4 kl4 kc4] 30)).drew := ⟨_, rfl⟩
    obtain ⟨d1, s1⟩ := one_lit I4 U1 (.inr hU1)
    have d1' : Grows V5.drew U1 := ⟨d1.os, d1.tape, d1.output, d1.size, d1.block⟩
    have M3 := I3.below d1
    rw [← hU1]
    clear hU1
    refine hK _ _ d1' ?_
    clear hK K
    go_simp
    obtain ⟨U2, hU2⟩ : ∃ U2, U2 = U1.alloc (.cells #[.int .i64 T, .slice a3 l3 c3, .slice ka3 kl3 kc3] 30) := ⟨_, rfl⟩
    obtain ⟨d2, s2⟩ := one_lit M3 U2 (.inl hU2)
    rw [← hU2]
    exact ⟨d2, _, _, rfl, rfl, s2, s1.step d2, Grows.pre.trans d1' d2⟩
  case p3 =>
    rintro v1 v2 w6 ⟨x, y, rfl, rfl, s1, s2, d6⟩
    refine anyV_frame (fun K hK => ?_)
    go_simp
    refine hK _ ?_
    clear hK K
    refine anyV_only 8 rfl (by kernel_rfl) (by rfl) (fun K hK => ?_)
    go_simp
    refine (rsame_any (.cons T Bb Kk .nil) (.cons T Bb Kk .nil) w6 w6.heap.size (some ⟨x, 0, none⟩) 1 1 (some ⟨y, 0, none⟩) 1 1 (Nat.le_refl _) s1 s2).mono ?_
    rintro e w7 ⟨rr, rfl, hrr, d7⟩
    obtain rfl : rr = true := hrr.2 rfl
    have d57 := Grows.pre.trans d6 d7
    refine ⟨_, rfl, hK _ _ d7 ?_⟩
    clear hrr
    clear hK K
    refine anyV_frame (fun K hK => ?_)
    go_simp
    refine hK _ ?_
    clear hK K
    first
      | (refine anyV_val 9 (Grows.pre) rfl (by kernel_rfl) (by kernel_rfl) (by kernel_rfl) (by rfl) (v := ?av7) (fun W hW => ?ay7) (fun K hK => ?ar7); case ay7 => (obtain ⟨⟨z0, z1, z2⟩, ⟨y0, y1, y2⟩, ⟨v0, v1, v2⟩⟩ := (show ∀ W', Grows V5.drew W' → _ from HX) W (Grows.pre.trans d57 hW); go_simp; first | done | rfl))
      | refine anyV_skip 9 (Grows.pre) rfl (by kernel_rfl) (by kernel_rfl) (by kernel_rfl) (by rfl) (fun K hK => ?_)
    go_simp
    refine hK _ ?_
    clear hK K
    first
      | (refine anyV_val 10 (Grows.pre) rfl (by kernel_rfl) (by kernel_rfl) (by kernel_rfl) (by rfl) (v := ?av8) (fun W hW => ?ay8) (fun K hK => ?ar8); case ay8 => (obtain ⟨⟨z0, z1, z2⟩, ⟨y0, y1, y2⟩, ⟨v0, v1, v2⟩⟩ := (show ∀ W', Grows V5.drew W' → _ from HX) W (Grows.pre.trans d57 hW); go_simp; first | done | rfl))
      | refine anyV_skip 10 (Grows.pre) rfl (by kernel_rfl) (by kernel_rfl) (by kernel_rfl) (by rfl) (fun K hK => ?_)
    go_simp
    refine hK _ ?_
    clear hK K
    first
      | (refine anyV_val 11 (Grows.pre) rfl (by kernel_rfl) (by kernel_rfl) (by kernel_rfl) (by rfl) (v := ?av9) (fun W hW => ?ay9) (fun K hK => ?ar9); case ay9 => (obtain ⟨⟨z0, z1, z2⟩, ⟨y0, y1, y2⟩, ⟨v0, v1, v2⟩⟩ := (show ∀ W', Grows V5.drew W' → _ from HX) W (Grows.pre.trans d57 hW); go_simp; first | done | rfl))
      | refine anyV_skip 11 (Grows.pre) rfl (by kernel_rfl) (by kernel_rfl) (by kernel_rfl) (by rfl) (fun K hK => ?_)
    go_simp
    refine hK _ ?_
    clear hK K
    first
      | (refine anyV_val 12 (Grows.pre) rfl (by kernel_rfl) (by kernel_rfl) (by kernel_rfl) (by rfl) (v := ?av10) (fun W hW => ?ay10) (fun K hK => ?ar10); case ay10 => (obtain ⟨⟨z0, z1, z2⟩, ⟨y0, y1, y2⟩, ⟨v0, v1, v2⟩⟩ := (show ∀ W', Grows V5.drew W' → _ from HX) W (Grows.pre.trans d57 hW); go_simp; first | done | rfl))
      | refine anyV_skip 12 (Grows.pre) rfl (by kernel_rfl) (by kernel_rfl) (by kernel_rfl) (by rfl) (fun K hK => ?_)
    go_simp
    refine hK _ ?_
    clear hK K
    first
      | (refine anyV_val 14 (Grows.pre) rfl (by kernel_rfl) (by kernel_rfl) (by kernel_rfl) (by rfl) (v := ?av11) (fun W hW => ?ay11) (fun K hK => ?ar11); case ay11 => (obtain ⟨⟨z0, z1, z2⟩, ⟨y0, y1, y2⟩, ⟨v0, v1, v2⟩⟩ := (show ∀ W', Grows V5.drew W' → _ from HX) W (Grows.pre.trans d57 hW); go_simp; first | done | rfl))
      | refine anyV_skip 14 (Grows.pre) rfl (by kernel_rfl) (by kernel_rfl) (by kernel_rfl) (by rfl) (fun K hK => ?_)
    go_simp
    refine hK _ ?_
    clear hK K
    first
      | (refine anyV_val 15 (Grows.pre) rfl (by kernel_rfl) (by kernel_rfl) (by kernel_rfl) (by rfl) (v := ?av12) (fun W hW => ?ay12) (fun K hK => ?ar12); case ay12 => (obtain ⟨⟨z0, z1, z2⟩, ⟨y0, y1, y2⟩, ⟨v0, v1, v2⟩⟩ := (show ∀ W', Grows V5.drew W' → _ from HX) W (Grows.pre.trans d57 hW); go_simp; first | done | rfl))
      | refine anyV_skip 15 (Grows.pre) rfl (by kernel_rfl) (by kernel_rfl) (by kernel_rfl) (by rfl) (fun K hK => ?_)
    go_simp
    refine hK _ ?_
    clear hK K
    have P5 : Fld w7 tag (numB n) .nil a5 8 c5 none 0 0 := G5.below (below_undrew d57)
    refine anyV_tri (fun v1 _ v3 w2 => LitC w7 (.cons tag (numB n) .nil .nil) (.cons tag (numB n) .nil .nil) v1 v3 w2) 13 16 17 rfl rfl rfl (by decide) (by decide) (by kernel_rfl) (by kernel_rfl) (by kernel_rfl) (by kernel_rfl) (by kernel_rfl) (by kernel_rfl) (by simp) (by simp) (by rfl) (by rfl) (fun v => by rfl) (fun v u => by rfl) (fun v => by rfl) (fun v => by rfl) (fun v u => by rfl) (fun K hK => ?q1) (fun K hK => ?q2) ?q3
    case q1 =>
      go_simp
      obtain ⟨U1, hU1⟩ : ∃ U1, U1 = w7.alloc (.cells #[.int .i64 tag, .slice a5 8 c5, .slice none 0 0] 30) := ⟨_, rfl⟩
      obtain ⟨d1, s3⟩ := one_lit P5 U1 (.inl hU1)
      rw [← hU1]
      clear hU1
      refine hK _ _ d1 ?_
      clear hK K
      go_simp
      refine (rnumber_any tag n hnn U1).mono ?_
      rintro e U2 ⟨a8, c8, rfl, r8, d2⟩
      refine ⟨_, rfl, d2, ?_⟩
      go_simp
      obtain ⟨U3, hU3⟩ : ∃ U3, U3 = U2.alloc (.cells #[.int .i64 tag, .slice a8 8 c8, .slice none 0 0] 30) := ⟨_, rfl⟩
      obtain ⟨d3, s4⟩ := one_lit (⟨r8, slF_none _ _, ht1, ht2, by rw [numB_len]; decide⟩ : Fld U2 tag (numB n) .nil a8 8 c8 none 0 0) U3 (.inl hU3)
      rw [← hU3]
      exact ⟨d3, _, _, rfl, rfl, (s3.step d2).step d3, s4, Grows.pre.trans (Grows.pre.trans d1 d2) d3⟩
    case q2 =>
      go_simp
      refine (rnumber_any tag n hnn w7).mono ?_
      rintro e U1 ⟨a8, c8, rfl, r8, d1⟩
      have F8 : Fld U1 tag (numB n) .nil a8 8 c8 none 0 0 := ⟨r8, slF_none _ _, ht1, ht2, by rw [numB_len]; decide⟩
      have P6 := P5.below d1
      refine ⟨_, rfl, hK _ _ d1 ?_ ?_⟩
      · clear hK K
        go_simp
        obtain ⟨U2, hU2⟩ : ∃ U2, U2 = U1.alloc (.cells #[.int .i64 tag, .slice a5 8 c5, .slice none 0 0] 30) := ⟨_, rfl⟩
        obtain ⟨d2, s3⟩ := one_lit P6 U2 (.inl hU2)
        have F9 := F8.below d2
        have e2 : U2.heap.size = U1.heap.size + 1 := by rw [hU2]; simp
        rw [← hU2]
        clear hU2
        refine ⟨d2, ?_⟩
        go_simp
        obtain ⟨U3, hU3⟩ : ∃ U3, U3 = U2.alloc (.cells #[.int .i64 tag, .slice a8 8 c8, .slice none 0 0] 30) := ⟨_, rfl⟩
        obtain ⟨d3, s4⟩ := one_lit F9 U3 (.inl hU3)
        rw [← hU3]
        rw [e2] at s4
        exact ⟨d3, _, _, rfl, rfl, s3.step d3, s4, Grows.pre.trans (Grows.pre.trans d1 d2) d3⟩
      · clear hK K
        go_simp
        obtain ⟨U2, hU2⟩ : ∃ U2, U2 = U1.alloc (.cells #[.int .i64 tag, .slice a8 8 c8, .slice none 0 0] 30) := ⟨_, rfl⟩
        obtain ⟨d2, s4⟩ := one_lit F8 U2 (.inl hU2)
        have P7 := P6.below d2
        have e2 : U2.heap.size = U1.heap.size + 1 := by rw [hU2]; simp
        rw [← hU2]
        clear hU2
        refine ⟨d2, ?_⟩
        go_simp
        obtain ⟨U3, hU3⟩ : ∃ U3, U3 = U2.alloc (.cells #[.int .i64 tag, .slice a5 8 c5, .slice none 0 0] 30) := ⟨_, rfl⟩
        obtain ⟨d3, s3⟩ := one_lit P7 U3 (.inl hU3)
        rw [← hU3]
        rw [e2] at s3
        exact ⟨d3, _, _, rfl, rfl, s3, s4.step d3, Grows.pre.trans (Grows.pre.trans d1 d2) d3⟩
    case q3 =>
      rintro v1 v2 v3 w8 ⟨x', y', rfl, rfl, s3, s4, d8⟩
      refine anyV_frame (fun K hK => ?_)
      go_simp
      refine hK _ ?_
      clear hK K
      have B7 : Below w.heap.size w w7 := B5.trans ((below_undrew d57).mono B5.size)
      have B8 := B7.trans (d8.mono B7.size)
      refine anyV_only 18 rfl (by kernel_rfl) (by rfl) (fun K hK => ?_)
      go_simp
      refine (rsame_any (.cons tag (numB n) .nil .nil) (.cons tag (numB n) .nil .nil) w8 w8.heap.size (some ⟨x', 0, none⟩) 1 1 (some ⟨y', 0, none⟩) 1 1 (Nat.le_refl _) s3 s4).mono ?_
      rintro e w9 ⟨rr, rfl, hrr, d9⟩
      obtain rfl : rr = true := hrr.2 rfl
      have B9 := B8.trans (d9.mono B8.size)
      refine ⟨_, rfl, hK _ _ d9 ?_⟩
      clear hrr
      clear hK K
      refine anyV_frame (fun K hK => ?_)
      go_simp
      refine hK _ ?_
      clear hK K
      first
        | (refine anyV_val 19 (Grows.pre) rfl (by kernel_rfl) (by kernel_rfl) (by kernel_rfl) (by rfl) (v := ?av13) (fun W hW => ?ay13) (fun K hK => ?ar13); case ay13 => (go_simp; first | done | rfl))
        | refine anyV_skip 19 (Grows.pre) rfl (by kernel_rfl) (by kernel_rfl) (by kernel_rfl) (by rfl) (fun K hK => ?_)
      go_simp
      refine hK _ ?_
      clear hK K
      first
        | (refine anyV_val 20 (Grows.pre) rfl (by kernel_rfl) (by kernel_rfl) (by kernel_rfl) (by rfl) (v := ?av14) (fun W hW => ?ay14) (fun K hK => ?ar14); case ay14 => (go_simp; first | done | rfl))
        | refine anyV_skip 20 (Grows.pre) rfl (by kernel_rfl) (by kernel_rfl) (by kernel_rfl) (by rfl) (fun K hK => ?_)
      go_simp
      refine hK _ ?_
      clear hK K
      first
        | (refine anyV_val 21 (Grows.pre) rfl (by kernel_rfl) (by kernel_rfl) (by kernel_rfl) (by rfl) (v := ?av15) (fun W hW => ?ay15) (fun K hK => ?ar15); case ay15 => (go_simp; first | done | rfl))
        | refine anyV_skip 21 (Grows.pre) rfl (by kernel_rfl) (by kernel_rfl) (by kernel_rfl) (by rfl) (fun K hK => ?_)
      go_simp
      refine hK _ ?_
      clear hK K
      first
        | (refine anyV_val 22 (Grows.pre) rfl (by kernel_rfl) (by kernel_rfl) (by kernel_rfl) (by rfl) (v := ?av16) (fun W hW => ?ay16) (fun K hK => ?ar16); case ay16 => (go_simp; first | done | rfl))
        | refine anyV_skip 22 (Grows.pre) rfl (by kernel_rfl) (by kernel_rfl) (by kernel_rfl) (by rfl) (fun K hK => ?_)
      go_simp
      refine hK _ ?_
      clear hK K
      first
        | (refine anyV_val 23 (Grows.pre) rfl (by kernel_rfl) (by kernel_rfl) (by kernel_rfl) (by rfl) (v := ?av17) (fun W hW => ?ay17) (fun K hK => ?ar17); case ay17 => (go_simp; first | done | rfl))
        | refine anyV_skip 23 (Grows.pre) rfl (by kernel_rfl) (by kernel_rfl) (by kernel_rfl) (by rfl) (fun K hK => ?_)
      go_simp
      refine hK _ ?_
      clear hK K
      first
        | (refine anyV_val 25 (Grows.pre) rfl (by kernel_rfl) (by kernel_rfl) (by kernel_rfl) (by rfl) (v := ?av18) (fun W hW => ?ay18) (fun K hK => ?ar18); case ay18 => (go_simp; first | done | rfl))
        | refine anyV_skip 25 (Grows.pre) rfl (by kernel_rfl) (by kernel_rfl) (by kernel_rfl) (by rfl) (fun K hK => ?_)
      go_simp
      refine hK _ ?_
      clear hK K
      first
        | (refine anyV_val 26 (Grows.pre) rfl (by kernel_rfl) (by kernel_rfl) (by kernel_rfl) (by rfl) (v := ?av19) (fun W hW => ?ay19) (fun K hK => ?ar19); case ay19 => (go_simp; first | done | rfl))
        | refine anyV_skip 26 (Grows.pre) rfl (by kernel_rfl) (by kernel_rfl) (by kernel_rfl) (by rfl) (fun K hK => ?_)
      go_simp
      refine hK _ ?_
      clear hK K
      refine anyV_only 24 rfl (by kernel_rfl) (by rfl) (fun K hK => ?_)
      go_simp
      refine (same_any f1 f2 w9 w.heap.size a1 l1 c1 a2 l2 c2 B9.size (h1.below B9) (h2.below B9)).mono ?_
      rintro e w10 ⟨ra, rfl, hra, d10⟩
      have B10 := B9.trans (d10.mono B9.size)
      refine ⟨_, rfl, hK _ _ d10 ?_⟩
      clear hK K
      refine anyV_frame (fun K hK => ?_)
      go_simp
      refine hK _ ?_
      clear hK K
      refine anyV_only 27 rfl (by kernel_rfl) (by rfl) (fun K hK => ?_)
      go_simp
      refine (rsame_any f1 f2 w10 w.heap.size a1 l1 c1 a2 l2 c2 B10.size (h1.below B10) (h2.below B10)).mono ?_
      rintro e w11 ⟨rb, rfl, hrb, d11⟩
      have B11 := B10.trans (d11.mono B10.size)
      obtain rfl : ra = rb := by
        have := hra.trans hrb.symm
        cases ra <;> cases rb <;> simp_all
      have tr : (ra != ra) = false := by simp
      refine ⟨_, rfl, hK _ _ d11 ?_⟩
      clear hK K
      refine anyV_frame (fun K hK => ?_)
      go_simp
      refine hK _ ?_
      clear hK K
      first
        | (refine anyV_val 28 (Grows.pre) rfl (by kernel_rfl) (by kernel_rfl) (by kernel_rfl) (by rfl) (v := ?av20) (fun W hW => ?ay20) (fun K hK => ?ar20); case ay20 => (go_simp; first | done | rfl))
        | refine anyV_skip 28 (Grows.pre) rfl (by kernel_rfl) (by kernel_rfl) (by kernel_rfl) (by rfl) (fun K hK => ?_)
      go_simp
      refine hK _ ?_
      clear hK K
      first
        | (refine anyV_val 29 (Grows.pre) rfl (by kernel_rfl) (by kernel_rfl) (by kernel_rfl) (by rfl) (v := ?av21) (fun W hW => ?ay21) (fun K hK => ?ar21); case ay21 => (go_simp; first | done | rfl))
        | refine anyV_skip 29 (Grows.pre) rfl (by kernel_rfl) (by kernel_rfl) (by kernel_rfl) (by rfl) (fun K hK => ?_)
      go_simp
      refine hK _ ?_
      clear hK K
      refine anyV_done (by kernel_rfl) ?_
      clear hra hrb d9 d10 d11 B10 B9 B8 B7 s3 s4 d8 P5 d57 d7 d6 s1 s2 HX I3 I4 G5 D1 D2 B5
      obtain ⟨hl0, hc0⟩ := h1
      go_wp2_with fail
      go_loopw [78] (fun x wr => ∃ (i : Nat) (G : Forest), x = .int .i64 (i : Int) ∧ i + G.length = l1 ∧ G.cnt ≤ 10000 ∧ (0 < G.length → ∃ q off, a1 = some ⟨q, off, none⟩ ∧ q < w.heap.size ∧ l1 ≤ c1 ∧ c1 ≤ maxLen ∧ RowF w.heap.size w G q (off + i * 3)) ∧ Below w.heap.size w wr) (fun x _ => l1 - (intOf x).toNat)
      case atStart =>
        refine ⟨0, f1, rfl, by omega, n1, fun hl => ?_, B11⟩
        rcases hc0 with h0 | ⟨q, off, g1, g2, g3, g4, g5⟩
        · omega
        · exact ⟨q, off, g1, g2, g3, g4, by simpa using g5⟩
      case round =>
        clear B11 hc0 hl0 h2 n1 n2
        obtain ⟨i, G, rfl, hig, hcnt, hGr, hb⟩ := hrel
        by_cases hlt : i < l1
        rotate_left
        · have t5 : decide ((i : Int) < (l1 : Int)) = false := by simp; omega
          clear hGr hig hcnt
          go_wp2
          go_ret
          exact ⟨rfl, hb⟩
        have t5 : decide ((i : Int) < (l1 : Int)) = true := by simp; omega
        obtain ⟨q, off, rfl, hqw, hc1, hc2, hrow⟩ := hGr (by omega)
        have hrow' : RowF w.heap.size wr G q (off + i * 3) := RowF.below hb G q _ hqw hrow
        obtain ⟨t', bs', k', r', a3', l3', c3', ka3', kl3', kc3', rfl, q0, q1, q2, hr1, hr2, hrb, hrk, hrr⟩ := hrow'.open (by omega)
        have hcm := hc2
        simp only [maxLen] at hc2
        simp only [Forest.cnt] at hcnt
        have hir : i + 1 + r'.length = l1 := by simp only [Forest.length] at hig; omega
        have hNext := Lib.hid (fun (_ : 0 < r'.length) => (by
          have hc := hrow
          obtain ⟨_, _, _, _, _, _, _, _, _, _, _, _, _, _, hc'⟩ := hc
          refine ⟨q, off, rfl, hqw, hc1, hcm, ?_⟩
          rw [show off + (i + 1) * 3 = off + i * 3 + 3 by omega]
          exact hc' : ∃ q' off', some (Addr.mk q off none) = some ⟨q', off', none⟩ ∧ q' < w.heap.size ∧ l1 ≤ c1 ∧ c1 ≤ maxLen ∧ RowF w.heap.size w r' q' (off' + (i + 1) * 3)))
        have hr3 : r'.cnt ≤ 10000 := by omega
        have HW := Lib.hid (wrap64_succ i l1 hlt (Nat.le_trans hc1 hc2))
        have hbl : bs'.length ≤ 140737488350000 := by omega
        have K1 := Lib.hid (value_any wr w.heap.size hb.size t' a3' l3' c3' bs' ka3' kl3' kc3' hrb.1 hbl)
        have K2 := Lib.hid (fun (W' : World) (hb' : Below w.heap.size wr W') => rvalue_any W' w.heap.size (Nat.le_trans hb.size hb'.size) t' a3' l3' c3' bs' ka3' kl3' kc3' (hrb.1.below hb') hbl)
        obtain ⟨vv, hvv⟩ : ∃ vv : Int, vv = (if t' < 128 ∧ bs'.length = 8 then valB bs' else 0) := ⟨_, rfl⟩
        obtain ⟨vh, hvh⟩ : ∃ vh : Bool, vh = decide (t' < 128 ∧ bs'.length = 8) := ⟨_, rfl⟩
        have HV := Lib.hid (And.intro hvv hvh)
        have hbn := hb.size
        clear hvv hvh hcnt hrow hrow' hrb hrk hrr hGr hbl hc1 hc2 hcm
        go_wp2_with (go_at_call 19; refine held ?_)
        unfold Held
        refine Calls.mono K1 ?_
        rintro e w12 ⟨b12, rfl⟩
        rw [← (show vv = _ ∧ vh = _ from HV).1, ← (show vv = _ ∧ vh = _ from HV).2]
        have B12 := hb.trans (b12.mono hbn)
        have b12' : Below w.heap.size wr w12 := b12.mono hbn
        have p0 := (b12'.cell (p := ⟨q, off + i * 3, none⟩) hqw).trans q0
        have p1 := (b12'.cell (p := ⟨q, off + i * 3 + 1, none⟩) hqw).trans q1
        have p2 := (b12'.cell (p := ⟨q, off + i * 3 + 2, none⟩) hqw).trans q2
        have K3 := Lib.hid ((show ∀ (W' : World) (hb : Below w.heap.size wr W'), _ from K2) w12 b12')
        have HB := Lib.hid B12
        clear K1 K2 q0 q1 q2 b12 b12' hb B12
        go_wp2_with (go_at_call 20; refine held ?_)
        unfold Held
        refine Calls.mono K3 ?_
        rintro e w13 ⟨b13, rfl⟩
        rw [← (show vv = _ ∧ vh = _ from HV).1, ← (show vv = _ ∧ vh = _ from HV).2]
        have B13 := Below.trans HB (b13.mono (Below.size HB))
        have tv : (vv != vv) = false := by simp
        have th : (vh != vh) = false := by simp
        clear K3 b13 HB p0 p1 p2 HV
        go_wp2_with fail
        go_roundw
        case rel => exact ⟨i + 1, r', idx_next i HW, hir, hr3, hNext, B13⟩
        case measure => exact meas_next i l1 hlt HW
theorem tlvFinds_all (w : World) (a1 : Option Addr) (l1 c1 : Nat) (f1 : Forest) (h1 : SlF w.heap.size w a1 l1 c1 f1) (a2 : Option Addr) (l2 c2 : Nat) (f2 : Forest) (h2 : SlF w.heap.size w a2 l2 c2 f2) (t n k : Int) (ht : (Lit.int .i64 t).wf = true) (hn : (Lit.int .i64 n).wf = true) (hk : (Lit.int .u64 k).wf = true) :
    Calls Try.prog 5 #[.slice a1 l1 c1, .slice a2 l2 c2, .int .i64 t, .int .i64 n, .int .u64 k] w fun e w' => e = .returned (.bool true) ∧ Below w.heap.size w w' := by
  have bk := bounds_u64 hk
  obtain ⟨m, rfl⟩ : ∃ m : Nat, k = (m : Int) := ⟨k.toNat, by omega⟩
  exact tlvFinds_any w a1 l1 c1 f1 h1 a2 l2 c2 f2 h2 t n (bounds_i64 ht).1 (bounds_i64 ht).2 (bounds_i64 hn).1 (bounds_i64 hn).2 m (by omega)
end Go.Proofs.Ytdlhnipkhlihjaa
