/- The walk of the law TlvFound. -/
import Derived.Test.YtdlhnipkhlihjaaTlvH
import Derived.Test.YtdlhnipkhlihjaaRowSlice
namespace Go.Proofs.Ytdlhnipkhlihjaa
open Go Go.RowKit
attribute [local go_sem] upV_value upV_skip upV_enter
set_option linter.unusedVariables false
set_option linter.unnecessarySimpa false
set_option linter.unusedSimpArgs false
section
variable {P : Program} {o : Oper} {a : Act} {w : World}
/-- the operation x[l:m], at any slice, of elements of any size -/
theorem exec_sliceN (s : Nat) (T : TypeId) (x : Operand) (lo hi : Option Operand) (ho : o.op = .slice T x lo hi none) (p : Option Addr) (len cap l m : Nat)
    (hx : a.eval x = .slice p len cap) (hlo : (lo = none ∧ l = 0) ∨ ∃ t, lo = some t ∧ a.eval t = .int .i64 (l : Int)) (hhi : (hi = none ∧ m = len) ∨ ∃ t, hi = some t ∧ a.eval t = .int .i64 (m : Int))
    (hu : P.underlying T = some (.slice (P.elem T))) (hs : (P.info? (P.elem T)).map (·.size) = some s) (h0 : l ≤ m) (h1 : m ≤ len) (h2 : len ≤ cap) (q : Value) (hq : sliced p l m cap s = q) :
    (execOp a.eval o).run P w = .ok (.value q) w := by
  have hsz : (sizeOf (P.elem T)).run P w = .ok s w := by
    cases hq : P.info? (P.elem T) with
    | none => simp [hq] at hs
    | some i => simp [sizeOf, typeInfo, hq]; simpa [hq] using hs
  have hr : (Instr.sliceAt T (.slice p len cap) (lo.map a.eval) (hi.map a.eval) none).run P w = .ok (sliced p l m cap s) w := by
    rw [run_sliceAt_slice _ T _ _ _ _ hu]
    rcases hlo with ⟨rfl, rfl⟩ | ⟨t1, rfl, e1⟩ <;> rcases hhi with ⟨rfl, rfl⟩ | ⟨t2, rfl, e2⟩
    · simp only [Option.map_none]
      rw [run_slice_all _ T p m cap hu, hsz]; rfl
    · simp only [Option.map_none, Option.map_some, e2]
      rw [run_slice_h _ T p len cap hu _ _ (by omega) (by omega), hsz]; rfl
    · simp only [Option.map_none, Option.map_some, e1]
      rw [run_slice_l _ T p m cap hu _ _ (by omega) (by omega), hsz]; rfl
    · simp only [Option.map_some, e1, e2]
      rw [run_slice_lh _ T p len cap hu _ _ _ _ (by omega) (by omega) (by omega), hsz]; rfl
  unfold execOp
  simp only [ho, hx, Option.map_none]
  rw [Sem.run_bind, hr, ← hq]
  rfl
end
/-- how many have the tag -/
def cntT : Forest → Int → Nat
  | .nil, _ => 0
  | .cons t _ _ r, tag => (if t = tag then 1 else 0) + cntT r tag
theorem cntT_app : ∀ (F G : Forest) (tag : Int), cntT (F.app G) tag = cntT F tag + cntT G tag
  | .nil, _, _ => by simp [Forest.app, cntT]
  | .cons t _ _ r, G, tag => by simp only [Forest.app, cntT, cntT_app r G tag]; omega
theorem cntT_le : ∀ (F : Forest) (tag : Int), cntT F tag ≤ F.length
  | .nil, _ => Nat.le_refl _
  | .cons t _ _ r, tag => by have := cntT_le r tag; simp only [cntT, Forest.length]; split <;> omega
theorem findF_app : ∀ (F G : Forest) (tag : Int) (n : Int), 0 ≤ n → findF (F.app G) tag ((cntT F tag : Int) + n) = findF G tag n
  | .nil, G, tag, n, _ => by simp [Forest.app, cntT]
  | .cons t b k r, G, tag, n, hn => by
    simp only [Forest.app, findF, cntT]
    by_cases h : t = tag
    · rw [if_pos h, if_pos h, if_neg (by omega), ← findF_app r G tag n hn]
      congr 1; omega
    · rw [if_neg h, if_neg h, ← findF_app r G tag n hn]
      congr 1; omega
theorem findF_neg : ∀ (F : Forest) (tag : Int) (n : Int), n < 0 → findF F tag n = none
  | .nil, tag, n, _ => rfl
  | .cons t b k r, tag, n, hn => by
    simp only [findF]
    split
    · rw [if_neg (by omega)]; exact findF_neg r tag (n - 1) (by omega)
    · exact findF_neg r tag n hn
theorem findF_all (F : Forest) (tag : Int) : findF F tag (cntT F tag) = none := by
  have := findF_app F .nil tag 0 (Int.le_refl _)
  rw [Forest.app_nil, Int.add_zero] at this
  exact this
/-- one field of a slice -/
theorem RowF.single {n : Nat} {W : World} {t : Int} {bs : List Int} {k r : Forest} {b off : Nat} (h : RowF n W (.cons t bs k r) b off) : RowF n W (.cons t bs k .nil) b off := by
  obtain ⟨a, len, cap, ka, kl, kc, h1, h2, h3, h4, h5, h6, h7, h8, h9⟩ := h
  exact ⟨a, len, cap, ka, kl, kc, h1, h2, h3, h4, h5, h6, h7, h8, trivial⟩
set_option maxRecDepth 100000 in
set_option maxHeartbeats 8000000 in
theorem tlvFound_any (w : World) (a : Option Addr) (len cap : Nat) (f : Forest) (h : SlF w.heap.size w a len cap f) (tag : Int) :
    Calls Try.prog 4 #[.slice a len cap, .int .i64 tag] w fun e w' => e = .returned (.bool true) ∧ Below w.heap.size w w' := by
  go_enter Try.func4, Try.ntmps4
  go_wp2_with (go_at_call 10; refine held ?_)
  unfold Held
  refine (alive_any w).mono ?_
  rintro e w1 ⟨rfl, b1⟩
  go_wp2_with (go_at_call 11; refine held ?_)
  unfold Held
  refine (great_any f w1 w.heap.size a len cap 1 (h.below b1) (by omega)).mono ?_
  rintro e w1' ⟨⟨g1, rfl, _, hg1⟩, rfl⟩
  by_cases t1 : g1 ≤ 5000
  rotate_left
  · have t2 : decide ((5000 : Int) < (g1 : Int)) = true := by simp; omega
    go_wp2
    go_ret
    exact ⟨rfl, b1⟩
  have t2 : decide ((5000 : Int) < (g1 : Int)) = false := by simp; omega
  have n1 : f.cnt ≤ 5000 := by have := hg1 (by omega); omega
  clear hg1
  have hs := h.small
  have hlc := Forest.length_le_cnt f
  obtain ⟨hl, hc⟩ := id h
  have hfind := Lib.hid (fun (W' : World) (hb : Below w.heap.size w W') (N : Int) (h1 : -9223372036854775808 ≤ N) (h2 : N ≤ 9223372036854775807) => find_any f W' w.heap.size hb.size a len cap (h.below hb) (by omega) tag N h2 h1)
  go_wp2_with fail
  go_loopw [6, 25] (fun m x wr => ∃ (i : Nat) (F G : Forest), x = .int .i64 (i : Int) ∧ m = .int .i64 (cntT F tag : Int) ∧ i + G.length = len ∧ Hid (f = F.app G ∧ F.length = i) ∧ (0 < G.length → ∃ q off, a = some ⟨q, off, none⟩ ∧ q < w.heap.size ∧ len ≤ cap ∧ cap ≤ maxLen ∧ RowF w.heap.size w G q (off + i * 3)) ∧ Below w.heap.size w wr) (fun _ x _ => len - (intOf x).toNat)
  case atStart =>
    refine ⟨0, .nil, f, rfl, rfl, by omega, ⟨rfl, rfl⟩, fun hl => ?_, b1⟩
    rcases hc with h0 | ⟨q, off, g1, g2, g3, g4, g5⟩
    · omega
    · exact ⟨q, off, g1, g2, g3, g4, by simpa using g5⟩
  case round =>
    clear b1 hc h
    obtain ⟨i, F, G, rfl, rfl, hig, hFG, hGr, hb⟩ := hrel
    obtain ⟨hfFG, hFl⟩ := (show _ ∧ _ from hFG)
    have hcl := cntT_le F tag
    by_cases hlt : i < len
    rotate_left
    · have t3 : decide ((i : Int) < (len : Int)) = false := by simp; omega
      have hGn : G = .nil := by
        cases G with
        | nil => rfl
        | cons _ _ _ _ => simp only [Forest.length] at hig; omega
      subst hGn
      rw [Forest.app_nil] at hfFG
      have k1 := (show ∀ (W' : World) (hb : Below w.heap.size w W') (N : Int) (h1 : -9223372036854775808 ≤ N) (h2 : N ≤ 9223372036854775807), _ from hfind) wr hb (cntT F tag : Int) (by omega) (by omega)
      have e1 : findF f tag (cntT F tag : Int) = none := by rw [hfFG]; exact findF_all F tag
      unfold FindPost at k1
      rw [e1] at k1
      have K1 := Lib.hid k1
      have HB := Lib.hid hb
      clear k1 e1 hFG hfFG hGr hb
      go_wp2_with (go_at_call 13; refine held ?_)
      unfold Held
      refine Calls.mono K1 ?_
      rintro e w3 ⟨b3, rfl⟩
      have B3 := Below.trans HB (b3.mono (Below.size HB))
      have e2 : findF f tag (-1) = none := findF_neg f tag _ (by decide)
      obtain ⟨V3, hV3⟩ : ∃ V3, V3 = w3.alloc (.cells zT 30) := ⟨_, rfl⟩
      have bV3 : Below w.heap.size w V3 := by rw [hV3]; exact B3.alloc B3.size _
      have k2 := (show ∀ (W' : World) (hb : Below w.heap.size w W') (N : Int) (h1 : -9223372036854775808 ≤ N) (h2 : N ≤ 9223372036854775807), _ from hfind) V3 bV3 (-1) (by decide) (by decide)
      unfold FindPost at k2
      rw [e2] at k2
      have K2 := Lib.hid k2
      clear k2 e2 HB b3 B3 K1
      go_wp2_with ((fail_if_success (unfold Held)); refine at_store (t := 30) rfl ?_)
      unfold Held
      refine wpList_store_row rfl 30 (.tmp 10) (.tmp 63) rfl w3.heap.size zT rfl rfl 30 zT (World.alloc_heap_new _ _) infoT rfl (agg3_one ..) ?_
      rw [World.setRow_alloc_new, ← hV3]
      clear hV3
      go_wp2_with (go_at_call 13; refine held ?_)
      unfold Held
      refine Calls.mono K2 ?_
      rintro e w4 ⟨b4, rfl⟩
      have B4 := bV3.trans (b4.mono bV3.size)
      clear K2 b4 bV3
      go_wp2_with ((fail_if_success (unfold Held)); refine at_store (t := 30) rfl ?_)
      unfold Held
      refine wpList_store_row rfl 30 (.tmp 12) (.tmp 69) rfl w4.heap.size zT rfl rfl 30 zT (World.alloc_heap_new _ _) infoT rfl (agg3_one ..) ?_
      rw [World.setRow_alloc_new]
      have B5 : Below w.heap.size w (w4.alloc (.cells zT 30)) := B4.alloc B4.size _
      clear B4
      go_wp2
      go_ret
      exact ⟨rfl, B5⟩
    have t3 : decide ((i : Int) < (len : Int)) = true := by simp; omega
    obtain ⟨q, off, rfl, hqw, hc1, hc2, hrow⟩ := hGr (by omega)
    have hrow' : RowF w.heap.size wr G q (off + i * 3) := RowF.below hb G q _ hqw hrow
    obtain ⟨t', bs', k', r, a1, l1, c1, ka1, kl1, kc1, rfl, q0, q1, q2, hr1, hr2, hrb, hrk, hrr⟩ := hrow'.open (by omega)
    have HC1 := Lib.hid hc1
    have hcm := hc2
    simp only [maxLen] at hc2
    have hir : i + 1 + r.length = len := by simp only [Forest.length] at hig; omega
    have HFG := Lib.hid (show f = (F.app (.cons t' bs' k' .nil)).app r ∧ (F.app (.cons t' bs' k' .nil)).length = i + 1 from ⟨by rw [Forest.app_cons]; exact hfFG, by rw [Forest.length_app]; simp only [Forest.length]; omega⟩)
    have hcA : cntT (F.app (.cons t' bs' k' .nil)) tag = cntT F tag + (if t' = tag then 1 else 0) := by rw [cntT_app]; simp [cntT]
    have hNext := Lib.hid (fun (_ : 0 < r.length) => (by
      have hc := hrow
      obtain ⟨_, _, _, _, _, _, _, _, _, _, _, _, _, _, hc'⟩ := hc
      refine ⟨q, off, rfl, hqw, hc1, hcm, ?_⟩
      rw [show off + (i + 1) * 3 = off + i * 3 + 3 by omega]
      exact hc' : ∃ q' off', some (Addr.mk q off none) = some ⟨q', off', none⟩ ∧ q' < w.heap.size ∧ len ≤ cap ∧ cap ≤ maxLen ∧ RowF w.heap.size w r q' (off' + (i + 1) * 3)))
    by_cases htt : t' = tag
    rotate_left
    · have t4 : (t' != tag) = true := by simpa using htt
      rw [if_neg htt, Nat.add_zero] at hcA
      have HCA := Lib.hid hcA
      clear htt hcA hFG hfFG hGr hrow hrow' hrb hrk hrr
      go_wp2_with fail
      go_roundw
      case rel => exact ⟨i + 1, _, r, by go_num, by rw [← show cntT (F.app (.cons t' bs' k' .nil)) tag = cntT F tag from HCA], hir, HFG, hNext, hb⟩
      case measure => simp [intOf]; omega
    subst htt
    have t4 : (t' != t') = false := by simp
    rw [if_pos rfl] at hcA
    have HCA := Lib.hid hcA
    have k1 := (show ∀ (W' : World) (hb : Below w.heap.size w W') (N : Int) (h1 : -9223372036854775808 ≤ N) (h2 : N ≤ 9223372036854775807), _ from hfind) wr hb (cntT F t' : Int) (by omega) (by omega)
    have e1 : findF f t' (cntT F t' : Int) = some (bs', k') := by
      have := findF_app F (.cons t' bs' k' r) t' 0 (Int.le_refl _)
      rw [Int.add_zero, ← hfFG] at this
      rw [this, findF, if_pos rfl, if_pos rfl]
    unfold FindPost at k1
    rw [e1] at k1
    have K1 := Lib.hid k1
    have HB := Lib.hid hb
    have HROW := Lib.hid hrow
    clear k1 e1 hcA hFG hfFG hGr hrow hrow' hrb hrk hrr hb
    go_wp2_with (go_at_call 13; refine held ?_)
    unfold Held
    refine Calls.mono K1 ?_
    rintro e w3 ⟨b3, a3, l3, c3, ka3, kl3, kc3, rfl, hF3⟩
    have B3 := Below.trans HB (b3.mono (Below.size HB))
    go_wp2_with ((fail_if_success (unfold Held)); refine at_store (t := 30) rfl ?_)
    unfold Held
    refine wpList_store_row rfl 30 (.tmp 8) (.tmp 40) rfl w3.heap.size #[.int .i64 t', .slice a3 l3 c3, .slice ka3 kl3 kc3] rfl rfl 30 zT (World.alloc_heap_new _ _) infoT rfl (agg3_one ..) ?_
    rw [World.setRow_alloc_new]
    obtain ⟨V3, hV3⟩ : ∃ V3, V3 = w3.alloc (.cells #[.int .i64 t', .slice a3 l3 c3, .slice ka3 kl3 kc3] 30) := ⟨_, rfl⟩
    have bb3 : Below w3.heap.size w3 V3 := by rw [hV3]; exact (Below.refl _ _).alloc (Nat.le_refl _) _
    have x3 : V3.heap[w3.heap.size]? = some (.cells #[.int .i64 t', .slice a3 l3 c3, .slice ka3 kl3 kc3] 30) := by rw [hV3]; exact World.alloc_heap_new _ _
    have F3 := hF3.below bb3
    have BV3 := B3.trans (bb3.mono B3.size)
    have s3 : w3.heap.size < V3.heap.size := by rw [hV3]; simp
    rw [← hV3]
    clear hV3 bb3 hF3 b3 K1 q0 q1 q2 B3
    have HX : Hid (∀ W', Grows V3.drew W' → W'.cell? ⟨w3.heap.size, 0, none⟩ = some (.int .i64 t') ∧ W'.cell? ⟨w3.heap.size, 1, none⟩ = some (.slice a3 l3 c3) ∧ W'.cell? ⟨w3.heap.size, 2, none⟩ = some (.slice ka3 kl3 kc3)) := fun W' hW => by
      have z := ((below_undrew hW).block w3.heap.size s3).trans x3
      exact ⟨by rw [cell_of_row W' _ 0 _ _ _ z]; rfl, by rw [cell_of_row W' _ 1 _ _ _ z]; rfl, by rw [cell_of_row W' _ 2 _ _ _ z]; rfl⟩
    have hsl : sliced (some (⟨q, off, none⟩ : Addr)) i (i + 1) cap 3 = .slice (some ⟨q, off + i * 3, none⟩) 1 (cap - i) := by
      unfold sliced
      have : len ≤ cap := HC1
      rw [if_neg (by omega)]
      simp [Addr.add_lit]
    have hi1 : i + 1 ≤ len := by omega
    have hq1 : 1 ≤ cap - i := by have : len ≤ cap := HC1; omega
    have hq2 : cap - i ≤ maxLen := Nat.le_trans (Nat.sub_le _ _) hcm
    have HQ2 := Lib.hid hq2
    have HQ1 := Lib.hid hq1
    clear hq1 hq2 hcm
    have hw1 : IntKind.i64.wrap ((i : Int) + 1) = (i : Int) + 1 := by rw [IntKind.wrap_i64]; omega
    have hw2 : wrap64 ((i : Int) + 1) = (i : Int) + 1 := by unfold wrap64; omega
    clear x3
    go_wp2_with fail
    refine wp_region_anyV Grows (by kernel_rfl) 13 rfl ?_
    first
      | (refine anyV_val 0 (Grows.pre) rfl (by kernel_rfl) (by kernel_rfl) (by kernel_rfl) (by rfl) (v := ?av1) (fun W hW => ?ay1) (fun K hK => ?ar1); case ay1 => (obtain ⟨z0, z1, z2⟩ := (show ∀ W', Grows V3.drew W' → _ from HX) W hW; go_simp; first | done | rfl))
      | refine anyV_skip 0 (Grows.pre) rfl (by kernel_rfl) (by kernel_rfl) (by kernel_rfl) (by rfl) (fun K hK => ?_)
    go_simp
    refine hK _ ?_
    clear hK K
    first
      | (refine anyV_val 1 (Grows.pre) rfl (by kernel_rfl) (by kernel_rfl) (by kernel_rfl) (by rfl) (v := ?av2) (fun W hW => ?ay2) (fun K hK => ?ar2); case ay2 => (obtain ⟨z0, z1, z2⟩ := (show ∀ W', Grows V3.drew W' → _ from HX) W hW; go_simp; first | done | rfl))
      | refine anyV_skip 1 (Grows.pre) rfl (by kernel_rfl) (by kernel_rfl) (by kernel_rfl) (by rfl) (fun K hK => ?_)
    go_simp
    refine hK _ ?_
    clear hK K
    first
      | (refine anyV_val 2 (Grows.pre) rfl (by kernel_rfl) (by kernel_rfl) (by kernel_rfl) (by rfl) (v := ?av3) (fun W hW => ?ay3) (fun K hK => ?ar3); case ay3 => (obtain ⟨z0, z1, z2⟩ := (show ∀ W', Grows V3.drew W' → _ from HX) W hW; go_simp; first | done | rfl))
      | refine anyV_skip 2 (Grows.pre) rfl (by kernel_rfl) (by kernel_rfl) (by kernel_rfl) (by rfl) (fun K hK => ?_)
    go_simp
    refine hK _ ?_
    clear hK K
    first
      | (refine anyV_val 3 (Grows.pre) rfl (by kernel_rfl) (by kernel_rfl) (by kernel_rfl) (by rfl) (v := ?av4) (fun W hW => ?ay4) (fun K hK => ?ar4); case ay4 => (obtain ⟨z0, z1, z2⟩ := (show ∀ W', Grows V3.drew W' → _ from HX) W hW; go_simp; first | done | rfl))
      | refine anyV_skip 3 (Grows.pre) rfl (by kernel_rfl) (by kernel_rfl) (by kernel_rfl) (by rfl) (fun K hK => ?_)
    go_simp
    refine hK _ ?_
    clear hK K
    first
      | (refine anyV_val 5 (Grows.pre) rfl (by kernel_rfl) (by kernel_rfl) (by kernel_rfl) (by rfl) (v := ?av5) (fun W hW => ?ay5) (fun K hK => ?ar5); case ay5 => (obtain ⟨z0, z1, z2⟩ := (show ∀ W', Grows V3.drew W' → _ from HX) W hW; go_simp; first | done | rfl))
      | refine anyV_skip 5 (Grows.pre) rfl (by kernel_rfl) (by kernel_rfl) (by kernel_rfl) (by rfl) (fun K hK => ?_)
    go_simp
    refine hK _ ?_
    clear hK K
    first
      | (refine anyV_val 6 (Grows.pre) rfl (by kernel_rfl) (by kernel_rfl) (by kernel_rfl) (by rfl) (v := ?av6) (fun W hW => ?ay6) (fun K hK => ?ar6); case ay6 => (obtain ⟨z0, z1, z2⟩ := (show ∀ W', Grows V3.drew W' → _ from HX) W hW; go_simp; first | done | rfl))
      | refine anyV_skip 6 (Grows.pre) rfl (by kernel_rfl) (by kernel_rfl) (by kernel_rfl) (by rfl) (fun K hK => ?_)
    go_simp
    refine hK _ ?_
    clear hK K
    first
      | (refine anyV_val 7 (Grows.pre) rfl (by kernel_rfl) (by kernel_rfl) (by kernel_rfl) (by rfl) (v := ?av7) (fun W hW => ?ay7) (fun K hK => ?ar7); case ay7 => (obtain ⟨z0, z1, z2⟩ := (show ∀ W', Grows V3.drew W' → _ from HX) W hW; go_simp; first | done | rfl))
      | refine anyV_skip 7 (Grows.pre) rfl (by kernel_rfl) (by kernel_rfl) (by kernel_rfl) (by rfl) (fun K hK => ?_)
    go_simp
    refine hK _ ?_
    clear hK K
    first
      | (refine anyV_val 8 (Grows.pre) rfl (by kernel_rfl) (by kernel_rfl) (by kernel_rfl) (by rfl) (v := ?av8) (fun W hW => ?ay8) (fun K hK => ?ar8); case ay8 => (obtain ⟨z0, z1, z2⟩ := (show ∀ W', Grows V3.drew W' → _ from HX) W hW; go_simp; first | done | rfl))
      | refine anyV_skip 8 (Grows.pre) rfl (by kernel_rfl) (by kernel_rfl) (by kernel_rfl) (by rfl) (fun K hK => ?_)
    go_simp
    refine hK _ ?_
    clear hK K
    refine anyV_val 9 (Grows.pre) rfl (by kernel_rfl) (by kernel_rfl) (by kernel_rfl) (by rfl) (v := (.slice (some ⟨q, off + i * 3, none⟩) 1 (cap - i))) (fun W hW => ?ay9) (fun K hK => ?ar9)
    case ay9 => (exact exec_sliceN 3 22 (.tmp 47) (some (.tmp 48)) (some (.tmp 50)) rfl (some ⟨q, off, none⟩) len cap i (i + 1) rfl (.inr ⟨_, rfl, rfl⟩) (.inr ⟨_, rfl, rfl⟩) (by kernel_rfl) (by kernel_rfl) (Nat.le_succ _) hi1 HC1 _ hsl)
    go_simp
    refine hK _ ?_
    clear hK K
    refine anyV_only 4 rfl (by kernel_rfl) (by rfl) (fun K hK => ?_)
    go_simp
    clear hw1 hw2
    obtain ⟨V4, hV4⟩ : ∃ V4, V4 = (V3.alloc (Obj.cells #[.int .i64 t', .slice a3 l3 c3, .slice ka3 kl3 kc3] 30)).drew := ⟨_, rfl⟩
    have b4 : Grows V3.drew V4 := by
      have h : Below V3.heap.size V3 (V3.alloc (.cells #[.int .i64 t', .slice a3 l3 c3, .slice ka3 kl3 kc3] 30)) := (Below.refl _ _).alloc (Nat.le_refl _) _
      rw [hV4]
      exact ⟨h.os, h.tape, h.output, h.size, h.block⟩
    have s4 : SlF V4.heap.size V4 (some ⟨V3.heap.size, 0, none⟩) 1 1 (.cons t' bs' k' .nil) := by
      have h := one_field V3 0 t' a3 l3 c3 bs' ka3 kl3 kc3 k' F3.t1 F3.t2 F3.row (by have := F3.small; omega) F3.kids
      rw [hV4]
      exact h.below ⟨rfl, rfl, rfl, Nat.le_refl _, fun _ _ => rfl⟩
    rw [← hV4]
    clear hV4
    refine hK _ _ b4 ?_
    clear hK K
    refine anyV_frame (fun K hK => ?_)
    go_simp
    refine hK _ ?_
    clear hK K
    refine anyV_only 10 rfl (by kernel_rfl) (by rfl) (fun K hK => ?_)
    go_simp
    have B4 : Below w.heap.size w V4 := BV3.trans ((below_undrew b4).mono BV3.size)
    have r4 : SlF V4.heap.size V4 (some ⟨q, off + i * 3, none⟩) 1 (cap - i) (.cons t' bs' k' .nil) := by
      refine SlF.mono ⟨rfl, .inr ⟨q, off + i * 3, rfl, hqw, HQ1, HQ2, RowF.single (RowF.below B4 _ q _ hqw HROW)⟩⟩ B4.size
    refine (same_any (.cons t' bs' k' .nil) (.cons t' bs' k' .nil) V4 V4.heap.size (some ⟨V3.heap.size, 0, none⟩) 1 1 (some ⟨q, off + i * 3, none⟩) 1 (cap - i) (Nat.le_refl _) s4 r4).mono ?_
    rintro e w5 ⟨rr, rfl, hrr, b5⟩
    obtain rfl : rr = true := hrr.2 rfl
    have B5 := B4.trans (b5.mono B4.size)
    refine ⟨_, rfl, hK _ _ b5 ?_⟩
    clear hK K
    refine anyV_frame (fun K hK => ?_)
    go_simp
    refine hK _ ?_
    clear hK K
    first
      | (refine anyV_val 11 (Grows.pre) rfl (by kernel_rfl) (by kernel_rfl) (by kernel_rfl) (by rfl) (v := ?av10) (fun W hW => ?ay10) (fun K hK => ?ar10); case ay10 => (go_simp; first | done | rfl))
      | refine anyV_skip 11 (Grows.pre) rfl (by kernel_rfl) (by kernel_rfl) (by kernel_rfl) (by rfl) (fun K hK => ?_)
    go_simp
    refine hK _ ?_
    clear hK K
    first
      | (refine anyV_val 12 (Grows.pre) rfl (by kernel_rfl) (by kernel_rfl) (by kernel_rfl) (by rfl) (v := ?av11) (fun W hW => ?ay11) (fun K hK => ?ar11); case ay11 => (go_simp; first | done | rfl))
      | refine anyV_skip 12 (Grows.pre) rfl (by kernel_rfl) (by kernel_rfl) (by kernel_rfl) (by rfl) (fun K hK => ?_)
    go_simp
    refine hK _ ?_
    clear hK K
    refine anyV_done (by kernel_rfl) ?_
    obtain ⟨cN, hcN⟩ : ∃ cN, cN = cntT F t' := ⟨_, rfl⟩
    have hcN5 : cN ≤ 5000 := by omega
    rw [← hcN]
    have HCN := Lib.hid hcN
    clear HX b4 b5 B4 s4 r4 hrr F3 BV3 hsl hcN hcl HQ1 HQ2 HC1 hc2 HROW
    go_wp2_with fail
    go_roundw
    case rel => exact ⟨i + 1, _, r, by go_num, by rw [show cntT (F.app (.cons t' bs' k' .nil)) t' = cntT F t' + 1 from HCA, ← show cN = cntT F t' from HCN]; go_num, hir, HFG, hNext, B5⟩
    case measure => simp [intOf]; omega
end Go.Proofs.Ytdlhnipkhlihjaa
