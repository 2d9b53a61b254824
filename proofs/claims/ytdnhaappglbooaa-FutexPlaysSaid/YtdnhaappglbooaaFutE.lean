/- The walks of slices.Grow, slices.Concat, Gone. -/
import Derived.Test.YtdnhaappglbooaaFutD
import Derived.Test.YtdnhaappglbooaaRowSlice
import Derived.Lib.AppendZerosOnto
import Derived.Lib.Walk
namespace Go.Proofs.Ytdnhaappglbooaa
open Go Go.RowKit
attribute [local go_sem] upV_value upV_skip upV_enter
set_option linter.unusedVariables false
set_option linter.unnecessarySimpa false
set_option linter.unusedSimpArgs false
set_option maxRecDepth 100000 in
set_option maxHeartbeats 4000000 in
theorem grow_any (n : Nat) (W : World) (hn : n ≤ 1000000000) :
    Calls Try.prog 37 #[.slice none 0 0, .int .i64 (n : Int)] W fun e W' => ∃ v, e = .returned v ∧ W'.ownsRow W.heap.size 35 4 v 0 [] ∧ Below W.heap.size W W' := by
  obtain ⟨i0, hi, hz0, hz1, hz2⟩ := info_parts info_w
  have h1 : decide ((n : Int) < 0) = false := decide_eq_false (by omega)
  by_cases h0 : n = 0
  · subst h0
    go_enter Try.func37, Try.ntmps37
    go_wp2
    go_ret
    exact ⟨_, rfl, World.ownsRow_nil _ _ _ _, Below.refl _ _⟩
  have h4 : decide ((n : Int) > 0) = true := decide_eq_true (by omega)
  have hrz : ∀ ty, (Builtin.append_ #[26, 3] ty #[.slice none 0 0, .int .i64 (n : Int)]).run Try.prog W =
      .ok (.slice (some ⟨W.heap.size, 0, none⟩) n (grownCap W n 0 35)) (W.drew.alloc (.cells (#[] ++ Builtin.zeroCells (Value.agg #[.int .i64 0, .int .i64 0, .int .i64 0, .int .i64 0]).cells n ++ Builtin.zeroCells (Value.agg #[.int .i64 0, .int .i64 0, .int .i64 0, .int .i64 0]).cells (grownCap W n 0 35 - n)) 35)) := fun ty => by
    have h := Lib.run_append_grow_zeros W 26 3 ty 35 i0 _ .i64 .i64 Try.underlying26 Try.underlying3 hi hz0 none 0 0 [] (run_firstCells_none W.drew i0.size 0 0 0) n (by omega) (by omega) (by omega) (by omega) (by rw [hz2]; omega)
      (growslice_fits (by omega) (by rw [hz2]; omega))
    simpa using h
  have hG1 := grownCap_ge W n 0 35
  have hG2 := grownCap_le_maxLen W n 0 35 (by simp only [maxLen]; omega)
  obtain ⟨G, hG⟩ : ∃ G, G = grownCap W n 0 35 := ⟨_, rfl⟩
  rw [← hG] at hrz hG1 hG2
  clear hG
  have hM : G ≤ 9223372036854775807 := by simp only [maxLen] at hG2; omega
  go_enter Try.func37, Try.ntmps37
  go_wp2_with (at_builtin; refine Lib.wpList_append_run _ rfl _ _ _ _ rfl _ _ rfl rfl _ _ (hrz _) ?_)
  all_goals go_ret
  refine ⟨_, rfl, World.ownsRow_made W.drew _ G (Nat.le_refl _) hG2 ?_, ((Below.refl _ W).drew).alloc (Nat.le_refl _) _⟩
  simp only [Array.size_append, size_zeroCells, List.size_toArray, List.length_nil, Value.cells, List.length_cons]
  omega
/-- two parts, one behind the other -/
def cat2 (x y : List Wt) : Nat → List Wt
  | 0 => []
  | 1 => x
  | _ => x ++ y
set_option maxRecDepth 100000 in
set_option maxHeartbeats 4000000 in
theorem concat_any (g : Nat) (a1 : Option Addr) (l1 c1 : Nat) (x : List Wt) (a2 : Option Addr) (l2 c2 : Nat) (y : List Wt) (n : Nat) (W : World) (hn : n ≤ W.heap.size) (h1 : RowW n W a1 l1 c1 x) (h2 : RowW n W a2 l2 c2 y)
    (hg : W.heap[g]? = some (.cells #[.slice a1 l1 c1, .slice a2 l2 c2] 26)) (hsm : l1 + l2 ≤ 1000000) :
    Calls Try.prog 33 #[.slice (some ⟨g, 0, none⟩) 2 2] W fun e W' => ∃ v, e = .returned v ∧ W'.ownsRow W.heap.size 35 4 v (x ++ y).length (flatW (x ++ y)) ∧ Below W.heap.size W W' := by
  obtain ⟨i0, hi, hz0, hz1, hz2⟩ := info_parts info_w
  have e1 := h1.1
  have e2 := h2.1
  have hgl : g < W.heap.size := (Array.getElem?_eq_some_iff.1 hg).1
  have d0 : W.cell? ⟨g, 0, none⟩ = some (.slice a1 l1 c1) := by rw [cell_of_row _ _ 0 _ _ _ hg]; rfl
  have d1 : W.cell? ⟨g, 1, none⟩ = some (.slice a2 l2 c2) := by rw [cell_of_row _ _ 1 _ _ _ hg]; rfl
  have bn : ∀ V, Below W.heap.size W V → Below n W V := fun V h => ⟨h.os, h.tape, h.output, h.size, fun q hq => h.block q (by omega)⟩
  go_enter Try.func33, Try.ntmps33
  go_wp2
  go_loopw [3, 5, 11] (fun s _ i wr => wr = W ∧ ((i = .int .i64 0 ∧ s = .int .i64 0) ∨ (i = .int .i64 1 ∧ s = .int .i64 (l1 : Int)) ∨ (i = .int .i64 2 ∧ s = .int .i64 ((l1 + l2 : Nat) : Int)))) (fun _ _ i _ => 2 - (intOf i).toNat)
  case atStart => exact ⟨rfl, .inl ⟨rfl, rfl⟩⟩
  case round =>
    obtain ⟨hWW, hrel⟩ := hrel
    obtain rfl := hWW.symm
    obtain ⟨rfl, rfl⟩ | ⟨rfl, rfl⟩ | ⟨rfl, rfl⟩ := hrel
    · have t1 : decide (((l1 : Nat) : Int) < 0) = false := decide_eq_false (by omega)
      go_wp2
      go_roundw
      case rel => exact ⟨trivial, .inr (.inl ⟨rfl, by simp⟩)⟩
      case measure => simp [intOf]
    · have t1 : decide (((l1 : Nat) : Int) + ((l2 : Nat) : Int) < 0) = false := decide_eq_false (by omega)
      go_wp2
      go_roundw
      case rel => exact ⟨trivial, .inr (.inr ⟨rfl, by simp⟩)⟩
      case measure => simp [intOf]
    · go_wp2_with (go_at_call 37; refine held ?_)
      unfold Held
      refine (grow_any (l1 + l2) W (by omega)).mono ?_
      rintro e w1 ⟨v1, rfl, o1, b1⟩
      have hg1 := (b1.block g hgl).trans hg
      have d0 : w1.cell? ⟨g, 0, none⟩ = some (.slice a1 l1 c1) := by rw [cell_of_row _ _ 0 _ _ _ hg1]; rfl
      have d1 : w1.cell? ⟨g, 1, none⟩ = some (.slice a2 l2 c2) := by rw [cell_of_row _ _ 1 _ _ _ hg1]; rfl
      go_wp2
      go_loopw [6, 8, 27] (fun v _ i wq => ∃ k : Nat, k ≤ 2 ∧ i = .int .i64 (k : Int) ∧ Hid (wq.ownsRow W.heap.size 35 4 v (cat2 x y k).length (flatW (cat2 x y k))) ∧ Below W.heap.size W wq) (fun _ _ i _ => 2 - (intOf i).toNat)
      case atStart => exact ⟨0, Nat.zero_le _, rfl, o1, b1⟩
      case round =>
        obtain ⟨k, hk, rfl, ho, hb⟩ := hrel
        have ho' : wr.ownsRow W.heap.size 35 4 u6 (cat2 x y k).length (flatW (cat2 x y k)) := ho
        have hgk := (hb.block g hgl).trans hg
        have d0 : wr.cell? ⟨g, 0, none⟩ = some (.slice a1 l1 c1) := by rw [cell_of_row _ _ 0 _ _ _ hgk]; rfl
        have d1 : wr.cell? ⟨g, 1, none⟩ = some (.slice a2 l2 c2) := by rw [cell_of_row _ _ 1 _ _ _ hgk]; rfl
        have hbs := hb.size
        have hv1 := (h1.below (bn wr hb)).vals
        have hv2 := (h2.below (bn wr hb)).vals
        have hle : ∀ b, u6.ownBlock = some b → W.heap.size ≤ b := fun b hb => (ho'.lt b hb).1
        rcases (by omega : k = 0 ∨ k = 1 ∨ k = 2) with rfl | rfl | rfl
        · go_wp2_with (at_builtin; refine held ?_)
          unfold Held
          refine wpList_append_vals rfl _ _ 26 rfl W.heap.size 35 i0 _ 4 32 Try.underlying26 hi hz0 hz1 hz2 rfl (by decide) u6 0 [] rfl ho' a1 l1 c1 (flatW x) rfl (by rw [flatW_len, e1]) (flatW_one x) hv1 (by omega) (by simp only [maxLen]; omega) hbs ?_
          intro v3 w3 o3 g3 hv3
          have b3 : Below W.heap.size W w3 := hb.grown g3 hbs hle
          rw [Nat.zero_add, List.nil_append, ← e1] at o3
          have O3 := Lib.hid o3
          clear o3 g3 hv3 ho ho' hv1 hv2 hle
          go_wp2
          go_roundw
          case rel => exact ⟨1, by omega, rfl, O3, b3⟩
          case measure => simp [intOf]
        · go_wp2_with (at_builtin; refine held ?_)
          unfold Held
          refine wpList_append_vals rfl _ _ 26 rfl W.heap.size 35 i0 _ 4 32 Try.underlying26 hi hz0 hz1 hz2 rfl (by decide) u6 x.length (flatW x) rfl ho' a2 l2 c2 (flatW y) rfl (by rw [flatW_len, e2]) (flatW_one y) hv2 (by omega) (by simp only [maxLen]; omega) hbs ?_
          intro v3 w3 o3 g3 hv3
          have b3 : Below W.heap.size W w3 := hb.grown g3 hbs hle
          rw [← flatW_append, ← e2, ← List.length_append] at o3
          have O3 := Lib.hid o3
          clear o3 g3 hv3 ho ho' hv1 hv2 hle
          go_wp2
          go_roundw
          case rel => exact ⟨2, by omega, rfl, O3, b3⟩
          case measure => simp [intOf]
        · clear hv1 hv2 hle ho'
          go_wp2
          go_ret
          exact ⟨_, rfl, ho, hb⟩
theorem RowW.sub {n : Nat} {W : World} {a : Option Addr} {len cap : Nat} {ws : List Wt} (h : RowW n W a len cap ws) (l m : Nat) (h1 : l ≤ m) (h2 : m ≤ len) :
    ∃ q, sliced a l m cap 4 = .slice q (m - l) (cap - l) ∧ RowW n W q (m - l) (cap - l) ((ws.drop l).take (m - l)) := by
  refine ⟨_, rfl, ?_⟩
  have hl := h.1
  have el : ((ws.drop l).take (m - l)).length = m - l := by rw [List.length_take, List.length_drop]; omega
  refine ⟨el, ?_⟩
  by_cases hm : m = l
  · exact .inl (by omega)
  · rcases h.2 with h0 | ⟨b, off, rfl, hb, h3, h4, hc⟩
    · omega
    · refine .inr ⟨b, off + l * 4, ?_, hb, by omega, by omega, fun j u hj => ?_⟩
      · rw [if_neg (by omega)]
        simp [Addr.add_lit]
      · rw [Nat.add_assoc]
        refine hc _ _ ?_
        rw [flatW_take, flatW_drop, List.getElem?_take] at hj
        split at hj
        · rwa [List.getElem?_drop] at hj
        · cases hj
section
variable {P : Program} {ops : Array Oper} {rest : List Oper} {o : Oper} {a : Act} {w : World} {Q : Exit → Act → World → Prop}
/-- the operation x[l:m], at any slice, of elements of sz cells -/
theorem exec_sliceN (sz : Nat) (T : TypeId) (x : Operand) (lo hi : Option Operand) (ho : o.op = .slice T x lo hi none) (p : Option Addr) (len cap l m : Nat)
    (hx : a.eval x = .slice p len cap) (hlo : (lo = none ∧ l = 0) ∨ ∃ t, lo = some t ∧ a.eval t = .int .i64 (l : Int)) (hhi : (hi = none ∧ m = len) ∨ ∃ t, hi = some t ∧ a.eval t = .int .i64 (m : Int))
    (hu : P.underlying T = some (.slice (P.elem T))) (hs : (P.info? (P.elem T)).map (·.size) = some sz) (h0 : l ≤ m) (h1 : m ≤ len) (h2 : len ≤ cap) (q : Value) (hq : sliced p l m cap sz = q) :
    (execOp a.eval o).run P w = .ok (.value q) w := by
  have hsz : (sizeOf (P.elem T)).run P w = .ok sz w := by
    cases hq : P.info? (P.elem T) with
    | none => simp [hq] at hs
    | some i => simp [sizeOf, typeInfo, hq]; simpa [hq] using hs
  have hr : (Instr.sliceAt T (.slice p len cap) (lo.map a.eval) (hi.map a.eval) none).run P w = .ok (sliced p l m cap sz) w := by
    rw [run_sliceAt_slice _ T _ _ _ _ hu]
    rcases hlo with ⟨rfl, rfl⟩ | ⟨t1, rfl, e1⟩ <;> rcases hhi with ⟨rfl, rfl⟩ | ⟨t2, rfl, e2⟩
    · simp only [Option.map_none]
      rw [run_slice_all _ T p m cap hu, hsz]; rfl
    · simp only [Option.map_none, Option.map_some, e2]
      rw [run_slice_h _ T p len cap hu _ _ (by omega) (by omega), hsz]; rfl
    · simp only [Option.map_none, Option.map_some, e1]
      rw [run_slice_l _ T p m cap hu _ _ (by omega) (by omega), hsz]; rfl
    · simp only [Option.map_some, e1, e2]
      rw [run_slice_lh _ T p len cap hu _ _ _ _ (by omega) (by omega) (by omega), hsz]; rfl
  unfold execOp
  simp only [ho, hx, Option.map_none]
  rw [Sem.run_bind, hr, ← hq]
  rfl
end
set_option maxRecDepth 100000 in
set_option maxHeartbeats 4000000 in
theorem gone_any (p : Nat) (v : Value) (ws : List Wt) (pid : Int) (W : World) (h : FutAt W p v ws) (hsm : ws.length ≤ 500000) :
    Calls Try.prog 22 #[.pointer (some ⟨p, 0, none⟩), .int .i64 pid] W fun e W' => ∃ v', e = .returned (.bool (ws.find? (isP pid)).isSome) ∧ FutAt W' p v' (ws.eraseP (isP pid)) ∧ Wr (SFut p v) (SFut p v') W W' := by
  have fin : ∀ W', Below W.heap.size W W' → FutAt W' p v ws ∧ Wr (SFut p v) (SFut p v) W W' := fun W' hb => ⟨h.below hb, Wr.of_below hb⟩
  obtain ⟨F, hF⟩ : ∃ F, F = ws.find? (isP pid) := ⟨_, rfl⟩
  obtain ⟨E, hE⟩ : ∃ E, E = ws.eraseP (isP pid) := ⟨_, rfl⟩
  rw [← hF, ← hE]
  go_enter Try.func22, Try.ntmps22
  go_wp2_with (go_at_call 31; refine held ?_)
  unfold Held
  refine (find_any p v ws pid W h (by omega)).mono ?_
  rintro e w4 ⟨⟨r, rfl, hf⟩, b4⟩
  rcases hf.res with ⟨rfl, hf1, hf2⟩ | ⟨j, hj, rfl, hf1, hf2⟩
  · rw [← hF] at hf1
    rw [← hE] at hf2
    subst hf1 hf2
    clear h hf
    go_wp2
    go_ret
    exact ⟨_, rfl, fin _ b4⟩
  rw [← hF] at hf1
  rw [← hE] at hf2
  subst hf1 hf2
  have h4 := h.below b4
  have t1 : decide ((j : Int) ≥ 0) = true := decide_eq_true (by omega)
  obtain ⟨a, cap, rfl, hr⟩ := h4.sl
  have lp := h4.lt p (.inl rfl)
  have cv : ∀ W', Below w4.heap.size w4 W' → W'.cell? ⟨p, 0, none⟩ = some (.slice a ws.length cap) := fun W' hw => by
    have y1 := (hw.block p lp).trans h4.at_
    rw [cell_of_row _ _ 0 _ _ _ y1]; rfl
  have hcap : ws.length ≤ cap := by
    rcases hr.2 with h0 | ⟨_, _, _, _, h3, _⟩ <;> omega
  obtain ⟨q1, hq1, r1⟩ := hr.sub 0 j (Nat.zero_le _) (by omega)
  obtain ⟨q2, hq2, r2⟩ := hr.sub (j + 1) ws.length (by omega) (Nat.le_refl _)
  rw [List.drop_zero, Nat.sub_zero] at r1
  rw [Nat.sub_zero] at hq1
  rw [List.take_of_length_le (by rw [List.length_drop]; omega)] at r2
  have hcomm : ((j + 1 : Nat) : Int) = (j : Int) + 1 := by omega
  clear hf hE hF
  go_wp2_with fail
  refine wp_region_anyZ Grows 16 3 (by kernel_rfl) rfl ?_
  first
    | (refine anyZ_val 0 (Grows.pre) (by kernel_rfl) (by decide) rfl (by kernel_rfl) (by kernel_rfl) (by kernel_rfl) (by rfl) (v := ?av1) (fun W hW => ?ay1) (fun K hK => ?ar1); case ay1 => (have q1 := cv W (below_undrew hW); go_simp; first | done | rfl))
    | refine anyZ_skip 0 (Grows.pre) (by kernel_rfl) (by decide) rfl (by kernel_rfl) (by kernel_rfl) (by kernel_rfl) (by rfl) (fun K hK => ?_)
  go_simp
  refine hK _ ?_
  clear hK K
  first
    | (refine anyZ_val 1 (Grows.pre) (by kernel_rfl) (by decide) rfl (by kernel_rfl) (by kernel_rfl) (by kernel_rfl) (by rfl) (v := ?av2) (fun W hW => ?ay2) (fun K hK => ?ar2); case ay2 => (have q1 := cv W (below_undrew hW); go_simp; first | done | rfl))
    | refine anyZ_skip 1 (Grows.pre) (by kernel_rfl) (by decide) rfl (by kernel_rfl) (by kernel_rfl) (by kernel_rfl) (by rfl) (fun K hK => ?_)
  go_simp
  refine hK _ ?_
  clear hK K
  first
    | (refine anyZ_val 2 (Grows.pre) (by kernel_rfl) (by decide) rfl (by kernel_rfl) (by kernel_rfl) (by kernel_rfl) (by rfl) (v := ?av3) (fun W hW => ?ay3) (fun K hK => ?ar3); case ay3 => (have q1 := cv W (below_undrew hW); go_simp; first | done | rfl))
    | refine anyZ_skip 2 (Grows.pre) (by kernel_rfl) (by decide) rfl (by kernel_rfl) (by kernel_rfl) (by kernel_rfl) (by rfl) (fun K hK => ?_)
  go_simp
  refine hK _ ?_
  clear hK K
  first
    | (refine anyZ_val 3 (Grows.pre) (by kernel_rfl) (by decide) rfl (by kernel_rfl) (by kernel_rfl) (by kernel_rfl) (by rfl) (v := ?av4) (fun W hW => ?ay4) (fun K hK => ?ar4); case ay4 => (have q1 := cv W (below_undrew hW); go_simp; first | done | rfl))
    | refine anyZ_skip 3 (Grows.pre) (by kernel_rfl) (by decide) rfl (by kernel_rfl) (by kernel_rfl) (by kernel_rfl) (by rfl) (fun K hK => ?_)
  go_simp
  refine hK _ ?_
  clear hK K
  first
    | (refine anyZ_val 4 (Grows.pre) (by kernel_rfl) (by decide) rfl (by kernel_rfl) (by kernel_rfl) (by kernel_rfl) (by rfl) (v := ?av5) (fun W hW => ?ay5) (fun K hK => ?ar5); case ay5 => (have q1 := cv W (below_undrew hW); go_simp; first | done | rfl))
    | refine anyZ_skip 4 (Grows.pre) (by kernel_rfl) (by decide) rfl (by kernel_rfl) (by kernel_rfl) (by kernel_rfl) (by rfl) (fun K hK => ?_)
  go_simp
  refine hK _ ?_
  clear hK K
  first
    | (refine anyZ_val 5 (Grows.pre) (by kernel_rfl) (by decide) rfl (by kernel_rfl) (by kernel_rfl) (by kernel_rfl) (by rfl) (v := ?av6) (fun W hW => ?ay6) (fun K hK => ?ar6); case ay6 => (have q1 := cv W (below_undrew hW); go_simp; first | done | rfl))
    | refine anyZ_skip 5 (Grows.pre) (by kernel_rfl) (by decide) rfl (by kernel_rfl) (by kernel_rfl) (by kernel_rfl) (by rfl) (fun K hK => ?_)
  go_simp
  refine hK _ ?_
  clear hK K
  refine anyZ_val 6 (Grows.pre) (by kernel_rfl) (by decide) rfl (by kernel_rfl) (by kernel_rfl) (by kernel_rfl) (by rfl) (v := .slice q1 j (cap - 0)) (fun W hW => ?ay7) (fun K hK => ?ar7)
  case ay7 => (exact exec_sliceN 4 26 (.tmp 15) none (some (.tmp 16)) rfl a ws.length cap 0 j rfl (.inl ⟨rfl, rfl⟩) (.inr ⟨_, rfl, rfl⟩) (by kernel_rfl) (by kernel_rfl) (Nat.zero_le _) (by omega) hcap _ hq1)
  go_simp
  refine hK _ ?_
  clear hK K
  first
    | (refine anyZ_val 7 (Grows.pre) (by kernel_rfl) (by decide) rfl (by kernel_rfl) (by kernel_rfl) (by kernel_rfl) (by rfl) (v := ?av8) (fun W hW => ?ay8) (fun K hK => ?ar8); case ay8 => (have q1 := cv W (below_undrew hW); go_simp; first | done | rfl))
    | refine anyZ_skip 7 (Grows.pre) (by kernel_rfl) (by decide) rfl (by kernel_rfl) (by kernel_rfl) (by kernel_rfl) (by rfl) (fun K hK => ?_)
  go_simp
  refine hK _ ?_
  clear hK K
  first
    | (refine anyZ_val 8 (Grows.pre) (by kernel_rfl) (by decide) rfl (by kernel_rfl) (by kernel_rfl) (by kernel_rfl) (by rfl) (v := ?av9) (fun W hW => ?ay9) (fun K hK => ?ar9); case ay9 => (have q1 := cv W (below_undrew hW); go_simp; first | done | rfl))
    | refine anyZ_skip 8 (Grows.pre) (by kernel_rfl) (by decide) rfl (by kernel_rfl) (by kernel_rfl) (by kernel_rfl) (by rfl) (fun K hK => ?_)
  go_simp
  refine hK _ ?_
  clear hK K
  first
    | (refine anyZ_val 9 (Grows.pre) (by kernel_rfl) (by decide) rfl (by kernel_rfl) (by kernel_rfl) (by kernel_rfl) (by rfl) (v := ?av10) (fun W hW => ?ay10) (fun K hK => ?ar10); case ay10 => (have q1 := cv W (below_undrew hW); go_simp; first | done | rfl))
    | refine anyZ_skip 9 (Grows.pre) (by kernel_rfl) (by decide) rfl (by kernel_rfl) (by kernel_rfl) (by kernel_rfl) (by rfl) (fun K hK => ?_)
  go_simp
  refine hK _ ?_
  clear hK K
  first
    | (refine anyZ_val 10 (Grows.pre) (by kernel_rfl) (by decide) rfl (by kernel_rfl) (by kernel_rfl) (by kernel_rfl) (by rfl) (v := ?av11) (fun W hW => ?ay11) (fun K hK => ?ar11); case ay11 => (have q1 := cv W (below_undrew hW); go_simp; first | done | rfl))
    | refine anyZ_skip 10 (Grows.pre) (by kernel_rfl) (by decide) rfl (by kernel_rfl) (by kernel_rfl) (by kernel_rfl) (by rfl) (fun K hK => ?_)
  go_simp
  refine hK _ ?_
  clear hK K
  first
    | (refine anyZ_val 11 (Grows.pre) (by kernel_rfl) (by decide) rfl (by kernel_rfl) (by kernel_rfl) (by kernel_rfl) (by rfl) (v := ?av12) (fun W hW => ?ay12) (fun K hK => ?ar12); case ay12 => (have q1 := cv W (below_undrew hW); go_simp; first | done | rfl))
    | refine anyZ_skip 11 (Grows.pre) (by kernel_rfl) (by decide) rfl (by kernel_rfl) (by kernel_rfl) (by kernel_rfl) (by rfl) (fun K hK => ?_)
  go_simp
  refine hK _ ?_
  clear hK K
  first
    | (refine anyZ_val 12 (Grows.pre) (by kernel_rfl) (by decide) rfl (by kernel_rfl) (by kernel_rfl) (by kernel_rfl) (by rfl) (v := ?av13) (fun W hW => ?ay13) (fun K hK => ?ar13); case ay13 => (have q1 := cv W (below_undrew hW); go_simp; first | done | rfl))
    | refine anyZ_skip 12 (Grows.pre) (by kernel_rfl) (by decide) rfl (by kernel_rfl) (by kernel_rfl) (by kernel_rfl) (by rfl) (fun K hK => ?_)
  go_simp
  refine hK _ ?_
  clear hK K
  refine anyZ_val 13 (Grows.pre) (by kernel_rfl) (by decide) rfl (by kernel_rfl) (by kernel_rfl) (by kernel_rfl) (by rfl) (v := .slice q2 (ws.length - (j + 1)) (cap - (j + 1))) (fun W hW => ?ay14) (fun K hK => ?ar14)
  case ay14 => (exact exec_sliceN 4 26 (.tmp 21) (some (.tmp 23)) none rfl a ws.length cap (j + 1) ws.length rfl (.inr ⟨_, rfl, by exact congrArg (Value.int .i64) (show IntKind.i64.wrap ((j : Int) + 1) = ((j + 1 : Nat) : Int) from by rw [IntKind.wrap_i64]; omega)⟩) (.inl ⟨rfl, rfl⟩) (by kernel_rfl) (by kernel_rfl) (by omega) (Nat.le_refl _) hcap _ hq2)
  go_simp
  refine hK _ ?_
  clear hK K
  refine anyZ_only 14 rfl (by kernel_rfl) (by rfl) (fun K hK => ?_)
  go_simp
  obtain ⟨W5, hW5⟩ : ∃ W5, W5 = (w4.alloc (Obj.cells #[.slice q1 j cap, .slice q2 (ws.length - (j + 1)) (cap - (j + 1))] 26)).drew := ⟨_, rfl⟩
  have b5 : Below w4.heap.size w4 W5 := by rw [hW5]; exact ((Below.refl _ w4).alloc (Nat.le_refl _) _).drew
  have z5 : W5.heap[w4.heap.size]? = some (Obj.cells #[.slice q1 j cap, .slice q2 (ws.length - (j + 1)) (cap - (j + 1))] 26) := by rw [hW5]; exact World.alloc_heap_new _ _
  rw [← hW5]
  refine hK _ _ (show Below w4.drew.heap.size w4.drew W5 from ⟨b5.os, b5.tape, b5.output, b5.size, b5.block⟩) ?_
  clear hW5
  clear hK K
  refine anyZ_frame (fun K hK => ?_)
  go_simp
  refine hK _ ?_
  clear hK K
  refine anyZ_only 15 rfl (by kernel_rfl) (by rfl) (fun K hK => ?_)
  go_simp
  refine (concat_any w4.heap.size q1 j cap (ws.take j) q2 (ws.length - (j + 1)) (cap - (j + 1)) (ws.drop (j + 1)) w4.heap.size W5 b5.size (r1.below b5) (r2.below b5) z5 (by omega)).mono ?_
  rintro e w6 ⟨v6, rfl, ho6, b6⟩
  have b46 : Below w4.heap.size w4 w6 := b5.trans (b6.mono b5.size)
  have s5 := b5.size
  have y6 := (b46.block p lp).trans h4.at_
  obtain ⟨L, hL⟩ : ∃ L, L = (ws.take j ++ ws.drop (j + 1)).length := ⟨_, rfl⟩
  obtain ⟨a6, c6, rfl⟩ : ∃ a c, v6 = .slice a L c := by
    rcases ho6.2 with ⟨h1, h2⟩ | ⟨g, cap, cur, h1, _⟩
    · exact ⟨none, 0, by rw [h1, hL, h2]⟩
    · exact ⟨_, _, by rw [hL]; exact h1⟩
  rw [← hL] at ho6
  have HL := Lib.hid hL
  clear hL
  refine ⟨_, rfl, hK _ _ b6 ?_⟩
  clear hK K
  refine anyZ_frame (fun K hK => ?_)
  go_simp
  refine hK _ ?_
  clear hK K
  refine anyZ_done (by kernel_rfl) ?_
  refine wpAny_only 16 rfl (by kernel_rfl) (by rfl) (fun K hK => ?_)
  go_simp
  refine hK _ _ ?_
  clear hK K
  refine wpAny_frame (fun K hK => ?_)
  go_simp
  refine hK _ ?_
  clear hK K
  refine wpAny_only 17 rfl (by kernel_rfl) (by rfl) (fun K hK => ?_)
  go_simp
  refine hK _ _ ?_
  clear hK K
  refine wpAny_frame (fun K hK => ?_)
  go_simp
  refine hK _ ?_
  clear hK K
  refine wpAny_only 18 rfl (by kernel_rfl) (by rfl) (fun K hK => ?_)
  refine upV_store_one 26 (.tmp 28) (.tmp 26) rfl p rfl (.slice a6 L c6) rfl rfl 28 _ y6 (by kernel_rfl) ?_
  refine hK _ _ ?_
  clear hK K
  refine wpAny_frame (fun K hK => ?_)
  go_simp
  refine hK _ ?_
  clear hK K
  refine wpAny_done (by kernel_rfl) ?_
  have hlo : ∀ b, (Value.slice a6 L c6).ownBlock = some b → w4.heap.size ≤ b := fun b hb => Nat.le_trans s5 (ho6.lt b hb).1
  have hT : Wr (SFut p (.slice a ws.length cap)) (SFut p (.slice a6 L c6)) W (w6.setRow p #[.slice a6 L c6]) := by
    have h8 : Wr (SFut p (.slice a ws.length cap)) (SFut p (.slice a ws.length cap)) W w6 := Wr.of_below (b4.trans (b46.mono b4.size))
    refine (h8.setRow (.inl (.inl rfl)) _).to ?_
    rintro b (rfl | hb)
    · exact .inl (.inl rfl)
    · exact .inr (Nat.le_trans b4.size (hlo b hb))
  have hF : FutAt (w6.setRow p #[.slice a6 L c6]) p (.slice a6 L c6) (ws.take j ++ ws.drop (j + 1)) := by
    have hne : ∀ b, (Value.slice a6 L c6).ownBlock = some b → b ≠ p := fun b hb => by have := hlo b hb; omega
    have hL : L = (ws.take j ++ ws.drop (j + 1)).length := HL
    exact ⟨setRow_heap _ _ _ _ _ _ y6, hL ▸ ownsRow_same (ownsRow_mono ho6 (Nat.zero_le _)) fun b hb => setRow_other _ _ _ _ (hne b hb), hne⟩
  have HT := Lib.hid hT
  have HF := Lib.hid hF
  clear hT hF y6 ho6 hlo
  go_wp2_with fail
  go_ret
  exact ⟨_, rfl, HF, HT⟩
end Go.Proofs.Ytdnhaappglbooaa
