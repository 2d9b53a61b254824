/- Own texts of this seat, one behind the other (part 7 of 9). -/
import Derived.Test.YtejcandhijdnhaaGreatMN06
import Derived.Deep.Cut
import Derived.Deep.CutRange
import Derived.Deep.CutBlock
import Derived.WalkKit
import Derived.Test.YtejcandhijdnhaaGreatRows
import Derived.ProofKit
import Derived.Deep.QuietTactic
import Derived.BigQuiet
import Derived.Lib.Hide
import Derived.Below
import Derived.RangeFuncBox
import Derived.WalkSpells
import Derived.WalkLawsBesides
import Derived.Laws.NewBlocks
import Derived.RangeFuncLeaves
import Derived.Shelf.Abstract
import Derived.OwnWalkIn
import Derived.TacticsInMore
import Derived.LoopNIn
import Derived.LoopIn
import Derived.BigFrameIn
import Derived.BigRegionIn
import Derived.Maps.AppendAt
import Derived.Maps.OwnIn

/- The walks of image.number, image.kids and image.fields of zombies. -/
namespace Go.Proofs.YtejcandhijdnhaaGreat
open Go Go.RowKit
attribute [local go_sem] upV_value upV_skip upV_enter
set_option linter.unusedVariables false
set_option linter.unnecessarySimpa false
set_option linter.unusedSimpArgs false
/-- bytes lie in no block that holds none -/
theorem row8_ne {n : Nat} {W : World} {a : Option Addr} {len cap : Nat} {zs : List Int} (h : Row8 n W (.slice a len cap) zs) (h0 : 0 < len) {g : Nat} {row : Array Value} {t : TypeId} {fr : Nat × Nat} (hg : W.heap[g]? = some (.cells row t fr))
    (hr : ∀ v ∈ row.toList, ∀ z, v ≠ .int .u8 z) : ¬ blockOf (.slice a len cap) g := fun hb => by
  obtain ⟨hl, b, off, ho, hc⟩ := h.1.open
  obtain ⟨rfl, _⟩ := ho h0
  have hb2 : g = b := hb.2
  subst hb2
  have h1 := hc 0 h0
  rw [World.cell?, hg] at h1
  simp only [Nat.add_zero] at h1
  exact hr _ (List.mem_of_getElem? (i := off) (by rw [Array.getElem?_toList]; exact h1)) _ rfl
/-- what Number answers, its bytes in blocks of the call's own -/
def NumOwn (tag : Int) (n : Nat) (W : World) (e : Ending) (W' : World) : Prop :=
  ∃ (a : Option Addr) (c : Nat), e = .returned (.agg #[.int .i64 tag, .slice a 8 c, .slice none 0 0]) ∧ Row8 W'.heap.size W' (.slice a 8 c) (numB n) ∧ (∀ b, blockOf (.slice a 8 c) b → W.heap.size < b) ∧ Below W.heap.size W W'
set_option maxRecDepth 100000 in
set_option maxHeartbeats 4000000 in
theorem number_own (tag : Int) (n : Nat) (hn : n < 18446744073709551616) (W : World) :
    Calls Tryz.prog 93 #[.int .i64 tag, .int .u64 (n : Int)] W (NumOwn tag n W) := by
  go_enter Tryz.func93, Tryz.ntmps93
  go_wp2_with (go_at_call 112; refine held ?_)
  unfold Held
  obtain ⟨Z, hZ⟩ : ∃ Z, Z = W.alloc (.cells #[.int .i64 0, .slice none 0 0, .slice none 0 0] 66) := ⟨_, rfl⟩
  have pZ : Z.heap[W.heap.size]? = some (.cells zT 66) := by rw [hZ]; exact World.alloc_heap_new W _
  have bZ : Below W.heap.size W Z := by rw [hZ]; exact (Below.refl _ W).alloc (Nat.le_refl _) _
  have sZ : Z.heap.size = W.heap.size + 1 := by rw [hZ]; simp
  rw [← hZ]
  obtain ⟨V, hV⟩ : ∃ V, V = Z.alloc (.cells #[.int .u32 ((n : Int) % 4294967296), .int .u32 ((n : Int) / 4294967296)] 40) := ⟨_, rfl⟩
  have bV : Below Z.heap.size Z V := by rw [hV]; exact (Below.refl _ _).alloc (Nat.le_refl _) _
  have rV : RowI .u32 V.heap.size V (.slice (some ⟨W.heap.size + 1, 0, none⟩) 2 2) [((n % 4294967296 : Nat) : Int), ((n / 4294967296 : Nat) : Int)] := by
    refine .inr ⟨W.heap.size + 1, 0, 2, rfl, by rw [hV]; simp; omega, Nat.le_refl 2, by decide, fun j hj => ?_⟩
    rw [hV, ← sZ, Nat.zero_add, World.cell?_alloc_mark]
    simp at hj
    match j, hj with
    | 0, _ => rfl
    | 1, _ => rfl
  rw [← hV]
  have sV : W.heap.size < V.heap.size := by have := bV.size; omega
  have pV := (bV.block W.heap.size (by omega)).trans pZ
  have bWV : Below W.heap.size W V := bZ.trans (bV.mono (by omega))
  clear hV hZ pZ bV bZ sZ
  refine (all_any _ 2 2 _ V rV (by intro z hz; simp at hz; rcases hz with rfl | rfl <;> omega) (by simp)).mono ?_
  rintro e w3 ⟨v, rfl, b3, o3⟩
  rw [numB_all] at o3
  obtain ⟨a3, c3, rfl, _⟩ := ownsRow_slice o3
  have p3 := (b3.block W.heap.size sV).trans pV
  have B3 := bWV.trans (b3.mono bWV.size)
  have e9 : (w3.setRow W.heap.size #[.int .i64 tag, .slice a3 8 c3, .slice none 0 0]).heap[W.heap.size]? = some (.cells #[.int .i64 tag, .slice a3 8 c3, .slice none 0 0] 66) := setRow_heap _ _ _ _ _ _ p3
  have b9 := below_setRow B3 (Nat.le_refl _) #[.int .i64 tag, .slice a3 8 c3, .slice none 0 0]
  have hP : Row8 (w3.setRow W.heap.size #[.int .i64 tag, .slice a3 8 c3, .slice none 0 0]).heap.size (w3.setRow W.heap.size #[.int .i64 tag, .slice a3 8 c3, .slice none 0 0]) (.slice a3 8 c3) (numB n) :=
    own_row8 (v := .slice a3 8 c3) (n := 8) o3 (numB_in n hn) _ _ fun b hb => ⟨setRow_other _ _ _ _ (by have := (o3.lt b hb).1; omega), by rw [size_setRow]; exact (o3.lt b hb).2⟩
  have hG : ∀ b, blockOf (.slice a3 8 c3) b → W.heap.size < b := fun b hb => by
    cases a3 with
    | none => exact hb.elim
    | some q => have h2 := (o3.lt q.block rfl).1; have h3 : b = q.block := hb.2; omega
  clear b3 o3 rV bWV pV B3
  go_wp2_with ((fail_if_success (unfold Held)); refine at_store (t := 66) rfl ?_)
  unfold Held
  refine wpList_store_row rfl 66 (.tmp 4) (.tmp 13) rfl W.heap.size #[.int .i64 tag, .slice a3 8 c3, .slice none 0 0] rfl rfl 66 zT p3 infoT rfl (agg3_one ..) ?_
  go_wp2_with fail
  refine bodyPost_ret (results_cell_row rfl _ _ W.heap.size 66 #[.int .i64 tag, .slice a3 8 c3, .slice none 0 0] (0, 0) _ rfl e9 Tryz.underlying66 rfl infoT) rfl ?_
  exact ⟨a3, c3, rfl, hP, hG, b9⟩
set_option maxHeartbeats 1000000 in
theorem inumber_any (tag : Int) (n : Nat) (hn : n < 9223372036854775808) (W : World) :
    Calls Tryz.prog 92 #[.int .i64 tag, .int .i64 (n : Int)] W (NumOwn tag n W) := by
  have hw : IntKind.u64.wrap (n : Int) = (n : Int) := wrap_u64_nat n (by omega)
  have kn := fun (V : World) => number_own tag n (by omega) V
  go_enter Tryz.func92, Tryz.ntmps92
  go_upto_region 1 with fail
  obtain ⟨V, hV⟩ : ∃ V, V = W.alloc (.cells #[.int .i64 0, .slice none 0 0, .slice none 0 0] 66) := ⟨_, rfl⟩
  have bV : Below W.heap.size W V := by rw [hV]; exact (Below.refl _ _).alloc (Nat.le_refl _) _
  have e : V.heap[W.heap.size]? = some (.cells zT 66) := by rw [hV]; exact World.alloc_heap_new _ _
  have hVl : W.heap.size < V.heap.size := (Array.getElem?_eq_some_iff.1 e).1
  rw [← hV]
  clear hV
  have k := kn V
  clear kn
  go_wp2_with (go_at_call 93; refine held ?_)
  unfold Held
  refine k.mono ?_
  rintro e' w2 ⟨a, c, rfl, hr, hG, b2⟩
  have e2 := (b2.block W.heap.size hVl).trans e
  go_wp2_with ((fail_if_success (unfold Held)); refine at_store (t := 66) rfl ?_)
  unfold Held
  refine wpList_store_row rfl 66 (.tmp 4) (.tmp 8) rfl W.heap.size #[.int .i64 tag, .slice a 8 c, .slice none 0 0] rfl rfl 66 zT e2 infoT rfl (agg3_one ..) ?_
  obtain ⟨W9, hW9⟩ : ∃ W9, W9 = w2.setRow W.heap.size #[.int .i64 tag, .slice a 8 c, .slice none 0 0] := ⟨_, rfl⟩
  have e9 : W9.heap[W.heap.size]? = some (.cells #[.int .i64 tag, .slice a 8 c, .slice none 0 0] 66) := by rw [hW9]; exact setRow_heap _ _ _ _ _ _ e2
  have k9 : ∀ b, b ≠ W.heap.size → W9.heap[b]? = w2.heap[b]? := fun b hb => by rw [hW9]; exact setRow_other _ _ _ _ hb
  have s9 : W9.heap.size = w2.heap.size := by rw [hW9]; exact size_setRow _ _ _
  have b9 : Below W.heap.size W W9 := by rw [hW9]; exact below_setRow (bV.trans (b2.mono bV.size)) (Nat.le_refl _) _
  rw [← hW9]
  clear hW9
  go_wp2
  have hne : ∀ b, blockOf (.slice a 8 c) b → b ≠ W.heap.size := fun b hb h => by
    rcases hr.1 with ⟨_, _, h', _⟩ | ⟨b', off, cap, h', _, _, _, hc⟩
    · injection h' with _ h' _; cases h'
    · injection h' with h1 h2 h3
      subst h1
      have hb2 : b = b' := hb.2
      have h7 := hc 7 (by rw [numB_len]; decide)
      rw [← hb2, h, cell_of_row w2 _ (off + 7) _ _ _ e2, Array.getElem?_eq_none (by show 3 ≤ _; omega)] at h7
      cases h7
  refine bodyPost_ret (results_cell_row rfl _ _ W.heap.size 66 #[.int .i64 tag, .slice a 8 c, .slice none 0 0] (0, 0) _ rfl e9 Tryz.underlying66 rfl infoT) rfl ?_
  exact ⟨a, c, rfl, (hr.same fun b hb => k9 b (hne b hb)).mono (by omega), fun b hb => by have := hG b hb; omega, b9⟩
/-- a zombie's fields -/
def kidsF : Forest := .cons 7 (numB 2) .nil (.cons 8 (numB 1) .nil (.cons 9 (numB 2) .nil (.cons 10 (numB 7) .nil .nil)))
/-- an image's of one zombie -/
def imgF : Forest := .cons 1 (numB 1) .nil (.cons 132 [] kidsF .nil)
set_option maxRecDepth 100000 in
set_option maxHeartbeats 4000000 in
theorem kids_zombie (W : World) :
    Calls Tryz.prog 95 #[.agg (procC 2 7 0)] W fun e W' => ∃ a c, e = .returned (.slice a 4 c) ∧ (∀ (W2 : World) (n' : Nat), (∀ x, W.heap.size ≤ x ∧ x < W'.heap.size → W2.heap[x]? = W'.heap[x]? ∧ x < n') → SlF n' W2 a 4 c kidsF) ∧ Below W.heap.size W W' := by
  obtain ⟨i0, hi, hz0, hz1, hz2⟩ := info_parts info_tlv
  obtain ⟨X, hX⟩ : ∃ X, X = procC 2 7 0 := ⟨_, rfl⟩
  rw [← hX]
  have HX := Lib.hid hX
  go_enter Tryz.func95, Tryz.ntmps95
  go_upto_region 1 with fail
  obtain ⟨V, hV⟩ : ∃ V, V = W.alloc (.cells (procC 2 7 0) 54) := ⟨_, rfl⟩
  have bV : Below W.heap.size W V := by rw [hV]; exact (Below.refl _ _).alloc (Nat.le_refl _) _
  have e : V.heap[W.heap.size]? = some (.cells (procC 2 7 0) 54) := by rw [hV]; exact World.alloc_heap_new _ _
  have hVl : W.heap.size < V.heap.size := (Array.getElem?_eq_some_iff.1 e).1
  rw [← hV]
  clear hV hX
  have HC := Lib.hid (show ∀ W', Grows V W' → W'.cell? ⟨W.heap.size, 0, none⟩ = some (.int .i64 2) ∧ W'.cell? ⟨W.heap.size, 1, none⟩ = some (.int .i64 1) ∧ W'.cell? ⟨W.heap.size, 2, none⟩ = some (.int .i64 2) ∧ W'.cell? ⟨W.heap.size, 3, none⟩ = some (.int .u32 7) from fun W' hW => by
    have z := (hW.block W.heap.size hVl).trans e
    exact ⟨by rw [cell_of_row W' _ 0 _ _ _ z]; rfl, by rw [cell_of_row W' _ 1 _ _ _ z]; rfl, by rw [cell_of_row W' _ 2 _ _ _ z]; rfl, by rw [cell_of_row W' _ 3 _ _ _ z]; rfl⟩)
  clear e
  refine wp_region_anyV Grows (by kernel_rfl) 11 rfl ?_
  first
    | (refine anyV_val 0 (Grows.pre) rfl (by kernel_rfl) (by kernel_rfl) (by kernel_rfl) (by rfl) (v := ?av1) (fun W hW => ?ay1) (fun K hK => ?ar1); case ay1 => (obtain ⟨q0, q1, q2, q3⟩ := (show ∀ W', Grows V W' → _ from HC) W (below_undrew hW); go_simp; first | done | rfl))
    | refine anyV_skip 0 (Grows.pre) rfl (by kernel_rfl) (by kernel_rfl) (by kernel_rfl) (by rfl) (fun K hK => ?_)
  go_simp
  refine hK _ ?_
  clear hK K
  first
    | (refine anyV_val 1 (Grows.pre) rfl (by kernel_rfl) (by kernel_rfl) (by kernel_rfl) (by rfl) (v := ?av2) (fun W hW => ?ay2) (fun K hK => ?ar2); case ay2 => (obtain ⟨q0, q1, q2, q3⟩ := (show ∀ W', Grows V W' → _ from HC) W (below_undrew hW); go_simp; first | done | rfl))
    | refine anyV_skip 1 (Grows.pre) rfl (by kernel_rfl) (by kernel_rfl) (by kernel_rfl) (by rfl) (fun K hK => ?_)
  go_simp
  refine hK _ ?_
  clear hK K
  first
    | (refine anyV_val 3 (Grows.pre) rfl (by kernel_rfl) (by kernel_rfl) (by kernel_rfl) (by rfl) (v := ?av3) (fun W hW => ?ay3) (fun K hK => ?ar3); case ay3 => (obtain ⟨q0, q1, q2, q3⟩ := (show ∀ W', Grows V W' → _ from HC) W (below_undrew hW); go_simp; first | done | rfl))
    | refine anyV_skip 3 (Grows.pre) rfl (by kernel_rfl) (by kernel_rfl) (by kernel_rfl) (by rfl) (fun K hK => ?_)
  go_simp
  refine hK _ ?_
  clear hK K
  first
    | (refine anyV_val 4 (Grows.pre) rfl (by kernel_rfl) (by kernel_rfl) (by kernel_rfl) (by rfl) (v := ?av4) (fun W hW => ?ay4) (fun K hK => ?ar4); case ay4 => (obtain ⟨q0, q1, q2, q3⟩ := (show ∀ W', Grows V W' → _ from HC) W (below_undrew hW); go_simp; first | done | rfl))
    | refine anyV_skip 4 (Grows.pre) rfl (by kernel_rfl) (by kernel_rfl) (by kernel_rfl) (by rfl) (fun K hK => ?_)
  go_simp
  refine hK _ ?_
  clear hK K
  first
    | (refine anyV_val 6 (Grows.pre) rfl (by kernel_rfl) (by kernel_rfl) (by kernel_rfl) (by rfl) (v := ?av5) (fun W hW => ?ay5) (fun K hK => ?ar5); case ay5 => (obtain ⟨q0, q1, q2, q3⟩ := (show ∀ W', Grows V W' → _ from HC) W (below_undrew hW); go_simp; first | done | rfl))
    | refine anyV_skip 6 (Grows.pre) rfl (by kernel_rfl) (by kernel_rfl) (by kernel_rfl) (by rfl) (fun K hK => ?_)
  go_simp
  refine hK _ ?_
  clear hK K
  first
    | (refine anyV_val 7 (Grows.pre) rfl (by kernel_rfl) (by kernel_rfl) (by kernel_rfl) (by rfl) (v := ?av6) (fun W hW => ?ay6) (fun K hK => ?ar6); case ay6 => (obtain ⟨q0, q1, q2, q3⟩ := (show ∀ W', Grows V W' → _ from HC) W (below_undrew hW); go_simp; first | done | rfl))
    | refine anyV_skip 7 (Grows.pre) rfl (by kernel_rfl) (by kernel_rfl) (by kernel_rfl) (by rfl) (fun K hK => ?_)
  go_simp
  refine hK _ ?_
  clear hK K
  refine anyV_only 2 rfl (by kernel_rfl) (by rfl) (fun K hK => ?_)
  go_simp
  refine (inumber_any 7 2 (by decide) V.drew).mono ?_
  rintro e1 w1 ⟨a1, c1, rfl, r1, g1, b1⟩
  refine ⟨_, rfl, hK _ _ b1 ?_⟩
  have b1' : Below V.heap.size V w1 := below_undrew b1
  clear hK K
  refine anyV_frame (fun K hK => ?_)
  go_simp
  refine hK _ ?_
  clear hK K
  refine anyV_only 5 rfl (by kernel_rfl) (by rfl) (fun K hK => ?_)
  go_simp
  refine (inumber_any 8 1 (by decide) w1).mono ?_
  rintro e2 w2 ⟨a2, c2, rfl, r2, g2, b2⟩
  refine ⟨_, rfl, hK _ _ b2 ?_⟩
  have b2' : Below V.heap.size V w2 := b1'.trans (b2.mono b1'.size)
  clear hK K
  refine anyV_frame (fun K hK => ?_)
  go_simp
  refine hK _ ?_
  clear hK K
  refine anyV_only 8 rfl (by kernel_rfl) (by rfl) (fun K hK => ?_)
  go_simp
  refine (inumber_any 9 2 (by decide) w2).mono ?_
  rintro e3 w3 ⟨a3, c3, rfl, r3, g3, b3⟩
  refine ⟨_, rfl, hK _ _ b3 ?_⟩
  have b3' : Below V.heap.size V w3 := b2'.trans (b3.mono b2'.size)
  clear hK K
  refine anyV_frame (fun K hK => ?_)
  go_simp
  refine hK _ ?_
  clear hK K
  refine anyV_only 9 rfl (by kernel_rfl) (by rfl) (fun K hK => ?_)
  go_simp
  obtain ⟨W6, hW6⟩ : ∃ W6, W6 = w3.alloc (Obj.cells #[.int .i64 7, .slice a1 8 c1, .slice none 0 0, .int .i64 8, .slice a2 8 c2, .slice none 0 0, .int .i64 9, .slice a3 8 c3, .slice none 0 0] 66) := ⟨_, rfl⟩
  have b6 : Below w3.heap.size w3 W6 := by rw [hW6]; exact (Below.refl _ _).alloc (Nat.le_refl _) _
  have o6 : W6.ownsRow w3.heap.size 66 3 (.slice (some ⟨w3.heap.size, 0, none⟩) 3 3) 3 [.int .i64 7, .slice a1 8 c1, .slice none 0 0, .int .i64 8, .slice a2 8 c2, .slice none 0 0, .int .i64 9, .slice a3 8 c3, .slice none 0 0] := by
    rw [hW6]; exact World.ownsRow_lit (base := w3.heap.size) (e := 66) (size := 3) w3 #[.int .i64 7, .slice a1 8 c1, .slice none 0 0, .int .i64 8, .slice a2 8 c2, .slice none 0 0, .int .i64 9, .slice a3 8 c3, .slice none 0 0] 3 (Nat.le_refl _) (by decide) rfl
  have e6 : W6.heap[w3.heap.size]? = some (.cells #[.int .i64 7, .slice a1 8 c1, .slice none 0 0, .int .i64 8, .slice a2 8 c2, .slice none 0 0, .int .i64 9, .slice a3 8 c3, .slice none 0 0] 66) := by rw [hW6]; exact World.alloc_heap_new _ _
  rw [← hW6]
  refine hK _ _ b6 ?_
  clear hW6
  clear hK K
  refine anyV_frame (fun K hK => ?_)
  go_simp
  refine hK _ ?_
  clear hK K
  first
    | (refine anyV_val 10 (Grows.pre) rfl (by kernel_rfl) (by kernel_rfl) (by kernel_rfl) (by rfl) (v := ?av7) (fun W hW => ?ay7) (fun K hK => ?ar7); case ay7 => (go_simp; first | done | rfl))
    | refine anyV_skip 10 (Grows.pre) rfl (by kernel_rfl) (by kernel_rfl) (by kernel_rfl) (by rfl) (fun K hK => ?_)
  go_simp
  refine hK _ ?_
  clear hK K
  refine anyV_done (by kernel_rfl) ?_
  have b6' : Below V.heap.size V W6 := b3'.trans (b6.mono b3'.size)
  obtain ⟨q0, q1, q2, q3⟩ := (show ∀ W', Grows V W' → _ from HC) W6 b6'
  have s6 : w3.heap.size < W6.heap.size := (Array.getElem?_eq_some_iff.1 e6).1
  have k4 := number_own 10 7 (by decide) W6
  have H6 := Lib.hid (And.intro o6 (And.intro e6 (And.intro r1 (And.intro r2 (And.intro r3 (And.intro b1 (And.intro b2 (And.intro b3 b6))))))))
  clear o6 e6 r1 r2 r3 b1 b2 b3 b6 HC b1' b2' b3'
  go_wp2_with (go_at_call 93; refine held ?_)
  unfold Held
  refine k4.mono ?_
  rintro e4 w7 ⟨a4, c4, rfl, r4, g4, b7⟩
  clear k4
  go_wp2_with (at_builtin; refine held ?_)
  unfold Held
  obtain ⟨o6, e6, r1, r2, r3, b1, b2, b3, b6⟩ := (show _ ∧ _ ∧ _ ∧ _ ∧ _ ∧ _ ∧ _ ∧ _ ∧ _ from H6)
  obtain ⟨W8, hW8⟩ : ∃ W8, W8 = w7.alloc (Obj.cells #[.int .i64 10, .slice a4 8 c4, .slice none 0 0] 66) := ⟨_, rfl⟩
  have b8 : Below w7.heap.size w7 W8 := by rw [hW8]; exact (Below.refl _ _).alloc (Nat.le_refl _) _
  have e8 : W8.heap[w7.heap.size]? = some (.cells #[.int .i64 10, .slice a4 8 c4, .slice none 0 0] 66) := by rw [hW8]; exact World.alloc_heap_new _ _
  have s8 : W8.heap.size = w7.heap.size + 1 := by rw [hW8]; simp
  rw [← hW8]
  clear hW8
  have h67 := b7.size
  have h01 := b1.size
  have h12 := b2.size
  have h23 := b3.size
  have hVd : V.drew.heap.size = V.heap.size := rfl
  have own8 : W8.ownsRow w3.heap.size 66 3 (.slice (some ⟨w3.heap.size, 0, none⟩) 3 3) 3 [.int .i64 7, .slice a1 8 c1, .slice none 0 0, .int .i64 8, .slice a2 8 c2, .slice none 0 0, .int .i64 9, .slice a3 8 c3, .slice none 0 0] := ownsRow_same o6 fun b hb => by
    obtain rfl : w3.heap.size = b := by simpa [Value.ownBlock] using hb
    exact (b8.block _ (by omega)).trans (b7.block _ s6)
  have e7 := (b7.block _ s6).trans e6
  have hne := row8_ne r4 (by decide) e7 (by simp)
  refine wpList_append_vals rfl _ _ 59 rfl w3.heap.size 66 i0 _ 3 56 Tryz.underlying59 hi hz0 hz1 hz2 rfl (by decide) (.slice (some ⟨w3.heap.size, 0, none⟩) 3 3) 3 _ rfl own8 (some ⟨w7.heap.size, 0, none⟩) 1 1 [.int .i64 10, .slice a4 8 c4, .slice none 0 0] rfl rfl (by simp [Value.oneCell']) (.inr ⟨_, _, rfl, fun j u hj => by
      rw [Nat.zero_add, cell_of_row W8 _ j _ _ _ e8, List.getElem?_toArray]
      exact hj⟩) (by omega) (by simp only [maxLen]; omega) (by omega) ?_
  intro v9 w9 o9 g9 hv9
  obtain ⟨g, c9, rfl⟩ := ownsRow_succ o9
  have h89 := g9.size
  have kp : ∀ b, b < W8.heap.size → b ≠ w3.heap.size → w9.heap[b]? = W8.heap[b]? := fun b h1 h2 => g9.block b h1 (fun e => h2 (by injection e with e))
  have kq : ∀ b, b < w7.heap.size → b ≠ w3.heap.size → w9.heap[b]? = w7.heap[b]? := fun b h1 h2 => (kp b (by omega) h2).trans (b8.block b h1)
  have kr : ∀ b, b < w3.heap.size → w9.heap[b]? = w3.heap[b]? := fun b h1 => (kq b (by omega) (by omega)).trans ((b7.block b (by omega)).trans (b6.block b h1))
  have R1 : Row8 w9.heap.size w9 (.slice a1 8 c1) (numB 2) := (r1.same fun b hb => by have := r1.lt b hb; exact (kr b (by omega)).trans ((b3.block b (by omega)).trans (b2.block b (by omega)))).mono (by omega)
  have R2 : Row8 w9.heap.size w9 (.slice a2 8 c2) (numB 1) := (r2.same fun b hb => by have := r2.lt b hb; exact (kr b (by omega)).trans (b3.block b (by omega))).mono (by omega)
  have R3 : Row8 w9.heap.size w9 (.slice a3 8 c3) (numB 2) := (r3.same fun b hb => by have := r3.lt b hb; exact kr b (by omega)).mono (by omega)
  have R4 : Row8 w9.heap.size w9 (.slice a4 8 c4) (numB 7) := (r4.same fun b hb => by have := r4.lt b hb; exact kq b (by omega) (fun e => hne (by rw [← e]; exact hb))).mono (by omega)
  have hcc : ∀ j, j < 12 → w9.cell? ⟨g, j, none⟩ = _ := fun j hj => o9.cellAt j (by omega)
  have hgl := (o9.lt g rfl)
  have hcap : 4 ≤ c9 ∧ c9 ≤ maxLen := by
    rcases o9.2 with ⟨h, _⟩ | ⟨_, _, _, h, _, _, q1, q2, _⟩
    · cases h
    · injection h with _ _ h; subst h; exact ⟨q1, q2⟩
  have hl8 : (8 : Nat) ≤ 140737488351232 := by decide
  have e9 := o9.2
  have hbV := bV.size
  have S9 : ∀ (W2 : World) (n' : Nat), (∀ x, W.heap.size ≤ x ∧ x < w9.heap.size → W2.heap[x]? = w9.heap[x]? ∧ x < n') → SlF n' W2 (some ⟨g, 0, none⟩) 4 c9 kidsF := fun W2 n' hW2 => by
    have hgg := hW2 g ⟨by omega, hgl.2⟩
    have hq : ∀ j, W2.cell? ⟨g, j, none⟩ = w9.cell? ⟨g, j, none⟩ := fun j => World.cell?_of_block (a := ⟨g, j, none⟩) hgg.1
    have tr : ∀ (a : Option Addr) (c : Nat) (zs : List Int) (B : Nat), Row8 w9.heap.size w9 (.slice a 8 c) zs → (∀ b, blockOf (.slice a 8 c) b → B < b) → W.heap.size ≤ B → Row8 n' W2 (.slice a 8 c) zs := fun a c zs B hR hG hB => by
      have h2 := hR.same (B := W2) fun b hb => (hW2 b ⟨by have := hG b hb; omega, hR.lt b hb⟩).1
      refine ⟨?_, h2.2⟩
      rcases h2.1 with h3 | ⟨b, off, cap, e, hb, h4⟩
      · exact .inl h3
      · refine .inr ⟨b, off, cap, e, (hW2 b ⟨?_, hb⟩).2, h4⟩
        have := hG b (by rw [e]; exact ⟨by have h8 := e; injection h8 with _ h8 _; omega, rfl⟩)
        omega
    exact ⟨rfl, .inr ⟨g, 0, rfl, hgg.2, hcap.1, hcap.2,
      a1, 8, c1, none, 0, 0, (hq 0).trans (hcc 0 (by decide)), (hq 1).trans (hcc 1 (by decide)), (hq 2).trans (hcc 2 (by decide)), by decide, by decide, ⟨tr _ _ _ _ R1 g1 (by omega), hl8⟩, rfl, .inl rfl,
      a2, 8, c2, none, 0, 0, (hq 3).trans (hcc 3 (by decide)), (hq 4).trans (hcc 4 (by decide)), (hq 5).trans (hcc 5 (by decide)), by decide, by decide, ⟨tr _ _ _ _ R2 g2 (by omega), hl8⟩, rfl, .inl rfl,
      a3, 8, c3, none, 0, 0, (hq 6).trans (hcc 6 (by decide)), (hq 7).trans (hcc 7 (by decide)), (hq 8).trans (hcc 8 (by decide)), by decide, by decide, ⟨tr _ _ _ _ R3 g3 (by omega), hl8⟩, rfl, .inl rfl,
      a4, 8, c4, none, 0, 0, (hq 9).trans (hcc 9 (by decide)), (hq 10).trans (hcc 10 (by decide)), (hq 11).trans (hcc 11 (by decide)), by decide, by decide, ⟨tr _ _ _ _ R4 g4 (by omega), hl8⟩, rfl, .inl rfl, trivial⟩⟩
  have B9 : Below W.heap.size W w9 := by
    have hb := bV.trans (b6'.mono bV.size)
    have hb7 := hb.trans (b7.mono hb.size)
    have hb8 := hb7.trans (b8.mono hb7.size)
    exact hb8.grown g9 hb8.size (fun b h => by
      obtain rfl : w3.heap.size = b := by simpa [Value.ownBlock] using h
      have := bV.size
      omega)
  have HS := Lib.hid S9
  clear o6 e6 r1 r2 r3 r4 b1 b2 b3 b6 b7 b8 e8 own8 e7 hne o9 g9 hv9 kp kq kr R1 R2 R3 R4 hcc S9 H6 e9 q0 q1 q2 q3 b6' hgl hcap
  go_wp2
  go_ret
  exact ⟨_, _, rfl, HS, B9⟩
end Go.Proofs.YtejcandhijdnhaaGreat

/- The walk of image.fields of an image of one zombie. -/
namespace Go.Proofs.YtejcandhijdnhaaGreat
open Go Go.RowKit
attribute [local go_sem] upV_value upV_skip upV_enter
set_option linter.unusedVariables false
set_option linter.unnecessarySimpa false
set_option linter.unusedSimpArgs false
def procZ : Array Value := #[.int .i64 0, .int .i64 0, .int .i64 0, .int .u32 0, .int .u32 0, .int .u32 0, .int .u32 0, .int .u32 0, .int .u32 0, .int .u32 0, .int .u32 0, .int .u32 0, .complex .f64 0 0, .complex .f64 0 0, .int .u32 0, .int .u32 0, .int .u32 0, .int .u32 0, .int .u32 0, .int .u32 0, .int .u32 0, .int .u32 0, .int .u32 0, .complex .f64 0 0, .complex .f64 0 0, .int .u32 0, .int .u32 0, .int .u32 0, .int .u32 0, .int .u32 0, .int .u32 0, .int .u32 0, .int .u32 0, .int .u32 0, .int .u32 0, .int .u32 0, .int .u32 0, .int .u32 0, .int .u32 0, .int .u32 0, .int .u32 0, .int .u32 0, .int .u32 0, .int .u32 0, .bool false, .int .i64 0, .int .i64 0, .int .i64 0, .int .i64 0, .int .i64 0, .int .u32 0, .slice none 0 0, .int .u32 0, .int .i64 0, .slice none 0 0]
theorem infoProc2 (st ss wt : Int) : (Tryz.prog.info? 54).map (·.size) = some (procC st ss wt).size := by kernel_rfl
theorem proc_one (st ss wt : Int) : (procC st ss wt).all (·.oneCell') = true := by unfold procC; simp [Value.oneCell']
set_option maxRecDepth 100000 in
set_option maxHeartbeats 4000000 in
theorem fields_zombie (W : World) (x cp : Nat) (hx : ZomAt W x (procC 2 7 0)) :
    Calls Tryz.prog 65 #[.agg #[.slice (some ⟨x, 0, none⟩) 1 cp, .slice none 0 0, .slice none 0 0, .slice none 0 0, .slice none 0 0]] W fun e W' => ∃ a c, e = .returned (.slice a 2 c) ∧ SlF W'.heap.size W' a 2 c imgF ∧ Below W.heap.size W W' := by
  obtain ⟨i0, hi, hz0, hz1, hz2⟩ := info_parts info_tlv
  have hxl := hx.1
  have hip := infoProc2 2 7 0
  have hp1 := proc_one 2 7 0
  have hps : procZ.size = (procC 2 7 0).size := rfl
  have kk := fun V => kids_zombie V
  obtain ⟨X, hX⟩ : ∃ X, X = procC 2 7 0 := ⟨_, rfl⟩
  rw [← hX] at hx hip hp1 hps kk
  clear hX
  go_enter Tryz.func65, Tryz.ntmps65
  go_upto_region 1 with fail
  obtain ⟨V, hV⟩ : ∃ V, V = W.alloc (.cells #[.slice (some ⟨x, 0, none⟩) 1 cp, .slice none 0 0, .slice none 0 0, .slice none 0 0, .slice none 0 0] 29) := ⟨_, rfl⟩
  have bV : Below W.heap.size W V := by rw [hV]; exact (Below.refl _ _).alloc (Nat.le_refl _) _
  have e : V.heap[W.heap.size]? = some (.cells #[.slice (some ⟨x, 0, none⟩) 1 cp, .slice none 0 0, .slice none 0 0, .slice none 0 0, .slice none 0 0] 29) := by rw [hV]; exact World.alloc_heap_new _ _
  have hVl : W.heap.size < V.heap.size := (Array.getElem?_eq_some_iff.1 e).1
  rw [← hV]
  clear hV
  have k1 := inumber_any 1 1 (by decide) V
  go_wp2_with (go_at_call 92; refine held ?_)
  unfold Held
  refine k1.mono ?_
  rintro e' w1 ⟨a1, c1, rfl, r1, g1, b1⟩
  have hx1 := (hx.below bV hxl).below b1 (by have := bV.size; omega)
  have e1 := (b1.block _ hVl).trans e
  clear k1 hx e
  have h1s := b1.size
  have bW1 := bV.trans (b1.mono bV.size)
  go_upto_region 2 with fail
  obtain ⟨W2, hW2⟩ : ∃ W2, W2 = w1.alloc (Obj.cells #[.int .i64 1, .slice a1 8 c1, .slice none 0 0] 66) := ⟨_, rfl⟩
  have b2 : Below w1.heap.size w1 W2 := by rw [hW2]; exact (Below.refl _ _).alloc (Nat.le_refl _) _
  have o2 : W2.ownsRow w1.heap.size 66 3 (.slice (some ⟨w1.heap.size, 0, none⟩) 1 1) 1 [.int .i64 1, .slice a1 8 c1, .slice none 0 0] := by
    rw [hW2]; exact World.ownsRow_lit (base := w1.heap.size) (e := 66) (size := 3) w1 #[.int .i64 1, .slice a1 8 c1, .slice none 0 0] 1 (Nat.le_refl _) (by decide) rfl
  have e2 : W2.heap[w1.heap.size]? = some (.cells #[.int .i64 1, .slice a1 8 c1, .slice none 0 0] 66) := by rw [hW2]; exact World.alloc_heap_new _ _
  have s2 : W2.heap.size = w1.heap.size + 1 := by rw [hW2]; simp
  rw [← hW2]
  clear hW2
  have hx2 := hx1.below b2 (by have := hx1.1; have := bV.size; omega)
  have ei := (b2.block _ (by omega)).trans e1
  have d0 : W2.cell? ⟨W.heap.size, 0, none⟩ = some (.slice (some ⟨x, 0, none⟩) 1 cp) := by rw [cell_of_row W2 _ 0 _ _ _ ei]; rfl
  have d1 : W2.cell? ⟨W.heap.size, 1, none⟩ = some (.slice none 0 0) := by rw [cell_of_row W2 _ 1 _ _ _ ei]; rfl
  have d2 : W2.cell? ⟨W.heap.size, 2, none⟩ = some (.slice none 0 0) := by rw [cell_of_row W2 _ 2 _ _ _ ei]; rfl
  have d3 : W2.cell? ⟨W.heap.size, 3, none⟩ = some (.slice none 0 0) := by rw [cell_of_row W2 _ 3 _ _ _ ei]; rfl
  have hx2l := hx2.1
  go_wp2
  go_loopw [3, 5, 19] (fun l _ i wr => l = .slice (some ⟨w1.heap.size, 0, none⟩) 1 1 ∧ i = .int .i64 0 ∧ wr = W2) (fun _ _ _ _ => 0)
  case atStart => exact ⟨rfl, rfl, rfl⟩
  case round =>
    obtain ⟨rfl, rfl, rfl⟩ := hrel
    rename_i W2
    have HST := Lib.hid (And.intro bW1 (And.intro b2 (And.intro o2 (And.intro e2 (And.intro r1 (And.intro g1 (And.intro ei hx2)))))))
    clear o2 e2 r1 g1 b1 hx1 e1
    go_wp2
    go_loopw [3, 7, 33] (fun l _ i wq => l = .slice (some ⟨w1.heap.size, 0, none⟩) 1 1 ∧ i = .int .i64 0 ∧ wq = wr) (fun _ _ _ _ => 0)
    case atStart => exact ⟨rfl, rfl, rfl⟩
    case round =>
      obtain ⟨rfl, rfl, rfl⟩ := hrel
      go_wp2
      go_loopw [3, 9, 55] (fun l _ i wq => l = .slice (some ⟨w1.heap.size, 0, none⟩) 1 1 ∧ i = .int .i64 0 ∧ wq = wr) (fun _ _ _ _ => 0)
      case atStart => exact ⟨rfl, rfl, rfl⟩
      case round =>
        obtain ⟨rfl, rfl, rfl⟩ := hrel
        go_wp2
        go_loopw [3, 11, 75] (fun l _ i wq => ∃ k : Nat, i = .int .i64 (k : Int) ∧ (k = 0 ∧ l = .slice (some ⟨w1.heap.size, 0, none⟩) 1 1 ∧ wq = wr ∨ k = 1 ∧ ∃ a c, l = .slice a 2 c ∧ SlF wq.heap.size wq a 2 c imgF ∧ Below W.heap.size W wq ∧ wq.cell? ⟨W.heap.size, 4, none⟩ = some (.slice none 0 0))) (fun _ _ i _ => 1 - (intOf i).toNat)
        case atStart => exact ⟨0, rfl, .inl ⟨rfl, rfl, rfl⟩⟩
        case round =>
          obtain ⟨k, rfl, hk⟩ := hrel
          rcases hk with ⟨rfl, rfl, rfl⟩ | ⟨rfl, a, c, rfl, hS, hB, d4⟩
          rotate_left
          · have HS := Lib.hid hS
            clear hS HST
            go_wp2
            go_loopw [3, 13, 89] (fun l _ i wq' => l = .slice a 2 c ∧ i = .int .i64 0 ∧ wq' = wr) (fun _ _ _ _ => 0)
            case atStart => exact ⟨rfl, rfl, rfl⟩
            case round =>
              obtain ⟨rfl, rfl, rfl⟩ := hrel
              go_wp2
              go_ret
              exact ⟨a, c, rfl, HS, hB⟩
          · clear d1 d2 d3
            go_wp2_with first
              | (refine wpList_load_zom (by rfl) 54 (.tmp 77) rfl x rfl X hx2 _ Tryz.underlying54 rfl hip ?_)
              | ((fail_if_success (unfold Held)); refine at_store (t := 54) rfl ?_)
            unfold Held
            generalize hA : wr.alloc _ = A
            have hA2 : A = wr.alloc (Obj.cells procZ 54) := hA.symm
            clear hA
            have pq : A.heap[w1.heap.size + 1]? = some (.cells procZ 54) := by rw [hA2, ← s2]; exact World.alloc_heap_new _ _
            have bA : Below wr.heap.size wr A := by rw [hA2]; exact (Below.refl _ _).alloc (Nat.le_refl _) _
            have sA : A.heap.size = w1.heap.size + 2 := by rw [hA2]; simp; omega
            clear hA2
            refine wpList_store_row rfl 54 (.tmp 11) (.tmp 78) rfl (w1.heap.size + 1) X rfl rfl 54 procZ pq hip hps hp1 ?_
            obtain ⟨V3, hV3⟩ : ∃ V3, V3 = A.setRow (w1.heap.size + 1) X := ⟨_, rfl⟩
            have e3 : V3.heap[w1.heap.size + 1]? = some (.cells X 54) := by rw [hV3]; exact setRow_heap _ _ _ _ _ _ pq
            have b3 : Below wr.heap.size wr V3 := by rw [hV3]; exact below_setRow bA (by omega) _
            have s3 : V3.heap.size = w1.heap.size + 2 := by rw [hV3, size_setRow]; exact sA
            rw [← hV3]
            clear hV3 pq
            have k3 := kk V3
            go_wp2_with first
              | (refine wpList_load_part (by rfl) 54 (.tmp 11) rfl (w1.heap.size + 1) 0 rfl _ X _ e3 (by rw [List.drop_zero, List.take_of_length_le (by simp)]) _ Tryz.underlying54 rfl hip ?_)
              | (go_at_call 95; refine held ?_)
            unfold Held
            refine k3.mono ?_
            rintro e' w4 ⟨a4, c4, rfl, S4, b4⟩
            clear k3
            go_wp2_with (at_builtin; refine held ?_)
            unfold Held
            obtain ⟨bW1, b2, o2, e2, r1, g1, ei, hx2⟩ := (show _ ∧ _ ∧ _ ∧ _ ∧ _ ∧ _ ∧ _ ∧ _ from HST)
            obtain ⟨W8, hW8⟩ : ∃ W8, W8 = w4.alloc (Obj.cells #[.int .i64 132, .slice none 0 0, .slice a4 4 c4] 66) := ⟨_, rfl⟩
            have b8 : Below w4.heap.size w4 W8 := by rw [hW8]; exact (Below.refl _ _).alloc (Nat.le_refl _) _
            have e8 : W8.heap[w4.heap.size]? = some (.cells #[.int .i64 132, .slice none 0 0, .slice a4 4 c4] 66) := by rw [hW8]; exact World.alloc_heap_new _ _
            have s8 : W8.heap.size = w4.heap.size + 1 := by rw [hW8]; simp
            rw [← hW8]
            clear hW8
            have h34 := b4.size
            have kw : ∀ b, b < wr.heap.size → W8.heap[b]? = wr.heap[b]? := fun b h => (b8.block b (by omega)).trans ((b4.block b (by omega)).trans (b3.block b h))
            have own8 : W8.ownsRow w1.heap.size 66 3 (.slice (some ⟨w1.heap.size, 0, none⟩) 1 1) 1 [.int .i64 1, .slice a1 8 c1, .slice none 0 0] := ownsRow_same o2 fun b hb => by
              obtain rfl : w1.heap.size = b := by simpa [Value.ownBlock] using hb
              exact kw _ (by omega)
            refine wpList_append_vals rfl _ _ 59 rfl w1.heap.size 66 i0 _ 3 56 Tryz.underlying59 hi hz0 hz1 hz2 rfl (by decide) (.slice (some ⟨w1.heap.size, 0, none⟩) 1 1) 1 _ rfl own8 (some ⟨w4.heap.size, 0, none⟩) 1 1 [.int .i64 132, .slice none 0 0, .slice a4 4 c4] rfl rfl (by simp [Value.oneCell']) (.inr ⟨_, _, rfl, fun j u hj => by
              rw [Nat.zero_add, cell_of_row W8 _ j _ _ _ e8, List.getElem?_toArray]
              exact hj⟩) (by omega) (by simp only [maxLen]; omega) (by omega) ?_
            intro v9 w9 o9 g9 hv9
            obtain ⟨g, c9, rfl⟩ := ownsRow_succ o9
            have h89 := g9.size
            have kp : ∀ b, b < W8.heap.size → b ≠ w1.heap.size → w9.heap[b]? = W8.heap[b]? := fun b h1 h2 => g9.block b h1 (fun e => h2 (by injection e with e))
            have R1 : Row8 w9.heap.size w9 (.slice a1 8 c1) (numB 1) := (r1.same fun b hb => by have := r1.lt b hb; exact (kp b (by omega) (by omega)).trans ((kw b (by omega)).trans (b2.block b (by omega)))).mono (by omega)
            have hcc : ∀ j, j < 6 → w9.cell? ⟨g, j, none⟩ = _ := fun j hj => o9.cellAt j (by omega)
            have hgl := (o9.lt g rfl)
            have hcap : 2 ≤ c9 ∧ c9 ≤ maxLen := by
              rcases o9.2 with ⟨h, _⟩ | ⟨_, _, _, h, _, _, q1, q2, _⟩
              · cases h
              · injection h with _ _ h; subst h; exact ⟨q1, q2⟩
            have K9 : SlF w9.heap.size w9 a4 4 c4 kidsF := S4 w9 w9.heap.size fun y hy => ⟨(kp y (by omega) (by omega)).trans (b8.block y (by omega)), by omega⟩
            have R0 : Row8 w9.heap.size w9 (.slice none 0 0) [] := ⟨.inl ⟨none, 0, rfl, rfl⟩, by simp⟩
            have hl8 : (8 : Nat) ≤ 140737488351232 := by decide
            have S9 : SlF w9.heap.size w9 (some ⟨g, 0, none⟩) 2 c9 imgF := ⟨rfl, .inr ⟨g, 0, rfl, hgl.2, hcap.1, hcap.2,
              a1, 8, c1, none, 0, 0, hcc 0 (by decide), hcc 1 (by decide), hcc 2 (by decide), by decide, by decide, ⟨R1, hl8⟩, rfl, .inl rfl,
              none, 0, 0, a4, 4, c4, hcc 3 (by decide), hcc 4 (by decide), hcc 5 (by decide), by decide, by decide, ⟨R0, by decide⟩, K9.1, K9.2, trivial⟩⟩
            have hbV := bV.size
            have B9 : Below W.heap.size W w9 := by
              have hb2 := bW1.trans (b2.mono bW1.size)
              have hb3 := hb2.trans (b3.mono hb2.size)
              have hb4 := hb3.trans (b4.mono hb3.size)
              have hb8 := hb4.trans (b8.mono hb4.size)
              exact hb8.grown g9 hb8.size (fun b h => by
                obtain rfl : w1.heap.size = b := by simpa [Value.ownBlock] using h
                omega)
            have e9 : w9.cell? ⟨W.heap.size, 4, none⟩ = some (.slice none 0 0) := by
              rw [cell_of_row w9 _ 4 _ _ _ ((kp W.heap.size (by omega) (by omega)).trans ((kw _ (by omega)).trans ei))]; rfl
            have HS := Lib.hid S9
            clear o2 e2 r1 g1 bW1 b2 b3 b4 b8 e8 own8 o9 g9 hv9 kp R1 hcc S9 HST ei hx2 K9 S4 kw R0 hgl hcap e3
            go_wp2
            go_roundw
            · exact ⟨1, rfl, .inr ⟨rfl, _, _, rfl, HS, B9, e9⟩⟩
            · decide
end Go.Proofs.YtejcandhijdnhaaGreat

/- Numbers whose digits are 0 and 1, added without a carry, divided by 104C11DB7, all turned about: what is left is a word. -/
namespace Go.Proofs.YtejcandhijdnhaaGreat
def divisorN : Nat := 0xedb88320
def oneN : Nat := 2 ^ 31
def onesN : Nat := 2 ^ 32 - 1
/-- a number times x -/
def crcT (n : Nat) : Nat := n / 2 ^^^ (if n % 2 = 1 then divisorN else 0)
/-- so often -/
def crcTs : Nat → Nat → Nat
  | 0, n => n
  | k + 1, n => crcTs k (crcT n)
theorem crcT_zero : crcT 0 = 0 := by decide
theorem crcT_xor (a b : Nat) : crcT (a ^^^ b) = crcT a ^^^ crcT b := by
  have h1 : (a ^^^ b) / 2 = a / 2 ^^^ b / 2 := Nat.xor_div_two
  have hd : ∀ x y : Nat, x ^^^ y ^^^ divisorN = x ^^^ (y ^^^ divisorN) := fun x y => Nat.xor_assoc ..
  unfold crcT
  rw [h1]
  by_cases ha : a % 2 = 1 <;> by_cases hb : b % 2 = 1
  · have : ¬ (a ^^^ b) % 2 = 1 := by simp [ha, hb]
    rw [if_pos ha, if_pos hb, if_neg this, Nat.xor_zero, ← hd, Nat.xor_assoc (a / 2), Nat.xor_comm divisorN, ← Nat.xor_assoc, Nat.xor_assoc, Nat.xor_self, Nat.xor_zero]
  · have : (a ^^^ b) % 2 = 1 := by simp [ha, hb]
    rw [if_pos ha, if_neg hb, if_pos this, Nat.xor_zero, Nat.xor_assoc, Nat.xor_comm (b / 2), ← Nat.xor_assoc]
  · have : (a ^^^ b) % 2 = 1 := by simp [ha, hb]
    rw [if_neg ha, if_pos hb, if_pos this, Nat.xor_zero, Nat.xor_assoc]
  · have : ¬ (a ^^^ b) % 2 = 1 := by simp [ha, hb]
    rw [if_neg ha, if_neg hb, if_neg this, Nat.xor_zero, Nat.xor_zero, Nat.xor_zero]
theorem crcT_lt {n : Nat} (h : n < 4294967296) : crcT n < 4294967296 := by
  unfold crcT
  exact Nat.xor_lt_two_pow (n := 32) (by omega) (by split <;> decide)
theorem crcT_even (n : Nat) : crcT (2 * n) = n := by
  unfold crcT
  rw [Nat.mul_mod_right, if_neg (by decide), Nat.xor_zero, Nat.mul_div_cancel_left _ (by decide)]
theorem crcTs_lt (k : Nat) : ∀ {n : Nat}, n < 4294967296 → crcTs k n < 4294967296 := by
  induction k with
  | zero => intro n h; exact h
  | succ k ih => intro n h; exact ih (crcT_lt h)
theorem crcTs_zero (k : Nat) : crcTs k 0 = 0 := by
  induction k with
  | zero => rfl
  | succ k ih => rw [crcTs, crcT_zero, ih]
theorem crcTs_xor (k : Nat) : ∀ a b : Nat, crcTs k (a ^^^ b) = crcTs k a ^^^ crcTs k b := by
  induction k with
  | zero => intro a b; rfl
  | succ k ih => intro a b; rw [crcTs, crcT_xor, ih]; rfl
theorem crcTs_add (j : Nat) : ∀ k n : Nat, crcTs (j + k) n = crcTs k (crcTs j n) := by
  induction j with
  | zero => intro k n; rw [Nat.zero_add]; rfl
  | succ j ih => intro k n; rw [Nat.succ_add, crcTs, ih]; rfl
theorem crcTs_succ (k n : Nat) : crcTs (k + 1) n = crcT (crcTs k n) := by rw [crcTs_add]; rfl
theorem crcTs_even (k : Nat) : ∀ n : Nat, crcTs k (2 ^ k * n) = n := by
  induction k with
  | zero => intro n; rw [Nat.pow_zero, Nat.one_mul]; rfl
  | succ k ih => intro n; rw [crcTs, Nat.pow_succ, Nat.mul_comm (2 ^ k) 2, Nat.mul_assoc, crcT_even, ih]
theorem crcTs_pow (k i : Nat) (h : k ≤ i) : crcTs k (2 ^ i) = 2 ^ (i - k) := by
  have : 2 ^ i = 2 ^ k * 2 ^ (i - k) := by rw [← Nat.pow_add]; congr 1; omega
  rw [this, crcTs_even]
theorem bit_split (n k : Nat) (h : n < 2 ^ (k + 1)) : n = n % 2 ^ k ^^^ (if n.testBit k then 2 ^ k else 0) := by
  refine Nat.eq_of_testBit_eq fun i => ?_
  rw [Nat.testBit_xor, Nat.testBit_mod_two_pow]
  have h0 : (if n.testBit k then 2 ^ k else 0).testBit i = (n.testBit k && decide (k = i)) := by
    split
    · next h => rw [Nat.testBit_two_pow, h, Bool.true_and]
    · next h => rw [Nat.zero_testBit]; simp [h]
  rw [h0]
  by_cases h1 : i < k
  · have : k ≠ i := by omega
    simp [h1, this]
  · by_cases h2 : k = i
    · subst h2; simp
    · have h3 : n.testBit i = false := Nat.testBit_lt_two_pow (Nat.lt_of_lt_of_le h (Nat.pow_le_pow_right (by decide) (by omega)))
      simp [h1, h2, h3]
/-- words are made of 1, x and addition -/
theorem crc_span (P : Nat → Prop) (h0 : P 0) (h1 : P oneN) (hT : ∀ a, a < 4294967296 → P a → P (crcT a)) (hx : ∀ a b, a < 4294967296 → b < 4294967296 → P a → P b → P (a ^^^ b)) (n : Nat) (hn : n < 4294967296) : P n := by
  have hp : ∀ k, k ≤ 31 → P (crcTs k oneN) := by
    intro k
    induction k with
    | zero => intro _; exact h1
    | succ k ih => intro hk; rw [crcTs_succ]; exact hT _ (crcTs_lt k (by decide)) (ih (by omega))
  have hb : ∀ k, k < 32 → P (2 ^ k) := by
    intro k hk
    have := hp (31 - k) (by omega)
    rw [oneN, crcTs_pow _ _ (by omega), show 31 - (31 - k) = k by omega] at this
    exact this
  have : ∀ k, k ≤ 32 → ∀ n, n < 2 ^ k → P n := by
    intro k
    induction k with
    | zero => intro _ n hn; rw [show n = 0 by omega]; exact h0
    | succ k ih =>
      intro hk n hn
      have h5 : 2 ^ k < 4294967296 := Nat.pow_lt_pow_right (n := 32) (by decide) (by omega)
      rw [bit_split n k hn]
      have h2 := Nat.mod_lt n (Nat.two_pow_pos k)
      refine hx _ _ (by omega) (by split <;> omega) (ih (by omega) _ h2) ?_
      split
      · exact hb k (by omega)
      · exact h0
  exact this 32 (Nat.le_refl _) n hn
/-- the product, up to a digit -/
def crcS (a b : Nat) : Nat → Nat
  | 0 => 0
  | k + 1 => crcS a b k ^^^ (if a.testBit (31 - k) then crcTs k b else 0)
def crcMul (a b : Nat) : Nat := crcS a b 32
theorem xor4 (a b c d : Nat) : a ^^^ b ^^^ (c ^^^ d) = a ^^^ c ^^^ (b ^^^ d) := by
  rw [Nat.xor_assoc, ← Nat.xor_assoc b, Nat.xor_comm b c, Nat.xor_assoc c, ← Nat.xor_assoc a]
theorem crcS_xor_left (a c b k : Nat) : crcS (a ^^^ c) b k = crcS a b k ^^^ crcS c b k := by
  induction k with
  | zero => simp only [crcS, Nat.xor_self]
  | succ k ih =>
    simp only [crcS]
    rw [ih, xor4, Nat.testBit_xor]
    congr 1
    cases a.testBit (31 - k) <;> cases c.testBit (31 - k) <;> simp
theorem crcS_xor_right (a b c k : Nat) : crcS a (b ^^^ c) k = crcS a b k ^^^ crcS a c k := by
  induction k with
  | zero => simp only [crcS, Nat.xor_self]
  | succ k ih =>
    simp only [crcS]
    rw [ih, xor4, crcTs_xor]
    congr 1
    cases a.testBit (31 - k) <;> simp
theorem crcS_zero_left (b k : Nat) : crcS 0 b k = 0 := by
  induction k with
  | zero => rfl
  | succ k ih => simp only [crcS]; rw [ih, Nat.zero_testBit]; simp
theorem crcS_zero_right (a k : Nat) : crcS a 0 k = 0 := by
  induction k with
  | zero => rfl
  | succ k ih => simp only [crcS]; rw [ih, crcTs_zero]; simp
theorem crcS_lt (a b k : Nat) (hb : b < 4294967296) : crcS a b k < 4294967296 := by
  induction k with
  | zero => exact (by decide : 0 < 4294967296)
  | succ k ih =>
    simp only [crcS]
    refine Nat.xor_lt_two_pow (n := 32) ih ?_
    split
    · exact crcTs_lt k hb
    · decide
theorem crcMul_lt (a b : Nat) (hb : b < 4294967296) : crcMul a b < 4294967296 := crcS_lt a b 32 hb
theorem crcS_T (a b k : Nat) : crcS a (crcT b) k = crcT (crcS a b k) := by
  induction k with
  | zero => simp only [crcS, crcT_zero]
  | succ k ih =>
    simp only [crcS]
    rw [ih, crcT_xor]
    congr 1
    cases a.testBit (31 - k)
    · simp [crcT_zero]
    · simp only [↓reduceIte]; rw [← crcTs_succ]; rfl
theorem crcMul_T (a b : Nat) : crcMul a (crcT b) = crcT (crcMul a b) := crcS_T a b 32
theorem crcMul_Ts (a : Nat) (k : Nat) : ∀ b, crcMul a (crcTs k b) = crcTs k (crcMul a b) := by
  induction k with
  | zero => intro b; rfl
  | succ k ih => intro b; rw [crcTs, ih, crcMul_T]; rfl
theorem crcS_one (a k : Nat) (hk : k ≤ 32) (i : Nat) (hi : i < 32) : (crcS a oneN k).testBit i = (a.testBit i && decide (32 ≤ i + k)) := by
  induction k with
  | zero => simp only [crcS, Nat.zero_testBit]; have : ¬ 32 ≤ i := by omega
            simp [this]
  | succ k ih =>
    simp only [crcS]
    rw [Nat.testBit_xor, ih (by omega), oneN, crcTs_pow _ _ (by omega)]
    have h0 : (if a.testBit (31 - k) then 2 ^ (31 - k) else 0).testBit i = (a.testBit (31 - k) && decide (31 - k = i)) := by
      split
      · next h => rw [Nat.testBit_two_pow, h, Bool.true_and]
      · next h => rw [Nat.zero_testBit]; simp [h]
    rw [h0]
    by_cases h1 : 31 - k = i
    · rw [h1]
      have h2 : ¬ 32 ≤ i + k := by omega
      have h3 : 32 ≤ i + (k + 1) := by omega
      simp [h2, h3]
    · by_cases h2 : 32 ≤ i + k
      · have h3 : 32 ≤ i + (k + 1) := by omega
        simp [h1, h2, h3]
      · have h3 : ¬ 32 ≤ i + (k + 1) := by omega
        simp [h1, h2, h3]
theorem crcMul_one (a : Nat) (ha : a < 4294967296) : crcMul a oneN = a := by
  refine Nat.eq_of_testBit_eq fun i => ?_
  by_cases h : i < 32
  · rw [crcMul, crcS_one a 32 (Nat.le_refl _) i h]
    have : 32 ≤ i + 32 := by omega
    simp [this]
  · have hp : 2 ^ 32 ≤ 2 ^ i := Nat.pow_le_pow_right (by decide) (by omega)
    have h1 := crcMul_lt a oneN (by decide)
    rw [Nat.testBit_lt_two_pow (by omega), Nat.testBit_lt_two_pow (by omega)]
theorem crcMul_D (b : Nat) (hb : b < 4294967296) : crcMul divisorN b = crcTs 32 b := by
  refine crc_span (fun b => crcMul divisorN b = crcTs 32 b) ?_ ?_ ?_ ?_ b hb
  · rw [crcMul, crcS_zero_right, crcTs_zero]
  · rw [crcMul_one _ (by decide)]; decide
  · intro a _ h; rw [crcMul_T, h, ← crcTs_succ]; rfl
  · intro a c _ _ h1 h2; rw [crcMul, crcS_xor_right, crcTs_xor]; exact congr (congrArg _ h1) h2
theorem crcS_half (a b k : Nat) (ha : a < 4294967296) (hk : k < 32) : crcS (a / 2) b (k + 1) = crcT (crcS a b k) := by
  induction k with
  | zero =>
    simp only [crcS]
    rw [Nat.testBit_lt_two_pow (by simp; omega), crcT_zero]; simp
  | succ k ih =>
    rw [crcS, ih (by omega), crcS, crcT_xor]
    congr 1
    rw [Nat.testBit_div_two, show 31 - (k + 1) + 1 = 31 - k by omega]
    cases a.testBit (31 - k)
    · simp [crcT_zero]
    · simp only [↓reduceIte]; exact crcTs_succ k b
theorem crcT_mul (a b : Nat) (ha : a < 4294967296) (hb : b < 4294967296) : crcMul (crcT a) b = crcT (crcMul a b) := by
  have h0 : crcMul (crcT a) b = crcMul (a / 2) b ^^^ crcMul (if a % 2 = 1 then divisorN else 0) b := crcS_xor_left _ _ _ _
  have h1 : crcMul (a / 2) b = crcT (crcS a b 31) := crcS_half a b 31 ha (by decide)
  have h2 : crcMul a b = crcS a b 31 ^^^ (if a.testBit 0 then crcTs 31 b else 0) := rfl
  rw [h0, h1, h2, crcT_xor]
  congr 1
  rw [Nat.testBit_zero]
  by_cases h : a % 2 = 1
  · simp only [h, ↓reduceIte, decide_true]; rw [crcMul_D b hb, ← crcTs_succ]
  · simp only [h, ↓reduceIte, decide_false]; rw [crcMul, crcS_zero_left]; simp [crcT_zero]
theorem one_crcMul (b : Nat) : crcMul oneN b = b := by
  have : ∀ k, crcS oneN b (k + 1) = b ∨ 31 < k := by
    intro k
    induction k with
    | zero => left; simp only [crcS]; rw [show oneN.testBit (31 - 0) = true by decide, Nat.zero_xor]; rfl
    | succ k ih =>
      by_cases hk : 31 < k + 1
      · exact .inr hk
      · rcases ih with ih | ih
        · left
          rw [crcS, ih, oneN, Nat.testBit_two_pow, decide_eq_false (by omega : ¬ 31 = 31 - (k + 1))]
          simp
        · omega
  rcases this 31 with h | h
  · exact h
  · omega
theorem crcMul_comm (a b : Nat) (ha : a < 4294967296) (hb : b < 4294967296) : crcMul a b = crcMul b a := by
  refine crc_span (fun a => crcMul a b = crcMul b a) ?_ ?_ ?_ ?_ a ha
  · rw [crcMul, crcMul, crcS_zero_left, crcS_zero_right]
  · rw [one_crcMul, crcMul_one b hb]
  · intro a ha h; rw [crcT_mul a b ha hb, crcMul_T, h]
  · intro a c _ _ h1 h2
    show crcS _ _ _ = crcS _ _ _
    rw [crcS_xor_left, crcS_xor_right]; exact congr (congrArg _ h1) h2
theorem crcMul_assoc (a b c : Nat) (ha : a < 4294967296) (hb : b < 4294967296) (hc : c < 4294967296) : crcMul (crcMul a b) c = crcMul a (crcMul b c) := by
  refine crc_span (fun a => crcMul (crcMul a b) c = crcMul a (crcMul b c)) ?_ ?_ ?_ ?_ a ha
  · simp only [crcMul, crcS_zero_left]
  · rw [one_crcMul, one_crcMul]
  · intro a ha h; rw [crcT_mul a b ha hb, crcT_mul _ c (crcMul_lt a b hb) hc, crcT_mul a _ ha (crcMul_lt b c hc), h]
  · intro a d _ _ h1 h2
    show crcS (crcS (a ^^^ d) b 32) c 32 = crcS (a ^^^ d) (crcMul b c) 32
    rw [crcS_xor_left, crcS_xor_left, crcS_xor_left]
    exact congr (congrArg _ h1) h2
/-- x to the power of eight times a number -/
def crcP (n : Nat) : Nat := crcTs (8 * n) oneN
theorem crcP_lt (n : Nat) : crcP n < 4294967296 := crcTs_lt _ (by decide)
theorem crcMul_P (a n : Nat) (ha : a < 4294967296) : crcMul a (crcP n) = crcTs (8 * n) a := by
  rw [crcP, crcMul_Ts, crcMul_one a ha]
theorem crcP_mul (a b : Nat) : crcMul (crcP a) (crcP b) = crcP (a + b) := by
  rw [crcMul_P _ _ (crcP_lt a), crcP, crcP, ← crcTs_add, Nat.mul_add]
/-- what some bytes leave, behind what is there -/
def crcF (s : Nat) : List Nat → Nat
  | [] => s
  | c :: r => crcF (crcTs 8 (s ^^^ c)) r
theorem crcF_append (b c : List Nat) : ∀ s, crcF s (b ++ c) = crcF (crcF s b) c := by
  induction b with
  | nil => intro s; rfl
  | cons x r ih => intro s; exact ih _
theorem crcF_xor (b : List Nat) : ∀ s t, crcF (s ^^^ t) b = crcF s b ^^^ crcTs (8 * b.length) t := by
  induction b with
  | nil => intro s t; rfl
  | cons x r ih =>
    intro s t
    have h : s ^^^ t ^^^ x = s ^^^ x ^^^ t := by rw [Nat.xor_assoc, Nat.xor_comm t, ← Nat.xor_assoc]
    rw [crcF, h, crcTs_xor, ih, List.length_cons, Nat.mul_add, Nat.add_comm, crcTs_add]; rfl
theorem crcF_lt (b : List Nat) (hb : ∀ x ∈ b, x < 256) : ∀ s, s < 4294967296 → crcF s b < 4294967296 := by
  induction b with
  | nil => intro s h; exact h
  | cons x r ih =>
    intro s h
    have hx := hb x (List.mem_cons_self ..)
    exact ih (fun y hy => hb y (List.mem_cons_of_mem _ hy)) _ (crcTs_lt 8 (Nat.xor_lt_two_pow (n := 32) h (by omega)))
/-- the sum of some, and more -/
def moreN (n : Nat) (b : List Nat) : Nat := crcF (n ^^^ onesN) b ^^^ onesN
theorem xor_back (a b : Nat) : a ^^^ b ^^^ b = a := by rw [Nat.xor_assoc, Nat.xor_self, Nat.xor_zero]
theorem ones_lt {n : Nat} (h : n < 4294967296) : n ^^^ onesN < 4294967296 := Nat.xor_lt_two_pow (n := 32) h (by decide)
theorem moreN_lt {n : Nat} (h : n < 4294967296) (b : List Nat) (hb : ∀ x ∈ b, x < 256) : moreN n b < 4294967296 := ones_lt (crcF_lt b hb _ (ones_lt h))
theorem moreN_append (n : Nat) (b c : List Nat) : moreN n (b ++ c) = moreN (moreN n b) c := by
  unfold moreN; rw [crcF_append, xor_back]
def sumN (b : List Nat) : Nat := moreN 0 b
theorem sumN_append (b c : List Nat) : sumN (b ++ c) = crcTs (8 * c.length) (sumN b) ^^^ sumN c := by
  have h : moreN 0 b ^^^ onesN = 0 ^^^ onesN ^^^ moreN 0 b := by rw [Nat.zero_xor, Nat.xor_comm]
  show moreN 0 (b ++ c) = crcTs _ (moreN 0 b) ^^^ moreN 0 c
  rw [moreN_append]
  show crcF (moreN 0 b ^^^ onesN) c ^^^ onesN = crcTs _ (moreN 0 b) ^^^ (crcF (0 ^^^ onesN) c ^^^ onesN)
  rw [h, crcF_xor, Nat.xor_comm (crcF _ c), Nat.xor_assoc]
def shiftN (n z : Nat) : Nat := crcMul (n ^^^ onesN) (crcP z) ^^^ onesN
def joinN (a b l : Nat) : Nat := crcMul a (crcP l) ^^^ b
theorem shiftN_lt (n z : Nat) : shiftN n z < 4294967296 := ones_lt (crcMul_lt _ _ (crcP_lt z))
theorem joinN_lt (a b l : Nat) (h : b < 4294967296) : joinN a b l < 4294967296 := Nat.xor_lt_two_pow (n := 32) (crcMul_lt _ _ (crcP_lt l)) h
theorem shiftN_zero (n : Nat) (h : n < 4294967296) : shiftN n 0 = n := by
  unfold shiftN; rw [crcMul_P _ _ (ones_lt h)]; exact xor_back n onesN
theorem shiftN_add (n a b : Nat) (h : n < 4294967296) : shiftN (shiftN n a) b = shiftN n (a + b) := by
  have h1 := ones_lt h
  unfold shiftN
  rw [xor_back, crcMul_assoc _ _ _ h1 (crcP_lt a) (crcP_lt b), crcP_mul]
theorem joinN_sum (b c : List Nat) (hb : ∀ x ∈ b, x < 256) : joinN (sumN b) (sumN c) c.length = sumN (b ++ c) := by
  have h : crcMul (sumN b) (crcP c.length) = _ := crcMul_P (moreN 0 b) c.length (moreN_lt (by decide) b hb)
  unfold joinN; rw [h, sumN_append]; rfl
theorem joinN_assoc (x y z l m : Nat) (hx : x < 4294967296) : joinN (joinN x y l) z m = joinN x (joinN y z m) (l + m) := by
  unfold joinN
  rw [show crcMul (crcMul x (crcP l) ^^^ y) (crcP m) = crcMul (crcMul x (crcP l)) (crcP m) ^^^ crcMul y (crcP m) from crcS_xor_left _ _ _ _, crcMul_assoc _ _ _ hx (crcP_lt l) (crcP_lt m), crcP_mul, Nat.xor_assoc]
/-- half a byte -/
theorem crc_half (s h : Nat) (hh : h < 16) : s / 16 ^^^ crcTs 4 ((s ^^^ h) % 16) = crcTs 4 (s ^^^ h) := by
  have h1 : (s ^^^ h) / 16 = s / 16 := by
    have h0 := Nat.xor_div_two_pow (a := s) (b := h) (n := 4)
    rw [show h / 2 ^ 4 = 0 by omega, Nat.xor_zero] at h0
    exact h0
  have h2 : s ^^^ h = 2 ^ 4 * (s / 16) ^^^ (s ^^^ h) % 16 := by
    refine Nat.eq_of_testBit_eq fun i => ?_
    have e : (s ^^^ h) % 16 = (s ^^^ h) % 2 ^ 4 := rfl
    rw [e, Nat.testBit_xor (2 ^ 4 * (s / 16)), Nat.testBit_mod_two_pow, ← h1, Nat.testBit_two_pow_mul]
    by_cases hi : i < 4
    · have : ¬ 4 ≤ i := by omega
      simp [hi, this]
    · have h4 : 4 ≤ i := by omega
      rw [show (s ^^^ h) / 16 = (s ^^^ h) / 2 ^ 4 from rfl, Nat.testBit_div_two_pow, show i - 4 + 4 = i by omega]
      simp [hi, h4]
  conv => rhs; rw [h2, crcTs_xor, crcTs_even]
theorem crc_byte (s c : Nat) : crcTs 4 (crcTs 4 (s ^^^ c % 16) ^^^ c / 16) = crcTs 8 (s ^^^ c) := by
  have h2 : c = c % 16 ^^^ 2 ^ 4 * (c / 16) := by
    refine Nat.eq_of_testBit_eq fun i => ?_
    have e : c % 16 = c % 2 ^ 4 := rfl
    rw [Nat.testBit_xor, e, Nat.testBit_mod_two_pow, Nat.testBit_two_pow_mul]
    by_cases hi : i < 4
    · have : ¬ 4 ≤ i := by omega
      simp [hi, this]
    · have h4 : 4 ≤ i := by omega
      rw [show c / 16 = c / 2 ^ 4 from rfl, Nat.testBit_div_two_pow, show i - 4 + 4 = i by omega]
      simp [hi, h4]
  have h3 : crcTs 8 (s ^^^ c) = crcTs 4 (crcTs 4 (s ^^^ c)) := crcTs_add 4 4 _
  rw [h3]
  congr 1
  conv => rhs; rw [h2, ← Nat.xor_assoc, crcTs_xor 4 (s ^^^ c % 16), crcTs_even]
theorem alive_sum : moreN 0 [49, 50, 51, 52, 53, 54, 55, 56, 57] = 3421780262 := by kernel_rfl
theorem alive_shift : shiftN 0 1 = 3523407757 := by
  unfold shiftN; rw [crcMul_P _ _ (by decide)]; decide
end Go.Proofs.YtejcandhijdnhaaGreat

/- The walk of crc.times, crc.product, crc.power, crc.back, and what stands on them. -/
namespace Go.Proofs.YtejcandhijdnhaaGreat
open Go Go.RowKit
set_option linter.unusedVariables false
set_option linter.unnecessarySimpa false
theorem crcT_val (m : Nat) (h : m < 4294967296) : bits .xor .u32 ((m : Int) / 2) (bits .and .u32 3988292384 (-bits .and .u32 (m : Int) 1 % 4294967296)) = ((crcT m : Nat) : Int) := by
  have h2 : (m : Int) / 2 = ((m / 2 : Nat) : Int) := by omega
  rw [and1_u32, h2]
  unfold crcT
  by_cases h1 : m % 2 = 1
  · have e : (-((m : Int) % 2)) % 4294967296 = ((2 ^ 32 - 1 : Nat) : Int) := by omega
    rw [e, and_low_u32 _ 32 (by decide), if_pos h1]
    exact xor_u32 (m / 2) divisorN (by omega) (by decide)
  · have e : (-((m : Int) % 2)) % 4294967296 = ((2 ^ 0 - 1 : Nat) : Int) := by omega
    rw [e, and_low_u32 _ 0 (by decide), if_neg h1]
    exact xor_u32 (m / 2) 0 (by omega) (by decide)
set_option maxRecDepth 100000 in
set_option maxHeartbeats 1000000 in
theorem times_any (n k : Nat) (w : World) (hn : n < 4294967296) (hk : k ≤ 64) :
    Calls Tryz.prog 123 #[.int .u32 n, .int .i64 k] w fun e w' => e = .returned (.int .u32 (crcTs k n)) ∧ w = w' := by
  go_enter Tryz.func123, Tryz.ntmps123
  go_wp2
  go_loopw [0, 6] (fun x i wr => ∃ (j m : Nat), x = .int .u32 m ∧ i = .int .i64 j ∧ j ≤ k ∧ m < 4294967296 ∧ crcTs (k - j) m = crcTs k n ∧ w = wr) (fun _ i _ => k - (intOf i).toNat)
  case atStart => exact ⟨0, n, rfl, rfl, by omega, hn, rfl, rfl⟩
  case round =>
    obtain ⟨j, m, rfl, rfl, hj, hm, he, rfl⟩ := hrel
    by_cases hlt : j < k
    · have t1 : decide ((j : Int) < (k : Int)) = true := by simp; omega
      go_wp2
      go_roundw
      case rel =>
        refine ⟨j + 1, crcT m, by rw [crcT_val m hm], rfl, by omega, crcT_lt hm, ?_, trivial⟩
        rw [← he, show k - j = (k - (j + 1)) + 1 by omega]; rfl
      case measure => simp [intOf]; omega
    · have t1 : decide ((j : Int) < (k : Int)) = false := by simp; omega
      go_wp2
      go_ret
      obtain rfl : j = k := by omega
      rw [Nat.sub_self] at he
      exact ⟨by rw [← he]; rfl, rfl⟩
theorem and31 (x : Nat) : x &&& 2 ^ 31 = (x.testBit 31).toNat * 2 ^ 31 := by
  refine Nat.eq_of_testBit_eq fun i => ?_
  rw [Nat.testBit_and, Nat.testBit_two_pow]
  by_cases h : 31 = i
  · subst h
    cases x.testBit 31 <;> decide
  · have h0 : decide (31 = i) = false := by simpa using h
    rw [h0, Bool.and_false]
    cases x.testBit 31
    · simp
    · rw [Bool.toNat_true, Nat.one_mul, Nat.testBit_two_pow, h0]
theorem and1_u64 (x : Int) : bits .and .u64 x 1 = x % 2 := by
  have h1 : ((BitVec.ofInt 64 x).toNat : Int) % 2 = x % 2 := by rw [ofInt_toNat]; omega
  have h3 := (BitVec.ofInt 64 x).isLt
  show IntKind.u64.wrap ((BitVec.ofInt 64 x &&& BitVec.ofInt 64 ((1 : Nat) : Int)).toNat : Int) = _
  rw [BitVec.toNat_and, b64_nat 1 (by decide), show (1 : Nat) = 2 ^ 1 - 1 from rfl, Nat.and_two_pow_sub_one_eq_mod, wrap_u64_nat _ (by omega)]
  omega
theorem val_nat {k : IntKind} {a b : Int} (h : a = b) : Value.int k a = .int k b := by rw [h]
theorem half_odd (m e d : Nat) (h : m % 2 = 1) : e + d + (d + d) * (m / 2) = e + d * m := by
  have h3 : m = 2 * (m / 2) + 1 := by omega
  generalize m / 2 = q at h3 ⊢
  subst h3
  rw [Nat.mul_add, Nat.add_mul, Nat.mul_one, Nat.mul_left_comm d 2 q, Nat.two_mul]; omega
theorem half_even (m e d : Nat) (h : ¬ m % 2 = 1) : e + (d + d) * (m / 2) = e + d * m := by
  have h3 : m = 2 * (m / 2) := by omega
  generalize m / 2 = q at h3 ⊢
  subst h3
  rw [Nat.add_mul, Nat.mul_left_comm d 2 q, Nat.two_mul]
theorem bit31 (a j : Nat) (hj : j < 32) : bits .and .u32 ((a : Int) * 2 ^ j % 4294967296) 2147483648 = (((a.testBit (31 - j)).toNat * 2 ^ 31 : Nat) : Int) := by
  have h1 : (a : Int) * 2 ^ j % 4294967296 = ((2 ^ j * a % 2 ^ 32 : Nat) : Int) := by
    rw [Nat.mul_comm]; simp
  have h2 : 2 ^ j * a % 2 ^ 32 < 2 ^ 32 := Nat.mod_lt _ (by decide)
  rw [h1, show (2147483648 : Int) = ((2 ^ 31 : Nat) : Int) from rfl, and_u32 _ _ h2 (by decide), and31, Nat.testBit_mod_two_pow, Nat.testBit_two_pow_mul]
  have : 31 ≥ j := by omega
  simp [this]
end Go.Proofs.YtejcandhijdnhaaGreat

/- The walk of crc.table and of the iterator crc.halves. -/
namespace Go.Proofs.YtejcandhijdnhaaGreat
open Go Go.RowKit
set_option linter.unusedVariables false
set_option linter.unnecessarySimpa false
/-- the table, when so many are in -/
def tabV (k : Nat) : Array Value := ((List.range 16).map fun i => Value.int .u32 ((if i < k then crcTs 4 i else 0 : Nat) : Int)).toArray
theorem tabV_size (k : Nat) : (tabV k).size = 16 := by simp [tabV]
theorem tabV_at (k i : Nat) (h : i < 16) : (tabV k)[i]? = some (.int .u32 ((if i < k then crcTs 4 i else 0 : Nat) : Int)) := by
  simp [tabV, h]
theorem tabV_zero : tabV 0 = #[.int .u32 0, .int .u32 0, .int .u32 0, .int .u32 0, .int .u32 0, .int .u32 0, .int .u32 0, .int .u32 0, .int .u32 0, .int .u32 0, .int .u32 0, .int .u32 0, .int .u32 0, .int .u32 0, .int .u32 0, .int .u32 0] := by kernel_rfl
theorem tabV_all : tabV 16 = #[.int .u32 (crcTs 4 0 : Nat), .int .u32 (crcTs 4 1 : Nat), .int .u32 (crcTs 4 2 : Nat), .int .u32 (crcTs 4 3 : Nat), .int .u32 (crcTs 4 4 : Nat), .int .u32 (crcTs 4 5 : Nat), .int .u32 (crcTs 4 6 : Nat), .int .u32 (crcTs 4 7 : Nat), .int .u32 (crcTs 4 8 : Nat), .int .u32 (crcTs 4 9 : Nat), .int .u32 (crcTs 4 10 : Nat), .int .u32 (crcTs 4 11 : Nat), .int .u32 (crcTs 4 12 : Nat), .int .u32 (crcTs 4 13 : Nat), .int .u32 (crcTs 4 14 : Nat), .int .u32 (crcTs 4 15 : Nat)] := by kernel_rfl
theorem tabV_set (k : Nat) (h : k < 16) : (tabV k).setIfInBounds k (.int .u32 (crcTs 4 k : Nat)) = tabV (k + 1) := by
  apply Array.ext_getElem?
  intro i
  rw [Array.getElem?_setIfInBounds]
  by_cases hi : i < 16
  · rw [tabV_at _ i hi, tabV_at _ i hi, tabV_size]
    by_cases hk : k = i
    · subst hk; simp [h]
    · by_cases h2 : i < k
      · have h3 : i < k + 1 := by omega
        simp [hk, h2, h3]
      · have h3 : ¬ i < k + 1 := by omega
        simp [hk, h2, h3]
  · have e1 : (tabV k)[i]? = none := Array.getElem?_eq_none (by rw [tabV_size]; omega)
    have e2 : (tabV (k + 1))[i]? = none := Array.getElem?_eq_none (by rw [tabV_size]; omega)
    have hk : ¬ k = i := by omega
    simp [hk, e1, e2]
set_option maxRecDepth 100000 in
set_option maxHeartbeats 2000000 in
theorem table_any (w : World) :
    Calls Tryz.prog 103 #[] w fun e w' => e = .returned (.agg (tabV 16)) ∧ Below w.heap.size w w' := by
  go_enter Tryz.func103, Tryz.ntmps103
  go_wp2
  rw [← tabV_zero]
  go_loopw [2, 3] (fun u i wr => ∃ k : Nat, k ≤ 16 ∧ i = .int .i64 k ∧ wr = (w.alloc (.cells (tabV 0) 46)).alloc (.cells (tabV k) 46)) (fun _ i _ => 16 - (intOf i).toNat)
  case atStart => exact ⟨0, by omega, rfl, rfl⟩
  case round =>
    obtain ⟨k, hk, rfl, rfl⟩ := hrel
    by_cases hlt : k < 16
    · have t1 : decide ((k : Int) < 16) = true := by simp; omega
      have hg : (tabV k)[k]? = some (.int .u32 0) := by rw [tabV_at k k hlt]; simp
      have hw : (k : Int) % 4294967296 = k := by omega
      go_wp2_with (go_at_call 123; refine (times_any k 4 _ (by omega) (by decide)).mono ?_; rintro e w' ⟨rfl, rfl⟩)
      go_roundw
      case rel => exact ⟨k + 1, by omega, rfl, by rw [tabV_set k hlt]⟩
      case measure => simp [intOf]; omega
    · have t1 : decide ((k : Int) < 16) = false := by simp; omega
      obtain rfl : k = 16 := by omega
      rw [tabV_all, tabV_zero]
      go_wp2
      refine bodyPost_ret (v := .agg (tabV 16)) ?_ rfl ⟨rfl, ?_⟩
      · rw [tabV_all]; simp [results, Tryz.results103, go_sem]
      · exact ((Below.refl _ w).alloc (Nat.le_refl _) _).alloc (by simp) _
end Go.Proofs.YtejcandhijdnhaaGreat

/- The walk of the iterator crc.halves. -/
namespace Go.Proofs.YtejcandhijdnhaaGreat
open Go Go.RowKit
attribute [local go_sem] Oper.semAt_some
set_option linter.unusedVariables false
set_option linter.unnecessarySimpa false
theorem wide_none : ∀ f : FuncId, none = some f → Fence.wide.fn f := fun f h => by cases h
/-- half bytes, the lower one of each first -/
def halvesL (zs : List Int) : List Nat := zs.flatMap fun z => [z.toNat % 16, z.toNat / 16]
theorem halvesL_length (zs : List Int) : (halvesL zs).length = 2 * zs.length := by
  induction zs with
  | nil => rfl
  | cons z r ih => simp only [halvesL, List.flatMap_cons, List.length_append, List.length_cons, List.length_nil] at ih ⊢; omega
theorem halvesL_at (zs : List Int) : ∀ k (h : k < zs.length), (halvesL zs)[2 * k]? = some (zs[k].toNat % 16) ∧ (halvesL zs)[2 * k + 1]? = some (zs[k].toNat / 16) := by
  induction zs with
  | nil => intro k h; simp at h
  | cons z r ih =>
    intro k h
    have e : halvesL (z :: r) = [z.toNat % 16, z.toNat / 16] ++ halvesL r := rfl
    rw [e]
    cases k with
    | zero => exact ⟨rfl, rfl⟩
    | succ k =>
      have := ih k (by simpa using h)
      rw [List.getElem?_append_right (by simp; omega), List.getElem?_append_right (by simp; omega)]
      simp only [List.length_cons, List.length_nil, List.getElem_cons_succ]
      rw [show 2 * (k + 1) - (0 + 1 + 1) = 2 * k by omega, show 2 * (k + 1) + 1 - (0 + 1 + 1) = 2 * k + 1 by omega]
      exact this
set_option maxHeartbeats 1000000 in
theorem halves_in (F : Fence) (n : Nat) (hF : F.fn 104) (hro : F.round = none) (a : Option Addr) (len cap : Nat) (w : World) :
    CallsIn F n Tryz.prog 104 #[.slice a len cap] w fun e w' =>
      e = .returned (.func (.func 124) #[] #[.pointer (some ⟨w.heap.size, 0, none⟩)]) ∧ w' = w.alloc (.cells #[.slice a len cap] 22) := by
  refine callsIn_of_wp Tryz.func104 rfl hF ?_ hro
  simp only [Tryz.ntmps104, List.size_toArray, List.length_cons, List.length_nil, Nat.reduceAdd, Nat.reduceSub, Array.replicate_succ, Array.replicate_zero, List.push_toArray, List.append_toArray, List.nil_append, List.cons_append]
  gi_wp2
  go_ret
  exact ⟨rfl, rfl⟩
set_option maxRecDepth 100000 in
set_option maxHeartbeats 4000000 in
theorem halves1_iter (B1 : Nat) (sv : Value) (zs : List Int) (w : World) (h1 : B1 < w.heap.size) (c1 : w.cell? ⟨B1, 0, none⟩ = some sv) (hr : Row8 w.heap.size w sv zs) (hsm : zs.length ≤ 140737488351232) :
    Iter Tryz.prog 124 #[.pointer (some ⟨B1, 0, none⟩)] (fun h : Nat => #[.int .u32 (h : Int)]) (fun b => b = B1 ∨ blockOf sv b) (halvesL zs) w := by
  intro l J Jx S0 W hW hJ hJx hlt hX hY h0
  have C1 : W.cell? ⟨B1, 0, none⟩ = some sv := (hW.cell (p := ⟨B1, 0, none⟩) h1).trans c1
  have hWs := hW.size
  have hN := halvesL_length zs
  obtain ⟨a, cap, rfl⟩ := hr.slice
  have hrW : Row8 w.heap.size W (.slice a zs.length cap) zs := hr.same fun b hb => hW.block b (hr.lt b hb)
  have x1 : ¬ S0 B1 := hX _ (.inl rfl)
  refine (callsIn_wide (n := 101)).1 ?_
  refine callsIn_of_wp Tryz.func124 rfl trivial ?_ rfl
  simp only [Tryz.ntmps124, List.size_toArray, List.length_cons, List.length_nil, Nat.reduceAdd, Nat.reduceSub, Array.replicate_succ, Array.replicate_zero, List.push_toArray, List.append_toArray, List.nil_append, List.cons_append]
  refine wideScope ?_
  gi_wp2
  refine wpIn_label ?_
  gi_wp2
  gi_loopw [4, 7] (fun _ i wr => ∃ (k : Nat) (S : Nat → Prop), i = .int .i64 (k : Int) ∧ k ≤ zs.length ∧ J (2 * k) S wr ∧ Wr S0 S W wr) (fun _ i _ => zs.length - (intOf i).toNat)
  case atStart => exact ⟨0, S0, rfl, Nat.zero_le _, h0, Wr.refl _ _⟩
  case round =>
    obtain ⟨k, S, rfl, hk, hJs, hw⟩ := hrel
    by_cases hlt : k < zs.length
    · have t1 : decide ((k : Int) < ((zs.length : Nat) : Int)) = true := by simp; omega
      obtain ⟨hz, b, off, hO, hc⟩ := hrW.1.open
      obtain ⟨rfl, hb, hle, hcap⟩ := hO (by omega)
      clear hO
      have hck : wr.cell? ⟨b, off + k, none⟩ = some (.int .u8 (zs.getD k 0)) := cell_same (p := ⟨b, off + k, none⟩) (hw.block _ (by show b < _; omega) (hX _ (.inr (by exact ⟨(by omega : 0 < zs.length), rfl⟩)))) (hc k hlt)
      obtain ⟨c, hc0, hc1⟩ : ∃ c : Nat, zs[k] = (c : Int) ∧ c ≤ 255 := by
        have h := hr.2 _ (List.getElem_mem hlt)
        exact ⟨zs[k].toNat, by omega, by omega⟩
      rw [getD_at zs k hlt, hc0] at hck
      obtain ⟨g1, g2⟩ := halvesL_at zs k hlt
      rw [hc0, Int.toNat_natCast] at g1 g2
      obtain ⟨e1, g1⟩ := List.getElem?_eq_some_iff.1 g1
      obtain ⟨e2, g2⟩ := List.getElem?_eq_some_iff.1 g2
      have hY2 := fun S W1 hj => hY (2 * k + 1) e2 S W1 hj
      obtain ⟨fn, tmps, assign, body, hy, hR⟩ := hY (2 * k) e1 S wr hJs
      rw [g1, show ((c % 16 : Nat) : Int) = (c : Int) % 16 by omega] at hy
      rw [g2, show ((c / 16 : Nat) : Int) = (c : Int) / 16 by omega] at hY2
      clear hc
      gi_wp2
      refine hR.mono ?_
      rintro e W3 (⟨rfl, S', hJ3, hw3⟩ | ⟨rfl, S', hJx3, hw3⟩)
      · obtain ⟨fn2, tmps2, assign2, body2, hy2, hR2⟩ := hY2 S' W3 hJ3
        clear hy hR hY2
        gi_wp2
        refine hR2.mono ?_
        rintro e W4 (⟨rfl, S'', hJ4, hw4⟩ | ⟨rfl, S'', hJx4, hw4⟩)
        · have hw' := (hw.trans hw3).trans hw4
          clear hy2 hR2
          gi_wp2
          go_roundw
          case rel => exact ⟨k + 1, S'', rfl, by omega, hJ4, hw'⟩
          case measure => simp [intOf]; omega
        · clear hy2 hR2
          gi_wp2
          simp only [Exit.noGoto]
          go_end0
          exact ⟨⟨_, rfl⟩, .inr ⟨2 * k + 1 + 1, S'', by omega, hJx4⟩⟩
      · clear hy hR hY2
        gi_wp2
        with_reducible refine And.intro wide_none ?_
        gi_wp2
        simp only [Exit.noGoto]
        go_end0
        exact ⟨⟨_, rfl⟩, .inr ⟨2 * k + 1, S', by omega, hJx3⟩⟩
    · have t1 : decide ((k : Int) < ((zs.length : Nat) : Int)) = false := by simp; omega
      obtain rfl : k = zs.length := by omega
      gi_wp2
      simp only [Exit.noGoto]
      go_end0
      exact ⟨⟨_, rfl⟩, .inl ⟨S, by rw [hN]; exact hJs⟩⟩
end Go.Proofs.YtejcandhijdnhaaGreat

/- The walk of crc.More and crc.Sum. -/
namespace Go.Proofs.YtejcandhijdnhaaGreat
open Go Go.RowKit
attribute [local go_sem] Oper.semAt_some
set_option linter.unusedVariables false
set_option linter.unnecessarySimpa false
/-- what half bytes leave -/
def crcH (s : Nat) (hs : List Nat) : Nat := hs.foldl (fun s h => crcTs 4 (s ^^^ h)) s
theorem crcH_succ (s : Nat) (hs : List Nat) (k : Nat) (h : k < hs.length) : crcH s (hs.take (k + 1)) = crcTs 4 (crcH s (hs.take k) ^^^ hs[k]) := by
  rw [List.take_succ_eq_append_getElem h]
  simp only [crcH, List.foldl_append, List.foldl_cons, List.foldl_nil]
theorem crcH_all (zs : List Int) : ∀ s, crcH s (halvesL zs) = crcF s (zs.map Int.toNat) := by
  induction zs with
  | nil => intro s; rfl
  | cons z r ih =>
    intro s
    have e : halvesL (z :: r) = [z.toNat % 16, z.toNat / 16] ++ halvesL r := rfl
    rw [e, List.map_cons, crcF, ← ih, ← crc_byte]
    simp only [crcH, List.foldl_append, List.foldl_cons, List.foldl_nil]
theorem halvesL_lt (zs : List Int) (hz : ∀ z ∈ zs, 0 ≤ z ∧ z ≤ 255) : ∀ h ∈ halvesL zs, h < 16 := by
  intro h hh
  obtain ⟨z, hz1, hz2⟩ := List.mem_flatMap.1 hh
  have := hz z hz1
  simp at hz2
  omega
theorem crcH_lt (s : Nat) (hs : List Nat) (hl : ∀ h ∈ hs, h < 16) (h : s < 4294967296) : crcH s hs < 4294967296 := by
  induction hs generalizing s with
  | nil => exact h
  | cons x r ih =>
    have hx := hl x (List.mem_cons_self ..)
    exact ih _ (fun y hy => hl y (List.mem_cons_of_mem _ hy)) (crcTs_lt 4 (Nat.xor_lt_two_pow (n := 32) h (by omega)))
set_option maxRecDepth 100000 in
set_option maxHeartbeats 4000000 in
theorem more_any (n : Nat) (a : Option Addr) (len cap : Nat) (zs : List Int) (w : World) (hn : n < 4294967296) (hr : Row8 w.heap.size w (.slice a len cap) zs) (hsm : zs.length ≤ 140737488350000) :
    Calls Tryz.prog 75 #[.int .u32 n, .slice a len cap] w fun e w' => e = .returned (.int .u32 (moreN n (zs.map Int.toNat))) ∧ Below w.heap.size w w' := by
  refine (callsIn_wide (n := 102)).1 ?_
  refine callsIn_of_wp_marks Tryz.func75 rfl trivial ?_ rfl
  simp only [Tryz.ntmps75, List.size_toArray, List.length_cons, List.length_nil, Nat.reduceAdd, Nat.reduceSub, Array.replicate_succ, Array.replicate_zero, List.push_toArray, List.append_toArray, List.nil_append, List.cons_append]
  have hf1 : Fence.wide.fn 103 := trivial
  have hf2 : Fence.wide.fn 104 := trivial
  gi_wp2_with (gi_at_call 103; refine held ?_)
  unfold Held
  refine callsIn_wide.2 ((table_any _).mono ?_)
  rintro e W1 ⟨rfl, hb1⟩
  have hB1 : Boxed W1 w.heap.size 40 (.int .u32 n) := (hb1.block _ (by simp)).trans (Boxed.new w 40 (.int .u32 n))
  have c1 := hB1.cell
  have f1 := hB1.frozen
  have hl1 := hB1.lt
  have hbw : Below w.heap.size w W1 := ((Below.refl _ w).alloc (Nat.le_refl _) _).trans (hb1.mono (by simp))
  clear hb1
  rw [tabV_all]
  have hx : bits .xor .u32 (n : Int) 4294967295 = ((n ^^^ 4294967295 : Nat) : Int) := xor_u32 n 4294967295 hn (by decide)
  gi_wp2_with (gi_at_call 104; refine held ?_)
  unfold Held
  rw [← tabV_all]
  clear hx c1 f1
  obtain ⟨V, hV⟩ : ∃ V, V = (W1.setCell ⟨w.heap.size, 0, none⟩ (.int .u32 (n ^^^ 4294967295 : Nat))).alloc (.cells (tabV 16) 46) := ⟨_, rfl⟩
  have eV : (W1.setCell ⟨w.heap.size, 0, none⟩ (.int .u32 (n ^^^ 4294967295 : Nat))).heap.size = W1.heap.size := by show (W1.heap.modify _ _).size = _; rw [Array.size_modify]
  have sV : V.heap.size = W1.heap.size + 1 := by rw [hV, World.size_alloc, eV]
  have bV : Boxed V w.heap.size 40 (.int .u32 (n ^^^ 4294967295 : Nat)) := by rw [hV]; exact (hB1.set _).alloc _
  have tV : V.heap[W1.heap.size]? = some (.cells (tabV 16) 46) := by rw [hV, ← eV]; exact World.alloc_heap_new _ _
  have bW : Below w.heap.size w V := by rw [hV]; exact (hbw.setCell (p := ⟨w.heap.size, 0, none⟩) (Nat.le_refl _) _).alloc (by rw [eV]; omega) _
  rw [← hV]
  clear hV eV
  refine (halves_in Fence.wide _ trivial rfl _ _ _ _).mono ?_
  rintro e V2 ⟨rfl, hV2⟩
  have sV2 : V2.heap.size = W1.heap.size + 2 := by rw [hV2, World.size_alloc, sV]
  have bV2 : Boxed V2 w.heap.size 40 (.int .u32 (n ^^^ 4294967295 : Nat)) := by rw [hV2]; exact bV.alloc _
  have cV2 : Boxed V2 (W1.heap.size + 1) 22 (.slice a len cap) := by rw [hV2, ← sV]; exact Boxed.new _ _ _
  have tV2 : V2.heap[W1.heap.size]? = some (.cells (tabV 16) 46) := by rw [hV2]; exact (Below.heap_alloc V _ _ (by omega)).trans tV
  have bW2 : Below w.heap.size w V2 := by rw [hV2]; exact bW.alloc (by omega) _
  rw [sV]
  clear hV2 bV tV bW sV
  gi_wp2
  have hr3 : Row8 V2.heap.size V2 (.slice a len cap) zs := (hr.same fun b hb => bW2.block b (hr.lt b hb)).mono (by omega)
  refine range_law (gf := 124) rfl (enters_of Tryz.func124 (by kernel_rfl) rfl)
    (halves1_iter (W1.heap.size + 1) _ zs V2 (by omega) cV2.cell hr3 (by omega)) (fun _ => rfl)
    (fun k S A => S = (fun b => b = w.heap.size) ∧ Boxed A w.heap.size 40 (.int .u32 (crcH (n ^^^ 4294967295) ((halvesL zs).take k) : Nat)) ∧ A.heap[W1.heap.size]? = some (.cells (tabV 16) 46) ∧ Below w.heap.size w A)
    (fun c k S A => False)
    (fun b => b = w.heap.size) ?hX ?hI ?hIx ?hlt ?h0
    (fun h => { tmps := #[.int .u32 n, .slice a len cap, .pointer (some ⟨w.heap.size, 0, none⟩), undef, .int .u32 0, .pointer (some ⟨W1.heap.size, 0, none⟩), .int .u32 (h : Nat), .agg (tabV 16), .int .u32 n, .int .u32 (n ^^^ 4294967295 : Nat),
      .slice a len cap, .func (.func 124) #[] #[.pointer (some ⟨W1.heap.size + 1, 0, none⟩)], .int .u32 (h : Nat), undef, undef, undef, undef, undef, undef, undef, undef, undef, undef, undef], defers := [] }) ?assign ?body ?done ?stop
  case hX =>
    rintro b (rfl | hb)
    · exact ⟨by omega, fun h => by omega⟩
    · have := hr.lt b hb
      exact ⟨by omega, fun h => by omega⟩
  case hI =>
    rintro k S A A' ⟨rfl, h1, h2, h3⟩ hs
    exact ⟨rfl, (hs.block _ (.inr rfl)).trans h1, (hs.block _ (.inl (by omega))).trans h2, h3.trans (hs.below (fun b hb => .inl (by omega)))⟩
  case hIx => intro c k S A A' h; exact h.elim
  case hlt =>
    rintro k S A ⟨rfl, h1, h2, h3⟩ b rfl
    exact h1.lt
  case h0 => exact ⟨rfl, bV2, tV2, bW2⟩
  case assign =>
    intro l' k A K hK
    gi_wp2
    exact hK
  case body =>
    rintro l' k hk S A ⟨rfl, h1, h2, h3⟩
    have hh := halvesL_lt zs hr.2 _ (List.getElem_mem hk)
    have hN := crcH_lt (n ^^^ 4294967295) ((halvesL zs).take k) (fun x hx => halvesL_lt zs hr.2 x (List.mem_of_mem_take hx)) (Nat.xor_lt_two_pow (n := 32) hn (by decide))
    have hsc := crcH_succ (n ^^^ 4294967295) (halvesL zs) k hk
    obtain ⟨N, hNe⟩ : ∃ N, N = crcH (n ^^^ 4294967295) ((halvesL zs).take k) := ⟨_, rfl⟩
    obtain ⟨h, hhe⟩ : ∃ h, h = (halvesL zs)[k] := ⟨_, rfl⟩
    rw [← hNe] at h1 hN hsc
    rw [← hhe] at hh hsc ⊢
    obtain ⟨X, hX⟩ : ∃ X, X = N ^^^ h := ⟨_, rfl⟩
    have hhalf := crc_half N h hh
    rw [← hX] at hsc hhalf
    have hXl : X < 4294967296 := by rw [hX]; exact Nat.xor_lt_two_pow (n := 32) hN (by omega)
    obtain ⟨Y, hY⟩ : ∃ Y, Y = crcTs 4 (X % 16) := ⟨_, rfl⟩
    have hYl : Y < 4294967296 := by rw [hY]; exact crcTs_lt 4 (by omega)
    obtain ⟨J, hJ⟩ : ∃ J, J = X % 16 := ⟨_, rfl⟩
    have hJ16 : J < 16 := by omega
    have ha15 : bits .and .u32 (X : Int) 15 = (J : Int) := by rw [and15_u32]; omega
    have hc : A.cell? ⟨W1.heap.size, J, none⟩ = some (.int .u32 (Y : Nat)) := by
      rw [hY, ← hJ]
      simp only [World.cell?, h2]
      rw [tabV_at _ _ hJ16, if_pos hJ16]
      rfl
    have hxv : bits .xor .u32 (N : Int) (h : Int) = (X : Int) := by rw [hX]; exact xor_u32 N h hN (by omega)
    have hfin : bits .xor .u32 ((N : Int) / 16) (Y : Int) = ((crcTs 4 X : Nat) : Int) := by
      rw [show (N : Int) / 16 = ((N / 16 : Nat) : Int) by omega, xor_u32 _ _ (by omega) hYl, hY, hhalf]
    have c1 := h1.cell
    have f1 := h1.frozen
    rw [← hY] at hhalf
    have hJ16 : (J : Int) < 16 := by omega
    have k1 : Boxed (A.setCell ⟨w.heap.size, 0, none⟩ (.int .u32 (crcTs 4 X : Nat))).drew w.heap.size 40 (.int .u32 (crcH (n ^^^ 4294967295) ((halvesL zs).take (k + 1)) : Nat)) := by rw [hsc]; exact h1.set _
    have k2 : (A.setCell ⟨w.heap.size, 0, none⟩ (.int .u32 (crcTs 4 X : Nat))).drew.heap[W1.heap.size]? = some (.cells (tabV 16) 46) := (Below.heap_setCell A ⟨w.heap.size, 0, none⟩ _ W1.heap.size (by show ¬ W1.heap.size = w.heap.size; omega)).trans h2
    have k3 : Below w.heap.size w (A.setCell ⟨w.heap.size, 0, none⟩ (.int .u32 (crcTs 4 X : Nat))).drew := by
      have h4 := h3.setCell (p := ⟨w.heap.size, 0, none⟩) (Nat.le_refl _) (.int .u32 (crcTs 4 X : Nat))
      exact ⟨h4.os, h4.tape, h4.output, h4.size, h4.block⟩
    have k4 : Wr (fun b => b = w.heap.size) (fun b => b = w.heap.size) A (A.setCell ⟨w.heap.size, 0, none⟩ (.int .u32 (crcTs 4 X : Nat))).drew := ((Wr.refl (fun b => b = w.heap.size) A).setCell (p := ⟨w.heap.size, 0, none⟩) (.inl rfl) _).drew
    have KK : Hid (RoundPost (fun k S A => S = (fun b => b = w.heap.size) ∧ Boxed A w.heap.size 40 (.int .u32 (crcH (n ^^^ 4294967295) ((halvesL zs).take k) : Nat)) ∧ A.heap[W1.heap.size]? = some (.cells (tabV 16) 46) ∧ Below w.heap.size w A) (fun c k S A => False) k (fun b => b = w.heap.size) A .normal { tmps := #[], defers := [] } (A.setCell ⟨w.heap.size, 0, none⟩ (.int .u32 (crcTs 4 X : Nat))).drew) := ⟨_, ⟨rfl, k1, k2, k3⟩, k4⟩
    clear hhalf hX hY hNe hhe h2 hJ hsc k1 k2 k3 k4
    gi_wp2
    gi_region
    all_goals exact KK
  case done =>
    rintro D S A hD hS ⟨rfl, h1, h2, h3⟩ hK
    rw [List.take_length, crcH_all] at h1
    have hl := crcF_lt (zs.map Int.toNat) (fun x hx => by obtain ⟨z, hz, rfl⟩ := List.mem_map.1 hx; have := hr.2 z hz; omega) (n ^^^ 4294967295) (Nat.xor_lt_two_pow (n := 32) hn (by decide))
    obtain ⟨N, hNe⟩ : ∃ N, N = crcF (n ^^^ 4294967295) (zs.map Int.toNat) := ⟨_, rfl⟩
    rw [← hNe] at h1 hl
    have c1 := h1.cell
    have HN := Lib.hid hNe
    clear hNe
    have hx : bits .xor .u32 (N : Int) 4294967295 = ((N ^^^ 4294967295 : Nat) : Int) := xor_u32 N 4294967295 hl (by decide)
    gi_wp2
    refine ⟨by simp, .inl ⟨_, _, rfl, run_takeDeferred hK, ?_⟩⟩
    refine ⟨.int .u32 (moreN n (zs.map Int.toNat) : Nat), ?_, rfl, h3.trans (SameOn.below (SameOn.putObj (p := fun b => b < w.heap.size) _ _ _ (by show ¬ D < w.heap.size; omega)) (fun b hb => hb))⟩
    have hNe : N = crcF (n ^^^ 4294967295) (zs.map Int.toNat) := HN
    rw [show moreN n (zs.map Int.toNat) = N ^^^ 4294967295 by rw [hNe]; rfl]
    clear hNe HN
    simp [results, Tryz.results75, go_sem]
  case stop =>
    rintro D c k S A hD hS hk h hK
    exact h.elim
end Go.Proofs.YtejcandhijdnhaaGreat

/- The walk of crc.Sum, Shift, Join, and of the chapter's first examples; the law CrcPowers. -/
namespace Go.Proofs.YtejcandhijdnhaaGreat
open Go Go.RowKit
set_option linter.unusedVariables false
set_option linter.unnecessarySimpa false
def sumL (zs : List Int) : Nat := sumN (zs.map Int.toNat)
theorem toNat_lt {zs : List Int} (hz : ∀ z ∈ zs, 0 ≤ z ∧ z ≤ 255) : ∀ x ∈ zs.map Int.toNat, x < 256 := fun x hx => by
  obtain ⟨z, h, rfl⟩ := List.mem_map.1 hx
  have := hz z h; omega
set_option maxHeartbeats 1000000 in
theorem sum_any (a : Option Addr) (len cap : Nat) (zs : List Int) (w : World) (hr : Row8 w.heap.size w (.slice a len cap) zs) (hsm : zs.length ≤ 140737488350000) :
    Calls Tryz.prog 32 #[.slice a len cap] w fun e w' => e = .returned (.int .u32 (sumL zs)) ∧ Below w.heap.size w w' := by
  have k := more_any 0 a len cap zs w (by decide) hr hsm
  go_enter Tryz.func32, Tryz.ntmps32
  go_wp2_with (go_at_call 75; refine k.mono ?_; rintro e w' ⟨rfl, hb⟩)
  go_ret
  exact ⟨rfl, hb⟩
end Go.Proofs.YtejcandhijdnhaaGreat

/- bytes.Clone, crc.Seal and crc.Open, for a seat that has no more of package crc. -/
namespace Go.Proofs.YtejcandhijdnhaaGreat
open Go Go.RowKit
set_option linter.unusedVariables false
set_option linter.unnecessarySimpa false
theorem sumL_lt (zs : List Int) (hz : ∀ z ∈ zs, 0 ≤ z ∧ z ≤ 255) : sumL zs < 4294967296 := moreN_lt (by decide) _ (toNat_lt hz)
set_option maxRecDepth 100000 in
set_option maxHeartbeats 1000000 in
theorem bclone_any (a : Option Addr) (len cap : Nat) (zs : List Int) (w : World) (hr : Row8 w.heap.size w (.slice a len cap) zs) (hsm : zs.length ≤ 140737488350000) :
    Calls Tryz.prog 30 #[.slice a len cap] w fun e w' => ∃ v, e = .returned v ∧ w'.ownsRow w.heap.size 5 1 v len (zs.map (Value.int .u8)) ∧ Below w.heap.size w w' := by
  obtain ⟨i0, hi, hz0, hz1, hz2⟩ := info_parts info_u8
  have e1 := hr.1.open.1
  have qn := fun (a : Option Addr) (n c : Nat) (W : World) => Lib.run_eql_slice_nil (P := Tryz.prog) W 22 5 a n c 0 0 Tryz.underlying22
  cases a with
  | none =>
    have h0 : len = 0 := by
      rcases hr.1 with ⟨_, _, h, _⟩ | ⟨_, _, _, h, _⟩
      · injection h
      · injection h with h; cases h
    subst h0
    have hz : zs = [] := List.eq_nil_of_length_eq_zero e1
    subst hz
    go_enter Tryz.func30, Tryz.ntmps30
    go_wp2
    go_ret
    exact ⟨_, rfl, World.ownsRow_nil _ _ _ _, Below.refl _ _⟩
  | some p =>
    go_enter Tryz.func30, Tryz.ntmps30
    go_wp2_with (at_builtin; refine held ?_)
    unfold Held
    have hl0 := World.ownsRow_lit (base := w.heap.size) (e := 5) (size := 1) w #[] 0 (Nat.le_refl _) (by decide) rfl
    obtain ⟨W2, hW2⟩ : ∃ W2, W2 = w.alloc (.cells #[] 5) := ⟨_, rfl⟩
    have bb : Below w.heap.size w W2 := by rw [hW2]; exact (Below.refl _ w).alloc (Nat.le_refl _) _
    rw [← hW2] at hl0 ⊢
    refine wpList_append_row rfl _ _ 22 rfl w.heap.size 5 i0 Tryz.underlying22 hi hz0 hz1 hz2 (.slice (some ⟨w.heap.size, 0, none⟩) 0 0) 0 [] rfl hl0 (some p) len cap w.heap.size zs rfl (hr.1.below bb) (by omega) bb.size ?_
    intro v1 u1 o1 hg1 hv1
    have b10 : Below w.heap.size w u1 := bb.grown hg1 bb.size (fun b h => by simp [Value.ownBlock] at h; omega)
    rw [Nat.zero_add, List.nil_append] at o1
    clear hl0 hW2 bb hg1 hv1
    go_wp2
    go_ret
    exact ⟨_, rfl, o1, b10⟩
set_option maxHeartbeats 1000000 in
theorem seal_any (a : Option Addr) (len cap : Nat) (zs : List Int) (w : World) (hr : Row8 w.heap.size w (.slice a len cap) zs) (hsm : zs.length ≤ 140737488340000) :
    Calls Tryz.prog 8 #[.slice a len cap] w fun e w' => ∃ v, e = .returned v ∧ w'.ownsRow w.heap.size 5 1 v (len + 4) ((zs ++ bytesL (sumL zs)).map (Value.int .u8)) ∧ Below w.heap.size w w' := by
  obtain ⟨i0, hi, hz0, hz1, hz2⟩ := info_parts info_u8
  have e1 := hr.1.open.1
  have xl := sumL_lt zs hr.2
  have kc := bclone_any a len cap zs w hr (by omega)
  have ks := fun (W : World) (h : Row8 W.heap.size W (.slice a len cap) zs) => sum_any a len cap zs W h (by omega)
  obtain ⟨V, hV⟩ : ∃ V, V = sumL zs := ⟨_, rfl⟩
  rw [← hV] at ks xl ⊢
  have hzV := bytesL_byte V xl
  clear hV
  go_enter Tryz.func8, Tryz.ntmps8
  go_wp2_with (go_at_call 30; refine held ?_)
  unfold Held
  refine kc.mono ?_
  rintro e w1 ⟨v1, rfl, o1, b1⟩
  go_wp2_with (go_at_call 32; refine held ?_)
  unfold Held
  refine (ks _ ((hr.below b1).mono b1.size)).mono ?_
  rintro e w2 ⟨rfl, b2⟩
  have o2 := ownsRow_same o1 fun b hb => b2.block b (o1.lt b hb).2
  replace b2 := below_step b1 b2
  clear b1 o1 kc ks
  go_wp2_with (go_at_call 31; refine held ?_)
  unfold Held
  refine (bytes_any V w2 xl).mono ?_
  rintro e u2 ⟨rfl, hu2⟩
  have bq : Below w2.heap.size w2 u2 := by rw [hu2]; exact ((Below.refl _ w2).alloc (Nat.le_refl _) _).alloc (by simp) _
  have hrB : Row8 u2.heap.size u2 (.slice (some ⟨w2.heap.size + 1, 0, none⟩) 4 4) (bytesL V) := by
    have := Row8.built (w2.alloc (bytesO V)) 138 (0, 0) (bytesL V) hzV (by simp [bytesL, maxLen]) _ rfl 4 rfl
    rw [hu2, show w2.heap.size + 1 = (w2.alloc (bytesO V)).heap.size from (World.size_alloc ..).symm]; exact this
  have o3 := ownsRow_same o2 fun b hb => bq.block b (o2.lt b hb).2
  have b3 := below_step b2 bq
  clear hu2 bq o2 b2
  go_wp2_with (at_builtin; refine held ?_)
  unfold Held
  refine wpList_append_row rfl _ _ 22 rfl w.heap.size 5 i0 Tryz.underlying22 hi hz0 hz1 hz2 v1 len zs rfl o3 _ 4 4 u2.heap.size (bytesL V) rfl hrB.1 (by omega) b3.size ?_
  intro v2 u3 o4 hg2 hv2
  have b4 : Below w.heap.size w u3 := b3.grown hg2 b3.size (fun b h => by have := (o3.lt b h).1; omega)
  clear hg2 hv2 o3 b3 hrB
  go_wp2
  go_ret
  exact ⟨_, rfl, o4, b4⟩
/-- bytes that are sealed -/
def opens (zs : List Int) : Prop := 4 ≤ zs.length ∧ leW (zs.drop (zs.length - 4)) 0 4 = sumL (zs.take (zs.length - 4))
set_option maxHeartbeats 2000000 in
theorem open_any (a : Option Addr) (len cap : Nat) (zs : List Int) (w : World) (hr : Row8 w.heap.size w (.slice a len cap) zs) (hsm : zs.length ≤ 140737488340000) :
    Calls Tryz.prog 14 #[.slice a len cap] w fun e w' => Below w.heap.size w w' ∧
      ((opens zs ∧ ∃ v, e = .returned (.tuple #[v, .int .i64 0]) ∧ w'.ownsRow w.heap.size 5 1 v (len - 4) ((zs.take (len - 4)).map (Value.int .u8))) ∨ (¬ opens zs ∧ e = .returned (.tuple #[.slice none 0 0, .int .i64 230]))) := by
  have e1 := hr.1.open.1
  have hcap := hr.1.cap
  by_cases h4 : 4 ≤ len
  rotate_left
  · have t1 : decide ((len : Int) - 4 < 0) = true := by simp; omega
    go_enter Tryz.func14, Tryz.ntmps14
    go_wp2
    go_ret2
    exact ⟨Below.refl _ _, .inr ⟨fun h => h4 (by have := h.1; omega), rfl⟩⟩
  have t1 : decide ((len : Int) - 4 < 0) = false := by simp; omega
  obtain ⟨N, hN⟩ : ∃ N, N = len - 4 := ⟨_, rfl⟩
  have hN2 : len = N + 4 := by omega
  have hO : opens zs ↔ leW (zs.drop N) 0 4 = sumL (zs.take N) := by
    unfold opens
    rw [e1, ← hN]
    exact ⟨fun h => h.2, fun h => ⟨by omega, h⟩⟩
  rw [← hN]
  have hn4 : (len : Int) - 4 = (N : Int) := by omega
  obtain ⟨s1, _⟩ := hr.sub N len (by omega) (Nat.le_refl _)
  obtain ⟨s2, _⟩ := hr.sub 0 N (Nat.zero_le _) (by omega)
  rw [List.drop_zero] at s2
  rw [List.take_of_length_le (by rw [List.length_drop]; omega)] at s1
  obtain ⟨_, b, off, hopen, _⟩ := hr.1.open
  obtain ⟨rfl, hbl, _, hcm⟩ := hopen (by omega)
  clear hopen
  have g1 : sliced (some ⟨b, off, none⟩) N len cap 1 = .slice (some ⟨b, off + N, none⟩) (len - N) (cap - N) := by
    unfold sliced
    rw [if_neg (by omega)]
    simp [Addr.add_lit]
  have g2 : sliced (some ⟨b, off, none⟩) 0 N cap 1 = .slice (some ⟨b, off, none⟩) N cap := by
    unfold sliced
    rw [if_neg (by omega)]
    simp [Addr.add_lit]
  rw [g1] at s1
  rw [g2] at s2
  clear g1 g2
  have hl4 : (zs.drop N).length = 4 := by rw [List.length_drop]; omega
  have hlN : (zs.take N).length = N := by rw [List.length_take]; omega
  have kr := fun (W : World) (q : Option Addr) (c : Nat) (h : Row8 W.heap.size W (.slice q (len - N) c) (zs.drop N)) => read_any q (len - N) c (zs.drop N) W h (by omega)
  have eV : readV (zs.drop N) = (leW (zs.drop N) 0 4 : Nat) := by unfold readV; rw [if_pos hl4]
  have eE : readE (zs.drop N) = 0 := by unfold readE; rw [if_pos hl4]
  rw [eV, eE] at kr
  have ks := fun (W : World) (q : Option Addr) (c : Nat) (h : Row8 W.heap.size W (.slice q N c) (zs.take N)) => sum_any q N c (zs.take N) W h (by omega)
  have kc := fun (W : World) (q : Option Addr) (c : Nat) (h : Row8 W.heap.size W (.slice q N c) (zs.take N)) => bclone_any q N c (zs.take N) W h (by omega)
  obtain ⟨L, hL⟩ : ∃ L, L = leW (zs.drop N) 0 4 := ⟨_, rfl⟩
  obtain ⟨S, hS⟩ : ∃ S, S = sumL (zs.take N) := ⟨_, rfl⟩
  rw [← hL] at kr hO
  rw [← hS] at ks hO
  have hll : len ≤ 140737488340000 := by omega
  have hcc : cap ≤ 9223372036854775807 := by simp only [maxLen] at hcm; omega
  have hNl : N ≤ len := by omega
  have hcN : ¬ cap = N := by omega
  have k1 := kr w _ _ s1
  have HO := Lib.hid hO
  have H2 := Lib.hid s2
  have HK := Lib.hid ks
  have HC := Lib.hid kc
  clear hO eV eE hL hS hN hl4 hlN e1 hN2 kr s1 s2 ks kc hcm
  go_enter Tryz.func14, Tryz.ntmps14
  go_wp2_with (go_at_call 55; refine held ?_)
  unfold Held
  refine k1.mono ?_
  rintro e w1 ⟨rfl, b1⟩
  try dsimp only
  have s2 : Row8 w.heap.size w (.slice (some ⟨b, off, none⟩) N cap) (zs.take N) := H2
  have k2 := (show ∀ (W : World) (q : Option Addr) (c : Nat), Row8 W.heap.size W (.slice q N c) (zs.take N) → Calls Tryz.prog 32 #[.slice q N c] W fun e w' => e = .returned (.int .u32 S) ∧ Below W.heap.size W w' from HK) w1 _ _ ((s2.below b1).mono b1.size)
  clear k1 HK s2
  go_wp2_with (go_at_call 32; refine held ?_)
  unfold Held
  refine k2.mono ?_
  rintro e w2 ⟨rfl, b2⟩
  replace b2 := below_step b1 b2
  clear k2 b1
  by_cases hLS : L = S
  · subst hLS
    have s2 : Row8 w.heap.size w (.slice (some ⟨b, off, none⟩) N cap) (zs.take N) := H2
    have k3 := (show ∀ (W : World) (q : Option Addr) (c : Nat), Row8 W.heap.size W (.slice q N c) (zs.take N) → Calls Tryz.prog 30 #[.slice q N c] W fun e w' => ∃ v, e = .returned v ∧ w'.ownsRow W.heap.size 5 1 v N ((zs.take N).map (Value.int .u8)) ∧ Below W.heap.size W w' from HC) w2 _ _ ((s2.below b2).mono b2.size)
    clear HC s2
    go_wp2_with (go_at_call 30; refine held ?_)
    unfold Held
    refine k3.mono ?_
    rintro e w3 ⟨v, rfl, o3, b3⟩
    have o4 : w3.ownsRow w.heap.size 5 1 v N ((zs.take N).map (Value.int .u8)) := by
      have hb2 := b2.size
      refine ⟨o3.1, ?_⟩
      rcases o3.2 with h | ⟨g, cap, cur, h0, h1, h2⟩
      · exact .inl h
      · exact .inr ⟨g, cap, cur, h0, by omega, h2⟩
    replace b3 := below_step b2 b3
    clear k3 o3 b2
    go_wp2
    go_ret2
    exact ⟨b3, .inl ⟨(show opens zs ↔ True from HO).2 trivial, v, rfl, o4⟩⟩
  · have hne : ((L : Int) != (S : Int)) = true := by simp; omega
    have hLS' := Lib.hid hLS
    clear hLS
    go_wp2
    go_ret2
    exact ⟨b2, .inr ⟨fun h => hLS' ((show opens zs ↔ L = S from HO).1 h), rfl⟩⟩
end Go.Proofs.YtejcandhijdnhaaGreat

/- The walks of zombie and of image.Bytes and image.Size of zombies. -/
namespace Go.Proofs.YtejcandhijdnhaaGreat
open Go Go.RowKit
set_option linter.unusedVariables false
set_option linter.unnecessarySimpa false
set_option linter.unusedSimpArgs false
theorem ownsRow_base2 {W : World} {b b' : Nat} {e : TypeId} {size : Nat} {v : Value} {n : Nat} {xs : List Value} (h : W.ownsRow b e size v n xs) (hb : b' ≤ b) : W.ownsRow b' e size v n xs := by
  refine ⟨h.1, ?_⟩
  rcases h.2 with h | ⟨g, cap, cur, h1, h2, h3⟩
  · exact .inl h
  · exact .inr ⟨g, cap, cur, h1, Nat.le_trans hb h2, h3⟩
def imgV (x cp : Nat) : Value := .agg #[.slice (some ⟨x, 0, none⟩) 1 cp, .slice none 0 0, .slice none 0 0, .slice none 0 0, .slice none 0 0]
def imC (x cp : Nat) : Array Value := #[.slice (some ⟨x, 0, none⟩) 1 cp, .slice none 0 0, .slice none 0 0, .slice none 0 0, .slice none 0 0]
def img0 : Value := .agg #[.slice none 0 0, .slice none 0 0, .slice none 0 0, .slice none 0 0, .slice none 0 0]
theorem infoImg : (Tryz.prog.info? 29).map (·.size) = some 5 := by kernel_rfl
theorem imC_one (x cp : Nat) : (imC x cp).all (·.oneCell') = true := by unfold imC; simp [Value.oneCell']
/-- a zombie's image's bytes -/
def zomB : List Int := outB imgF ++ bytesL (sumL (outB imgF))
theorem outB_img : outB imgF = [1, 8, 0, 0, 0, 1, 0, 0, 0, 0, 0, 0, 0, 132, 52, 0, 0, 0, 7, 8, 0, 0, 0, 2, 0, 0, 0, 0, 0, 0, 0, 8, 8, 0, 0, 0, 1, 0, 0, 0, 0, 0, 0, 0, 9, 8, 0, 0, 0, 2, 0, 0, 0, 0, 0, 0, 0, 10, 8, 0, 0, 0, 7, 0, 0, 0, 0, 0, 0, 0] := by decide
theorem tlvE_img : tlvE imgF = 0 := by decide
theorem cnt_img : imgF.cnt ≤ 20000 := by decide
theorem zomB_len : zomB.length = 74 := by unfold zomB; rw [List.length_append, outB_img]; rfl
set_option maxHeartbeats 1000000 in
theorem zombie_any (W : World) :
    Calls Tryz.prog 9 #[] W fun e W' => ∃ x, e = .returned (imgV x 1) ∧ W'.heap[x]? = some (.cells (procC 2 7 0) 54) ∧ W.heap.size ≤ x ∧ Below W.heap.size W W' := by
  go_enter Tryz.func9, Tryz.ntmps9
  go_wp2_with ((fail_if_success (unfold Held)); refine at_store (t := 29) rfl ?_)
  unfold Held
  generalize hA : World.alloc _ _ = A
  have hA2 : A = (W.alloc (Obj.cells #[.slice none 0 0, .slice none 0 0, .slice none 0 0, .slice none 0 0, .slice none 0 0] 29)).alloc (Obj.cells (procC 2 7 0) 54) := hA.symm
  clear hA
  have bA : Below W.heap.size W A := by rw [hA2]; exact ((Below.refl _ _).alloc (Nat.le_refl _) _).alloc (by simp) _
  have e0 : A.heap[W.heap.size]? = some (.cells #[.slice none 0 0, .slice none 0 0, .slice none 0 0, .slice none 0 0, .slice none 0 0] 29) := by
    rw [hA2, ((Below.refl _ _).alloc (Nat.le_refl _) _ : Below _ _ _).block _ (by simp)]; exact World.alloc_heap_new _ _
  have e1 : A.heap[W.heap.size + 1]? = some (.cells (procC 2 7 0) 54) := by
    rw [hA2]; have := World.alloc_heap_new (W.alloc (Obj.cells #[.slice none 0 0, .slice none 0 0, .slice none 0 0, .slice none 0 0, .slice none 0 0] 29)) (Obj.cells (procC 2 7 0) 54); simpa using this
  clear hA2
  refine wpList_store_row rfl 29 (.tmp 0) (.tmp 3) rfl W.heap.size (imC (W.heap.size + 1) 1) rfl rfl 29 _ e0 infoImg rfl (imC_one _ _) ?_
  obtain ⟨V, hV⟩ : ∃ V, V = A.setRow W.heap.size (imC (W.heap.size + 1) 1) := ⟨_, rfl⟩
  have f0 : V.heap[W.heap.size]? = some (.cells (imC (W.heap.size + 1) 1) 29) := by rw [hV]; exact setRow_heap _ _ _ _ _ _ e0
  have f1 : V.heap[W.heap.size + 1]? = some (.cells (procC 2 7 0) 54) := by rw [hV, setRow_other _ _ _ _ (by omega)]; exact e1
  have bV : Below W.heap.size W V := by rw [hV]; exact below_setRow bA (Nat.le_refl _) _
  rw [← hV]
  clear hV e0 e1 bA
  go_wp2
  refine bodyPost_ret (results_cell_row rfl _ _ W.heap.size 29 (imC (W.heap.size + 1) 1) (0, 0) _ rfl f0 Tryz.underlying29 rfl infoImg) rfl ?_
  exact ⟨_, rfl, f1, by omega, bV⟩
set_option maxHeartbeats 2000000 in
theorem bytes_zombie (W : World) (x cp : Nat) (hx : ZomAt W x (procC 2 7 0)) :
    Calls Tryz.prog 21 #[imgV x cp] W fun e W' => ∃ a c, e = .returned (.tuple #[.slice a 74 c, .int .i64 0]) ∧ W'.ownsRow W.heap.size 5 1 (.slice a 74 c) 74 (zomB.map (Value.int .u8)) ∧ Below W.heap.size W W' := by
  have hxl := hx.1
  have kc := fun (V : World) (hV : Below W.heap.size W V) => check_one 2 7 0 true process_zombie V x cp (hx.below hV hxl) 0 (.inl ⟨rfl, rfl⟩)
  have kf := fun (V : World) (hV : Below W.heap.size W V) => fields_zombie V x cp (hx.below hV hxl)
  clear hx
  have KC := Lib.hid kc
  have KF := Lib.hid kf
  clear kc kf
  go_enter Tryz.func21, Tryz.ntmps21
  go_upto_region 1 with fail
  generalize hV : World.alloc _ _ = V
  have bV : Below W.heap.size W V := by rw [← hV]; exact (Below.refl _ _).alloc (Nat.le_refl _) _
  have e : V.heap[W.heap.size]? = some (.cells (imC x cp) 29) := by rw [← hV]; exact World.alloc_heap_new _ _
  clear hV
  go_wp2_with first
    | (refine wpList_load_part (by rfl) 29 (.tmp 1) rfl W.heap.size 0 rfl _ (imC x cp) _ e (by rfl) _ Tryz.underlying29 rfl infoImg ?_)
    | (go_at_call 10; refine held ?_)
  unfold Held
  refine ((show ∀ V, Below W.heap.size W V → _ from KC) _ bV).mono ?_
  rintro e' w1 ⟨rfl, b1⟩
  replace e := (b1.block _ (by have := (Array.getElem?_eq_some_iff.1 e).1; omega)).trans e
  replace bV := bV.trans (b1.mono bV.size)
  clear KC b1
  go_wp2_with first
    | (refine wpList_load_part (by rfl) 29 (.tmp 1) rfl W.heap.size 0 rfl _ (imC x cp) _ e (by rfl) _ Tryz.underlying29 rfl infoImg ?_)
    | (go_at_call 65; refine held ?_)
  unfold Held
  refine ((show ∀ V, Below W.heap.size W V → _ from KF) _ bV).mono ?_
  rintro e' w2 ⟨a, c, rfl, S, b2⟩
  replace bV := bV.trans (b2.mono bV.size)
  have kt := tbytes_any imgF w2 a 2 c S cnt_img
  rw [tlvE_img] at kt
  clear KF b2 S e
  go_wp2_with (go_at_call 64; refine held ?_)
  unfold Held
  refine kt.mono ?_
  rintro e' w3 ⟨v, rfl, o3, b3⟩
  have hl : (outB imgF).length = 70 := by rw [outB_img]; rfl
  have hby : ∀ z ∈ outB imgF, 0 ≤ z ∧ z ≤ 255 := by rw [outB_img]; decide
  rw [hl] at o3
  have r3 : Row8 w3.heap.size w3 v (outB imgF) := own_row8 o3 hby _ _ fun b hb => ⟨rfl, (o3.lt b hb).2⟩
  replace bV := bV.trans (b3.mono bV.size)
  obtain ⟨a3, c3, rfl, _⟩ := ownsRow_slice o3
  have kse := seal_any a3 70 c3 (outB imgF) w3 r3 (by rw [hl]; decide)
  clear kt b3 o3 r3 hby
  go_wp2_with (go_at_call 8; refine held ?_)
  unfold Held
  refine kse.mono ?_
  rintro e' w4 ⟨v4, rfl, o4, b4⟩
  clear kse
  obtain ⟨a4, c4, rfl, _⟩ := ownsRow_slice o4
  have O4 := Lib.hid (ownsRow_base2 o4 bV.size)
  clear o4
  replace bV := bV.trans (b4.mono bV.size)
  go_wp2
  go_ret2
  exact ⟨a4, c4, rfl, O4, bV⟩
set_option maxHeartbeats 1000000 in
/-- an image that may not be -/
theorem bytes_bad (W : World) (I : Array Value) (hI : I.size = 5) (kc : ∀ V, Below W.heap.size W V → Calls Tryz.prog 10 #[.agg I] V fun e W' => e = .returned (.int .i64 240) ∧ Below V.heap.size V W') :
    Calls Tryz.prog 21 #[.agg I] W fun e W' => e = .returned (.tuple #[.slice none 0 0, .int .i64 240]) ∧ Below W.heap.size W W' := by
  have KC := Lib.hid kc
  have hi5 : (Tryz.prog.info? 29).map (·.size) = some I.size := by rw [hI]; exact infoImg
  clear kc
  go_enter Tryz.func21, Tryz.ntmps21
  go_upto_region 1 with fail
  generalize hV : World.alloc _ _ = V
  have bV : Below W.heap.size W V := by rw [← hV]; exact (Below.refl _ _).alloc (Nat.le_refl _) _
  have e : V.heap[W.heap.size]? = some (.cells I 29) := by rw [← hV]; exact World.alloc_heap_new _ _
  clear hV
  go_wp2_with first
    | (refine wpList_load_part (by rfl) 29 (.tmp 1) rfl W.heap.size 0 rfl _ I _ e (by rw [List.drop_zero, List.take_of_length_le (by simp)]) _ Tryz.underlying29 rfl hi5 ?_)
    | (go_at_call 10; refine held ?_)
  unfold Held
  refine ((show ∀ V, Below W.heap.size W V → _ from KC) _ bV).mono ?_
  rintro e' w1 ⟨rfl, b1⟩
  replace bV := bV.trans (b1.mono bV.size)
  clear KC b1 e
  go_wp2
  go_ret2
  exact ⟨rfl, bV⟩
set_option maxHeartbeats 1000000 in
theorem size_of (W : World) (I : Array Value) (hI : I.size = 5) (L : Nat) (kb : ∀ V, Below W.heap.size W V → Calls Tryz.prog 21 #[.agg I] V fun e W' => (∃ a c E, e = .returned (.tuple #[.slice a L c, .int .i64 E])) ∧ Below V.heap.size V W') :
    Calls Tryz.prog 12 #[.agg I] W fun e W' => e = .returned (.int .i64 (L : Int)) ∧ Below W.heap.size W W' := by
  have KB := Lib.hid kb
  have hi5 : (Tryz.prog.info? 29).map (·.size) = some I.size := by rw [hI]; exact infoImg
  clear kb
  go_enter Tryz.func12, Tryz.ntmps12
  go_upto_region 1 with fail
  generalize hV : World.alloc _ _ = V
  have bV : Below W.heap.size W V := by rw [← hV]; exact (Below.refl _ _).alloc (Nat.le_refl _) _
  have e : V.heap[W.heap.size]? = some (.cells I 29) := by rw [← hV]; exact World.alloc_heap_new _ _
  clear hV
  go_wp2_with first
    | (refine wpList_load_part (by rfl) 29 (.tmp 1) rfl W.heap.size 0 rfl _ I _ e (by rw [List.drop_zero, List.take_of_length_le (by simp)]) _ Tryz.underlying29 rfl hi5 ?_)
    | (go_at_call 21; refine held ?_)
  unfold Held
  refine ((show ∀ V, Below W.heap.size W V → _ from KB) _ bV).mono ?_
  rintro e' w1 ⟨⟨a, c, E, rfl⟩, b1⟩
  replace bV := bV.trans (b1.mono bV.size)
  clear KB b1 e
  go_wp2
  go_ret
  exact ⟨rfl, bV⟩
end Go.Proofs.YtejcandhijdnhaaGreat
