/- The walk of word.All; of tlv.Number and the document's Number. -/
import Derived.Test.YtdlhnipkhlihjaaRdRead
import Derived.Test.YtdlhnipkhlihjaaSplit
import Derived.Test.YtdlhnipkhlihjaaTlvRefSame
import Derived.Maps.AppendAt
import Derived.OwnWalk
import Derived.Deep.RegionHeld3
import Derived.Deep.AppendLies
namespace Go.Proofs.Ytdlhnipkhlihjaa
open Go Go.RowKit
set_option linter.unusedVariables false
set_option linter.unnecessarySimpa false
set_option linter.unusedSimpArgs false
theorem bytes_below {w w1 : World} (hb : Below w.heap.size w w1) (x : Nat) : Below w.heap.size w ((w1.alloc (bytesO x)).alloc (bytesO x)) :=
  (hb.alloc hb.size _).alloc (by have := hb.size; simp; omega) _
/-- the bytes of words -/
def bytesLL (zs : List Int) : List Int := (zs.map fun z => bytesL z.toNat).flatten
theorem bytesLL_length (zs : List Int) : (bytesLL zs).length = 4 * zs.length := by
  induction zs with
  | nil => rfl
  | cons z zs ih => simp only [bytesLL, List.map_cons, List.flatten_cons, List.length_append, List.length_cons] at ih ⊢; rw [ih]; simp [bytesL]; omega
theorem bytesLL_snoc (zs : List Int) (z : Int) : bytesLL (zs ++ [z]) = bytesLL zs ++ bytesL z.toNat := by simp [bytesLL]
theorem take_succ_getD (zs : List Int) (k : Nat) (h : k < zs.length) : zs.take (k + 1) = zs.take k ++ [zs.getD k 0] := by
  rw [getD_at _ _ h]; simp
/-- the cells of a word's bytes, where they were laid -/
theorem bytes_news (W : World) (x : Nat) (e : TypeId) : ∀ j u, ((bytesL x).map (Value.int .u8))[j]? = some u → (W.alloc (.cells #[.int .u8 ((x : Int) % 256), .int .u8 ((x : Int) / 256 % 256), .int .u8 ((x : Int) / 65536 % 256), .int .u8 ((x : Int) / 16777216)] e)).cell? ((⟨W.heap.size, 0, none⟩ : Addr).add j) = some u := by
  intro j u hj
  rw [Addr.add_lit]
  rw [Nat.zero_add, World.cell?_alloc_mark]
  match j, hj with
  | 0, h => exact h
  | 1, h => exact h
  | 2, h => exact h
  | 3, h => exact h
  | j + 4, h => simp [bytesL] at h
theorem bytes_one (x : Nat) : ∀ u ∈ (bytesL x).map (Value.int .u8), u.oneCell' = true := by
  intro u h; simp [bytesL] at h; rcases h with rfl | rfl | rfl | rfl <;> rfl
set_option maxRecDepth 100000 in
set_option maxHeartbeats 1000000 in
theorem all_any (a : Option Addr) (len cap : Nat) (zs : List Int) (w : World) (hr : RowI .u32 w.heap.size w (.slice a len cap) zs) (hz : ∀ z ∈ zs, 0 ≤ z ∧ z < 4294967296) (hsm : zs.length ≤ 1000000000000) :
    Calls Try.prog 32 #[.slice a len cap] w fun e w' => ∃ v, e = .returned v ∧ Below w.heap.size w w' ∧ w'.ownsRow w.heap.size 5 1 v (4 * len) ((bytesLL zs).map (Value.int .u8)) := by
  obtain ⟨i0, hi, hz0, hz1, hz2⟩ := info_parts info_u8
  obtain ⟨hlen, b, off, hopen, hc⟩ := hr.open
  subst hlen
  go_enter Try.func32, Try.ntmps32
  go_wp2
  go_loopw [3, 8] (fun v i wr => ∃ k : Nat, k ≤ zs.length ∧ i = .int .i64 k ∧ Below w.heap.size w wr ∧ wr.ownsRow w.heap.size 5 1 v (4 * k) ((bytesLL (zs.take k)).map (Value.int .u8))) (fun _ i _ => zs.length - (intOf i).toNat)
  case atStart => exact ⟨0, Nat.zero_le _, rfl, Below.refl _ _, by simpa [bytesLL] using World.ownsRow_nil w w.heap.size 5 1⟩
  case round =>
    obtain ⟨k, hk, rfl, hb, hown⟩ := hrel
    by_cases hlt : k < zs.length
    · obtain ⟨rfl, hbn, _, _⟩ := hopen (by omega)
      have hck : wr.cell? ⟨b, off + k, none⟩ = some (.int .u32 (zs.getD k 0)) := (hb.cell (p := ⟨b, off + k, none⟩) hbn).trans (hc k hlt)
      obtain ⟨hx0, hx1⟩ := hz _ (List.getElem_mem hlt)
      rw [← getD_at _ _ hlt] at hx0 hx1
      obtain ⟨x, hx⟩ : ∃ x : Nat, zs.getD k 0 = x := ⟨_, (Int.toNat_of_nonneg hx0).symm⟩
      rw [hx] at hck
      have HX := Lib.hid hx
      have hxl : x < 4294967296 := by omega
      have hs := hb.size
      have HC := Lib.hid hc
      clear hx hx0 hx1 hc
      have hn := Lib.hid (bytes_news (wr.alloc (bytesO x)) x 75)
      rw [World.size_alloc] at hn
      have hb2 := bytes_below hb x
      go_wp2_with (first
        | (go_at_call 39; refine (bytes_any x _ (by omega)).mono ?_; rintro e w1 ⟨rfl, rfl⟩)
        | (at_builtin; refine held ?_))
      unfold Held
      refine wpList_append_own _ rfl _ _ 25 rfl w.heap.size 5 i0 (.int .u8 0) 1 1 Try.underlying25 hi hz0 hz1 hz2 rfl (by decide) _ (4 * k) _ (by rfl) ((hown.alloc _).alloc _) ⟨wr.heap.size + 1, 0, none⟩ 4 4 ((bytesL x).map (Value.int .u8)) (by rfl) rfl hn (bytes_one x) (by simp only [maxLen]; omega) (by omega) (by simp; omega) ?_
      intro v' w1 hown' hgrow hnil
      have hb3 := hb2.grown hgrow (by simp; omega) (fun g hg => (hown.lt g hg).1)
      clear hn hb2
      go_wp2
      go_roundw
      case rel =>
        refine ⟨k + 1, by omega, by go_num, hb3, ?_⟩
        rw [take_succ_getD _ _ hlt, bytesLL_snoc, List.map_append, show zs.getD k 0 = (x : Int) from HX]
        exact hown'
      case measure => simp [intOf]; omega
    · obtain rfl : k = zs.length := by omega
      go_wp2
      go_ret
      rw [List.take_length] at hown
      exact ⟨_, rfl, hb, hown⟩
/-- a number's bytes -/
def numB (n : Nat) : List Int := bytesL (n % 4294967296) ++ bytesL (n / 4294967296)
theorem numB_len (n : Nat) : (numB n).length = 8 := rfl
theorem byteL_in (x : Nat) (hx : x < 4294967296) : ∀ z ∈ bytesL x, 0 ≤ z ∧ z ≤ 255 := by
  intro z hz
  simp only [bytesL, List.mem_cons, List.not_mem_nil, or_false] at hz
  rcases hz with rfl | rfl | rfl | rfl <;> omega
theorem numB_in (n : Nat) (hn : n < 18446744073709551616) : ∀ z ∈ numB n, 0 ≤ z ∧ z ≤ 255 := by
  intro z hz
  rcases List.mem_append.1 hz with h | h
  · exact byteL_in _ (by omega) z h
  · exact byteL_in _ (by omega) z h
theorem numB_all (n : Nat) : bytesLL [((n % 4294967296 : Nat) : Int), ((n / 4294967296 : Nat) : Int)] = numB n := by
  simp only [bytesLL, numB, List.map_cons, List.map_nil, List.flatten_cons, List.flatten_nil, List.append_nil, Int.toNat_natCast]
/-- what Number answers -/
def NumPost (tag : Int) (n : Nat) (W : World) (e : Ending) (W' : World) : Prop :=
  ∃ (a : Option Addr) (c : Nat), e = .returned (.agg #[.int .i64 tag, .slice a 8 c, .slice none 0 0]) ∧ Row8 W'.heap.size W' (.slice a 8 c) (numB n) ∧ Below W.heap.size W W'
set_option maxRecDepth 100000 in
set_option maxHeartbeats 4000000 in
theorem number_any (tag : Int) (n : Nat) (hn : n < 18446744073709551616) (W : World) :
    Calls Try.prog 16 #[.int .i64 tag, .int .u64 (n : Int)] W (NumPost tag n W) := by
  go_enter Try.func16, Try.ntmps16
  go_wp2_with (go_at_call 32; refine held ?_)
  unfold Held
  obtain ⟨Z, hZ⟩ : ∃ Z, Z = W.alloc (.cells #[.int .i64 0, .slice none 0 0, .slice none 0 0] 30) := ⟨_, rfl⟩
  have pZ : Z.heap[W.heap.size]? = some (.cells zT 30) := by rw [hZ]; exact World.alloc_heap_new W _
  have bZ : Below W.heap.size W Z := by rw [hZ]; exact (Below.refl _ W).alloc (Nat.le_refl _) _
  have sZ : Z.heap.size = W.heap.size + 1 := by rw [hZ]; simp
  rw [← hZ]
  obtain ⟨V, hV⟩ : ∃ V, V = Z.alloc (.cells #[.int .u32 ((n : Int) % 4294967296), .int .u32 ((n : Int) / 4294967296)] 59) := ⟨_, rfl⟩
  have bV : Below Z.heap.size Z V := by rw [hV]; exact (Below.refl _ _).alloc (Nat.le_refl _) _
  have rV : RowI .u32 V.heap.size V (.slice (some ⟨W.heap.size + 1, 0, none⟩) 2 2) [((n % 4294967296 : Nat) : Int), ((n / 4294967296 : Nat) : Int)] := by
    refine .inr ⟨W.heap.size + 1, 0, 2, rfl, by rw [hV]; simp; omega, Nat.le_refl 2, by decide, fun j hj => ?_⟩
    rw [hV, ← sZ, Nat.zero_add, World.cell?_alloc_mark]
    simp at hj
    match j, hj with
    | 0, _ => rfl
    | 1, _ => rfl
  rw [← hV]
  have sV : W.heap.size < V.heap.size := by have := bV.size; omega
  have pV := (bV.block W.heap.size (by omega)).trans pZ
  have bWV : Below W.heap.size W V := bZ.trans (bV.mono (by omega))
  clear hV hZ pZ bV bZ sZ
  refine (all_any _ 2 2 _ V rV (by intro z hz; simp at hz; rcases hz with rfl | rfl <;> omega) (by simp)).mono ?_
  rintro e w3 ⟨v, rfl, b3, o3⟩
  rw [numB_all] at o3
  obtain ⟨a3, c3, rfl, _⟩ := ownsRow_slice o3
  have p3 := (b3.block W.heap.size sV).trans pV
  have B3 := bWV.trans (b3.mono bWV.size)
  have e9 : (w3.setRow W.heap.size #[.int .i64 tag, .slice a3 8 c3, .slice none 0 0]).heap[W.heap.size]? = some (.cells #[.int .i64 tag, .slice a3 8 c3, .slice none 0 0] 30) := setRow_heap _ _ _ _ _ _ p3
  have b9 := below_setRow B3 (Nat.le_refl _) #[.int .i64 tag, .slice a3 8 c3, .slice none 0 0]
  have hP : Row8 (w3.setRow W.heap.size #[.int .i64 tag, .slice a3 8 c3, .slice none 0 0]).heap.size (w3.setRow W.heap.size #[.int .i64 tag, .slice a3 8 c3, .slice none 0 0]) (.slice a3 8 c3) (numB n) :=
    own_row8 (v := .slice a3 8 c3) (n := 8) o3 (numB_in n hn) _ _ fun b hb => ⟨setRow_other _ _ _ _ (by have := (o3.lt b hb).1; omega), by rw [size_setRow]; exact (o3.lt b hb).2⟩
  clear b3 o3 rV bWV pV B3
  go_wp2_with ((fail_if_success (unfold Held)); refine at_store (t := 30) rfl ?_)
  unfold Held
  refine wpList_store_row rfl 30 (.tmp 4) (.tmp 13) rfl W.heap.size #[.int .i64 tag, .slice a3 8 c3, .slice none 0 0] rfl rfl 30 zT p3 infoT rfl (agg3_one ..) ?_
  go_wp2_with fail
  refine bodyPost_ret (results_cell_row rfl _ _ W.heap.size 30 #[.int .i64 tag, .slice a3 8 c3, .slice none 0 0] (0, 0) _ rfl e9 Try.underlying30 rfl infoT) rfl ?_
  exact ⟨a3, c3, rfl, hP, b9⟩
/-- the low bytes -/
def lowB (n : Nat) (j : Nat) : List Int := (List.range j).map fun i => ((n / 256 ^ i % 256 : Nat) : Int)
theorem lowB_succ (n j : Nat) : lowB n (j + 1) = lowB n j ++ [((n / 256 ^ j % 256 : Nat) : Int)] := by simp [lowB, List.range_succ]
theorem lowB_len (n j : Nat) : (lowB n j).length = j := by simp [lowB]
theorem lowB_eight (n : Nat) (hn : n < 18446744073709551616) : lowB n 8 = numB n := by
  simp only [lowB, numB, bytesL, List.range_succ, List.range_zero, List.nil_append, List.map_append, List.map_cons, List.map_nil, List.cons_append]
  simp only [List.cons.injEq, and_true]
  refine ⟨?_, ?_, ?_, ?_, ?_, ?_, ?_, ?_⟩ <;> omega
set_option maxRecDepth 100000 in
set_option maxHeartbeats 4000000 in
theorem rnumber_any (tag : Int) (n : Nat) (hn : n < 18446744073709551616) (W : World) :
    Calls Try.prog 18 #[.int .i64 tag, .int .u64 (n : Int)] W (NumPost tag n W) := by
  obtain ⟨i0, hi, hz0, hz1, hz2⟩ := info_parts info_u8
  go_enter Try.func18, Try.ntmps18
  go_wp2_with ((fail_if_success (unfold Held)); refine at_store (t := 30) rfl ?_)
  unfold Held
  refine wpList_store_row rfl 30 (.tmp 5) (.tmp 8) rfl (W.heap.size + 1) #[.int .i64 tag, .slice none 0 0, .slice none 0 0] rfl rfl 30 zT (by
    rw [show W.heap.size + 1 = (W.alloc (.cells zT 30)).heap.size from (World.size_alloc ..).symm]; exact World.alloc_heap_new _ _) infoT rfl (agg3_one ..) ?_
  obtain ⟨Z, hZ⟩ : ∃ Z, Z = ((W.alloc (.cells zT 30)).alloc (.cells zT 30)).setRow (W.heap.size + 1) #[.int .i64 tag, .slice none 0 0, .slice none 0 0] := ⟨_, rfl⟩
  have pZ : Z.heap[W.heap.size]? = some (.cells zT 30) := by rw [hZ]; exact (setRow_other _ _ _ _ (by omega)).trans ((Below.heap_alloc _ _ _ (by simp)).trans (World.alloc_heap_new W _))
  have eZ : Z.heap[W.heap.size + 1]? = some (.cells #[.int .i64 tag, .slice none 0 0, .slice none 0 0] 30) := by
    rw [hZ]
    refine setRow_heap _ _ zT #[.int .i64 tag, .slice none 0 0, .slice none 0 0] _ _ ?_
    rw [show W.heap.size + 1 = (W.alloc (.cells zT 30)).heap.size from (World.size_alloc ..).symm]; exact World.alloc_heap_new _ _
  have sZ : W.heap.size + 2 ≤ Z.heap.size := by rw [hZ, size_setRow]; simp
  have bZ : Below W.heap.size W Z := by rw [hZ]; exact below_setRow (((Below.refl _ W).alloc (Nat.le_refl _) _).alloc (by simp) _) (by omega) _
  rw [show ((W.alloc (Obj.cells #[Value.int IntKind.i64 0, Value.slice none 0 0, Value.slice none 0 0] 30)).alloc (Obj.cells #[Value.int IntKind.i64 0, Value.slice none 0 0, Value.slice none 0 0] 30)).setRow (W.heap.size + 1) #[.int .i64 tag, .slice none 0 0, .slice none 0 0] = Z from hZ.symm]
  clear hZ
  go_wp2_with fail
  go_loopw [1, 6] (fun m x wr => ∃ (j : Nat) (v : Value), x = .int .i64 (j : Int) ∧ m = .int .u64 ((n / 256 ^ j : Nat) : Int) ∧ j ≤ 8 ∧ wr.heap[W.heap.size]? = some (.cells zT 30) ∧ wr.heap[W.heap.size + 1]? = some (.cells #[.int .i64 tag, v, .slice none 0 0] 30) ∧ wr.ownsRow (W.heap.size + 2) 5 1 v j ((lowB n j).map (Value.int .u8)) ∧ W.heap.size + 2 ≤ wr.heap.size ∧ Below W.heap.size W wr) (fun _ x _ => 8 - (intOf x).toNat)
  case atStart => exact ⟨0, _, rfl, by simp, Nat.zero_le _, pZ, eZ, World.ownsRow_nil _ _ _ _, sZ, bZ⟩
  case round =>
    clear pZ eZ bZ sZ
    obtain ⟨j, v, rfl, rfl, hj, hp, he, ho, hs, hb⟩ := hrel
    by_cases hlt : j < 8
    · have t1 : decide ((j : Int) < 8) = true := by simp; omega
      obtain ⟨va, vc, rfl, _⟩ := ownsRow_slice ho
      have y1 : wr.cell? ⟨W.heap.size + 1, 1, none⟩ = some (.slice va j vc) := by rw [cell_of_row wr _ 1 _ _ _ he]; rfl
      have z1 := frozen_of_row wr (W.heap.size + 1) 1 _ _ he
      obtain ⟨M, hM⟩ : ∃ M, M = n / 256 ^ j := ⟨_, rfl⟩
      have hMl : M < 18446744073709551616 := by rw [hM]; exact Nat.lt_of_le_of_lt (Nat.div_le_self _ _) hn
      have hnx : n / 256 ^ (j + 1) = M / 256 := by rw [hM, Nat.pow_succ, Nat.div_div_eq_div_mul]
      have hlow := lowB_succ n j
      rw [← hM] at hlow
      rw [← hM]
      have HNX := Lib.hid hnx
      have HLOW := Lib.hid hlow
      clear hM hnx hlow
      go_wp2_with (at_builtin; refine held ?_)
      unfold Held
      obtain ⟨W2, hW2⟩ : ∃ W2, W2 = wr.alloc (.cells #[.int .u8 ((M : Int) % 256)] 5) := ⟨_, rfl⟩
      have bb : Below wr.heap.size wr W2 := by rw [hW2]; exact (Below.refl _ _).alloc (Nat.le_refl _) _
      have zz : W2.cell? ⟨wr.heap.size, 0, none⟩ = some (.int .u8 ((M : Int) % 256)) := by rw [hW2, cell_of_row _ _ 0 _ _ _ (World.alloc_heap_new _ _)]; rfl
      have ho2 := ownsRow_same ho fun b hb => bb.block b (ho.lt b hb).2
      have he2 := (bb.block (W.heap.size + 1) (by omega)).trans he
      have hp2 := (bb.block W.heap.size (by omega)).trans hp
      have hb2 := hb.trans (bb.mono hb.size)
      have hs2 : W.heap.size + 2 ≤ W2.heap.size := Nat.le_trans hs bb.size
      rw [← hW2]
      clear hW2 bb he hp hb ho
      refine wpList_append_vals rfl _ _ 25 rfl (W.heap.size + 2) 5 i0 _ 1 1 Try.underlying25 hi hz0 hz1 hz2 rfl (by decide) (.slice va j vc) j ((lowB n j).map (Value.int .u8)) rfl ho2 (some ⟨wr.heap.size, 0, none⟩) 1 1 [.int .u8 ((M : Int) % 256)] rfl rfl (by simp [Value.oneCell']) (.inr ⟨_, _, rfl, fun q u hq => by
        obtain rfl : q = 0 := by
          have := (List.getElem?_eq_some_iff.1 hq).1
          simp at this; exact this
        simp at hq; subst hq; exact zz⟩) (by omega) (by simp only [maxLen]; omega) hs2 ?_
      intro v9 w9 o9 g9 hv9
      have hown : ∀ b, (Value.slice va j vc).ownBlock = some b → W.heap.size + 2 ≤ b := fun b hb => (ho2.lt b hb).1
      have he9 := (g9.block (W.heap.size + 1) (by omega) (fun e => by have := hown _ e.symm; omega)).trans he2
      have hp9 := (g9.block W.heap.size (by omega) (fun e => by have := hown _ e.symm; omega)).trans hp2
      have hb9 : Below W.heap.size W w9 := hb2.grown g9 hb2.size fun b hb => by have := hown b hb; omega
      have hs9 : W.heap.size + 2 ≤ w9.heap.size := Nat.le_trans hs2 g9.size
      have y9 : w9.cell? ⟨W.heap.size + 1, 1, none⟩ = some (.slice va j vc) := by rw [cell_of_row w9 _ 1 _ _ _ he9]; rfl
      have z9 := frozen_of_row w9 (W.heap.size + 1) 1 _ _ he9
      obtain ⟨a9, c9, rfl, _⟩ := ownsRow_slice o9
      obtain ⟨W8, hW8⟩ : ∃ W8, W8 = w9.setCell ⟨W.heap.size + 1, 1, none⟩ (.slice a9 (j + 1) c9) := ⟨_, rfl⟩
      have k8 : ∀ b, b ≠ W.heap.size + 1 → W8.heap[b]? = w9.heap[b]? := fun b hb => by rw [hW8]; exact Below.heap_setCell _ _ _ _ hb
      have he8 : W8.heap[W.heap.size + 1]? = some (.cells #[.int .i64 tag, .slice a9 (j + 1) c9, .slice none 0 0] 30) := by rw [hW8]; exact heap_setCell_same _ _ _ _ _ _ he9
      have hp8 := (k8 W.heap.size (by omega)).trans hp9
      have ho8 : W8.ownsRow (W.heap.size + 2) 5 1 (.slice a9 (j + 1) c9) (j + 1) ((lowB n (j + 1)).map (Value.int .u8)) := by
        rw [show lowB n (j + 1) = lowB n j ++ [((M % 256 : Nat) : Int)] from HLOW, List.map_append]
        exact ownsRow_same o9 fun b hb => k8 b (by have := (o9.lt b hb).1; omega)
      have hb8 : Below W.heap.size W W8 := by rw [hW8]; exact hb9.setCell (by show W.heap.size ≤ W.heap.size + 1; omega) _
      have hs8 : W.heap.size + 2 ≤ W8.heap.size := by rw [hW8]; show _ ≤ (w9.heap.modify _ _).size; rw [Array.size_modify]; exact hs9
      have HW8 := Lib.hid hW8
      have HP := Lib.hid (And.intro hp8 (And.intro he8 (And.intro ho8 (And.intro hs8 hb8))))
      clear hp8 he8 ho8 hs8 hb8 k8 hW8 he9 hp9 hb9 hs9 o9 g9 hv9 ho2 he2 hp2 hb2 hs2 zz hown y1 z1 HLOW
      go_wp2_with fail
      rw [show w9.setCell ⟨W.heap.size + 1, 1, none⟩ (.slice a9 (j + 1) c9) = W8 from (show W8 = _ from HW8).symm]
      go_roundw
      case rel => exact ⟨j + 1, _, by go_num, by rw [show n / 256 ^ (j + 1) = M / 256 from HNX]; rfl, by omega, HP⟩
      case measure => simp [intOf]; omega
    · have t1 : decide ((j : Int) < 8) = false := by simp; omega
      obtain rfl : j = 8 := by omega
      rw [lowB_eight n hn] at ho
      obtain ⟨va, vc, rfl, _⟩ := ownsRow_slice ho
      have y0 : wr.cell? ⟨W.heap.size + 1, 0, none⟩ = some (.int .i64 tag) := by rw [cell_of_row wr _ 0 _ _ _ he]; rfl
      have y1 : wr.cell? ⟨W.heap.size + 1, 1, none⟩ = some (.slice va 8 vc) := by rw [cell_of_row wr _ 1 _ _ _ he]; rfl
      have y2 : wr.cell? ⟨W.heap.size + 1, 2, none⟩ = some (.slice none 0 0) := by rw [cell_of_row wr _ 2 _ _ _ he]; rfl
      have e9 : (wr.setRow W.heap.size #[.int .i64 tag, .slice va 8 vc, .slice none 0 0]).heap[W.heap.size]? = some (.cells #[.int .i64 tag, .slice va 8 vc, .slice none 0 0] 30) := setRow_heap _ _ _ _ _ _ hp
      have b9 := below_setRow hb (Nat.le_refl _) #[.int .i64 tag, .slice va 8 vc, .slice none 0 0]
      have hP : Row8 (wr.setRow W.heap.size #[.int .i64 tag, .slice va 8 vc, .slice none 0 0]).heap.size (wr.setRow W.heap.size #[.int .i64 tag, .slice va 8 vc, .slice none 0 0]) (.slice va 8 vc) (numB n) :=
        own_row8 (v := .slice va 8 vc) (n := 8) ho (numB_in n hn) _ _ fun b hb => ⟨setRow_other _ _ _ _ (by have := (ho.lt b hb).1; omega), by rw [size_setRow]; exact (ho.lt b hb).2⟩
      clear ho hb he
      go_wp2_with ((fail_if_success (unfold Held)); refine at_store (t := 30) rfl ?_)
      unfold Held
      refine wpList_store_row rfl 30 (.tmp 4) (.tmp 23) rfl W.heap.size #[.int .i64 tag, .slice va 8 vc, .slice none 0 0] rfl rfl 30 zT hp infoT rfl (agg3_one ..) ?_
      go_wp2_with fail
      refine bodyPost_ret (results_cell_row rfl _ _ W.heap.size 30 #[.int .i64 tag, .slice va 8 vc, .slice none 0 0] (0, 0) _ rfl e9 Try.underlying30 rfl infoT) rfl ?_
      exact ⟨va, vc, rfl, hP, b9⟩
end Go.Proofs.Ytdlhnipkhlihjaa
