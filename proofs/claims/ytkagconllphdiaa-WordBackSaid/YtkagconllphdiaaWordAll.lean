/- The walk of word.All, word.Read and of the document's Bytes, All, Words, Same. -/
import Derived.Test.YtkagconllphdiaaWordWords
import Derived.Maps.AppendAt
import Derived.OwnWalk
import Derived.Deep.RegionHeld3
import Derived.Deep.AppendLies
namespace Go.Proofs.Ytkagconllphdiaa
open Go Go.RowKit
set_option linter.unusedVariables false
set_option linter.unnecessarySimpa false
theorem info_u8 : (Try.prog.info? 5).map (fun i => (i.zero, i.size, i.bytes)) = some (some (.int .u8 0), 1, 1) := by kernel_rfl
/-- the bytes of words -/
def bytesLL (zs : List Int) : List Int := (zs.map fun z => bytesL z.toNat).flatten
theorem bytesLL_length (zs : List Int) : (bytesLL zs).length = 4 * zs.length := by
  induction zs with
  | nil => rfl
  | cons z zs ih => simp only [bytesLL, List.map_cons, List.flatten_cons, List.length_append, List.length_cons] at ih ⊢; rw [ih]; simp [bytesL]; omega
theorem bytesLL_snoc (zs : List Int) (z : Int) : bytesLL (zs ++ [z]) = bytesLL zs ++ bytesL z.toNat := by simp [bytesLL]
theorem take_succ_getD (zs : List Int) (k : Nat) (h : k < zs.length) : zs.take (k + 1) = zs.take k ++ [zs.getD k 0] := by
  rw [getD_at _ _ h]; simp
/-- the cells of a word's bytes, where they were laid -/
theorem bytes_news (W : World) (x : Nat) (e : TypeId) : ∀ j u, ((bytesL x).map (Value.int .u8))[j]? = some u → (W.alloc (.cells #[.int .u8 ((x : Int) % 256), .int .u8 ((x : Int) / 256 % 256), .int .u8 ((x : Int) / 65536 % 256), .int .u8 ((x : Int) / 16777216)] e)).cell? ((⟨W.heap.size, 0, none⟩ : Addr).add j) = some u := by
  intro j u hj
  rw [Addr.add_lit]
  rw [Nat.zero_add, World.cell?_alloc_mark]
  match j, hj with
  | 0, h => exact h
  | 1, h => exact h
  | 2, h => exact h
  | 3, h => exact h
  | j + 4, h => simp [bytesL] at h
theorem bytes_one (x : Nat) : ∀ u ∈ (bytesL x).map (Value.int .u8), u.oneCell' = true := by
  intro u h; simp [bytesL] at h; rcases h with rfl | rfl | rfl | rfl <;> rfl
set_option maxRecDepth 100000 in
set_option maxHeartbeats 1000000 in
theorem all_any (a : Option Addr) (len cap : Nat) (zs : List Int) (w : World) (hr : RowI .u32 w.heap.size w (.slice a len cap) zs) (hz : ∀ z ∈ zs, 0 ≤ z ∧ z < 4294967296) (hsm : zs.length ≤ 1000000000000) :
    Calls Try.prog 29 #[.slice a len cap] w fun e w' => ∃ v, e = .returned v ∧ Below w.heap.size w w' ∧ w'.ownsRow w.heap.size 5 1 v (4 * len) ((bytesLL zs).map (Value.int .u8)) := by
  obtain ⟨i0, hi, hz0, hz1, hz2⟩ := info_parts info_u8
  obtain ⟨hlen, b, off, hopen, hc⟩ := hr.open
  subst hlen
  go_enter Try.func29, Try.ntmps29
  go_wp2
  go_loopw [3, 8] (fun v i wr => ∃ k : Nat, k ≤ zs.length ∧ i = .int .i64 k ∧ Below w.heap.size w wr ∧ wr.ownsRow w.heap.size 5 1 v (4 * k) ((bytesLL (zs.take k)).map (Value.int .u8))) (fun _ i _ => zs.length - (intOf i).toNat)
  case atStart => exact ⟨0, Nat.zero_le _, rfl, Below.refl _ _, by simpa [bytesLL] using World.ownsRow_nil w w.heap.size 5 1⟩
  case round =>
    obtain ⟨k, hk, rfl, hb, hown⟩ := hrel
    by_cases hlt : k < zs.length
    · obtain ⟨rfl, hbn, _, _⟩ := hopen (by omega)
      have hck : wr.cell? ⟨b, off + k, none⟩ = some (.int .u32 (zs.getD k 0)) := (hb.cell (p := ⟨b, off + k, none⟩) hbn).trans (hc k hlt)
      obtain ⟨hx0, hx1⟩ := hz _ (List.getElem_mem hlt)
      rw [← getD_at _ _ hlt] at hx0 hx1
      obtain ⟨x, hx⟩ : ∃ x : Nat, zs.getD k 0 = x := ⟨_, (Int.toNat_of_nonneg hx0).symm⟩
      rw [hx] at hck
      have HX := Lib.hid hx
      have hxl : x < 4294967296 := by omega
      have hs := hb.size
      have HC := Lib.hid hc
      clear hx hx0 hx1 hc
      have hn := Lib.hid (bytes_news (wr.alloc (bytesO x)) x 65)
      rw [World.size_alloc] at hn
      have hb2 := bytes_below hb x
      go_wp2_with (first
        | (go_at_call 27; refine (bytes_any x _ (by omega)).mono ?_; rintro e w1 ⟨rfl, rfl⟩)
        | (at_builtin; refine held ?_))
      unfold Held
      refine wpList_append_own _ rfl _ _ 42 rfl w.heap.size 5 i0 (.int .u8 0) 1 1 Try.underlying42 hi hz0 hz1 hz2 rfl (by decide) _ (4 * k) _ (by rfl) ((hown.alloc _).alloc _) ⟨wr.heap.size + 1, 0, none⟩ 4 4 ((bytesL x).map (Value.int .u8)) (by rfl) rfl hn (bytes_one x) (by simp only [maxLen]; omega) (by omega) (by simp; omega) ?_
      intro v' w1 hown' hgrow hnil
      have hb3 := hb2.grown hgrow (by simp; omega) (fun g hg => (hown.lt g hg).1)
      clear hn hb2
      go_wp2
      go_roundw
      case rel =>
        refine ⟨k + 1, by omega, by go_num, hb3, ?_⟩
        rw [take_succ_getD _ _ hlt, bytesLL_snoc, List.map_append, show zs.getD k 0 = (x : Int) from HX]
        exact hown'
      case measure => simp [intOf]; omega
    · obtain rfl : k = zs.length := by omega
      go_wp2
      go_ret
      rw [List.take_length] at hown
      exact ⟨_, rfl, hb, hown⟩
set_option maxHeartbeats 1000000 in
theorem refbytes_any (x : Nat) (w : World) (hx : x < 4294967296) :
    Calls Try.prog 28 #[.int .u32 x] w fun e w' => e = .returned (.slice (some ⟨w.heap.size, 0, none⟩) 4 4) ∧
      w' = w.alloc (.cells #[.int .u8 ((x : Int) % 256), .int .u8 ((x : Int) / 256 % 256), .int .u8 ((x : Int) / 65536 % 256), .int .u8 ((x : Int) / 16777216)] 5) := by
  go_enter Try.func28, Try.ntmps28
  go_wp2
  go_ret
  exact ⟨rfl, rfl⟩
set_option maxRecDepth 100000 in
set_option maxHeartbeats 1000000 in
theorem refall_any (a : Option Addr) (len cap : Nat) (zs : List Int) (w : World) (hr : RowI .u32 w.heap.size w (.slice a len cap) zs) (hz : ∀ z ∈ zs, 0 ≤ z ∧ z < 4294967296) (hsm : zs.length ≤ 1000000000000) :
    Calls Try.prog 30 #[.slice a len cap] w fun e w' => ∃ v, e = .returned v ∧ Below w.heap.size w w' ∧ w'.ownsRow w.heap.size 5 1 v (4 * len) ((bytesLL zs).map (Value.int .u8)) := by
  obtain ⟨i0, hi, hz0, hz1, hz2⟩ := info_parts info_u8
  obtain ⟨hlen, b, off, hopen, hc⟩ := hr.open
  subst hlen
  go_enter Try.func30, Try.ntmps30
  go_wp2
  go_loopw [3, 4] (fun v i wr => ∃ k : Nat, k ≤ zs.length ∧ i = .int .i64 k ∧ Below w.heap.size w wr ∧ wr.ownsRow w.heap.size 5 1 v (4 * k) ((bytesLL (zs.take k)).map (Value.int .u8))) (fun _ i _ => zs.length - (intOf i).toNat)
  case atStart => exact ⟨0, Nat.zero_le _, rfl, Below.refl _ _, by simpa [bytesLL] using World.ownsRow_nil w w.heap.size 5 1⟩
  case round =>
    obtain ⟨k, hk, rfl, hb, hown⟩ := hrel
    by_cases hlt : k < zs.length
    · obtain ⟨rfl, hbn, _, _⟩ := hopen (by omega)
      have hck : wr.cell? ⟨b, off + k, none⟩ = some (.int .u32 (zs.getD k 0)) := (hb.cell (p := ⟨b, off + k, none⟩) hbn).trans (hc k hlt)
      obtain ⟨hx0, hx1⟩ := hz _ (List.getElem_mem hlt)
      rw [← getD_at _ _ hlt] at hx0 hx1
      obtain ⟨x, hx⟩ : ∃ x : Nat, zs.getD k 0 = x := ⟨_, (Int.toNat_of_nonneg hx0).symm⟩
      rw [hx] at hck
      have HX := Lib.hid hx
      have hxl : x < 4294967296 := by omega
      have hs := hb.size
      have HC := Lib.hid hc
      clear hx hx0 hx1 hc
      have hn := Lib.hid (bytes_news wr x 5)
      have hb2 : Below w.heap.size w (wr.alloc (.cells #[.int .u8 ((x : Int) % 256), .int .u8 ((x : Int) / 256 % 256), .int .u8 ((x : Int) / 65536 % 256), .int .u8 ((x : Int) / 16777216)] 5)) := hb.alloc hs _
      go_wp2_with (first
        | (go_at_call 28; refine (refbytes_any x _ (by omega)).mono ?_; rintro e w1 ⟨rfl, rfl⟩)
        | (at_builtin; refine held ?_))
      unfold Held
      refine wpList_append_own _ rfl _ _ 42 rfl w.heap.size 5 i0 (.int .u8 0) 1 1 Try.underlying42 hi hz0 hz1 hz2 rfl (by decide) _ (4 * k) _ (by rfl) (hown.alloc _) ⟨wr.heap.size, 0, none⟩ 4 4 ((bytesL x).map (Value.int .u8)) (by rfl) rfl hn (bytes_one x) (by simp only [maxLen]; omega) (by omega) (by simp; omega) ?_
      intro v' w1 hown' hgrow hnil
      have hb3 := hb2.grown hgrow (by simp; omega) (fun g hg => (hown.lt g hg).1)
      clear hn hb2
      go_wp2
      go_roundw
      case rel =>
        refine ⟨k + 1, by omega, by go_num, hb3, ?_⟩
        rw [take_succ_getD _ _ hlt, bytesLL_snoc, List.map_append, show zs.getD k 0 = (x : Int) from HX]
        exact hown'
      case measure => simp [intOf]; omega
    · obtain rfl : k = zs.length := by omega
      go_wp2
      go_ret
      rw [List.take_length] at hown
      exact ⟨_, rfl, hb, hown⟩
theorem below_drewN {n : Nat} {w w' : World} (h : Below n w w') (k : Nat) : Below n w (w'.drewN k) := ⟨h.os, h.tape, h.output, h.size, h.block⟩
theorem getD_eq_iff (xs ys : List Int) (h : xs.length = ys.length) : xs = ys ↔ ∀ i, i < xs.length → xs.getD i 0 = ys.getD i 0 := by
  constructor
  · rintro rfl i _; rfl
  · intro he
    apply List.ext_getElem h
    intro i h1 h2
    have := he i h1
    rwa [getD_at _ _ h1, getD_at _ _ h2] at this
set_option maxRecDepth 100000 in
set_option maxHeartbeats 1000000 in
theorem same_any (a c : Option Addr) (len cap len2 cap2 : Nat) (xs ys : List Int) (w : World) (hr : RowI .u32 w.heap.size w (.slice a len cap) xs) (hr2 : RowI .u32 w.heap.size w (.slice c len2 cap2) ys) (hs1 : xs.length ≤ 1000000000000) :
    Calls Try.prog 26 #[.slice a len cap, .slice c len2 cap2] w fun e w' => e = .returned (.bool (decide (xs = ys))) ∧ Below w.heap.size w w' := by
  obtain ⟨hlen, b, off, hopen, hc⟩ := hr.open
  obtain ⟨hlen2, b2, off2, hopen2, hc2⟩ := hr2.open
  subst hlen hlen2
  have hb := Below.refl w.heap.size w
  go_enter Try.func26, Try.ntmps26
  by_cases hl : xs.length = ys.length
  · have hq : ((xs.length : Int) != (ys.length : Int)) = false := by simp [hl]
    have HL := Lib.hid hl
    clear hl
    go_wp2
    go_loopw [5] (fun i wr => ∃ k : Nat, k ≤ xs.length ∧ i = .int .i64 k ∧ Below w.heap.size w wr ∧ ∀ j, j < k → xs.getD j 0 = ys.getD j 0) (fun i _ => xs.length - (intOf i).toNat)
    case atStart => exact ⟨0, Nat.zero_le _, rfl, Below.refl _ _, fun j h => by omega⟩
    case round =>
      have hl : xs.length = ys.length := HL
      obtain ⟨k, hk, rfl, hb, hj⟩ := hrel
      by_cases hlt : k < xs.length
      · obtain ⟨rfl, hbn, _, _⟩ := hopen (by omega)
        obtain ⟨rfl, hbn2, _, _⟩ := hopen2 (by omega)
        have hck : wr.cell? ⟨b, off + k, none⟩ = some (.int .u32 (xs.getD k 0)) := (hb.cell (p := ⟨b, off + k, none⟩) hbn).trans (hc k hlt)
        have hck2 : wr.cell? ⟨b2, off2 + k, none⟩ = some (.int .u32 (ys.getD k 0)) := (hb.cell (p := ⟨b2, off2 + k, none⟩) hbn2).trans (hc2 k (by omega))
        have hlt2 : k < ys.length := by omega
        have HC := Lib.hid hc
        have HC2 := Lib.hid hc2
        have HJ := Lib.hid hj
        clear hl hc hc2 hj
        obtain ⟨x, hx⟩ : ∃ x, x = xs.getD k 0 := ⟨_, rfl⟩
        obtain ⟨y, hy⟩ : ∃ y, y = ys.getD k 0 := ⟨_, rfl⟩
        rw [← hx] at hck
        rw [← hy] at hck2
        have HX := Lib.hid hx
        have HY := Lib.hid hy
        clear hx hy
        by_cases he : x = y
        · have hq2 : (x != y) = false := by simp [he]
          have HE := Lib.hid he
          clear he
          go_wp2
          go_quiet (fail)
          go_wp2
          go_roundw
          case rel =>
            refine ⟨k + 1, by omega, by go_num, below_drewN hb _, fun j h => ?_⟩
            by_cases e : j = k
            · rw [e, ← show x = _ from HX, ← show y = _ from HY]; exact HE
            · exact HJ j (by omega)
          case measure => simp [intOf]; omega
        · have hq2 : (x != y) = true := by simpa using he
          have HE := Lib.hid he
          clear he
          go_wp2
          go_quiet (fail)
          go_wp2
          go_ret
          refine ⟨?_, below_drewN hb _⟩
          have hne : ¬ xs = ys := fun e => HE (by rw [show x = _ from HX, show y = _ from HY, e])
          simp [hne]
      · obtain rfl : k = xs.length := by omega
        go_wp2
        go_ret
        refine ⟨?_, hb⟩
        have he : xs = ys := (getD_eq_iff xs ys hl).2 hj
        simp [he]
  · have hq : ((xs.length : Int) != (ys.length : Int)) = true := by simp; omega
    have HL := Lib.hid hl
    clear hl
    go_wp2
    go_ret
    refine ⟨?_, hb⟩
    have hne : ¬ xs = ys := fun e => HL (by rw [e])
    simp [hne]
end Go.Proofs.Ytkagconllphdiaa
