/- The walk of the iterators slices.Chunk and word.fours. -/
import Derived.Test.YtdlhnipkhlihjaaRow
import Derived.RangeFuncBox
import Derived.RangeFuncLeaves
import Derived.Shelf.Abstract
import Derived.WalkKit
import Derived.OwnWalkIn
import Derived.TacticsInMore
import Derived.LoopNIn
import Derived.LoopIn
import Derived.BigFrameIn
import Derived.BigRegionIn
import Derived.Maps.AppendAt
import Derived.Test.YtdlhnipkhlihjaaBitsMath
import Derived.Lib.Hide
import Derived.Test.YtdlhnipkhlihjaaIter
import Derived.Test.YtdlhnipkhlihjaaRows
namespace Go.Proofs.Ytdlhnipkhlihjaa
open Go Go.RowKit Go.Shelf
attribute [local go_sem] Oper.semAt_some
set_option linter.unusedVariables false
set_option linter.unnecessarySimpa false
theorem val_int {k : IntKind} {a b : Int} (h : a = b) : Value.int k a = .int k b := by rw [h]
/-- the k-th chunk of four -/
def chunk : Value → Nat → Value
  | .slice (some a) len _, k => .slice (some (a.add (4 * k))) (min 4 (len - 4 * k)) (min 4 (len - 4 * k))
  | v, _ => v
set_option maxRecDepth 100000 in
set_option maxHeartbeats 4000000 in
theorem chunk1_iter (B1 B2 : Nat) (sv : Value) (zs : List Int) (w : World) (h1 : B1 < w.heap.size) (h2 : B2 < w.heap.size) (c1 : w.cell? ⟨B1, 0, none⟩ = some sv) (c2 : w.cell? ⟨B2, 0, none⟩ = some (.int .i64 4)) (hr : Row8 w.heap.size w sv zs) (hsm : zs.length ≤ 140737488351232) :
    Iter Try.prog 48 #[.pointer (some ⟨B1, 0, none⟩), .pointer (some ⟨B2, 0, none⟩)] (fun k : Nat => #[chunk sv k]) (fun b => b = B1 ∨ b = B2 ∨ blockOf sv b) (List.range ((zs.length + 3) / 4)) w := by
  intro l J Jx S0 W hW hJ hJx hlt hX hY h0
  have C1 : W.cell? ⟨B1, 0, none⟩ = some sv := (hW.cell (p := ⟨B1, 0, none⟩) h1).trans c1
  have C2 : W.cell? ⟨B2, 0, none⟩ = some (.int .i64 4) := (hW.cell (p := ⟨B2, 0, none⟩) h2).trans c2
  refine (callsIn_wide (n := 101)).1 ?_
  rcases hr with ⟨⟨a, cap, rfl, rfl⟩ | ⟨b, off, cap, rfl, hb, hle, hcap, hc⟩, hz⟩
  · refine callsIn_of_wp Try.func48 rfl trivial ?_ rfl
    simp only [Try.ntmps48, List.size_toArray, List.length_cons, List.length_nil, Nat.reduceAdd, Nat.reduceSub, Array.replicate_succ, Array.replicate_zero, List.push_toArray, List.append_toArray, List.nil_append, List.cons_append]
    gi_wp2
    gi_loopw [4] (fun i wr => i = .int .i64 0 ∧ J 0 S0 wr ∧ wr.cell? ⟨B1, 0, none⟩ = some (.slice a 0 cap)) (fun _ _ => 0)
    case atStart => exact ⟨rfl, h0, C1⟩
    case round =>
      obtain ⟨rfl, hJs, hc1⟩ := hrel
      gi_wp2
      go_end0
      exact ⟨⟨_, rfl⟩, .inl ⟨S0, by simpa using hJs⟩⟩
  · have hlen : (⟨b, off, none⟩ : Addr).block = b := rfl
    have C2' : ∀ j, j < zs.length → W.cell? ⟨b, off + j, none⟩ = some (.int .u8 (zs.getD j 0)) := fun j hj => (hW.cell (p := ⟨b, off + j, none⟩) hb).trans (hc j hj)
    have x1 : ¬ S0 B1 := hX _ (.inl rfl)
    have x2 : ¬ S0 B2 := hX _ (.inr (.inl rfl))
    have hWs := hW.size
    refine callsIn_of_wp Try.func48 rfl trivial ?_ rfl
    simp only [Try.ntmps48, List.size_toArray, List.length_cons, List.length_nil, Nat.reduceAdd, Nat.reduceSub, Array.replicate_succ, Array.replicate_zero, List.push_toArray, List.append_toArray, List.nil_append, List.cons_append]
    gi_wp2
    gi_loopw [4] (fun i wr => ∃ (k : Nat) (S : Nat → Prop), i = .int .i64 (4 * (k : Int)) ∧ k ≤ (zs.length + 3) / 4 ∧ J k S wr ∧ Wr S0 S W wr) (fun i _ => (zs.length + 4) - (intOf i).toNat)
    case atStart => exact ⟨0, S0, rfl, Nat.zero_le _, h0, Wr.refl _ _⟩
    case round =>
      obtain ⟨k, S, rfl, hk, hJs, hw⟩ := hrel
      have hc1 : wr.cell? ⟨B1, 0, none⟩ = some (.slice (some ⟨b, off, none⟩) zs.length cap) := cell_same (hw.block _ (by show B1 < _; omega) x1) C1
      have hc2 : wr.cell? ⟨B2, 0, none⟩ = some (.int .i64 4) := cell_same (hw.block _ (by show B2 < _; omega) x2) C2
      by_cases hlt : 4 * k < zs.length
      · have t1 : decide (4 * (k : Int) < ((zs.length : Nat) : Int)) = true := by simp; omega
        have hmin : (if ((zs.length - 4 * k : Nat) : Int) < 4 then ((zs.length - 4 * k : Nat) : Int) else 4) = ((min 4 (zs.length - 4 * k) : Nat) : Int) := by split <;> omega
        gi_wp2
        gi_region
        obtain ⟨m, hm⟩ : ∃ m, m = min 4 (zs.length - 4 * k) := ⟨_, rfl⟩
        rw [← hm]
        have hk2 : k < (List.range ((zs.length + 3) / 4)).length := by simp; omega
        obtain ⟨fn, tmps, assign, body, hy, hR⟩ := hY k hk2 S wr.drew (hJ k S wr _ hJs ⟨rfl, rfl, rfl, Nat.le_refl _, fun _ _ => rfl⟩)
        rw [show (List.range ((zs.length + 3) / 4))[k] = k from by simp] at hy
        simp only [chunk, Addr.add_lit, ← hm] at hy
        have hc1d : wr.drew.cell? ⟨B1, 0, none⟩ = some (.slice (some ⟨b, off, none⟩) zs.length cap) := hc1
        have hc2d : wr.drew.cell? ⟨B2, 0, none⟩ = some (.int .i64 4) := hc2
        have m1 : 4 * k + m ≤ zs.length := by omega
        have m2 : m ≤ 4 := by omega
        have m3 : 4 * k + m ≤ cap := by omega
        have m4 : ¬ m = 0 := by omega
        have hwS := hw.size
        have hwd : Wr S0 S W wr.drew := hw.drew
        clear hmin hc1 hc2 hm
        gi_wp2
        refine hR.mono ?_
        rintro e W3 (⟨rfl, S', hJ3, hw3⟩ | ⟨rfl, S', hJx3, hw3⟩)
        · have hw' := hwd.trans hw3
          have hc23 : W3.cell? ⟨B2, 0, none⟩ = some (.int .i64 4) := cell_same (hw'.block _ (by show B2 < _; omega) x2) C2
          gi_wp2
          go_roundw
          case rel => exact ⟨k + 1, S', by congr 1, by omega, hJ3, hw'⟩
          case measure => simp [intOf]; omega
        · gi_wp2
          refine bodyPost_ret (results_none rfl _ _ _) rfl ?_
          exact ⟨⟨_, rfl⟩, .inr ⟨k + 1, S', hk2, hJx3⟩⟩
      · have t1 : decide (4 * (k : Int) < ((zs.length : Nat) : Int)) = false := by simp; omega
        gi_wp2
        go_end0
        obtain rfl : k = (zs.length + 3) / 4 := by omega
        exact ⟨⟨_, rfl⟩, .inl ⟨S, by simpa using hJs⟩⟩
set_option maxHeartbeats 1000000 in
theorem chunk_in (F : Fence) (n : Nat) (hF : F.fn 45) (hro : F.round = none) (a : Option Addr) (len cap : Nat) (w : World) :
    CallsIn F n Try.prog 45 #[.slice a len cap, .int .i64 4] w fun e w' =>
      e = .returned (.func (.func 48) #[] #[.pointer (some ⟨w.heap.size, 0, none⟩), .pointer (some ⟨w.heap.size + 1, 0, none⟩)]) ∧
      w' = (w.alloc (.cells #[.slice a len cap] 25)).alloc (.cells #[.int .i64 4] 3) := by
  refine callsIn_of_wp Try.func45 rfl hF ?_ hro
  simp only [Try.ntmps45, List.size_toArray, List.length_cons, List.length_nil, Nat.reduceAdd, Nat.reduceSub, Array.replicate_succ, Array.replicate_zero, List.push_toArray, List.append_toArray, List.nil_append, List.cons_append]
  gi_wp2
  go_ret
  exact ⟨by simp, rfl⟩
set_option maxHeartbeats 1000000 in
theorem fours_in (F : Fence) (n : Nat) (hF : F.fn 41) (hro : F.round = none) (a : Option Addr) (len cap : Nat) (w : World) :
    CallsIn F n Try.prog 41 #[.slice a len cap] w fun e w' =>
      e = .returned (.func (.func 44) #[] #[.pointer (some ⟨w.heap.size, 0, none⟩)]) ∧ w' = w.alloc (.cells #[.slice a len cap] 25) := by
  refine callsIn_of_wp Try.func41 rfl hF ?_ hro
  simp only [Try.ntmps41, List.size_toArray, List.length_cons, List.length_nil, Nat.reduceAdd, Nat.reduceSub, Array.replicate_succ, Array.replicate_zero, List.push_toArray, List.append_toArray, List.nil_append, List.cons_append]
  gi_wp2
  go_ret
  exact ⟨rfl, rfl⟩
/-- the word of bytes, the lowest first: so many from one on -/
def leW (zs : List Int) (b : Nat) : Nat → Nat
  | 0 => 0
  | i + 1 => leW zs b i + 256 ^ i * (zs.getD (b + i) 0).toNat
theorem leW_lt (zs : List Int) (hz : ∀ z ∈ zs, 0 ≤ z ∧ z ≤ 255) (b i : Nat) : leW zs b i < 256 ^ i := by
  induction i with
  | zero => simp [leW]
  | succ i ih =>
    have hC : (zs.getD (b + i) 0).toNat ≤ 255 := by
      by_cases h : b + i < zs.length
      · have := hz _ (List.getElem_mem h)
        rw [show zs.getD (b + i) 0 = zs[b + i] from by simp [List.getD, List.getElem?_eq_getElem h]]; omega
      · rw [show zs.getD (b + i) 0 = 0 from by simp [List.getD, List.getElem?_eq_none (Nat.le_of_not_lt h)]]; simp
    have : 256 ^ i * (zs.getD (b + i) 0).toNat ≤ 256 ^ i * 255 := Nat.mul_le_mul_left _ hC
    simp only [leW, Nat.pow_succ]; omega
theorem or_byte (X C j : Nat) (hj : j < 4) (hX : X < 256 ^ j) (hC : C ≤ 255) : bits .or .u32 (X : Int) ((C : Int) * 2 ^ (8 * j) % 4294967296) = ((X + 256 ^ j * C : Nat) : Int) := by
  have e : (256 : Nat) ^ j = 2 ^ (8 * j) := by rw [Nat.pow_mul]
  have h1 : 256 ^ j * C ≤ 256 ^ j * 255 := Nat.mul_le_mul_left _ hC
  have h2 : (256 : Nat) ^ (j + 1) ≤ 256 ^ 4 := Nat.pow_le_pow_right (by decide) hj
  rw [Nat.pow_succ] at h2
  have h4 : 256 ^ j * C < 4294967296 := by omega
  rw [show (C : Int) * 2 ^ (8 * j) = ((256 ^ j * C : Nat) : Int) from by rw [Nat.mul_comm, e]; simp [Nat.mul_comm], show ((256 ^ j * C : Nat) : Int) % 4294967296 = ((256 ^ j * C : Nat) : Int) from by omega,
    or_u32 X _ (by omega) h4]
  congr 1
  rw [Nat.or_comm, Nat.add_comm, e]
  exact (Nat.two_pow_add_eq_or_of_lt (by rw [← e]; exact hX) C).symm
/-- what fours tells of its k-th four -/
def fourV (zs : List Int) (k : Nat) : Array Value := #[.int .u32 (leW zs (4 * k) (min 4 (zs.length - 4 * k))), .bool (decide (4 * k + 4 ≤ zs.length))]
set_option maxRecDepth 100000 in
set_option maxHeartbeats 4000000 in
theorem fours1_iter (B1 : Nat) (sv : Value) (zs : List Int) (w : World) (h1 : B1 < w.heap.size) (c1 : w.cell? ⟨B1, 0, none⟩ = some sv) (hr : Row8 w.heap.size w sv zs) (hsm : zs.length ≤ 140737488351232) :
    Iter Try.prog 44 #[.pointer (some ⟨B1, 0, none⟩)] (fourV zs) (fun b => b = B1 ∨ blockOf sv b) (List.range ((zs.length + 3) / 4)) w := by
  intro l J Jx S0 W hW hJ hJx hlt hX hY h0
  have C1 : W.cell? ⟨B1, 0, none⟩ = some sv := (hW.cell (p := ⟨B1, 0, none⟩) h1).trans c1
  have hWs := hW.size
  have hrW : Row8 w.heap.size W sv zs := hr.same fun b hb => hW.block b (hr.lt b hb)
  obtain ⟨a, cap, hsv⟩ := hr.slice
  refine (callsIn_wide (n := 101)).1 ?_
  refine callsIn_of_wp_marks Try.func44 rfl trivial ?_ rfl
  simp only [Try.ntmps44, List.size_toArray, List.length_cons, List.length_nil, Nat.reduceAdd, Nat.reduceSub, Array.replicate_succ, Array.replicate_zero, List.push_toArray, List.append_toArray, List.nil_append, List.cons_append]
  have C1a : W.cell? ⟨B1, 0, none⟩ = some (.slice a zs.length cap) := by rw [C1, hsv]
  have C1b : (W.alloc (.cells #[.func (.yield l) #[] #[]] 77)).cell? ⟨B1, 0, none⟩ = some (.slice a zs.length cap) := (((Below.refl _ W).alloc (Nat.le_refl _) _).cell (p := ⟨B1, 0, none⟩) (by show B1 < _; omega)).trans C1a
  have hch : Fence.wide.fn 45 := trivial
  gi_wp2_with (gi_at_call 45; refine (chunk_in Fence.wide _ trivial rfl _ _ _ _).mono ?_; rintro e w' ⟨rfl, rfl⟩)
  clear hch C1b
  subst hsv
  obtain ⟨W3, hW3⟩ : ∃ W3, W3 = ((W.alloc (.cells #[.func (.yield l) #[] #[]] 77)).alloc (.cells #[.slice a zs.length cap] 25)).alloc (.cells #[.int .i64 4] 3) := ⟨_, rfl⟩
  have sz : W3.heap.size = W.heap.size + 3 := by rw [hW3]; simp
  have bW : Below W.heap.size W W3 := by rw [hW3]; exact (((Below.refl _ W).alloc (Nat.le_refl _) _).alloc (by simp) _).alloc (by simp; omega) _
  have cY : W3.cell? ⟨W.heap.size, 0, none⟩ = some (.func (.yield l) #[] #[]) := by
    rw [hW3]
    exact ((((Below.refl _ _).alloc (Nat.le_refl _) _).alloc (by simp) _).cell (p := ⟨W.heap.size, 0, none⟩) (by simp)).trans (World.cell?_alloc_mark ..)
  have cB : W3.cell? ⟨W.heap.size + 1, 0, none⟩ = some (.slice a zs.length cap) := by
    rw [hW3]
    refine (((Below.refl _ _).alloc (Nat.le_refl _) _).cell (p := ⟨W.heap.size + 1, 0, none⟩) (by simp)).trans ?_
    have := World.cell?_alloc_mark (W.alloc (.cells #[.func (.yield l) #[] #[]] 77)) #[.slice a zs.length cap] 25 (0, 0) 0
    simpa using this
  have cN : W3.cell? ⟨W.heap.size + 1 + 1, 0, none⟩ = some (.int .i64 4) := by
    rw [hW3]
    have := World.cell?_alloc_mark ((W.alloc (.cells #[.func (.yield l) #[] #[]] 77)).alloc (.cells #[.slice a zs.length cap] 25)) #[.int .i64 4] 3 (0, 0) 0
    simpa using this
  rw [← hW3]
  have hr3 : Row8 W3.heap.size W3 (.slice a zs.length cap) zs := (hrW.same fun b hb => bW.block b (by have := hr.lt b hb; omega)).mono (by omega)
  have s0 := hlt 0 S0 W h0
  refine range_law (gf := 48) rfl (enters_of Try.func48 (by kernel_rfl) rfl)
    (chunk1_iter (W.heap.size + 1) (W.heap.size + 1 + 1) _ zs W3 (by omega) (by omega) cB cN hr3 hsm) (fun _ => rfl)
    (fun k S A => J k S A ∧ A.cell? ⟨W.heap.size, 0, none⟩ = some (.func (.yield l) #[] #[]) ∧ ¬ S W.heap.size ∧ (∀ b, blockOf (.slice a zs.length cap) b → ¬ S b ∧ A.heap[b]? = W3.heap[b]?))
    (fun c k S A => c = .ret ∧ Jx k S A) S0 ?hX ?hI ?hIx ?hlt ?h0
    (fun k => { tmps := #[.func (.yield l) #[] #[], .pointer (some ⟨B1, 0, none⟩), .pointer (some ⟨W.heap.size, 0, none⟩), chunk (.slice a zs.length cap) k, undef, undef, undef, .slice a zs.length cap,
      .func (.func 48) #[] #[.pointer (some ⟨W.heap.size + 1, 0, none⟩), .pointer (some ⟨W.heap.size + 1 + 1, 0, none⟩)], chunk (.slice a zs.length cap) k,
      undef, undef, undef, undef, undef, undef, undef, undef, undef, undef, undef, undef, undef, undef, undef, undef, undef, undef, undef, undef, undef, undef], defers := [] }) ?assign ?body ?done ?stop
  case hX =>
    rintro b (rfl | rfl | hb)
    · exact ⟨by omega, fun h => by have := s0 _ h; omega⟩
    · exact ⟨by omega, fun h => by have := s0 _ h; omega⟩
    · exact ⟨by have := hr.lt b hb; omega, hX _ (.inr hb)⟩
  case hI =>
    rintro k S A A' ⟨hj, hc, hn, hb⟩ hs
    exact ⟨hJ _ _ _ _ hj (hs.mono fun b hb => hb.elim (fun h => .inl (by omega)) .inr), cell_same (hs.block _ (.inl (by show W.heap.size < _; omega))) hc, hn,
      fun b h => ⟨(hb b h).1, (hs.block b (.inl (by have := hr.lt b h; omega))).trans (hb b h).2⟩⟩
  case hIx =>
    rintro c k S A A' ⟨hc, hj⟩ hs
    exact ⟨hc, hJx _ _ _ _ hj (hs.mono fun b hb => hb.elim (fun h => .inl (by omega)) .inr)⟩
  case hlt =>
    rintro k S A ⟨hj, _⟩
    exact hlt _ _ _ hj
  case h0 =>
    exact ⟨hJ _ _ _ _ h0 ((SameOn.of_below bW).mono fun b hb => hb.elim id (s0 b)), cY, fun h => by have := s0 _ h; omega, fun b hb => ⟨hX _ (.inr hb), rfl⟩⟩
  case assign =>
    intro l' k A K hK
    gi_wp2
    exact hK
  case body =>
    rintro l' k hk S A ⟨hj, hcY, hnY, hbk⟩
    have hz := hr.2
    rw [show (List.range ((zs.length + 3) / 4))[k] = k from by simp]
    have hN : k < (zs.length + 3) / 4 := by simpa using hk
    rcases hr3.1 with ⟨a', cp', h, rfl⟩ | ⟨b, off, cp, h, hb, hle, hcap, hc⟩
    · simp at hN
    injection h with h2 _ h3
    subst h2; subst h3
    have hcA : ∀ j, j < zs.length → A.cell? ⟨b, off + j, none⟩ = some (.int .u8 (zs.getD j 0)) := fun j hj2 => cell_same (p := ⟨b, off + j, none⟩) (hbk b ⟨by omega, rfl⟩).2 (hc j hj2)
    obtain ⟨fn, tmps, assign, body, hy, hR⟩ := yield_any (l' := l') (m' := 99) (hY k hk S A hj)
    rw [show (List.range ((zs.length + 3) / 4))[k] = k from by simp] at hy
    simp only [chunk, Addr.add_lit, fourV] at hy ⊢
    obtain ⟨m, hm⟩ : ∃ m, m = min 4 (zs.length - 4 * k) := ⟨_, rfl⟩
    rw [← hm] at hy ⊢
    have m1 : 4 * k + m ≤ zs.length := by omega
    have m2 : m ≤ 4 := by omega
    have m4 : 1 ≤ m := by omega
    have hq : ((m : Int) == 4) = decide (4 * k + 4 ≤ zs.length) := by
      rw [Bool.eq_iff_iff]; simp; omega
    clear hm
    gi_wp2
    gi_loopw [4, 12] (fun a i wr => ∃ j : Nat, j ≤ m ∧ i = .int .i64 j ∧ a = .int .u32 (leW zs (4 * k) j) ∧ wr = A) (fun _ i _ => m - (intOf i).toNat)
    case atStart => exact ⟨0, Nat.zero_le _, rfl, rfl, rfl⟩
    case round =>
      obtain ⟨j, hj, rfl, rfl, rfl⟩ := hrel
      by_cases hlt : j < m
      · have hcj := hcA (4 * k + j) (by omega)
        rw [← Nat.add_assoc] at hcj
        obtain ⟨C, hC, hC2⟩ : ∃ C : Nat, zs.getD (4 * k + j) 0 = C ∧ C ≤ 255 := by
          have h := hz (zs[4 * k + j]'(by omega)) (List.getElem_mem _)
          exact ⟨(zs[4 * k + j]'(by omega)).toNat, by simp [List.getD, List.getElem?_eq_getElem (show 4 * k + j < zs.length by omega)]; omega, by omega⟩
        rw [hC] at hcj
        have h8 : 8 * (j : Int) ≤ 24 := by omega
        have hl := leW_lt zs hr.2 (4 * k) j
        have hC3 := Lib.hid hC
        clear hC
        gi_wp2
        refine ⟨⟨j + 1, by omega, by simp, val_int ?_, trivial⟩, by simp [intOf]; omega⟩
        rw [or_byte _ _ j (by omega) hl hC2]
        have hC : zs.getD (4 * k + j) 0 = C := hC3
        simp only [leW, hC, Int.toNat_natCast]
      · obtain rfl : j = m := by omega
        gi_wp2
        refine hR.mono ?_
        have hlA : W.heap.size < wr.heap.size := World.block_lt_of_cell? wr _ hcY
        rintro e W4 (⟨rfl, S', hJ4, hw4⟩ | ⟨rfl, S', hJx4, hw4⟩)
        · gi_wp2
          exact ⟨S', ⟨hJ4, cell_same (hw4.block _ hlA hnY) hcY, fun h => (hw4.new _ h).elim hnY (fun h => by omega), fun x hx => by
            have h1 := hr.lt x hx
            exact ⟨fun h => (hw4.new _ h).elim (hbk x hx).1 (fun h => by omega), (hw4.block x (by omega) (hbk x hx).1).trans (hbk x hx).2⟩⟩, hw4⟩
        · gi_wp2
          exact ⟨S', ⟨rfl, hJx4⟩, hw4⟩
  case done =>
    rintro D S A hD hS ⟨hj, _⟩ hK
    refine ⟨by simp, .inl ⟨_, _, rfl, run_takeDeferred hK, ?_⟩⟩
    refine ⟨_, results_none rfl _ _ _, ⟨_, rfl⟩, .inl ⟨S, ?_⟩⟩
    exact hJ _ _ _ _ (by simpa using hj) (SameOn.putObj _ _ _ (fun h => h.elim (fun h => by omega) hS))
  case stop =>
    rintro D c k S A hD hS hk ⟨rfl, hj⟩ hK
    gi_wp2
    refine ⟨by simp, .inl ⟨_, _, rfl, run_takeDeferred hK, ?_⟩⟩
    refine ⟨_, results_none rfl _ _ _, ⟨_, rfl⟩, .inr ⟨k, S, hk, ?_⟩⟩
    exact hJx _ _ _ _ hj (SameOn.putObj _ _ _ (fun h => h.elim (fun h => by omega) hS))
end Go.Proofs.Ytdlhnipkhlihjaa
