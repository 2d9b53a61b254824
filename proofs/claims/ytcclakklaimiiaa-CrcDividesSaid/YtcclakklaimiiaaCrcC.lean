/- The walk of the iterator crc.halves. -/
import Derived.Test.YtcclakklaimiiaaCrcB
import Derived.Test.YtcclakklaimiiaaIter
import Derived.RangeFuncBox
import Derived.RangeFuncLeaves
import Derived.Shelf.Abstract
import Derived.OwnWalkIn
import Derived.TacticsInMore
import Derived.LoopNIn
import Derived.LoopIn
import Derived.BigFrameIn
import Derived.BigRegionIn
import Derived.Maps.AppendAt
namespace Go.Proofs.Ytcclakklaimiiaa
open Go Go.RowKit
attribute [local go_sem] Oper.semAt_some
set_option linter.unusedVariables false
set_option linter.unnecessarySimpa false
theorem wide_none : ∀ f : FuncId, none = some f → Fence.wide.fn f := fun f h => by cases h
/-- half bytes, the lower one of each first -/
def halvesL (zs : List Int) : List Nat := zs.flatMap fun z => [z.toNat % 16, z.toNat / 16]
theorem halvesL_length (zs : List Int) : (halvesL zs).length = 2 * zs.length := by
  induction zs with
  | nil => rfl
  | cons z r ih => simp only [halvesL, List.flatMap_cons, List.length_append, List.length_cons, List.length_nil] at ih ⊢; omega
theorem halvesL_at (zs : List Int) : ∀ k (h : k < zs.length), (halvesL zs)[2 * k]? = some (zs[k].toNat % 16) ∧ (halvesL zs)[2 * k + 1]? = some (zs[k].toNat / 16) := by
  induction zs with
  | nil => intro k h; simp at h
  | cons z r ih =>
    intro k h
    have e : halvesL (z :: r) = [z.toNat % 16, z.toNat / 16] ++ halvesL r := rfl
    rw [e]
    cases k with
    | zero => exact ⟨rfl, rfl⟩
    | succ k =>
      have := ih k (by simpa using h)
      rw [List.getElem?_append_right (by simp; omega), List.getElem?_append_right (by simp; omega)]
      simp only [List.length_cons, List.length_nil, List.getElem_cons_succ]
      rw [show 2 * (k + 1) - (0 + 1 + 1) = 2 * k by omega, show 2 * (k + 1) + 1 - (0 + 1 + 1) = 2 * k + 1 by omega]
      exact this
set_option maxHeartbeats 1000000 in
theorem halves_in (F : Fence) (n : Nat) (hF : F.fn 24) (hro : F.round = none) (a : Option Addr) (len cap : Nat) (w : World) :
    CallsIn F n Try.prog 24 #[.slice a len cap] w fun e w' =>
      e = .returned (.func (.func 36) #[] #[.pointer (some ⟨w.heap.size, 0, none⟩)]) ∧ w' = w.alloc (.cells #[.slice a len cap] 28) := by
  refine callsIn_of_wp Try.func24 rfl hF ?_ hro
  simp only [Try.ntmps24, List.size_toArray, List.length_cons, List.length_nil, Nat.reduceAdd, Nat.reduceSub, Array.replicate_succ, Array.replicate_zero, List.push_toArray, List.append_toArray, List.nil_append, List.cons_append]
  gi_wp2
  go_ret
  exact ⟨rfl, rfl⟩
set_option maxRecDepth 100000 in
set_option maxHeartbeats 4000000 in
theorem halves1_iter (B1 : Nat) (sv : Value) (zs : List Int) (w : World) (h1 : B1 < w.heap.size) (c1 : w.cell? ⟨B1, 0, none⟩ = some sv) (hr : Row8 w.heap.size w sv zs) (hsm : zs.length ≤ 140737488351232) :
    Iter Try.prog 36 #[.pointer (some ⟨B1, 0, none⟩)] (fun h : Nat => #[.int .u32 (h : Int)]) (fun b => b = B1 ∨ blockOf sv b) (halvesL zs) w := by
  intro l J Jx S0 W hW hJ hJx hlt hX hY h0
  have C1 : W.cell? ⟨B1, 0, none⟩ = some sv := (hW.cell (p := ⟨B1, 0, none⟩) h1).trans c1
  have hWs := hW.size
  have hN := halvesL_length zs
  obtain ⟨a, cap, rfl⟩ := hr.slice
  have hrW : Row8 w.heap.size W (.slice a zs.length cap) zs := hr.same fun b hb => hW.block b (hr.lt b hb)
  have x1 : ¬ S0 B1 := hX _ (.inl rfl)
  refine (callsIn_wide (n := 101)).1 ?_
  refine callsIn_of_wp Try.func36 rfl trivial ?_ rfl
  simp only [Try.ntmps36, List.size_toArray, List.length_cons, List.length_nil, Nat.reduceAdd, Nat.reduceSub, Array.replicate_succ, Array.replicate_zero, List.push_toArray, List.append_toArray, List.nil_append, List.cons_append]
  refine wideScope ?_
  gi_wp2
  refine wpIn_label ?_
  gi_wp2
  gi_loopw [4, 7] (fun _ i wr => ∃ (k : Nat) (S : Nat → Prop), i = .int .i64 (k : Int) ∧ k ≤ zs.length ∧ J (2 * k) S wr ∧ Wr S0 S W wr) (fun _ i _ => zs.length - (intOf i).toNat)
  case atStart => exact ⟨0, S0, rfl, Nat.zero_le _, h0, Wr.refl _ _⟩
  case round =>
    obtain ⟨k, S, rfl, hk, hJs, hw⟩ := hrel
    by_cases hlt : k < zs.length
    · have t1 : decide ((k : Int) < ((zs.length : Nat) : Int)) = true := by simp; omega
      obtain ⟨hz, b, off, hO, hc⟩ := hrW.1.open
      obtain ⟨rfl, hb, hle, hcap⟩ := hO (by omega)
      clear hO
      have hck : wr.cell? ⟨b, off + k, none⟩ = some (.int .u8 (zs.getD k 0)) := cell_same (p := ⟨b, off + k, none⟩) (hw.block _ (by show b < _; omega) (hX _ (.inr (by exact ⟨(by omega : 0 < zs.length), rfl⟩)))) (hc k hlt)
      obtain ⟨c, hc0, hc1⟩ : ∃ c : Nat, zs[k] = (c : Int) ∧ c ≤ 255 := by
        have h := hr.2 _ (List.getElem_mem hlt)
        exact ⟨zs[k].toNat, by omega, by omega⟩
      rw [getD_at zs k hlt, hc0] at hck
      obtain ⟨g1, g2⟩ := halvesL_at zs k hlt
      rw [hc0, Int.toNat_natCast] at g1 g2
      obtain ⟨e1, g1⟩ := List.getElem?_eq_some_iff.1 g1
      obtain ⟨e2, g2⟩ := List.getElem?_eq_some_iff.1 g2
      have hY2 := fun S W1 hj => hY (2 * k + 1) e2 S W1 hj
      obtain ⟨fn, tmps, assign, body, hy, hR⟩ := hY (2 * k) e1 S wr hJs
      rw [g1, show ((c % 16 : Nat) : Int) = (c : Int) % 16 by omega] at hy
      rw [g2, show ((c / 16 : Nat) : Int) = (c : Int) / 16 by omega] at hY2
      clear hc
      gi_wp2
      refine hR.mono ?_
      rintro e W3 (⟨rfl, S', hJ3, hw3⟩ | ⟨rfl, S', hJx3, hw3⟩)
      · obtain ⟨fn2, tmps2, assign2, body2, hy2, hR2⟩ := hY2 S' W3 hJ3
        clear hy hR hY2
        gi_wp2
        refine hR2.mono ?_
        rintro e W4 (⟨rfl, S'', hJ4, hw4⟩ | ⟨rfl, S'', hJx4, hw4⟩)
        · have hw' := (hw.trans hw3).trans hw4
          clear hy2 hR2
          gi_wp2
          go_roundw
          case rel => exact ⟨k + 1, S'', rfl, by omega, hJ4, hw'⟩
          case measure => simp [intOf]; omega
        · clear hy2 hR2
          gi_wp2
          simp only [Exit.noGoto]
          go_end0
          exact ⟨⟨_, rfl⟩, .inr ⟨2 * k + 1 + 1, S'', by omega, hJx4⟩⟩
      · clear hy hR hY2
        gi_wp2
        with_reducible refine And.intro wide_none ?_
        gi_wp2
        simp only [Exit.noGoto]
        go_end0
        exact ⟨⟨_, rfl⟩, .inr ⟨2 * k + 1, S', by omega, hJx3⟩⟩
    · have t1 : decide ((k : Int) < ((zs.length : Nat) : Int)) = false := by simp; omega
      obtain rfl : k = zs.length := by omega
      gi_wp2
      simp only [Exit.noGoto]
      go_end0
      exact ⟨⟨_, rfl⟩, .inl ⟨S, by rw [hN]; exact hJs⟩⟩
end Go.Proofs.Ytcclakklaimiiaa
