/- The iterator at$1; At, Wake. -/
import Derived.Test.YtdnhaappglbooaaFutE
import Derived.RangeFuncBox
import Derived.RangeFuncLeaves
import Derived.Shelf.Abstract
import Derived.WalkKit
import Derived.OwnWalkIn
import Derived.TacticsInMore
import Derived.LoopNIn
import Derived.LoopIn
import Derived.BigFrameIn
import Derived.BigRegionIn
import Derived.Maps.OwnIn
import Derived.Lib.Hide
namespace Go.Proofs.Ytdnhaappglbooaa
open Go Go.RowKit Go.Shelf
attribute [local go_sem] Oper.semAt_some
set_option linter.unusedVariables false
set_option linter.unnecessarySimpa false
set_option linter.unusedSimpArgs false
theorem ky_eq (a1 a2 a3 b1 b2 b3 : Int) : (a1 == b1 && (a2 == b2 && a3 == b3)) = decide ((⟨a1, a2, a3⟩ : Ky) = ⟨b1, b2, b3⟩) := by
  rw [Bool.eq_iff_iff]
  simp [Ky.mk.injEq]
theorem key_eqIn (d : Nat) (a1 a2 a3 b1 b2 b3 : Int) (w : World) : (Op.equalIn (d + 2) 33 (.agg #[.int .i64 a1, .int .i64 a2, .int .i64 a3]) (.agg #[.int .i64 b1, .int .i64 b2, .int .i64 b3])).run Try.prog w = .ok (decide ((⟨a1, a2, a3⟩ : Ky) = ⟨b1, b2, b3⟩)) w := by
  rw [run_equalIn_agg _ _ _ _ _ (by kernel_rfl) (by kernel_rfl), ← ky_eq]
  simp [Program.fieldsOf, Try.underlying33, Op.eqFields, go_sem]
  by_cases h1 : a1 = b1 <;> by_cases h2 : a2 = b2 <;> by_cases h3 : a3 = b3 <;> simp [h1, h2, h3]
theorem key_neq (a1 a2 a3 b1 b2 b3 : Int) (w : World) : (binOp .neq 33 (.agg #[.int .i64 a1, .int .i64 a2, .int .i64 a3]) (.agg #[.int .i64 b1, .int .i64 b2, .int .i64 b3])).run Try.prog w = .ok (.bool (!decide ((⟨a1, a2, a3⟩ : Ky) = ⟨b1, b2, b3⟩))) w := by
  rw [run_neq_struct, key_eqIn]
  rfl
theorem key_eql (a1 a2 a3 b1 b2 b3 : Int) (w : World) : (binOp .eql 33 (.agg #[.int .i64 a1, .int .i64 a2, .int .i64 a3]) (.agg #[.int .i64 b1, .int .i64 b2, .int .i64 b3])).run Try.prog w = .ok (.bool (decide ((⟨a1, a2, a3⟩ : Ky) = ⟨b1, b2, b3⟩))) w := by
  rw [run_eql_struct, key_eqIn]
  rfl
/-- those of a key -/
def isK (k : Ky) (x : Wt) : Bool := decide (x.k = k)
def atL (ws : List Wt) (k : Ky) : List Int := (ws.filter (isK k)).map (·.pid)
theorem atL_take (ws : List Wt) (k : Ky) (j : Nat) (h : j < ws.length) : atL (ws.take (j + 1)) k = atL (ws.take j) k ++ (if ws[j].k = k then [ws[j].pid] else []) := by
  unfold atL
  rw [List.take_succ_eq_append_getElem h, List.filter_append, List.map_append]
  congr 1
  by_cases hk : ws[j].k = k <;> simp [List.filter, isK, hk]
theorem atL_pre (ws : List Wt) (k : Ky) (j : Nat) (h : j < ws.length) (hk : ws[j].k = k) : (atL (ws.take j) k).length < (atL ws k).length ∧ (atL ws k).getD (atL (ws.take j) k).length 0 = ws[j].pid := by
  have h1 : atL ws k = atL (ws.take j) k ++ (ws[j].pid :: atL (ws.drop (j + 1)) k) := by
    have : ws = ws.take j ++ (ws[j] :: ws.drop (j + 1)) := by rw [← List.drop_eq_getElem_cons h, List.take_append_drop]
    conv => lhs; rw [this]
    unfold atL
    rw [List.filter_append, List.map_append, List.filter_cons_of_pos (by simp [isK, hk])]
    rfl
  rw [h1]
  constructor
  · simp
  · simp [List.getD]
theorem RowW.same {n : Nat} {A B : World} {a : Option Addr} {len cap : Nat} {ws : List Wt} (h : RowW n A a len cap ws) (hs : ∀ b off s, a = some ⟨b, off, s⟩ → B.heap[b]? = A.heap[b]?) : RowW n B a len cap ws := by
  refine ⟨h.1, ?_⟩
  rcases h.2 with h0 | ⟨b, off, rfl, hn, h1, h2, hc⟩
  · exact .inl h0
  · exact .inr ⟨b, off, rfl, hn, h1, h2, fun j u hj => cell_same (p := ⟨b, off + j, none⟩) (hs b off none rfl) (hc j u hj)⟩
set_option maxRecDepth 100000 in
set_option maxHeartbeats 4000000 in
theorem at1_iter (B1 B2 p : Nat) (v : Value) (ws : List Wt) (k : Ky) (w : World) (h1 : B1 < w.heap.size) (h2 : B2 < w.heap.size) (c1 : w.cell? ⟨B1, 0, none⟩ = some (.pointer (some ⟨p, 0, none⟩)))
    (c2 : w.heap[B2]? = some (.cells #[.int .i64 k.p, .int .i64 k.f, .int .i64 k.o] 33)) (hf : FutAt w p v ws) (hsm : ws.length ≤ 1000000) :
    Iter Try.prog 36 #[.pointer (some ⟨B1, 0, none⟩), .pointer (some ⟨B2, 0, none⟩)] (fun n : Nat => #[.int .i64 (n : Int), .int .i64 ((atL ws k).getD n 0)]) (fun b => b = B1 ∨ b = B2 ∨ SFut p v b) (List.range (atL ws k).length) w := by
  intro l J Jx S0 W hW hJ hJx hlt hX hY h0
  have C1 : W.cell? ⟨B1, 0, none⟩ = some (.pointer (some ⟨p, 0, none⟩)) := (hW.cell (p := ⟨B1, 0, none⟩) h1).trans c1
  have C2 := (hW.block B2 h2).trans c2
  have hF : FutAt W p v ws := hf.below hW
  have hWs := hW.size
  have x1 : ¬ S0 B1 := hX _ (.inl rfl)
  have x2 : ¬ S0 B2 := hX _ (.inr (.inl rfl))
  have xF : ∀ b, SFut p v b → ¬ S0 b := fun b hb => hX _ (.inr (.inr hb))
  have lF : ∀ b, SFut p v b → b < W.heap.size := hF.lt
  obtain ⟨a, cap, rfl, hr⟩ := hF.sl
  have cp : W.cell? ⟨p, 0, none⟩ = some (.slice a ws.length cap) := by rw [cell_of_row _ _ 0 _ _ _ hF.at_]; rfl
  refine (callsIn_wide (n := 101)).1 ?_
  refine callsIn_of_wp Try.func36 rfl trivial ?_ rfl
  simp only [Try.ntmps36, List.size_toArray, List.length_cons, List.length_nil, Nat.reduceAdd, Nat.reduceSub, Array.replicate_succ, Array.replicate_zero, List.push_toArray, List.append_toArray, List.nil_append, List.cons_append]
  gi_wp2
  gi_loopw [4, 6, 14] (fun n _ i wr => ∃ (j : Nat) (S : Nat → Prop), i = .int .i64 (j : Int) ∧ j ≤ ws.length ∧ n = .int .i64 ((atL (ws.take j) k).length : Int) ∧ J (atL (ws.take j) k).length S wr ∧ Wr S0 S W wr) (fun _ _ i _ => ws.length - (intOf i).toNat)
  case atStart => exact ⟨0, S0, rfl, Nat.zero_le _, rfl, h0, Wr.refl _ _⟩
  case round =>
    obtain ⟨j, S, rfl, hj, rfl, hJs, hw⟩ := hrel
    by_cases hlj : j < ws.length
    · have t1 : decide ((j : Int) < ((ws.length : Nat) : Int)) = true := by simp; omega
      have hws := hw.size
      obtain ⟨_, h0 | ⟨b, off, rfl, hbn, hlc, hcm, _⟩⟩ := id hr
      · omega
      have hbS : SFut p (.slice (some ⟨b, off, none⟩) ws.length cap) b := .inr rfl
      have hrw : RowW W.heap.size wr (some ⟨b, off, none⟩) ws.length cap ws := hr.same fun b' off' s' he => by
        injection he with he; injection he with e1 e2 e3; subst e1
        exact hw.block b hbn (xF b hbS)
      obtain ⟨z0, z1, z2, z3⟩ := hrw.cells4 j hlj
      have C2w := (hw.block B2 (by omega) x2).trans C2
      have y0 : wr.cell? ⟨B2, 0, none⟩ = some (.int .i64 k.p) := by rw [cell_of_row _ _ 0 _ _ _ C2w]; rfl
      have y1 : wr.cell? ⟨B2, 1, none⟩ = some (.int .i64 k.f) := by rw [cell_of_row _ _ 1 _ _ _ C2w]; rfl
      have y2 : wr.cell? ⟨B2, 2, none⟩ = some (.int .i64 k.o) := by rw [cell_of_row _ _ 2 _ _ _ C2w]; rfl
      have hB2 : B2 < wr.heap.size := by omega
      obtain ⟨X, hX'⟩ : ∃ X, X = ws[j] := ⟨_, rfl⟩
      rw [← hX'] at z0 z1 z2 z3
      have HX := Lib.hid hX'
      clear hX'
      by_cases hk : X.k = k
      · have kn : ∀ w, (binOp .neq 33 (.agg #[.int .i64 X.k.p, .int .i64 X.k.f, .int .i64 X.k.o]) (.agg #[.int .i64 k.p, .int .i64 k.f, .int .i64 k.o])).run Try.prog w = .ok (.bool false) w := fun w => by
          rw [key_neq, show decide ((⟨X.k.p, X.k.f, X.k.o⟩ : Ky) = ⟨k.p, k.f, k.o⟩) = true from decide_eq_true hk]; rfl
        obtain ⟨Z, hZ⟩ : ∃ Z, Z = Obj.cells #[.int .i64 X.pid, .int .i64 k.p, .int .i64 k.f, .int .i64 k.o] 35 := ⟨_, rfl⟩
        have sS : SameOn (fun b => b < W.heap.size ∨ S b) wr (wr.alloc Z) := ⟨rfl, rfl, rfl, by simp, fun b hb => Below.heap_alloc _ _ _ (hb.elim (fun h => by omega) (fun h => hlt _ _ _ hJs b h))⟩
        have hJz := hJ _ _ _ _ hJs sS
        have hwz : Wr S0 S W (wr.alloc Z) := hw.alloc Z
        have hXj : ws[j].k = k := by rw [← show X = ws[j] from HX]; exact hk
        obtain ⟨hc1, hc2⟩ := atL_pre ws k j hlj hXj
        rw [← show X = ws[j] from HX] at hc2
        have htk := atL_take ws k j hlj
        rw [if_pos hXj] at htk
        have hlen : (atL (ws.take (j + 1)) k).length = (atL (ws.take j) k).length + 1 := by rw [htk]; simp
        obtain ⟨c, hc⟩ : ∃ c, c = (atL (ws.take j) k).length := ⟨_, rfl⟩
        rw [← hc] at hJz hc1 hc2 hlen ⊢
        obtain ⟨fn, tmps, assign, body, hy, hR⟩ := hY c (by simpa using hc1) S _ hJz
        rw [show (List.range (atL ws k).length)[c]'(by simpa using hc1) = c from by simp, hc2] at hy
        have HL := Lib.hid hlen
        have hcl : c < 1000000 := by
          have h9 : (atL ws k).length ≤ ws.length := by unfold atL; rw [List.length_map]; exact List.length_filter_le _ _
          omega
        clear hc hc2 htk hlen
        rw [hZ] at hy hR hwz
        clear hZ hJz sS
        gi_wp2
        refine hR.mono ?_
        rintro e W3 (⟨rfl, S', hJ3, hw3⟩ | ⟨rfl, S', hJx3, hw3⟩)
        · have hw' := hwz.trans hw3
          clear hy hR
          gi_wp2
          go_roundw
          case rel => exact ⟨j + 1, S', rfl, by omega, by rw [show (atL (ws.take (j + 1)) k).length = c + 1 from HL]; congr 1 <;> (unfold wrap64; omega), by rw [show (atL (ws.take (j + 1)) k).length = c + 1 from HL]; exact hJ3, hw'⟩
          case measure => simp [intOf]; omega
        · clear hy hR
          gi_wp2
          refine bodyPost_ret (results_none rfl _ _ _) rfl ?_
          exact ⟨⟨_, rfl⟩, .inr ⟨c + 1, S', by rw [List.length_range]; exact hc1, hJx3⟩⟩
      · have kn : ∀ w, (binOp .neq 33 (.agg #[.int .i64 X.k.p, .int .i64 X.k.f, .int .i64 X.k.o]) (.agg #[.int .i64 k.p, .int .i64 k.f, .int .i64 k.o])).run Try.prog w = .ok (.bool true) w := fun w => by
          rw [key_neq, show decide ((⟨X.k.p, X.k.f, X.k.o⟩ : Ky) = ⟨k.p, k.f, k.o⟩) = false from decide_eq_false hk]; rfl
        obtain ⟨Z, hZ⟩ : ∃ Z, Z = Obj.cells #[.int .i64 X.pid, .int .i64 X.k.p, .int .i64 X.k.f, .int .i64 X.k.o] 35 := ⟨_, rfl⟩
        have sS : SameOn (fun b => b < W.heap.size ∨ S b) wr (wr.alloc Z) := ⟨rfl, rfl, rfl, by simp, fun b hb => Below.heap_alloc _ _ _ (hb.elim (fun h => by omega) (fun h => hlt _ _ _ hJs b h))⟩
        have hJz := hJ _ _ _ _ hJs sS
        have hwz : Wr S0 S W (wr.alloc Z) := hw.alloc Z
        have hXj : ¬ ws[j].k = k := by rw [← show X = ws[j] from HX]; exact hk
        have htk := atL_take ws k j hlj
        rw [if_neg hXj, List.append_nil] at htk
        have HT := Lib.hid htk
        rw [hZ] at hwz hJz
        clear hZ sS htk
        gi_wp2
        go_roundw
        case rel => exact ⟨j + 1, S, rfl, by omega, by rw [show atL (ws.take (j + 1)) k = atL (ws.take j) k from HT], by rw [show atL (ws.take (j + 1)) k = atL (ws.take j) k from HT]; exact hJz, hwz⟩
        case measure => simp [intOf]; omega
    · have t1 : decide ((j : Int) < ((ws.length : Nat) : Int)) = false := by simp; omega
      obtain rfl : j = ws.length := by omega
      rw [List.take_length] at hJs
      gi_wp2
      go_end0
      exact ⟨⟨_, rfl⟩, .inl ⟨S, by simpa using hJs⟩⟩
end Go.Proofs.Ytdnhaappglbooaa
