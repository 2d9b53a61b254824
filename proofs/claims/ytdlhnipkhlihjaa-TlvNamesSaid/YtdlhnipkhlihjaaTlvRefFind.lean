/- The walk of the document's Find. -/
import Derived.Test.YtdlhnipkhlihjaaTlvFoundW
namespace Go.Proofs.Ytdlhnipkhlihjaa
open Go Go.RowKit
attribute [local go_sem] upV_value upV_skip upV_enter
set_option linter.unusedVariables false
set_option linter.unnecessarySimpa false
set_option linter.unusedSimpArgs false
set_option maxRecDepth 100000 in
set_option maxHeartbeats 8000000 in
theorem rfind_any (f : Forest) (W : World) (n : Nat) (hn : n ≤ W.heap.size) (a : Option Addr) (len cap : Nat) (h : SlF n W a len cap f) (hcnt : f.cnt ≤ 20000) (tag nth : Int) :
    Calls Try.prog 15 #[.slice a len cap, .int .i64 tag, .int .i64 nth] W (FindPost W (findF f tag nth) tag) := by
  have hs := h.small
  obtain ⟨hl, hc⟩ := h
  have hlc := Forest.length_le_cnt f
  have bn : ∀ V, Below W.heap.size W V → Below n W V := fun V h => ⟨h.os, h.tape, h.output, h.size, fun q hq => h.block q (by omega)⟩
  go_enter Try.func15, Try.ntmps15
  obtain ⟨Z, hZ⟩ : ∃ Z, Z = W.alloc (.cells #[.int .i64 0, .slice none 0 0, .slice none 0 0] 30) := ⟨_, rfl⟩
  have bZ : Below W.heap.size W Z := by rw [hZ]; exact (Below.refl _ W).alloc (Nat.le_refl _) _
  have pZ : Z.heap[W.heap.size]? = some (.cells zT 30) := by rw [hZ]; exact World.alloc_heap_new W _
  have sZ : W.heap.size + 1 ≤ Z.heap.size := by rw [hZ]; simp
  go_wp2
  rw [← hZ]
  go_loopw [8, 9] (fun m i wr => ∃ (k c : Nat) (F : Forest), m = .int .i64 (c : Int) ∧ c ≤ k ∧ i = .int .i64 (k : Int) ∧ k + F.length = len ∧ F.cnt ≤ 20000 ∧ Hid (findF F tag (nth - c) = findF f tag nth) ∧ (∀ q off, a = some ⟨q, off, none⟩ → 0 < len → q < n ∧ len ≤ cap ∧ cap ≤ maxLen ∧ RowF n W F q (off + k * 3)) ∧ (0 < len → ∃ q off, a = some ⟨q, off, none⟩) ∧ wr.heap[W.heap.size]? = some (.cells zT 30) ∧ W.heap.size + 1 ≤ wr.heap.size ∧ Below W.heap.size W wr) (fun _ i _ => len - (intOf i).toNat)
  case atStart =>
    refine ⟨0, 0, f, rfl, Nat.le_refl _, rfl, by omega, hcnt, by simp [Hid], fun q off ha hl => ?_, fun hl => ?_, pZ, sZ, bZ⟩
    · rcases hc with h0 | ⟨b', off', ha', hb', hc1, hc2, hrow⟩
      · omega
      · rw [ha] at ha'; injection ha' with ha'; injection ha' with e1 e2; subst e1 e2
        exact ⟨hb', hc1, hc2, by simpa using hrow⟩
    · rcases hc with h0 | ⟨b', off', ha', _⟩
      · omega
      · exact ⟨b', off', ha'⟩
  case round =>
    clear pZ sZ bZ hZ hc
    obtain ⟨k, c, F, rfl, hck, rfl, hkF, hcF, hV, hrF, hha, hp, hps, hb0⟩ := hrel
    by_cases hlt : k < len
    rotate_left
    · have t1 : decide ((k : Int) < (len : Int)) = false := by simp; omega
      have hF : F = .nil := by
        cases F with
        | nil => rfl
        | cons t bs k2 r => simp [Forest.length] at hkF; omega
      subst hF
      have hnone : findF f tag nth = none := (show findF .nil tag (nth - c) = findF f tag nth from hV).symm
      have HN := Lib.hid hnone
      have e9 : (wr.setRow W.heap.size zT).heap[W.heap.size]? = some (.cells zT 30) := setRow_heap _ _ _ _ _ _ hp
      have b9 := below_setRow hb0 (Nat.le_refl _) zT
      clear hnone hV hrF hha hb0
      go_wp2_with ((fail_if_success (unfold Held)); refine at_store (t := 30) rfl ?_)
      unfold Held
      refine wpList_store_row rfl 30 (.tmp 6) (.tmp 32) rfl W.heap.size zT rfl rfl 30 zT hp infoT rfl (agg3_one ..) ?_
      go_wp2_with fail
      refine bodyPost_ret (results_cellK rfl _ _ _ W.heap.size 30 zT (0, 0) _ rfl e9 Try.underlying30 infoT) rfl ?_
      unfold FindPost
      rw [show findF f tag nth = none from HN]
      exact ⟨b9, rfl⟩
    have t1 : decide ((k : Int) < (len : Int)) = true := by simp; omega
    obtain ⟨q, off, rfl⟩ := hha (by omega)
    obtain ⟨hqn, hc1, hc2, hrow⟩ := hrF q off rfl (by omega)
    simp only [maxLen] at hc2
    have hrow' : RowF n wr F q (off + k * 3) := RowF.below (bn _ hb0) F q _ hqn hrow
    obtain ⟨t', bs', k', r, a1, l1, c1, ka1, kl1, kc1, rfl, q0, q1, q2, hr1, hr2, hrb, hrk, hrr⟩ := hrow'.open (by omega)
    have hNext := Lib.hid (fun (q' : Nat) (off' : Nat) (ha : some (Addr.mk q off none) = some ⟨q', off', none⟩) (_ : 0 < len) => (by
      injection ha with ha; injection ha with e1 e2 _
      subst e1 e2
      have hc := hrow
      obtain ⟨_, _, _, _, _, _, _, _, _, _, _, _, _, _, hc'⟩ := hc
      refine ⟨hqn, hc1, by simp only [maxLen]; omega, ?_⟩
      rw [show off + (k + 1) * 3 = off + k * 3 + 3 by omega]
      exact hc' : q' < n ∧ len ≤ cap ∧ cap ≤ maxLen ∧ RowF n W r q' (off' + (k + 1) * 3)))
    have hHA := Lib.hid (fun (_ : 0 < len) => (⟨q, off, rfl⟩ : ∃ q' off', some (Addr.mk q off none) = some ⟨q', off', none⟩))
    have hcF2 : r.cnt ≤ 20000 ∧ 1 + bs'.length + k'.cnt ≤ 20000 := by simp only [Forest.cnt] at hcF; omega
    have hkr : k + 1 + r.length = len := by simp only [Forest.length] at hkF; omega
    clear hrF hha hrow hrow' hrr hcF hkF
    by_cases htt : t' = tag
    rotate_left
    · have t2 : (t' == tag) = false := by simpa using htt
      have hV' : findF r tag (nth - c) = findF f tag nth := by
        rw [← (show findF (.cons t' bs' k' r) tag (nth - c) = findF f tag nth from hV), findF, if_neg htt]
      have HV' := Lib.hid hV'
      clear htt hV' hV hrb hrk
      go_wp2_with fail
      go_roundw
      case rel => exact ⟨k + 1, c, r, rfl, by omega, by go_num, hkr, hcF2.1, HV', hNext, hHA, hp, hps, hb0⟩
      case measure => simp [intOf]; omega
    subst htt
    have t2 : (t' == t') = true := by simp
    by_cases hN0 : (c : Int) = nth
    rotate_left
    · have t3 : ((c : Int) == nth) = false := by simpa using hN0
      have hV' : findF r t' (nth - ((c + 1 : Nat) : Int)) = findF f t' nth := by
        rw [← (show findF (.cons t' bs' k' r) t' (nth - c) = findF f t' nth from hV), findF, if_pos rfl, if_neg (by omega)]
        congr 1; omega
      have HV' := Lib.hid hV'
      clear hN0 hV' hV hrb hrk
      go_wp2_with fail
      go_roundw
      case rel => exact ⟨k + 1, c + 1, r, by go_num, by omega, by go_num, hkr, hcF2.1, HV', hNext, hHA, hp, hps, hb0⟩
      case measure => simp [intOf]; omega
    subst hN0
    have hsome : findF f t' (c : Int) = some (bs', k') := by
      rw [← (show findF (.cons t' bs' k' r) t' ((c : Int) - c) = findF f t' (c : Int) from hV), findF, if_pos rfl, if_pos (by omega)]
    have HN := Lib.hid hsome
    have t3 : ((c : Int) == (c : Int)) = true := by simp
    have hcs := hcF2.2
    have e9 : (wr.setRow W.heap.size #[.int .i64 t', .slice a1 l1 c1, .slice ka1 kl1 kc1]).heap[W.heap.size]? = some (.cells #[.int .i64 t', .slice a1 l1 c1, .slice ka1 kl1 kc1] 30) := setRow_heap _ _ _ _ _ _ hp
    have b9 := below_setRow hb0 (Nat.le_refl _) #[.int .i64 t', .slice a1 l1 c1, .slice ka1 kl1 kc1]
    obtain ⟨W9, hW9⟩ : ∃ W9, W9 = wr.setRow W.heap.size #[.int .i64 t', .slice a1 l1 c1, .slice ka1 kl1 kc1] := ⟨_, rfl⟩
    have hP : Fld W9 t' bs' k' a1 l1 c1 ka1 kl1 kc1 := by
      have h9 : Below n wr W9 := by
        rw [hW9]
        exact ⟨rfl, rfl, rfl, by rw [size_setRow]; exact Nat.le_refl _, fun b hb => setRow_other _ _ _ _ (by omega)⟩
      have s9 : n ≤ W9.heap.size := by rw [hW9, size_setRow]; omega
      exact ⟨(hrb.1.below h9).mono s9, (hrk.below h9).mono s9, hr1, hr2, hcs⟩
    rw [← hW9] at e9 b9
    have HW9 := Lib.hid hW9
    clear hsome hV hrb hrk hNext hHA hcF2 hb0 hW9
    go_wp2_with ((fail_if_success (unfold Held)); refine at_store (t := 30) rfl ?_)
    unfold Held
    refine wpList_store_row rfl 30 (.tmp 6) (.tmp 29) rfl W.heap.size #[.int .i64 t', .slice a1 l1 c1, .slice ka1 kl1 kc1] rfl rfl 30 zT hp infoT rfl (agg3_one ..) ?_
    rw [show wr.setRow W.heap.size #[.int .i64 t', .slice a1 l1 c1, .slice ka1 kl1 kc1] = W9 from (show W9 = _ from HW9).symm]
    clear HW9 hp
    go_wp2_with fail
    refine bodyPost_ret (results_cellK rfl _ _ _ W.heap.size 30 #[.int .i64 t', .slice a1 l1 c1, .slice ka1 kl1 kc1] (0, 0) _ rfl e9 Try.underlying30 infoT) rfl ?_
    unfold FindPost
    rw [show findF f t' (c : Int) = some (bs', k') from HN]
    exact ⟨b9, _, _, _, _, _, _, rfl, hP⟩
end Go.Proofs.Ytdlhnipkhlihjaa
