/- The walk of tlv.Find. -/
import Derived.Test.YtdlhnipkhlihjaaTlvTwin
namespace Go.Proofs.Ytdlhnipkhlihjaa
open Go Go.RowKit
attribute [local go_sem] upV_value upV_skip upV_enter
set_option linter.unusedVariables false
set_option linter.unnecessarySimpa false
set_option linter.unusedSimpArgs false
theorem results_cellK {fn : Func} {p u : Tmp} {ty : TypeId} (h : fn.results = #[.cell p ty, .tmp u]) (tmps : Array Value) (P : Program) (w : World) (g : Nat) (t : TypeId) (cs : Array Value) (fr : Nat × Nat) (d : Array Field)
    (hp : tmps.getD p undef = .pointer (some ⟨g, 0, none⟩)) (hg : w.heap[g]? = some (.cells cs t fr))
    (hu : P.underlying ty = some (.struct d)) (hi : (P.info? ty).map (·.size) = some cs.size) :
    (results fn tmps).run P w = .ok (.tuple #[.agg cs, tmps.getD u undef]) w := by
  have hp' : tmps[p]?.getD undef = .pointer (some ⟨g, 0, none⟩) := by simpa using hp
  simp [results, h, hp', asAddr, run_loadVar_row w g t ty cs fr (.struct d) hg hu rfl hi]
/-- the n-th field of a tag -/
def findF : Forest → Int → Int → Option (List Int × Forest)
  | .nil, _, _ => none
  | .cons t b k r, tag, n => if t = tag then (if n = 0 then some (b, k) else findF r tag (n - 1)) else findF r tag n
/-- a field, as a value -/
structure Fld (W : World) (t : Int) (bs : List Int) (k : Forest) (a : Option Addr) (len cap : Nat) (ka : Option Addr) (kl kc : Nat) : Prop where
  row : Row8 W.heap.size W (.slice a len cap) bs
  kids : SlF W.heap.size W ka kl kc k
  t1 : -9223372036854775808 ≤ t
  t2 : t ≤ 9223372036854775807
  small : 1 + bs.length + k.cnt ≤ 20000
theorem Fld.below {W W' : World} {t : Int} {bs : List Int} {k : Forest} {a : Option Addr} {len cap : Nat} {ka : Option Addr} {kl kc : Nat} (h : Fld W t bs k a len cap ka kl kc) (hb : Below W.heap.size W W') : Fld W' t bs k a len cap ka kl kc :=
  ⟨(h.row.below hb).mono hb.size, (h.kids.below hb).mono hb.size, h.t1, h.t2, h.small⟩
/-- what Find answers -/
def FindPost (W : World) (r : Option (List Int × Forest)) (tag : Int) (e : Ending) (W' : World) : Prop :=
  Below W.heap.size W W' ∧ match r with
  | none => e = .returned (.tuple #[.agg #[.int .i64 0, .slice none 0 0, .slice none 0 0], .bool false])
  | some (bs, k) => ∃ (a : Option Addr) (len cap : Nat) (ka : Option Addr) (kl kc : Nat), e = .returned (.tuple #[.agg #[.int .i64 tag, .slice a len cap, .slice ka kl kc], .bool true]) ∧ Fld W' tag bs k a len cap ka kl kc
set_option maxRecDepth 100000 in
set_option maxHeartbeats 8000000 in
theorem find_any (f : Forest) (W : World) (n : Nat) (hn : n ≤ W.heap.size) (a : Option Addr) (len cap : Nat) (h : SlF n W a len cap f) (hcnt : f.cnt ≤ 20000) (tag nth : Int) (hn2 : nth ≤ 9223372036854775807) (hn3 : -9223372036854775808 ≤ nth) :
    Calls Try.prog 13 #[.slice a len cap, .int .i64 tag, .int .i64 nth] W (FindPost W (findF f tag nth) tag) := by
  have hs := h.small
  obtain ⟨hl, hc⟩ := h
  have hlc := Forest.length_le_cnt f
  have bn : ∀ V, Below W.heap.size W V → Below n W V := fun V h => ⟨h.os, h.tape, h.output, h.size, fun q hq => h.block q (by omega)⟩
  go_enter Try.func13, Try.ntmps13
  obtain ⟨Z, hZ⟩ : ∃ Z, Z = W.alloc (.cells #[.int .i64 0, .slice none 0 0, .slice none 0 0] 30) := ⟨_, rfl⟩
  have bZ : Below W.heap.size W Z := by rw [hZ]; exact (Below.refl _ W).alloc (Nat.le_refl _) _
  have pZ : Z.heap[W.heap.size]? = some (.cells zT 30) := by rw [hZ]; exact World.alloc_heap_new W _
  have sZ : W.heap.size + 1 ≤ Z.heap.size := by rw [hZ]; simp
  go_wp2
  rw [← hZ]
  go_loopw [2, 12] (fun m i wr => ∃ (k : Nat) (F : Forest) (N M : Int), m = .int .i64 M ∧ Hid ((M = N ∨ M = N + 18446744073709551616) ∧ -9223372036854775808 - (k : Int) ≤ N ∧ N ≤ 9223372036854775807 ∧ -9223372036854775808 ≤ M ∧ M ≤ 9223372036854775807) ∧ i = .int .i64 (k : Int) ∧ k + F.length = len ∧ F.cnt ≤ 20000 ∧ Hid (findF F tag N = findF f tag nth) ∧ (∀ q off, a = some ⟨q, off, none⟩ → 0 < len → q < n ∧ len ≤ cap ∧ cap ≤ maxLen ∧ RowF n W F q (off + k * 3)) ∧ (0 < len → ∃ q off, a = some ⟨q, off, none⟩) ∧ wr.heap[W.heap.size]? = some (.cells zT 30) ∧ W.heap.size + 1 ≤ wr.heap.size ∧ Below W.heap.size W wr) (fun _ i _ => len - (intOf i).toNat)
  case atStart =>
    refine ⟨0, f, nth, nth, rfl, ⟨.inl rfl, by omega, by omega, by omega, by omega⟩, rfl, by omega, hcnt, rfl, fun q off ha hl => ?_, fun hl => ?_, pZ, sZ, bZ⟩
    · rcases hc with h0 | ⟨b', off', ha', hb', hc1, hc2, hrow⟩
      · omega
      · rw [ha] at ha'; injection ha' with ha'; injection ha' with e1 e2; subst e1 e2
        exact ⟨hb', hc1, hc2, by simpa using hrow⟩
    · rcases hc with h0 | ⟨b', off', ha', _⟩
      · omega
      · exact ⟨b', off', ha'⟩
  case round =>
    clear pZ sZ bZ hZ hc
    obtain ⟨k, F, N, M, rfl, hNM, rfl, hkF, hcF, hV, hrF, hha, hp, hps, hb0⟩ := hrel
    by_cases hlt : k < len
    rotate_left
    · have t1 : decide ((k : Int) < (len : Int)) = false := by simp; omega
      have hF : F = .nil := by
        cases F with
        | nil => rfl
        | cons t bs k2 r => simp [Forest.length] at hkF; omega
      subst hF
      have hnone : findF f tag nth = none := (show findF .nil tag N = findF f tag nth from hV).symm
      have HN := Lib.hid hnone
      have e9 : (wr.setRow W.heap.size zT).heap[W.heap.size]? = some (.cells zT 30) := setRow_heap _ _ _ _ _ _ hp
      have b9 := below_setRow hb0 (Nat.le_refl _) zT
      clear hnone hV hrF hha hb0
      go_wp2_with ((fail_if_success (unfold Held)); refine at_store (t := 30) rfl ?_)
      unfold Held
      refine wpList_store_row rfl 30 (.tmp 6) (.tmp 27) rfl W.heap.size zT rfl rfl 30 zT hp infoT rfl (agg3_one ..) ?_
      go_wp2_with fail
      refine bodyPost_ret (results_cellK rfl _ _ _ W.heap.size 30 zT (0, 0) _ rfl e9 Try.underlying30 infoT) rfl ?_
      unfold FindPost
      rw [show findF f tag nth = none from HN]
      exact ⟨b9, rfl⟩
    have t1 : decide ((k : Int) < (len : Int)) = true := by simp; omega
    obtain ⟨q, off, rfl⟩ := hha (by omega)
    obtain ⟨hqn, hc1, hc2, hrow⟩ := hrF q off rfl (by omega)
    simp only [maxLen] at hc2
    have hrow' : RowF n wr F q (off + k * 3) := RowF.below (bn _ hb0) F q _ hqn hrow
    obtain ⟨t', bs', k', r, a1, l1, c1, ka1, kl1, kc1, rfl, q0, q1, q2, hr1, hr2, hrb, hrk, hrr⟩ := hrow'.open (by omega)
    have hNext := Lib.hid (fun (q' : Nat) (off' : Nat) (ha : some (Addr.mk q off none) = some ⟨q', off', none⟩) (_ : 0 < len) => (by
      injection ha with ha; injection ha with e1 e2 _
      subst e1 e2
      have hc := hrow
      obtain ⟨_, _, _, _, _, _, _, _, _, _, _, _, _, _, hc'⟩ := hc
      refine ⟨hqn, hc1, by simp only [maxLen]; omega, ?_⟩
      rw [show off + (k + 1) * 3 = off + k * 3 + 3 by omega]
      exact hc' : q' < n ∧ len ≤ cap ∧ cap ≤ maxLen ∧ RowF n W r q' (off' + (k + 1) * 3)))
    have hHA := Lib.hid (fun (_ : 0 < len) => (⟨q, off, rfl⟩ : ∃ q' off', some (Addr.mk q off none) = some ⟨q', off', none⟩))
    have hcF2 : r.cnt ≤ 20000 ∧ 1 + bs'.length + k'.cnt ≤ 20000 := by simp only [Forest.cnt] at hcF; omega
    have hkr : k + 1 + r.length = len := by simp only [Forest.length] at hkF; omega
    clear hrF hha hrow hrow' hrr hcF hkF
    go_wp2_with ((fail_if_success (unfold Held)); refine at_store (t := 30) rfl ?_)
    unfold Held
    refine wpList_store_row rfl 30 (.tmp 9) (.tmp 15) rfl wr.heap.size #[.int .i64 t', .slice a1 l1 c1, .slice ka1 kl1 kc1] rfl rfl 30 zT (World.alloc_heap_new _ _) infoT rfl (agg3_one ..) ?_
    rw [World.setRow_alloc_new]
    obtain ⟨V4, hV4⟩ : ∃ V4, V4 = wr.alloc (.cells #[.int .i64 t', .slice a1 l1 c1, .slice ka1 kl1 kc1] 30) := ⟨_, rfl⟩
    have x4 : V4.heap[wr.heap.size]? = some (.cells #[.int .i64 t', .slice a1 l1 c1, .slice ka1 kl1 kc1] 30) := by rw [hV4]; exact World.alloc_heap_new _ _
    have b4 : Below wr.heap.size wr V4 := by rw [hV4]; exact (Below.refl _ _).alloc (Nat.le_refl _) _
    have y0 : V4.cell? ⟨wr.heap.size, 0, none⟩ = some (.int .i64 t') := by rw [cell_of_row V4 _ 0 _ _ _ x4]; rfl
    have y1 : V4.cell? ⟨wr.heap.size, 1, none⟩ = some (.slice a1 l1 c1) := by rw [cell_of_row V4 _ 1 _ _ _ x4]; rfl
    have y2 : V4.cell? ⟨wr.heap.size, 2, none⟩ = some (.slice ka1 kl1 kc1) := by rw [cell_of_row V4 _ 2 _ _ _ x4]; rfl
    rw [← hV4]
    have hb4 := hb0.trans (b4.mono (by omega))
    have p4 := (b4.block W.heap.size (by omega)).trans hp
    have s4 : W.heap.size + 1 ≤ V4.heap.size := by have := b4.size; omega
    have hrb4 : Row8 n V4 (.slice a1 l1 c1) bs' := hrb.1.below ⟨b4.os, b4.tape, b4.output, b4.size, fun x hx => b4.block x (by omega)⟩
    have hrk4 : SlF n V4 ka1 kl1 kc1 k' := hrk.below ⟨b4.os, b4.tape, b4.output, b4.size, fun x hx => b4.block x (by omega)⟩
    clear hV4 x4 b4 q0 q1 q2 hrb hrk hp hb0
    by_cases htt : t' = tag
    rotate_left
    · have t2 : (t' != tag) = true := by simpa using htt
      have hV' : findF r tag N = findF f tag nth := by
        rw [← (show findF (.cons t' bs' k' r) tag N = findF f tag nth from hV), findF, if_neg htt]
      have HV' := Lib.hid hV'
      have hNM' : Hid ((M = N ∨ M = N + 18446744073709551616) ∧ -9223372036854775808 - ((k + 1 : Nat) : Int) ≤ N ∧ N ≤ 9223372036854775807 ∧ -9223372036854775808 ≤ M ∧ M ≤ 9223372036854775807) := ⟨hNM.1, by have := hNM.2.1; omega, hNM.2.2⟩
      clear htt hV' hV hrb4 hrk4
      go_wp2_with fail
      go_roundw
      case rel => exact ⟨k + 1, r, N, M, rfl, hNM', by go_num, hkr, hcF2.1, HV', hNext, hHA, p4, s4, hb4⟩
      case measure => simp [intOf]; omega
    subst htt
    have t2 : (t' != t') = false := by simp
    by_cases hN0 : N = 0
    rotate_left
    · have hMz : M ≠ 0 := by
        obtain ⟨h1, h2, h3, h4, h5⟩ := (show _ ∧ _ ∧ _ ∧ _ ∧ _ from hNM)
        omega
      have t3 : (M == 0) = false := by simpa using hMz
      have hV' : findF r t' (N - 1) = findF f t' nth := by
        rw [← (show findF (.cons t' bs' k' r) t' N = findF f t' nth from hV), findF, if_pos rfl, if_neg hN0]
      have HV' := Lib.hid hV'
      have hw : ∃ M', IntKind.i64.wrap (M - 1) = M' ∧ Hid ((M' = N - 1 ∨ M' = N - 1 + 18446744073709551616) ∧ -9223372036854775808 - ((k + 1 : Nat) : Int) ≤ N - 1 ∧ N - 1 ≤ 9223372036854775807 ∧ -9223372036854775808 ≤ M' ∧ M' ≤ 9223372036854775807) := by
        obtain ⟨h1, h2, h3, h4, h5⟩ := (show _ ∧ _ ∧ _ ∧ _ ∧ _ from hNM)
        by_cases hm : M = -9223372036854775808
        · refine ⟨9223372036854775807, by rw [hm]; decide, ?_, by omega, by omega, by omega, by omega⟩
          omega
        · exact ⟨M - 1, by rw [IntKind.wrap_i64]; omega, by omega, by omega, by omega, by omega, by omega⟩
      obtain ⟨M', hM', HM'⟩ := hw
      have HMM := Lib.hid hM'
      clear hN0 hMz hV' hV hrb4 hrk4 hNM hM'
      go_wp2_with fail
      go_roundw
      case rel => exact ⟨k + 1, r, N - 1, M', by rw [← show IntKind.i64.wrap (M - 1) = M' from HMM, IntKind.wrap_i64]; unfold wrap64; rfl, HM', by go_num, hkr, hcF2.1, HV', hNext, hHA, p4, s4, hb4⟩
      case measure => simp [intOf]; omega
    subst hN0
    obtain rfl : M = 0 := by
      obtain ⟨h1, h2, h3, h4, h5⟩ := (show _ ∧ _ ∧ _ ∧ _ ∧ _ from hNM)
      omega
    have hsome : findF f t' nth = some (bs', k') := by
      rw [← (show findF (.cons t' bs' k' r) t' 0 = findF f t' nth from hV), findF, if_pos rfl, if_pos rfl]
    have HN := Lib.hid hsome
    have k1 := twin_any k' V4 n t' a1 l1 c1 bs' ka1 kl1 kc1 (by omega) hr1 hr2 hrb4 hrk4 hcF2.2
    have K1 := Lib.hid k1
    have hcs := hcF2.2
    clear hsome hV hNM k1 hrb4 hrk4 hNext hHA hcF2
    go_wp2_with (go_at_call 28; refine held ?_)
    unfold Held
    refine Calls.mono K1 ?_
    rintro e w5 ⟨a5, l5, c5, ka5, kl5, kc5, rfl, _, r5, b5⟩
    have p5 := (b5.block W.heap.size (by omega)).trans p4
    have e9 : (w5.setRow W.heap.size #[.int .i64 t', .slice a5 l5 c5, .slice ka5 kl5 kc5]).heap[W.heap.size]? = some (.cells #[.int .i64 t', .slice a5 l5 c5, .slice ka5 kl5 kc5] 30) := setRow_heap _ _ _ _ _ _ p5
    have b9 := below_setRow (hb4.trans (b5.mono (by omega))) (Nat.le_refl _) #[.int .i64 t', .slice a5 l5 c5, .slice ka5 kl5 kc5]
    obtain ⟨W9, hW9⟩ : ∃ W9, W9 = w5.setRow W.heap.size #[.int .i64 t', .slice a5 l5 c5, .slice ka5 kl5 kc5] := ⟨_, rfl⟩
    have hP : Fld W9 t' bs' k' a5 l5 c5 ka5 kl5 kc5 := by
      have h9 : ∀ x, x ≠ W.heap.size → W9.heap[x]? = w5.heap[x]? := fun x hx => by rw [hW9]; exact setRow_other _ _ _ _ hx
      have s9 : W9.heap.size = w5.heap.size := by rw [hW9]; exact size_setRow _ _ _
      obtain ⟨z1, z2⟩ := r5 W9 W9.heap.size (fun x hx => h9 x (by omega)) (fun x hx => by omega)
      exact ⟨z1, z2, hr1, hr2, hcs⟩
    rw [← hW9] at e9 b9
    have HW9 := Lib.hid hW9
    clear K1 y0 y1 y2 p4 b5 r5 hb4 hW9
    go_wp2_with ((fail_if_success (unfold Held)); refine at_store (t := 30) rfl ?_)
    unfold Held
    refine wpList_store_row rfl 30 (.tmp 6) (.tmp 23) rfl W.heap.size #[.int .i64 t', .slice a5 l5 c5, .slice ka5 kl5 kc5] rfl rfl 30 zT p5 infoT rfl (agg3_one ..) ?_
    rw [show w5.setRow W.heap.size #[.int .i64 t', .slice a5 l5 c5, .slice ka5 kl5 kc5] = W9 from (show W9 = _ from HW9).symm]
    clear HW9 p5
    go_wp2_with fail
    refine bodyPost_ret (results_cellK rfl _ _ _ W.heap.size 30 #[.int .i64 t', .slice a5 l5 c5, .slice ka5 kl5 kc5] (0, 0) _ rfl e9 Try.underlying30 infoT) rfl ?_
    unfold FindPost
    rw [show findF f t' nth = some (bs', k') from HN]
    exact ⟨b9, _, _, _, _, _, _, rfl, hP⟩
end Go.Proofs.Ytdlhnipkhlihjaa
