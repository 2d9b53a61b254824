/- The document's futex: May, Key, At. (May's leaves are printed by tools/gen_futmay.py.) -/
import Derived.Test.YtdnhaappglbooaaFutexKeysW
namespace Go.Proofs.Ytdnhaappglbooaa
open Go Go.RowKit
attribute [local go_sem] upV_value upV_skip upV_enter
set_option linter.unusedVariables false
set_option linter.unnecessarySimpa false
set_option linter.unusedSimpArgs false
set_option maxRecDepth 100000 in
set_option maxHeartbeats 4000000 in
theorem may_any (k : Ky) (W : World) : Calls Try.prog 27 #[aggK k] W fun e W' => e = .returned (.bool (mayK k)) ∧ Below W.heap.size W W' := by
  obtain ⟨p, f, o⟩ := k
  show Calls Try.prog _ #[.agg #[.int .i64 p, .int .i64 f, .int .i64 o]] W _
  obtain ⟨m, hm⟩ : ∃ m, m = mayK ⟨p, f, o⟩ := ⟨_, rfl⟩
  rw [← hm]
  have bX : ∀ X : Obj, Below W.heap.size W (W.alloc X) := fun X => (Below.refl _ W).alloc (Nat.le_refl _) X
  have no : ¬ MayK ⟨p, f, o⟩ → m = false := fun h => by rw [hm]; exact decide_eq_false h
  have yes : MayK ⟨p, f, o⟩ → m = true := fun h => by rw [hm]; exact decide_eq_true h
  clear hm
  have gE : ∀ b : Bool, (m = b) → Value.bool m = .bool b := fun b h => by rw [h]
  rcases (by omega : p = 0 ∨ 1 ≤ p ∨ p < 0) with h0 | h0 | h0
  · subst h0
    rcases (by omega : f < 0 ∨ (0 ≤ f ∧ 255 < f) ∨ (0 ≤ f ∧ f ≤ 255)) with h | h | h
    · rw [gE _ (no (by unfold MayK; simp only; omega))]
      have t0 : decide (f ≥ 0) = false := decide_eq_false (by omega)
      clear no yes gE
      go_enter Try.func27, Try.ntmps27
      go_wp2
      go_ret
      exact ⟨rfl, bX _⟩
    · rw [gE _ (no (by unfold MayK; simp only; omega))]
      have t0 : decide (f ≥ 0) = true := decide_eq_true (by omega)
      have t1 : decide (f ≤ 255) = false := decide_eq_false (by omega)
      clear no yes gE
      go_enter Try.func27, Try.ntmps27
      go_wp2
      go_ret
      exact ⟨rfl, bX _⟩
    · rcases (by omega : o < 0 ∨ 63 < o ∨ (0 ≤ o ∧ o ≤ 63)) with h | h | h
      · rw [gE _ (no (by unfold MayK; simp only; omega))]
        have t0 : decide (f ≥ 0) = true := decide_eq_true (by omega)
        have t1 : decide (f ≤ 255) = true := decide_eq_true (by omega)
        have t2 : decide (o ≥ 0) = false := decide_eq_false (by omega)
        clear no yes gE
        go_enter Try.func27, Try.ntmps27
        go_wp2
        go_ret
        exact ⟨rfl, bX _⟩
      · rw [gE _ (no (by unfold MayK; simp only; omega))]
        have t0 : decide (f ≥ 0) = true := decide_eq_true (by omega)
        have t1 : decide (f ≤ 255) = true := decide_eq_true (by omega)
        have t2 : decide (o ≥ 0) = true := decide_eq_true (by omega)
        have t3 : decide (o ≤ 63) = false := decide_eq_false (by omega)
        clear no yes gE
        go_enter Try.func27, Try.ntmps27
        go_wp2
        go_ret
        exact ⟨rfl, bX _⟩
      · rw [gE _ (yes (by unfold MayK; simp; omega))]
        have t0 : decide (f ≥ 0) = true := decide_eq_true (by omega)
        have t1 : decide (f ≤ 255) = true := decide_eq_true (by omega)
        have t2 : decide (o ≥ 0) = true := decide_eq_true (by omega)
        have t3 : decide (o ≤ 63) = true := decide_eq_true (by omega)
        clear no yes gE
        go_enter Try.func27, Try.ntmps27
        go_wp2
        go_ret
        exact ⟨rfl, bX _⟩
  · rcases (by omega : f ≠ 0 ∨ f = 0) with h | h
    · rw [gE _ (no (by unfold MayK; simp only; omega))]
      have t0 : (p == 0) = false := by simpa using (by omega : ¬ p = 0)
      have t1 : decide (p > 0) = true := decide_eq_true (by omega)
      have t2 : (f == 0) = false := by simpa using (by omega : ¬ f = 0)
      clear no yes gE
      go_enter Try.func27, Try.ntmps27
      go_wp2
      go_ret
      exact ⟨rfl, bX _⟩
    · rcases (by omega : o < 0 ∨ 4095 < o ∨ (0 ≤ o ∧ o ≤ 4095)) with h | h | h
      · rw [gE _ (no (by unfold MayK; simp only; omega))]
        have t0 : (p == 0) = false := by simpa using (by omega : ¬ p = 0)
        have t1 : decide (p > 0) = true := decide_eq_true (by omega)
        have t2 : (f == 0) = true := by simpa using (by omega : f = 0)
        have t3 : decide (o ≥ 0) = false := decide_eq_false (by omega)
        clear no yes gE
        go_enter Try.func27, Try.ntmps27
        go_wp2
        go_ret
        exact ⟨rfl, bX _⟩
      · rw [gE _ (no (by unfold MayK; simp only; omega))]
        have t0 : (p == 0) = false := by simpa using (by omega : ¬ p = 0)
        have t1 : decide (p > 0) = true := decide_eq_true (by omega)
        have t2 : (f == 0) = true := by simpa using (by omega : f = 0)
        have t3 : decide (o ≥ 0) = true := decide_eq_true (by omega)
        have t4 : decide (o ≤ 4095) = false := decide_eq_false (by omega)
        clear no yes gE
        go_enter Try.func27, Try.ntmps27
        go_wp2
        go_ret
        exact ⟨rfl, bX _⟩
      · rw [gE _ (yes (by unfold MayK; simp; omega))]
        have t0 : (p == 0) = false := by simpa using (by omega : ¬ p = 0)
        have t1 : decide (p > 0) = true := decide_eq_true (by omega)
        have t2 : (f == 0) = true := by simpa using (by omega : f = 0)
        have t3 : decide (o ≥ 0) = true := decide_eq_true (by omega)
        have t4 : decide (o ≤ 4095) = true := decide_eq_true (by omega)
        clear no yes gE
        go_enter Try.func27, Try.ntmps27
        go_wp2
        go_ret
        exact ⟨rfl, bX _⟩
  · rw [gE _ (no (by unfold MayK; simp only; omega))]
    have t0 : (p == 0) = false := by simpa using (by omega : ¬ p = 0)
    have t1 : decide (p > 0) = false := decide_eq_false (by omega)
    clear no yes gE
    go_enter Try.func27, Try.ntmps27
    go_wp2
    go_ret
    exact ⟨rfl, bX _⟩
/-- the document's futex at d, with its row u -/
structure DocAt (W : World) (d : Nat) (u : Value) (ws : List Wt) : Prop where
  at_ : W.heap[d]? = some (.cells #[u] 52)
  own : W.ownsRow 0 35 4 u ws.length (flatW ws)
  ne : ∀ b, u.ownBlock = some b → b ≠ d
theorem DocAt.same {A B : World} {p : Nat} {v : Value} {ws : List Wt} (h : DocAt A p v ws) (hs : ∀ b, SFut p v b → B.heap[b]? = A.heap[b]?) : DocAt B p v ws :=
  ⟨(hs p (.inl rfl)).trans h.at_, ownsRow_same h.own (fun b hb => hs b (.inr hb)), h.ne⟩
theorem DocAt.lt {W : World} {p : Nat} {v : Value} {ws : List Wt} (h : DocAt W p v ws) : ∀ b, SFut p v b → b < W.heap.size := by
  intro b hb
  rcases hb with rfl | hb
  · exact (Array.getElem?_eq_some_iff.1 h.at_).1
  · exact (h.own.lt b hb).2
theorem DocAt.below {A B : World} {p : Nat} {v : Value} {ws : List Wt} (h : DocAt A p v ws) (hb : Below A.heap.size A B) : DocAt B p v ws := h.same fun b hs => hb.block b (h.lt b hs)
theorem DocAt.sl {W : World} {p : Nat} {v : Value} {ws : List Wt} (h : DocAt W p v ws) : ∃ a cap, v = .slice a ws.length cap ∧ RowW W.heap.size W a ws.length cap ws ∧ ws.length ≤ cap := by
  obtain ⟨a, c, rfl⟩ := sl_own h.own
  have := own_cells4 h.own
  exact ⟨a, c, rfl, this.2.1, this.2.2⟩
theorem DocAt.c0 {W : World} {p : Nat} {v : Value} {ws : List Wt} (h : DocAt W p v ws) : W.cell? ⟨p, 0, none⟩ = some v := by rw [cell_of_row _ _ 0 _ _ _ h.at_]; rfl
set_option maxRecDepth 100000 in
set_option maxHeartbeats 4000000 in
theorem dkey_any (d : Nat) (u : Value) (ws : List Wt) (pid : Int) (W : World) (h : DocAt W d u ws) (hsm : ws.length ≤ 1000000) :
    Calls Try.prog 25 #[.pointer (some ⟨d, 0, none⟩), .int .i64 pid] W fun e W' => e = .returned (.tuple #[aggK ((ws.find? (isP pid)).elim ⟨0, 0, 0⟩ (·.k)), .bool (ws.find? (isP pid)).isSome]) ∧ Below W.heap.size W W' := by
  obtain ⟨a, cap, rfl, hr, hlc⟩ := h.sl
  have c0 := h.c0
  have hdl := h.lt d (.inl rfl)
  obtain ⟨F, hF⟩ : ∃ F, F = ws.find? (isP pid) := ⟨_, rfl⟩
  rw [← hF]
  have HF := Lib.hid hF
  obtain ⟨V, hV⟩ : ∃ V, V = W.alloc (.cells #[.int .i64 0, .int .i64 0, .int .i64 0] 33) := ⟨_, rfl⟩
  have b1 : Below W.heap.size W V := by rw [hV]; exact (Below.refl _ W).alloc (Nat.le_refl _) _
  have z1 : V.heap[W.heap.size]? = some (.cells #[.int .i64 0, .int .i64 0, .int .i64 0] 33) := by rw [hV]; exact World.alloc_heap_new _ _
  have hV1 := h.below b1
  have cV := hV1.c0
  have rV := hr.below b1
  clear hF h hV1
  go_enter Try.func25, Try.ntmps25
  go_wp2
  rw [← hV]
  clear hV
  go_loopw [6] (fun i wr => ∃ j : Nat, i = .int .i64 (j : Int) ∧ j ≤ ws.length ∧ wr = V ∧ Hid (∀ i (h : i < ws.length), i < j → ws[i].pid ≠ pid)) (fun i _ => ws.length - (intOf i).toNat)
  case atStart => exact ⟨0, rfl, Nat.zero_le _, rfl, fun i h hj => absurd hj (Nat.not_lt_zero _)⟩
  case round =>
    obtain ⟨j, rfl, hj, hwV, hT⟩ := hrel
    obtain rfl := hwV.symm
    by_cases hlt : j < ws.length
    · have t3 : decide ((j : Int) < ((ws.length : Nat) : Int)) = true := by simp; omega
      obtain ⟨_, h0 | ⟨b, off, rfl, hbn, _, hcm, _⟩⟩ := id rV
      · omega
      obtain ⟨q0, q1, q2, q3⟩ := rV.cells4 j hlt
      simp only [maxLen] at hcm
      obtain ⟨X, hX⟩ : ∃ X, X = ws[j] := ⟨_, rfl⟩
      rw [← hX] at q0 q1 q2 q3
      have HX := Lib.hid hX
      clear hX
      by_cases hx : X.pid = pid
      · have t4 : (X.pid == pid) = true := by simpa using hx
        have hFe : F = some X := by
          rw [show F = ws.find? (isP pid) from HF, show X = ws[j] from HX]
          rw [List.find?_eq_some_iff_getElem]
          refine ⟨by rw [← show X = ws[j] from HX]; simpa [isP] using hx, j, hlt, rfl, fun i hi => ?_⟩
          have := (show ∀ i (h : i < ws.length), i < j → ws[i].pid ≠ pid from hT) i (by omega) hi
          simpa [isP] using this
        subst hFe
        try simp only [Option.elim, Option.isSome]
        clear HF hT hx hr
        go_wp2_with ((fail_if_success (unfold Held)); refine at_store rfl ?_)
        unfold Held
        refine wpList_store_row rfl 33 (.tmp 4) (.tmp 33) rfl W.heap.size #[.int .i64 X.k.p, .int .i64 X.k.f, .int .i64 X.k.o] rfl rfl 33 _ z1 infoK rfl (oneK _ _ _) ?_
        go_wp2
        (try simp only [Exit.inBlock, Exit.then])
        refine bodyPost_ret (results_cellK rfl _ _ _ W.heap.size 33 #[.int .i64 X.k.p, .int .i64 X.k.f, .int .i64 X.k.o] (0, 0) _ rfl (setRow_heap _ _ _ _ _ _ z1) Try.underlying33 infoK) rfl ?_
        exact ⟨rfl, below_setRow2 b1 (Nat.le_refl _) _⟩
      · have t4 : (X.pid == pid) = false := by simpa using hx
        have HN := Lib.hid hx
        clear hx
        go_wp2
        go_roundw
        case rel =>
          refine ⟨j + 1, by go_num, by omega, by trivial, fun i h hij => ?_⟩
          rcases (by omega : i < j ∨ i = j) with h' | rfl
          · exact (show ∀ i (h : i < ws.length), i < j → ws[i].pid ≠ pid from hT) i h h'
          · rw [← show X = ws[i] from HX]; exact HN
        case measure => simp [intOf]; omega
    · have t3 : decide ((j : Int) < ((ws.length : Nat) : Int)) = false := by simp; omega
      obtain rfl : j = ws.length := by omega
      have hFe : F = none := by
        rw [show F = ws.find? (isP pid) from HF, none_iff]
        intro x hx
        obtain ⟨i, hi, rfl⟩ := List.mem_iff_getElem.1 hx
        exact (show ∀ i (h : i < ws.length), i < ws.length → ws[i].pid ≠ pid from hT) i hi hi
      subst hFe
      try simp only [Option.elim, Option.isSome]
      clear HF hT hr
      go_wp2_with ((fail_if_success (unfold Held)); refine at_store rfl ?_)
      unfold Held
      refine wpList_store_row rfl 33 (.tmp 4) (.tmp 34) rfl W.heap.size #[.int .i64 0, .int .i64 0, .int .i64 0] rfl rfl 33 _ z1 infoK rfl (oneK _ _ _) ?_
      go_wp2
      (try simp only [Exit.inBlock, Exit.then])
      refine bodyPost_ret (results_cellK rfl _ _ _ W.heap.size 33 #[.int .i64 0, .int .i64 0, .int .i64 0] (0, 0) _ rfl (setRow_heap _ _ _ _ _ _ z1) Try.underlying33 infoK) rfl ?_
      exact ⟨rfl, below_setRow2 b1 (Nat.le_refl _) _⟩
end Go.Proofs.Ytdnhaappglbooaa
