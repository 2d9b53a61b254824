/- Waking: who is left. No program in sight. -/
import Derived.Test.YtdnhaappglbooaaFutLaw
namespace Go.Proofs.Ytdnhaappglbooaa
open Go Go.RowKit
set_option linter.unusedVariables false
set_option linter.unusedSimpArgs false
def notK (k : Ky) (x : Wt) : Bool := decide (x.k ≠ k)
def notIn (l : List Int) (x : Wt) : Bool := decide (x.pid ∉ l)
theorem Good.erase_f {ws : List Wt} (h : Good ws) (pid : Int) : ws.eraseP (isP pid) = ws.filter (notIn [pid]) := by
  induction ws with
  | nil => rfl
  | cons x r ih =>
    have hnd := h.nd
    rw [List.map_cons, List.nodup_cons] at hnd
    by_cases hx : x.pid = pid
    · rw [List.eraseP_cons_of_pos (by simpa [isP] using hx), List.filter_cons_of_neg (by simp [notIn, hx])]
      refine Eq.symm (List.filter_eq_self.2 fun y hy => ?_)
      have : ¬ y.pid = pid := fun he => hnd.1 (List.mem_map.2 ⟨y, hy, he.trans hx.symm⟩)
      simpa [notIn] using this
    · rw [List.eraseP_cons_of_neg (by simpa [isP] using hx), List.filter_cons_of_pos (by simp [notIn, hx]), ih (h.sub (List.sublist_cons_self x r))]
theorem Good.goneAll_f {ws : List Wt} (h : Good ws) (l : List Int) : goneAll ws l = ws.filter (notIn l) := by
  induction l generalizing ws with
  | nil => exact (List.filter_eq_self.2 fun y hy => by simp [notIn]).symm
  | cons x r ih =>
    show goneAll (ws.eraseP (isP x)) r = _
    rw [ih (h.erase x), h.erase_f, List.filter_filter]
    refine List.filter_congr fun y hy => ?_
    simp only [notIn, List.mem_singleton, List.mem_cons, not_or]
    by_cases h1 : y.pid = x <;> by_cases h2 : y.pid ∈ r <;> simp [h1, h2]
theorem Good.eq_of_pid {ws : List Wt} (h : Good ws) {x y : Wt} (hx : x ∈ ws) (hy : y ∈ ws) (he : x.pid = y.pid) : x = y := by
  obtain ⟨i, hi, rfl⟩ := List.mem_iff_getElem.1 hx
  obtain ⟨j, hj, rfl⟩ := List.mem_iff_getElem.1 hy
  have hp := List.pairwise_iff_getElem.1 h.nd
  rcases Nat.lt_trichotomy i j with hij | hij | hij
  · have := hp i j (by rw [List.length_map]; exact hi) (by rw [List.length_map]; exact hj) hij
    rw [List.getElem_map, List.getElem_map] at this
    exact absurd he this
  · subst hij; rfl
  · have := hp j i (by rw [List.length_map]; exact hj) (by rw [List.length_map]; exact hi) hij
    rw [List.getElem_map, List.getElem_map] at this
    exact absurd he.symm this
theorem Good.atL_nodup {ws : List Wt} (h : Good ws) (k : Ky) : (atL ws k).Nodup := h.nd.sublist ((List.filter_sublist).map _)
theorem drop_filter : ∀ (l : List Int) (m : Nat), l.Nodup → l.filter (fun x => decide (x ∉ l.take m)) = l.drop m
  | [], m, _ => by simp
  | x :: r, 0, h => by simp
  | x :: r, m + 1, h => by
    rw [List.nodup_cons] at h
    rw [List.take_succ_cons, List.drop_succ_cons, List.filter_cons_of_neg (by simp), ← drop_filter r m h.2]
    refine List.filter_congr fun y hy => ?_
    have : ¬ y = x := fun e => h.1 (e ▸ hy)
    simp [this]
/-- those of the key who are left -/
theorem Good.wake_at {ws : List Wt} (h : Good ws) (k : Ky) (n : Int) : atL (goneAll ws (wakeO ws k n)) k = (atL ws k).drop n.toNat := by
  rw [h.goneAll_f]
  have h2 : atL (ws.filter (notIn (wakeO ws k n))) k = (atL ws k).filter (fun x => decide (x ∉ wakeO ws k n)) := by
    unfold atL
    rw [List.filter_map, List.filter_filter, List.filter_filter]
    congr 1
    refine List.filter_congr fun y hy => ?_
    simp only [Function.comp, notIn, Bool.and_comm]
  rw [h2]
  exact drop_filter _ _ (h.atL_nodup k)
/-- the others wait on -/
theorem Good.wake_others {ws : List Wt} (h : Good ws) (k : Ky) (n : Int) : (goneAll ws (wakeO ws k n)).filter (notK k) = ws.filter (notK k) := by
  rw [h.goneAll_f, List.filter_filter]
  refine List.filter_congr fun x hx => ?_
  by_cases hk : x.k = k
  · simp [notK, hk]
  · have hn : x.pid ∉ wakeO ws k n := fun hm => by
      have h1 : x.pid ∈ atL ws k := List.mem_of_mem_take hm
      unfold atL at h1
      obtain ⟨y, hy, he⟩ := List.mem_map.1 h1
      have hy2 := List.mem_filter.1 hy
      have := h.eq_of_pid hy2.1 hx he
      subst this
      exact hk (by simpa [isK] using hy2.2)
    simp [notK, notIn, hk, hn]
theorem atL_nil_filter (ws : List Wt) (k : Ky) (h : atL ws k = []) : ws.filter (notK k) = ws := by
  rw [List.filter_eq_self]
  intro x hx
  unfold atL at h
  have h1 : ws.filter (isK k) = [] := by simpa using h
  rw [List.filter_eq_nil_iff] at h1
  have := h1 x hx
  simpa [notK, isK] using this
theorem filterK_take (ws : List Wt) (k : Ky) (j : Nat) (h : j < ws.length) : (ws.take (j + 1)).filter (notK k) = (ws.take j).filter (notK k) ++ (if ws[j].k = k then [] else [ws[j]]) := by
  rw [List.take_succ_eq_append_getElem h, List.filter_append]
  congr 1
  by_cases hk : ws[j].k = k <;> simp [List.filter, notK, hk]
end Go.Proofs.Ytdnhaappglbooaa
