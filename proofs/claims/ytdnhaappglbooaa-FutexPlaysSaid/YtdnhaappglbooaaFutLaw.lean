/- Who waits behind calls: no two the same, each may be. No program in sight. -/
import Derived.Test.YtdnhaappglbooaaFutK
namespace Go.Proofs.Ytdnhaappglbooaa
open Go Go.RowKit
set_option linter.unusedVariables false
structure Good (ws : List Wt) : Prop where
  nd : (ws.map (·.pid)).Nodup
  pos : ∀ x ∈ ws, 1 ≤ x.pid
  may : ∀ x ∈ ws, MayK x.k
theorem Good.nil : Good [] := ⟨by simp, by simp, by simp⟩
theorem Good.sub {ws vs : List Wt} (h : Good ws) (hs : List.Sublist vs ws) : Good vs :=
  ⟨h.nd.sublist (hs.map _), fun x hx => h.pos x (hs.subset hx), fun x hx => h.may x (hs.subset hx)⟩
theorem Good.erase {ws : List Wt} (h : Good ws) (pid : Int) : Good (ws.eraseP (isP pid)) := h.sub List.eraseP_sublist
theorem goneAll_sub (ws : List Wt) (l : List Int) : List.Sublist (goneAll ws l) ws := by
  induction l generalizing ws with
  | nil => exact List.Sublist.refl _
  | cons x r ih => exact (ih _).trans List.eraseP_sublist
theorem Good.gone {ws : List Wt} (h : Good ws) (l : List Int) : Good (goneAll ws l) := h.sub (goneAll_sub ws l)
theorem mayK_iff (k : Ky) : mayK k = true ↔ MayK k := by unfold mayK; exact decide_eq_true_iff
theorem none_iff (ws : List Wt) (pid : Int) : ws.find? (isP pid) = none ↔ ∀ x ∈ ws, x.pid ≠ pid := by
  rw [List.find?_eq_none]
  simp [isP]
theorem Good.wait {ws : List Wt} (h : Good ws) (pid : Int) (k : Ky) : Good (waitL ws pid k).2 := by
  unfold waitL
  split
  · exact h
  · rename_i h1
    split
    · exact h
    · rename_i h2
      have h3 : ws.find? (isP pid) = none := by simpa using h2
      rw [none_iff] at h3
      have h4 : MayK k := (mayK_iff k).1 (by cases hm : mayK k with | true => rfl | false => exact absurd (.inr hm) h1)
      refine ⟨?_, ?_, ?_⟩
      · rw [List.map_append, List.nodup_append]
        refine ⟨h.nd, by simp, ?_⟩
        intro a ha b hb
        simp only [List.map_cons, List.map_nil, List.mem_singleton] at hb
        obtain ⟨x, hx, rfl⟩ := List.mem_map.1 ha
        subst hb
        exact h3 x hx
      · intro x hx
        rcases List.mem_append.1 hx with hx | hx
        · exact h.pos x hx
        · simp only [List.mem_singleton] at hx
          subst hx
          show 1 ≤ pid
          have : ¬ pid < 1 := fun hp => h1 (.inl hp)
          omega
      · intro x hx
        rcases List.mem_append.1 hx with hx | hx
        · exact h.may x hx
        · simp only [List.mem_singleton] at hx
          subst hx
          exact h4
theorem Good.step {ws : List Wt} (h : Good ws) (o : OpF) : Good (stepL ws o) := by
  unfold stepL
  split
  · exact h.wait _ _
  · split
    · exact h.gone _
    · split
      · exact h.erase _
      · exact h
theorem good_foldl (os : List OpF) (ws : List Wt) (h : Good ws) : Good (os.foldl stepL ws) := by
  induction os generalizing ws with
  | nil => exact h
  | cons o r ih => exact ih _ (h.step o)
theorem good_grow (os : List OpF) : Good (growL os) := good_foldl os [] Good.nil
/-- once more, in their order -/
theorem Good.again {ws : List Wt} (h : Good ws) (j : Nat) (hj : j < ws.length) : waitL (ws.take j) ws[j].pid ws[j].k = (0, ws.take (j + 1)) := by
  unfold waitL
  have hm := List.getElem_mem hj
  have h1 := h.pos _ hm
  have h2 : mayK ws[j].k = true := (mayK_iff _).2 (h.may _ hm)
  rw [if_neg (by rintro (h | h); · omega
                 · rw [h2] at h; cases h)]
  have h3 : (ws.take j).find? (isP ws[j].pid) = none := by
    rw [none_iff]
    intro x hx he
    obtain ⟨i, hi, rfl⟩ := List.mem_iff_getElem.1 hx
    rw [List.length_take] at hi
    rw [List.getElem_take] at he
    have hnd := h.nd
    have := List.pairwise_iff_getElem.1 hnd i j (by rw [List.length_map]; omega) (by rw [List.length_map]; exact hj) (by omega)
    rw [List.getElem_map, List.getElem_map] at this
    exact this he
  rw [h3]
  simp only [Option.isSome_none, Bool.false_eq_true, if_false]
  rw [List.take_succ_eq_append_getElem hj]
end Go.Proofs.Ytdnhaappglbooaa
