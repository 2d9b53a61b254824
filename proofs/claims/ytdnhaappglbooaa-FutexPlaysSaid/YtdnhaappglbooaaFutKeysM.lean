/- FutexKeys: what it stands on. No program in sight. -/
import Derived.Test.YtdnhaappglbooaaFutOrderM
namespace Go.Proofs.Ytdnhaappglbooaa
open Go Go.RowKit
set_option linter.unusedVariables false
set_option linter.unusedSimpArgs false
theorem Good.find {ws : List Wt} (h : Good ws) (j : Nat) (hj : j < ws.length) : ws.find? (isP ws[j].pid) = some ws[j] := by
  cases hf : ws.find? (isP ws[j].pid) with
  | none =>
    rw [none_iff] at hf
    exact absurd rfl (hf _ (List.getElem_mem hj))
  | some x =>
    have hx := List.mem_of_find?_eq_some hf
    have hp : isP ws[j].pid x = true := List.find?_some hf
    rw [h.eq_of_pid hx (List.getElem_mem hj) (by simpa [isP] using hp)]
theorem Good.apart {ws : List Wt} (h : Good ws) (i j : Nat) (hi : i < ws.length) (hj : j < ws.length) (hij : i < j) : ws[i].pid ≠ ws[j].pid := by
  have := List.pairwise_iff_getElem.1 h.nd i j (by rw [List.length_map]; exact hi) (by rw [List.length_map]; exact hj) hij
  rwa [List.getElem_map, List.getElem_map] at this
/-- who waits does not wait once more -/
theorem Good.twice {ws : List Wt} (h : Good ws) (j : Nat) (hj : j < ws.length) (k : Ky) (hk : mayK k = true) : waitL ws ws[j].pid k = (110, ws) := by
  have h1 := h.pos _ (List.getElem_mem hj)
  unfold waitL
  rw [if_neg (by rintro (h | h); · omega
                 · rw [hk] at h; cases h), if_pos (by rw [h.find j hj]; rfl)]
theorem stepL_pid (ws : List Wt) (o : OpF) (x : Wt) (hx : x ∈ stepL ws o) : x ∈ ws ∨ x.pid = o.pid := by
  unfold stepL at hx
  split at hx
  · unfold waitL at hx
    split at hx
    · exact .inl hx
    · split at hx
      · exact .inl hx
      · rcases List.mem_append.1 hx with hx | hx
        · exact .inl hx
        · simp only [List.mem_singleton] at hx
          exact .inr (by rw [hx])
  · split at hx
    · exact .inl ((goneAll_sub _ _).subset hx)
    · split at hx
      · exact .inl (List.eraseP_sublist.subset hx)
      · exact .inl hx
theorem foldl_pid (os : List OpF) (ws : List Wt) (x : Wt) (hx : x ∈ os.foldl stepL ws) : x ∈ ws ∨ ∃ o ∈ os, x.pid = o.pid := by
  induction os generalizing ws with
  | nil => exact .inl hx
  | cons o r ih =>
    rcases ih _ hx with h | ⟨o', ho, he⟩
    · rcases stepL_pid ws o x h with h | h
      · exact .inl h
      · exact .inr ⟨o, List.mem_cons_self, h⟩
    · exact .inr ⟨o', List.mem_cons_of_mem _ ho, he⟩
theorem growL_pid (os : List OpF) (x : Wt) (hx : x ∈ growL os) : ∃ o ∈ os, x.pid = o.pid := by
  rcases foldl_pid os [] x hx with h | h
  · cases h
  · exact h
theorem atL_take' (ws : List Wt) (k : Ky) (j : Nat) (h : j < ws.length) : atL (ws.take (j + 1)) k = atL (ws.take j) k ++ (if ws[j].k = k then [ws[j].pid] else []) := atL_take ws k j h
end Go.Proofs.Ytdnhaappglbooaa
