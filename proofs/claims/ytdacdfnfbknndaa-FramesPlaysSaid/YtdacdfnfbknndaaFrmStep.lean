/- What calls make of a memory. No program in sight. -/
import Derived.Test.YtdacdfnfbknndaaFrmOps
namespace Go.Proofs.Ytdacdfnfbknndaa
open Go Go.RowKit
set_option linter.unusedVariables false
set_option linter.unnecessarySimpa false
theorem shareF_len (fs : List Fr) (k : Int) : (shareF fs k).length = fs.length := by unfold shareF; split <;> simp
theorem dropF_len (fs : List Fr) (k : Int) : (dropF fs k).length = fs.length := by unfold dropF; split <;> simp
theorem writeF_len (fs : List Fr) (k off : Int) (zs : List Int) : (writeF fs k off zs).length = fs.length := by unfold writeF; split <;> simp
theorem dblL_len (fs : List Fr) (k : Int) : (dblL fs k).length = fs.length := by
  unfold dblL
  split
  · split <;> simp
  · rfl
/-- a memory behind a call -/
def stepF (fs : List Fr) (o : OpM) : List Fr :=
  if o.k = 0 then takeL fs else if o.k = 1 then shareF fs o.f else if o.k = 2 then dropF fs o.f else if o.k = 4 then writeF fs o.f o.o o.bs else if o.k = 5 then dblL fs o.f else fs
theorem stepF_len (fs : List Fr) (o : OpM) : (stepF fs o).length = fs.length := by
  unfold stepF
  split
  · exact takeL_len _
  split
  · exact shareF_len _ _
  split
  · exact dropF_len _ _
  split
  · exact writeF_len _ _ _ _
  split
  · exact dblL_len _ _
  · rfl
/-- what is free holds noughts; no count is more than B -/
structure Mem (B : Int) (fs : List Fr) : Prop where
  zf : ZeroF fs
  sm : ∀ x ∈ fs, 0 ≤ x.n ∧ x.n ≤ B
theorem Mem.small {B : Int} {fs : List Fr} (h : Mem B fs) (hB : B ≤ 1000000) : Small fs := fun x hx => ⟨(h.sm x hx).1, by have := (h.sm x hx).2; omega⟩
theorem Mem.set {B B' : Int} {fs : List Fr} (h : Mem B fs) (i : Nat) (x : Fr) (h1 : x.n = 0 → x.b = zeros) (h2 : 0 ≤ x.n) (h3 : x.n ≤ B') (hB : B ≤ B') : Mem B' (fs.set i x) := by
  refine ⟨fun y hy => ?_, fun y hy => ?_⟩
  · rcases List.mem_or_eq_of_mem_set hy with hy | rfl
    · exact h.zf y hy
    · exact h1
  · rcases List.mem_or_eq_of_mem_set hy with hy | rfl
    · have := h.sm y hy; omega
    · omega
theorem Mem.mono {B B' : Int} {fs : List Fr} (h : Mem B fs) (hB : B ≤ B') : Mem B' fs := ⟨h.zf, fun x hx => ⟨(h.sm x hx).1, by have := (h.sm x hx).2; omega⟩⟩
theorem Mem.new (n : Nat) : Mem 0 (newL n) := by
  refine ⟨fun x hx _ => by rw [(List.mem_replicate.1 hx).2], fun x hx => by rw [(List.mem_replicate.1 hx).2]; exact ⟨Int.le_refl _, Int.le_refl _⟩⟩
theorem Mem.take {B : Int} {fs : List Fr} (h : Mem B fs) (hB : 0 ≤ B) : Mem (B + 1) (takeL fs) := by
  unfold takeL
  split
  · exact h.mono (by omega)
  · exact h.set _ _ (fun h => by cases h) (by simp) (by simp only; omega) (by omega)
theorem Mem.share {B : Int} {fs : List Fr} (h : Mem B fs) (k : Int) : Mem (B + 1) (shareF fs k) := by
  unfold shareF
  split
  · rename_i hk
    obtain ⟨i, hi, rfl, hn⟩ := okF_true hk
    rw [frAt_at hi]
    have := h.sm _ (List.getElem_mem hi)
    exact h.set _ _ (fun h => by simp only at h; omega) (by simp only; omega) (by simp only; omega) (by omega)
  · exact h.mono (by omega)
theorem Mem.drop {B : Int} {fs : List Fr} (h : Mem B fs) (k : Int) : Mem B (dropF fs k) := by
  unfold dropF
  split
  · rename_i hk
    obtain ⟨i, hi, rfl, hn⟩ := okF_true hk
    rw [frAt_at hi]
    have := h.sm _ (List.getElem_mem hi)
    split
    · exact h.set _ _ (fun _ => rfl) (by simp) (by simp only; omega) (by omega)
    · exact h.set _ _ (fun h => by simp only at h; omega) (by simp only; omega) (by simp only; omega) (by omega)
  · exact h
theorem Mem.write {B : Int} {fs : List Fr} (h : Mem B fs) (k off : Int) (zs : List Int) : Mem B (writeF fs k off zs) := by
  unfold writeF
  split
  · rename_i he
    have hk : okF fs k = true := by
      unfold readE at he
      split at he
      · assumption
      · cases he
    obtain ⟨i, hi, rfl, hn⟩ := okF_true hk
    rw [frAt_at hi]
    have := h.sm _ (List.getElem_mem hi)
    exact h.set _ _ (fun h => by simp only at h; exact absurd h hn) (by simp only; omega) (by simp only; omega) (by omega)
  · exact h
theorem Mem.double {B : Int} {fs : List Fr} (h : Mem B fs) (hB : 0 ≤ B) (k : Int) : Mem (B + 1) (dblL fs k) := by
  unfold dblL
  split
  · split
    · exact h.mono (by omega)
    · exact h.set _ _ (fun h => by cases h) (by simp) (by simp only; omega) (by omega)
  · exact h.mono (by omega)
theorem Mem.step {B : Int} {fs : List Fr} (h : Mem B fs) (hB : 0 ≤ B) (o : OpM) : Mem (B + 1) (stepF fs o) := by
  unfold stepF
  split
  · exact h.take hB
  split
  · exact h.share _
  split
  · exact (h.drop _).mono (by omega)
  split
  · exact (h.write _ _ _).mono (by omega)
  split
  · exact h.double hB _
  · exact h.mono (by omega)
/-- a memory behind calls -/
def growF (n : Nat) (os : List OpM) : List Fr := os.foldl stepF (newL n)
theorem growF_take (n : Nat) (os : List OpM) (j : Nat) (h : j < os.length) : growF n (os.take (j + 1)) = stepF (growF n (os.take j)) os[j] := by
  unfold growF
  rw [List.take_succ_eq_append_getElem h, List.foldl_append]
  rfl
theorem foldl_step (os : List OpM) (B : Int) (fs : List Fr) (h : Mem B fs) (hB : 0 ≤ B) : Mem (B + os.length) (os.foldl stepF fs) ∧ (os.foldl stepF fs).length = fs.length := by
  induction os generalizing B fs with
  | nil => exact ⟨by simpa using h, rfl⟩
  | cons o r ih =>
    have := ih (B + 1) (stepF fs o) (h.step hB o) (by omega)
    rw [stepF_len] at this
    refine ⟨this.1.mono (by simp only [List.length_cons]; omega), this.2⟩
theorem growF_mem (n : Nat) (os : List OpM) : Mem os.length (growF n os) := by
  have := (foldl_step os 0 (newL n) (Mem.new n) (Int.le_refl _)).1
  rwa [Int.zero_add] at this
theorem growF_len (n : Nat) (os : List OpM) : (growF n os).length = n := ((foldl_step os 0 (newL n) (Mem.new n) (Int.le_refl _)).2).trans (newL_len n)
end Go.Proofs.Ytdacdfnfbknndaa
