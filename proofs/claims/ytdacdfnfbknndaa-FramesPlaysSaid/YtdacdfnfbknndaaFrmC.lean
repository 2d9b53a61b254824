/- The walk of Take. -/
import Derived.Test.YtdacdfnfbknndaaFrmB
namespace Go.Proofs.Ytdacdfnfbknndaa
open Go Go.RowKit
attribute [local go_sem] upV_value upV_skip upV_enter
set_option linter.unusedVariables false
set_option linter.unnecessarySimpa false
set_option linter.unusedSimpArgs false
theorem at_load {P : Program} {ops : Array Oper} {rest : List Oper} {o : Oper} {a : Act} {w : World} {Q : Exit → Act → World → Prop} {t : TypeId} {x : Operand} (ho : o.op = .load t x) (h : Held (wpList P ops Q (o :: rest) a w)) : wpList P ops Q (o :: rest) a w := h
theorem infoFr : (Try.prog.info? 67).map (·.size) = some 65 := by kernel_rfl
set_option maxHeartbeats 1000000 in
theorem take1_any (x : Fr) (hx : x.b.length = 64) (W : World) :
    Calls Try.prog 42 #[.agg (encF x).toArray] W fun e W' => e = .returned (.bool (x.n == 0)) ∧ Below W.heap.size W W' := by
  have hc : (W.alloc (.cells (encF x).toArray 67)).cell? ⟨W.heap.size, 64, none⟩ = some (.int .i64 x.n) := by
    rw [cell_of_row _ _ _ _ _ _ (World.alloc_heap_new _ _)]
    have := encF_count hx
    simpa using this
  have bX : ∀ X : Obj, Below W.heap.size W (W.alloc X) := fun X => (Below.refl _ W).alloc (Nat.le_refl _) X
  obtain ⟨E, hE⟩ : ∃ E, E = (encF x).toArray := ⟨_, rfl⟩
  rw [← hE] at hc ⊢
  clear hE
  go_enter Try.func42, Try.ntmps42
  go_wp2
  go_ret
  exact ⟨rfl, bX _⟩
/-- the least free one -/
def FirstAt (fs : List Fr) (r : Int) : Prop :=
  (r = -1 ∧ ∀ j (h : j < fs.length), fs[j].n ≠ 0) ∨ ∃ (j : Nat) (h : j < fs.length), r = j ∧ fs[j].n = 0 ∧ ∀ i (h : i < j), fs[i].n ≠ 0
set_option maxRecDepth 100000 in
set_option maxHeartbeats 4000000 in
theorem index_any (p g cap : Nat) (fs : List Fr) (W : World) (h : FrAt W p g cap fs) :
    Calls Try.prog 41 #[.slice (some ⟨g, 0, none⟩) fs.length cap, .func (.func 42) #[] #[]] W fun e W' => (∃ r : Int, e = .returned (.int .i64 r) ∧ FirstAt fs r) ∧ Below W.heap.size W W' := by
  have hsm := h.sm
  obtain ⟨hcl, hcm⟩ := h.caps
  simp only [maxLen] at hcm
  go_enter Try.func41, Try.ntmps41
  go_wp2
  go_loopw [5, 8] (fun _ i wr => ∃ k : Nat, i = .int .i64 (k : Int) ∧ k ≤ fs.length ∧ Hid (∀ j (h : j < fs.length), j < k → fs[j].n ≠ 0) ∧ Below W.heap.size W wr) (fun _ i _ => fs.length - (intOf i).toNat)
  case atStart => exact ⟨0, rfl, Nat.zero_le _, fun j h hj => absurd hj (Nat.not_lt_zero _), Below.refl _ _⟩
  case round =>
    obtain ⟨k, rfl, hk, hT, hb⟩ := hrel
    by_cases hlt : k < fs.length
    · have t1 : decide ((k : Int) < ((fs.length : Nat) : Int)) = true := by simp; omega
      have hW := h.below hb
      have hcs := hW.cells k hlt
      have h64 := h.len.at hlt
      obtain ⟨X, hX⟩ : ∃ X, X = fs[k] := ⟨_, rfl⟩
      rw [← hX] at hcs h64
      have HX := Lib.hid hX
      have HC := Lib.hid hcs
      clear hX hcs hW h
      go_wp2_with ((fail_if_success (unfold Held)); refine at_load (t := 67) rfl ?_)
      unfold Held
      refine wpList_load_at rfl 67 (.tmp 14) rfl g (k * 65) rfl (encF X) _ HC Try.underlying67 rfl (infoFr.trans (by rw [encF_len h64])) ?_
      have ff := take1_any X h64 wr
      obtain ⟨E, hE⟩ : ∃ E, E = (encF X).toArray := ⟨_, rfl⟩
      rw [← hE] at ff ⊢
      clear hE HC
      have K := Lib.hid ff
      clear ff
      go_wp2_with (go_at_call 42; refine held ?_)
      unfold Held
      refine Calls.mono K ?_
      rintro e w3 ⟨rfl, b3⟩
      have b4 : Below W.heap.size W w3 := hb.trans (b3.mono hb.size)
      clear K b3 hb
      by_cases hN : X.n = 0
      · have t2 : (X.n == 0) = true := by simpa using hN
        rw [t2]
        have HE := Lib.hid hN
        clear hN t2
        go_wp2
        go_ret
        refine ⟨⟨_, rfl, .inr ⟨k, by omega, rfl, ?_, fun i hi => ?_⟩⟩, b4⟩
        · rw [← show X = fs[k] from HX]; exact HE
        · exact (show ∀ j (h : j < fs.length), j < k → fs[j].n ≠ 0 from hT) i (by omega) hi
      · have t2 : (X.n == 0) = false := by simpa using hN
        rw [t2]
        have HE := Lib.hid hN
        clear hN t2
        go_wp2
        go_roundw
        case rel =>
          refine ⟨k + 1, by go_num, by omega, fun j h hj => ?_, b4⟩
          rcases (by omega : j < k ∨ j = k) with h' | rfl
          · exact (show ∀ j (h : j < fs.length), j < k → fs[j].n ≠ 0 from hT) j h h'
          · rw [← show X = fs[j] from HX]; exact HE
        case measure => simp [intOf]; omega
    · have t1 : decide ((k : Int) < ((fs.length : Nat) : Int)) = false := by simp; omega
      obtain rfl : k = fs.length := by omega
      go_wp2
      go_ret
      exact ⟨⟨_, rfl, .inl ⟨rfl, fun j h => (show ∀ j (h : j < fs.length), j < fs.length → fs[j].n ≠ 0 from hT) j h h⟩⟩, hb⟩
def takeF (fs : List Fr) : Option Nat := fs.findIdx? (fun x => decide (x.n = 0))
def takeL (fs : List Fr) : List Fr := match takeF fs with | none => fs | some i => fs.set i ⟨(frAt fs i).b, 1⟩
def takeV (fs : List Fr) : Int := match takeF fs with | none => 0 | some i => i
def takeE (fs : List Fr) : Int := match takeF fs with | none => 40 | some _ => 0
theorem takeF_some {fs : List Fr} {i : Nat} (h : takeF fs = some i) : ∃ hi : i < fs.length, fs[i].n = 0 ∧ ∀ j (hj : j < i), fs[j].n ≠ 0 := by
  unfold takeF at h
  rw [List.findIdx?_eq_some_iff_getElem] at h
  obtain ⟨hi, h1, h2⟩ := h
  exact ⟨hi, by simpa using h1, fun j hj => by simpa using h2 j hj⟩
theorem takeF_none {fs : List Fr} (h : takeF fs = none) : ∀ x ∈ fs, x.n ≠ 0 := by
  unfold takeF at h
  rw [List.findIdx?_eq_none_iff] at h
  intro x hx
  simpa using h x hx
theorem FirstAt.res {fs : List Fr} {r : Int} (h : FirstAt fs r) : (r = -1 ∧ takeF fs = none) ∨ ∃ (i : Nat) (hi : i < fs.length), r = i ∧ takeF fs = some i := by
  rcases h with ⟨rfl, h⟩ | ⟨j, hj, rfl, h1, h2⟩
  · refine .inl ⟨rfl, ?_⟩
    unfold takeF
    rw [List.findIdx?_eq_none_iff]
    intro x hx
    obtain ⟨i, hi, rfl⟩ := List.mem_iff_getElem.1 hx
    simpa using h i hi
  · refine .inr ⟨j, hj, rfl, ?_⟩
    unfold takeF
    rw [List.findIdx?_eq_some_iff_getElem]
    exact ⟨hj, by simpa using h1, fun i hi => by simpa using h2 i hi⟩
theorem takeL_len (fs : List Fr) : (takeL fs).length = fs.length := by
  unfold takeL
  split <;> simp
set_option maxRecDepth 100000 in
set_option maxHeartbeats 4000000 in
theorem take_any (p g cap : Nat) (fs : List Fr) (W : World) (h : FrAt W p g cap fs) :
    Calls Try.prog 23 #[.pointer (some ⟨p, 0, none⟩)] W fun e W' => e = .returned (.tuple #[.int .i64 (takeV fs), .int .i64 (takeE fs)]) ∧ FrAt W' p g cap (takeL fs) ∧ Wr (· = g) (· = g) W W' := by
  have c0 := h.c0
  have hsm := h.sm
  have hp := h.pos
  have z0 : (((fs.length : Nat) : Int) == 0) = false := beq_eq_false_iff_ne.2 (by omega)
  obtain ⟨hc, hm⟩ := h.caps
  simp only [maxLen] at hm
  have K := Lib.hid (index_any p g cap fs W h)
  go_enter Try.func23, Try.ntmps23
  go_wp2_with (go_at_call 41; refine held ?_)
  unfold Held
  refine Calls.mono K ?_
  rintro e w3 ⟨⟨r, rfl, hr⟩, b3⟩
  have h3 := h.below b3
  have c3 := h3.c0
  rcases hr.res with ⟨rfl, hn⟩ | ⟨i, hi, rfl, hn⟩
  · have HE := Lib.hid (show takeV fs = 0 ∧ takeE fs = 40 ∧ takeL fs = fs from by unfold takeV takeE takeL; rw [hn]; exact ⟨rfl, rfl, rfl⟩)
    have HF := Lib.hid h3
    clear h3 h K hn hr c0
    go_wp2
    go_ret2
    obtain ⟨e1, e2, e3⟩ := (show _ ∧ _ ∧ _ from HE)
    rw [e1, e2, e3]
    exact ⟨rfl, HF, Wr.of_below b3⟩
  · have HE := Lib.hid (show takeV fs = i ∧ takeE fs = 0 ∧ takeL fs = fs.set i ⟨fs[i].b, 1⟩ from by unfold takeV takeE takeL; rw [hn]; exact ⟨rfl, rfl, by simp only; rw [frAt_at hi]⟩)
    have c1 := h3.count i hi
    have hfz := h3.own.frozenAt (i * 65 + 64)
    obtain ⟨hT1, hT2⟩ := h3.setN i hi 1
    have HT := Lib.hid (And.intro hT1 (Wr.trans (Wr.of_below (S := (· = g)) b3) hT2))
    have t1 : decide ((i : Int) < 0) = false := by simp
    clear h3 h K hn hr hT1 hT2 c0 b3
    go_wp2
    go_ret2
    obtain ⟨e1, e2, e3⟩ := (show _ ∧ _ ∧ _ from HE)
    rw [e1, e2, e3]
    exact ⟨rfl, HT⟩
end Go.Proofs.Ytdacdfnfbknndaa
