/- The walks of New, Copy, Double. -/
import Derived.Test.YtdacdfnfbknndaaFrmE
import Derived.Test.YtdacdfnfbknndaaAnyZ
namespace Go.Proofs.Ytdacdfnfbknndaa
open Go Go.RowKit
attribute [local go_sem] upV_value upV_skip upV_enter
set_option linter.unusedVariables false
set_option linter.unnecessarySimpa false
set_option linter.unusedSimpArgs false
theorem info_fr : (Try.prog.info? 67).map (fun i => (i.zero, i.size, i.bytes)) = some (some (.agg (encF ⟨zeros, 0⟩).toArray), 65, 72) := by kernel_rfl
theorem zeros_len : zeros.length = 64 := rfl
def newL (n : Nat) : List Fr := List.replicate n ⟨zeros, 0⟩
theorem newL_len (n : Nat) : (newL n).length = n := List.length_replicate
theorem newL_64 (n : Nat) : Len64 (newL n) := fun x hx => by rw [(List.mem_replicate.1 hx).2]; rfl
theorem made_flat (n : Nat) : (madeCells (encF ⟨zeros, 0⟩).toArray (n * 65)).toList = flatFr (newL n) := by
  have hl := flatFr_len (newL_64 n)
  rw [newL_len] at hl
  apply List.ext_getElem?
  intro j
  by_cases hj : j < n * 65
  · have hm : j % 65 < 65 := Nat.mod_lt _ (by decide)
    have hd : j / 65 < n := Nat.div_lt_of_lt_mul (by omega)
    have hjj : j = j / 65 * 65 + j % 65 := by omega
    have h1 : (flatFr (newL n))[j]? = (encF ⟨zeros, 0⟩)[j % 65]? := by
      conv => lhs; rw [hjj]
      rw [flatFr_get (newL_64 n) (j / 65) (by rw [newL_len]; exact hd) _ hm]
      congr 1
      unfold newL
      rw [List.getElem_replicate]
    rw [h1]
    have he : (encF ⟨zeros, 0⟩).length = 65 := rfl
    rw [Array.getElem?_toList]
    unfold madeCells
    rw [Array.getElem?_map, Array.getElem?_range, if_pos hj]
    simp only [Option.map_some, List.size_toArray, he]
    rw [List.getElem?_eq_getElem (by rw [he]; exact hm)]
    congr 1
    rw [getElem!_pos _ _ (by rw [List.size_toArray, he]; exact hm)]
    rfl
  · rw [List.getElem?_eq_none (by rw [Array.length_toList, size_madeCells]; omega), List.getElem?_eq_none (by omega)]
theorem at_make {P : Program} {ops : Array Oper} {rest : List Oper} {o : Oper} {a : Act} {w : World} {Q : Exit → Act → World → Prop} {t : TypeId} {x y : Operand} (ho : o.op = .makeSlice t x y) (h : Held (wpList P ops Q (o :: rest) a w)) : wpList P ops Q (o :: rest) a w := h
set_option maxRecDepth 100000 in
set_option maxHeartbeats 1000000 in
theorem new_bad (n : Int) (W : World) (h : n < 1 ∨ n > 256) :
    Calls Try.prog 14 #[.int .i64 n] W fun e W' => e = .returned (.tuple #[.pointer none, .int .i64 2]) ∧ W' = W := by
  rcases h with h | h
  · have t1 : decide (n < 1) = true := decide_eq_true h
    go_enter Try.func14, Try.ntmps14
    go_wp2
    go_ret2
    exact ⟨rfl, rfl⟩
  · have t1 : decide (n < 1) = false := decide_eq_false (by omega)
    have t2 : decide (n > 256) = true := decide_eq_true h
    go_enter Try.func14, Try.ntmps14
    go_wp2
    go_ret2
    exact ⟨rfl, rfl⟩
set_option maxRecDepth 100000 in
set_option maxHeartbeats 1000000 in
theorem new_any (n : Nat) (W : World) (h1 : 1 ≤ n) (h2 : n ≤ 256) :
    Calls Try.prog 14 #[.int .i64 (n : Int)] W fun e W' => ∃ p g, e = .returned (.tuple #[.pointer (some ⟨p, 0, none⟩), .int .i64 0]) ∧ FrAt W' p g n (newL n) ∧ W.heap.size ≤ p ∧ W.heap.size ≤ g ∧ Below W.heap.size W W' := by
  obtain ⟨i0, hi, hz0, hz1, hz2⟩ := info_parts info_fr
  have t1 : decide ((n : Int) < 1) = false := decide_eq_false (by omega)
  have t2 : decide ((n : Int) > 256) = false := decide_eq_false (by omega)
  have hmf := made_flat n
  obtain ⟨Z, hZ⟩ : ∃ Z, Z = (encF ⟨zeros, 0⟩).toArray := ⟨_, rfl⟩
  rw [← hZ] at hz0 hmf
  clear hZ
  go_enter Try.func14, Try.ntmps14
  go_wp2_with ((fail_if_success (unfold Held)); refine at_make rfl ?_)
  unfold Held
  refine wpList_make_full W rfl (.tmp 10) (.tmp 10) 60 rfl W.heap.size 67 i0 (.agg Z) 65 Try.underlying60 hi hz0 hz1 .i64 .i64 (n : Int) (n : Int) n rfl rfl rfl rfl (by rw [hz2]; omega) (by simp only [maxLen]; omega) (Nat.le_refl _) ?_
  intro w1 o1 g1
  rw [show (Value.agg Z).cells = Z from rfl, hmf] at o1
  have b1 : Below W.heap.size W w1 := (Below.refl _ W).grown g1 (Nat.le_refl _) (fun b h => by cases h)
  have HO := Lib.hid o1
  have hgl := (o1.lt W.heap.size rfl).2
  clear o1 g1 hmf
  go_wp2
  go_ret2
  refine ⟨w1.heap.size, W.heap.size, rfl, ⟨?_, ?_, newL_64 n, by rw [newL_len]; omega, by rw [newL_len]; omega⟩, b1.size, Nat.le_refl _, b1.alloc b1.size _⟩
  · rw [newL_len]; exact World.alloc_heap_new _ _
  · rw [newL_len]
    have ho : w1.ownsRow W.heap.size 67 65 (.slice (some ⟨W.heap.size, 0, none⟩) n n) n (flatFr (newL n)) := HO
    have := ho
    refine ⟨ho.1, ?_⟩
    rcases ho.2 with h | ⟨g, c, cur, e1, e2, e3, e4⟩
    · exact .inl h
    · refine .inr ⟨g, c, cur, e1, Nat.zero_le _, ?_, e4⟩
      exact (Below.heap_alloc _ _ _ (Array.getElem?_eq_some_iff.1 e3).1).trans e3
theorem flatFr_one (fs : List Fr) : ∀ u ∈ flatFr fs, u.oneCell' = true := by
  intro u hu
  unfold flatFr at hu
  obtain ⟨x, _, hx⟩ := List.mem_flatMap.1 hu
  exact (Array.all_eq_true_iff_forall_mem.1 (encF_one x)) u (by simpa using hx)
theorem own_mono {base base' : Nat} {e : TypeId} {size : Nat} {W W' : World} {v : Value} {n : Nat} {xs : List Value} (h : W.ownsRow base e size v n xs) (hb : base' ≤ base) (hs : ∀ b, v.ownBlock = some b → W'.heap[b]? = W.heap[b]?) : W'.ownsRow base' e size v n xs := by
  refine ⟨h.1, ?_⟩
  rcases h.2 with h | ⟨g, cap, cur, rfl, h2, h3, h4⟩
  · exact .inl h
  · exact .inr ⟨g, cap, cur, rfl, Nat.le_trans hb h2, (hs g rfl).trans h3, h4⟩
set_option maxRecDepth 100000 in
set_option maxHeartbeats 1000000 in
theorem clone65_any (p g cap : Nat) (fs : List Fr) (w : World) (h : FrAt w p g cap fs) :
    Calls Try.prog 39 #[.slice (some ⟨g, 0, none⟩) fs.length cap] w fun e w' => ∃ v, e = .returned v ∧ w'.ownsRow w.heap.size 67 65 v fs.length (flatFr fs) ∧ Below w.heap.size w w' := by
  obtain ⟨i0, hi, hz0, hz1, hz2⟩ := info_parts info_fr
  have hsm := h.sm
  have qn := fun (a : Option Addr) (n c : Nat) (W : World) => Lib.run_eql_slice_nil (P := Try.prog) W 60 67 a n c 0 0 Try.underlying60
  obtain ⟨Z, hZ⟩ : ∃ Z, Z = (encF ⟨zeros, 0⟩).toArray := ⟨_, rfl⟩
  have hZs : (Value.agg Z).cells.size = 65 := by rw [hZ]; rfl
  rw [← hZ] at hz0
  clear hZ
  go_enter Try.func39, Try.ntmps39
  go_wp2_with (at_builtin; refine held ?_)
  unfold Held
  have hl0 := World.ownsRow_lit (base := w.heap.size) (e := 67) (size := 65) w #[] 0 (Nat.le_refl _) (by decide) rfl
  obtain ⟨W2, hW2⟩ : ∃ W2, W2 = w.alloc (.cells #[] 67) := ⟨_, rfl⟩
  have bb : Below w.heap.size w W2 := by rw [hW2]; exact (Below.refl _ w).alloc (Nat.le_refl _) _
  rw [← hW2] at hl0 ⊢
  have h2 := h.below bb
  refine wpList_append_vals rfl _ _ 60 rfl w.heap.size 67 i0 (.agg Z) 65 72 Try.underlying60 hi hz0 hz1 hz2 hZs (by decide) (.slice (some ⟨w.heap.size, 0, none⟩) 0 0) 0 [] rfl hl0 (some ⟨g, 0, none⟩) fs.length cap (flatFr fs) rfl (flatFr_len h.len) (flatFr_one fs) (.inr ⟨g, 0, rfl, fun j u hj => ?_⟩) (by omega) (by simp only [maxLen]; omega) bb.size ?_
  · have hl := (List.getElem?_eq_some_iff.1 hj).1
    rw [flatFr_len h.len] at hl
    rw [Nat.zero_add, h2.own.cellAt j hl, hj]
  intro v1 u1 o1 hg1 hv1
  have b10 : Below w.heap.size w u1 := bb.grown hg1 bb.size (fun b h => by simp [Value.ownBlock] at h; omega)
  rw [Nat.zero_add, List.nil_append] at o1
  clear hl0 hW2 bb hg1 hv1 h2 h
  go_wp2
  go_ret
  exact ⟨_, rfl, o1, b10⟩
set_option maxRecDepth 100000 in
set_option maxHeartbeats 1000000 in
theorem copy_any (p g cap : Nat) (fs : List Fr) (W : World) (h : FrAt W p g cap fs) :
    Calls Try.prog 20 #[.pointer (some ⟨p, 0, none⟩)] W fun e w' => ∃ q g' c', e = .returned (.pointer (some ⟨q, 0, none⟩)) ∧ W.heap.size ≤ q ∧ W.heap.size ≤ g' ∧ FrAt w' q g' c' fs ∧ Below W.heap.size W w' := by
  have K := Lib.hid (clone65_any p g cap fs W h)
  have c0 := h.c0
  have hp := h.pos
  have h64 := h.len
  have hsm := h.sm
  have z0 : (((fs.length : Nat) : Int) == 0) = false := beq_eq_false_iff_ne.2 (by omega)
  clear h
  go_enter Try.func20, Try.ntmps20
  go_wp2_with (go_at_call 39; refine held ?_)
  unfold Held
  refine Calls.mono K ?_
  rintro e w3 ⟨v, rfl, ho, b3⟩
  rcases ho.2 with ⟨_, h0⟩ | ⟨g', c', cur, rfl, hg, _⟩
  · omega
  have hlt := (ho.lt g' rfl).2
  have HO := Lib.hid ho
  clear ho K
  go_wp2
  go_ret
  have hs := b3.size
  refine ⟨w3.heap.size, g', c', rfl, hs, hg, ⟨World.alloc_heap_new _ _, own_mono HO (Nat.zero_le _) (fun b hb => ?_), h64, hp, hsm⟩, b3.alloc hs _⟩
  obtain rfl : g' = b := by simpa [Value.ownBlock] using hb
  exact Below.heap_alloc _ _ _ hlt
end Go.Proofs.Ytdacdfnfbknndaa
