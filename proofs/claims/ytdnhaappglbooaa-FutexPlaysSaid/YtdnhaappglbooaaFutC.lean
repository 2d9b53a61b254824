/- The walks of Key, All, Len, Copy. -/
import Derived.Test.YtdnhaappglbooaaFutB
import Derived.Test.YtdnhaappglbooaaAnyV
import Derived.Deep.Cut
import Derived.Deep.CutRange
import Derived.Deep.CutBlock
import Derived.Deep.RegionWith
namespace Go.Proofs.Ytdnhaappglbooaa
open Go Go.RowKit
attribute [local go_sem] upV_value upV_skip upV_enter
set_option linter.unusedVariables false
set_option linter.unnecessarySimpa false
set_option linter.unusedSimpArgs false
def isP (pid : Int) (x : Wt) : Bool := decide (x.pid = pid)
theorem FindAt.res {ws : List Wt} {pid r : Int} (h : FindAt ws pid r) :
    (r = -1 ∧ ws.find? (isP pid) = none ∧ ws.eraseP (isP pid) = ws) ∨ ∃ (j : Nat) (hj : j < ws.length), r = j ∧ ws.find? (isP pid) = some ws[j] ∧ ws.eraseP (isP pid) = ws.take j ++ ws.drop (j + 1) := by
  rcases h with ⟨rfl, h⟩ | ⟨j, hj, rfl, h1, h2⟩
  · refine .inl ⟨rfl, ?_, ?_⟩
    · rw [List.find?_eq_none]
      intro x hx
      obtain ⟨i, hi, rfl⟩ := List.mem_iff_getElem.1 hx
      simpa [isP] using h i hi
    · refine List.eraseP_of_forall_not ?_
      intro x hx
      obtain ⟨i, hi, rfl⟩ := List.mem_iff_getElem.1 hx
      simpa [isP] using h i hi
  · refine .inr ⟨j, hj, rfl, ?_, ?_⟩
    · rw [List.find?_eq_some_iff_getElem]
      exact ⟨by simpa [isP] using h1, j, hj, rfl, fun i hi => by simpa [isP] using h2 i hi⟩
    · induction ws generalizing j with
      | nil => simp at hj
      | cons x r ih =>
        cases j with
        | zero =>
          have h1' : x.pid = pid := by simpa using h1
          simp [isP, h1']
        | succ j =>
          have h0 : ¬ x.pid = pid := h2 0 (Nat.succ_pos _)
          have := ih j (by simpa using hj) (by simpa using h1) (by intro i hi; have := h2 (i + 1) (by omega); simpa using this)
          simp [List.eraseP_cons, isP, h0]
          simpa [isP] using this
theorem results_cellK {fn : Func} {p u : Tmp} {ty : TypeId} (h : fn.results = #[.cell p ty, .tmp u]) (tmps : Array Value) (P : Program) (w : World) (g : Nat) (t : TypeId) (cs : Array Value) (fr : Nat × Nat) (d : Array Field)
    (hp : tmps.getD p undef = .pointer (some ⟨g, 0, none⟩)) (hg : w.heap[g]? = some (.cells cs t fr))
    (hu : P.underlying ty = some (.struct d)) (hi : (P.info? ty).map (·.size) = some cs.size) :
    (results fn tmps).run P w = .ok (.tuple #[.agg cs, tmps.getD u undef]) w := by
  have hp' : tmps[p]?.getD undef = .pointer (some ⟨g, 0, none⟩) := by simpa using hp
  simp [results, h, hp', asAddr, run_loadVar_row w g t ty cs fr (.struct d) hg hu rfl hi]
theorem below_setRow2 {B : Nat} {w0 w : World} (hb : Below B w0 w) {g : Nat} (hg : B ≤ g) (cs : Array Value) : Below B w0 (w.setRow g cs) :=
  ⟨hb.os, hb.tape, hb.output, by rw [size_setRow]; exact hb.size, fun b h => (setRow_other w g b cs (by omega)).trans (hb.block b h)⟩
theorem at_store {P : Program} {ops : Array Oper} {rest : List Oper} {o : Oper} {a : Act} {w : World} {Q : Exit → Act → World → Prop} {t : TypeId} {x y : Operand} (ho : o.op = .store t x y) (h : Held (wpList P ops Q (o :: rest) a w)) : wpList P ops Q (o :: rest) a w := h
theorem oneK (a b c : Int) : (#[Value.int .i64 a, .int .i64 b, .int .i64 c]).all (·.oneCell') = true := by
  rw [Array.all_eq_true_iff_forall_mem]
  intro x hx
  simp only [List.mem_toArray, List.mem_cons, List.not_mem_nil, or_false] at hx
  rcases hx with rfl | rfl | rfl <;> rfl
theorem infoK : (Try.prog.info? 33).map (·.size) = some 3 := by kernel_rfl
set_option maxRecDepth 100000 in
set_option maxHeartbeats 4000000 in
theorem key_any (p : Nat) (v : Value) (ws : List Wt) (pid : Int) (W : World) (h : FutAt W p v ws) (hsm : ws.length ≤ 140737488351232) :
    Calls Try.prog 17 #[.pointer (some ⟨p, 0, none⟩), .int .i64 pid] W fun e W' => e = .returned (.tuple #[aggK ((ws.find? (isP pid)).elim ⟨0, 0, 0⟩ (·.k)), .bool (ws.find? (isP pid)).isSome]) ∧ Below W.heap.size W W' := by
  obtain ⟨a, cap, rfl, hr⟩ := h.sl
  have b1 : Below W.heap.size W (W.alloc (.cells #[.int .i64 0, .int .i64 0, .int .i64 0] 33)) := (Below.refl _ W).alloc (Nat.le_refl _) _
  have k := find_any p _ ws pid _ (h.below b1) hsm
  obtain ⟨F, hF⟩ : ∃ F, F = ws.find? (isP pid) := ⟨_, rfl⟩
  rw [← hF]
  go_enter Try.func17, Try.ntmps17
  go_wp2_with (go_at_call 31; refine held ?_)
  unfold Held
  refine k.mono ?_
  rintro e w3 ⟨⟨r, rfl, hf⟩, b3⟩
  have sW : W.heap.size < (W.alloc (.cells #[.int .i64 0, .int .i64 0, .int .i64 0] 33)).heap.size := by simp
  have b4 : Below W.heap.size W w3 := b1.trans (b3.mono b1.size)
  have z3 : w3.heap[W.heap.size]? = some (.cells #[.int .i64 0, .int .i64 0, .int .i64 0] 33) := (b3.block _ sW).trans (World.alloc_heap_new _ _)
  have h3 := h.below b4
  have c3 : w3.cell? ⟨p, 0, none⟩ = some (.slice a ws.length cap) := by rw [cell_of_row _ _ 0 _ _ _ h3.at_]; rfl
  rcases hf.res with ⟨rfl, hf1, _⟩ | ⟨j, hj, rfl, hf1, _⟩
  · rw [← hF] at hf1
    subst hf1
    simp only [Option.elim, Option.isSome]
    clear hF hf h h3 hr k b1
    go_wp2_with ((fail_if_success (unfold Held)); refine at_store rfl ?_)
    unfold Held
    refine wpList_store_row rfl 33 (.tmp 4) (.tmp 12) rfl W.heap.size #[.int .i64 0, .int .i64 0, .int .i64 0] rfl rfl 33 _ z3 infoK rfl (oneK _ _ _) ?_
    go_wp2
    (try simp only [Exit.inBlock, Exit.then])
    refine bodyPost_ret (results_cellK rfl _ _ _ W.heap.size 33 #[.int .i64 0, .int .i64 0, .int .i64 0] (0, 0) _ rfl (setRow_heap _ _ _ _ _ _ z3) Try.underlying33 infoK) rfl ?_
    exact ⟨rfl, below_setRow2 b4 (Nat.le_refl _) _⟩
  · rw [← hF] at hf1
    subst hf1
    simp only [Option.elim, Option.isSome]
    have hr3 := hr.below b4
    have hr0 := hr.2
    clear hF hf h h3 hr k b1
    rcases hr0 with h0 | ⟨b, off, rfl, hbn, hlc, hcm, _⟩
    · omega
    obtain ⟨c0, c1, c2, c4⟩ := hr3.cells4 j hj
    have y0 : w3.cell? ⟨W.heap.size, 0, none⟩ = some (.int .i64 0) := by rw [cell_of_row _ _ 0 _ _ _ z3]; rfl
    have y1 : w3.cell? ⟨W.heap.size, 1, none⟩ = some (.int .i64 0) := by rw [cell_of_row _ _ 1 _ _ _ z3]; rfl
    have y2 : w3.cell? ⟨W.heap.size, 2, none⟩ = some (.int .i64 0) := by rw [cell_of_row _ _ 2 _ _ _ z3]; rfl
    go_wp2_with ((fail_if_success (unfold Held)); refine at_store rfl ?_)
    unfold Held
    refine wpList_store_row rfl 33 (.tmp 4) (.tmp 20) rfl W.heap.size #[.int .i64 ws[j].k.p, .int .i64 ws[j].k.f, .int .i64 ws[j].k.o] rfl rfl 33 _ z3 infoK rfl (oneK _ _ _) ?_
    go_wp2
    (try simp only [Exit.inBlock, Exit.then])
    refine bodyPost_ret (results_cellK rfl _ _ _ W.heap.size 33 #[.int .i64 ws[j].k.p, .int .i64 ws[j].k.f, .int .i64 ws[j].k.o] (0, 0) _ rfl (setRow_heap _ _ _ _ _ _ z3) Try.underlying33 infoK) rfl ?_
    exact ⟨rfl, below_setRow2 b4 (Nat.le_refl _) _⟩
set_option maxRecDepth 100000 in
set_option maxHeartbeats 4000000 in
theorem key_nil (pid : Int) (W : World) :
    Calls Try.prog 17 #[.pointer none, .int .i64 pid] W fun e W' => e = .returned (.tuple #[aggK ⟨0, 0, 0⟩, .bool false]) ∧ Below W.heap.size W W' := by
  have b1 : Below W.heap.size W (W.alloc (.cells #[.int .i64 0, .int .i64 0, .int .i64 0] 33)) := (Below.refl _ W).alloc (Nat.le_refl _) _
  have k := find_nil pid (W.alloc (.cells #[.int .i64 0, .int .i64 0, .int .i64 0] 33))
  go_enter Try.func17, Try.ntmps17
  go_wp2_with (go_at_call 31; refine held ?_)
  unfold Held
  refine k.mono ?_
  rintro e w3 ⟨rfl, b3⟩
  have sW : W.heap.size < (W.alloc (.cells #[.int .i64 0, .int .i64 0, .int .i64 0] 33)).heap.size := by simp
  have b4 : Below W.heap.size W w3 := b1.trans (b3.mono b1.size)
  have z3 : w3.heap[W.heap.size]? = some (.cells #[.int .i64 0, .int .i64 0, .int .i64 0] 33) := (b3.block _ sW).trans (World.alloc_heap_new _ _)
  go_wp2_with ((fail_if_success (unfold Held)); refine at_store rfl ?_)
  unfold Held
  refine wpList_store_row rfl 33 (.tmp 4) (.tmp 12) rfl W.heap.size #[.int .i64 0, .int .i64 0, .int .i64 0] rfl rfl 33 _ z3 infoK rfl (oneK _ _ _) ?_
  go_wp2
  (try simp only [Exit.inBlock, Exit.then])
  refine bodyPost_ret (results_cellK rfl _ _ _ W.heap.size 33 #[.int .i64 0, .int .i64 0, .int .i64 0] (0, 0) _ rfl (setRow_heap _ _ _ _ _ _ z3) Try.underlying33 infoK) rfl ?_
  exact ⟨rfl, below_setRow2 b4 (Nat.le_refl _) _⟩
theorem RowW.vals {n : Nat} {W : World} {a : Option Addr} {len cap : Nat} {ws : List Wt} (h : RowW n W a len cap ws) :
    (len = 0 ∧ flatW ws = []) ∨ ∃ b off, a = some ⟨b, off, none⟩ ∧ ∀ j u, (flatW ws)[j]? = some u → W.cell? ⟨b, off + j, none⟩ = some u := by
  rcases h.2 with h0 | ⟨b, off, rfl, _, _, _, hc⟩
  · have : ws = [] := List.eq_nil_of_length_eq_zero (h.1.trans h0)
    exact .inl ⟨h0, by rw [this]; rfl⟩
  · exact .inr ⟨b, off, rfl, hc⟩
set_option maxRecDepth 100000 in
set_option maxHeartbeats 1000000 in
theorem clone_any (a : Option Addr) (len cap : Nat) (ws : List Wt) (w : World) (n : Nat) (hn : n ≤ w.heap.size) (hr : RowW n w a len cap ws) (hsm : ws.length ≤ 1000000000) :
    Calls Try.prog 30 #[.slice a len cap] w fun e w' => ∃ v, e = .returned v ∧ w'.ownsRow w.heap.size 35 4 v ws.length (flatW ws) ∧ Below w.heap.size w w' := by
  obtain ⟨i0, hi, hz0, hz1, hz2⟩ := info_parts info_w
  have e1 := hr.1
  have qn := fun (a : Option Addr) (n c : Nat) (W : World) => Lib.run_eql_slice_nil (P := Try.prog) W 26 35 a n c 0 0 Try.underlying26
  cases a with
  | none =>
    obtain ⟨rfl, rfl⟩ := hr.nilAddr
    go_enter Try.func30, Try.ntmps30
    go_wp2
    go_ret
    exact ⟨_, rfl, World.ownsRow_nil _ _ _ _, Below.refl _ _⟩
  | some p =>
    go_enter Try.func30, Try.ntmps30
    go_wp2_with (at_builtin; refine held ?_)
    unfold Held
    have hl0 := World.ownsRow_lit (base := w.heap.size) (e := 35) (size := 4) w #[] 0 (Nat.le_refl _) (by decide) rfl
    obtain ⟨W2, hW2⟩ : ∃ W2, W2 = w.alloc (.cells #[] 35) := ⟨_, rfl⟩
    have bb : Below w.heap.size w W2 := by rw [hW2]; exact (Below.refl _ w).alloc (Nat.le_refl _) _
    rw [← hW2] at hl0 ⊢
    refine wpList_append_vals rfl _ _ 26 rfl w.heap.size 35 i0 _ 4 32 Try.underlying26 hi hz0 hz1 hz2 rfl (by decide) (.slice (some ⟨w.heap.size, 0, none⟩) 0 0) 0 [] rfl hl0 (some p) len cap (flatW ws) rfl (by rw [flatW_len, e1]) (flatW_one ws) ((hr.below ⟨bb.os, bb.tape, bb.output, bb.size, fun q hq => bb.block q (by omega)⟩).vals) (by omega) (by simp only [maxLen]; omega) bb.size ?_
    intro v1 u1 o1 hg1 hv1
    have b10 : Below w.heap.size w u1 := bb.grown hg1 bb.size (fun b h => by simp [Value.ownBlock] at h; omega)
    rw [Nat.zero_add, List.nil_append, ← e1] at o1
    clear hl0 hW2 bb hg1 hv1
    go_wp2
    go_ret
    exact ⟨_, rfl, o1, b10⟩
set_option maxRecDepth 100000 in
set_option maxHeartbeats 1000000 in
theorem all_any (p : Nat) (v : Value) (ws : List Wt) (W : World) (h : FutAt W p v ws) (hsm : ws.length ≤ 1000000000) :
    Calls Try.prog 11 #[.pointer (some ⟨p, 0, none⟩)] W fun e w' => ∃ v, e = .returned v ∧ w'.ownsRow W.heap.size 35 4 v ws.length (flatW ws) ∧ Below W.heap.size W w' := by
  obtain ⟨a, cap, rfl, hr⟩ := h.sl
  have k := clone_any a ws.length cap ws W _ (Nat.le_refl _) hr hsm
  have c3 : W.cell? ⟨p, 0, none⟩ = some (.slice a ws.length cap) := by rw [cell_of_row _ _ 0 _ _ _ h.at_]; rfl
  go_enter Try.func11, Try.ntmps11
  go_wp2_with (go_at_call 30; refine held ?_)
  unfold Held
  refine k.mono ?_
  rintro e w3 ⟨v, rfl, ho, b3⟩
  clear k h hr c3
  go_wp2
  go_ret
  exact ⟨_, rfl, ho, b3⟩
set_option maxHeartbeats 1000000 in
theorem all_nil (W : World) :
    Calls Try.prog 11 #[.pointer none] W fun e w' => e = .returned (.slice none 0 0) ∧ w' = W := by
  go_enter Try.func11, Try.ntmps11
  go_wp2
  go_ret
  exact ⟨rfl, rfl⟩
set_option maxHeartbeats 1000000 in
theorem len_any (p : Nat) (v : Value) (ws : List Wt) (W : World) (h : FutAt W p v ws) (hsm : ws.length ≤ 1000000000) :
    Calls Try.prog 19 #[.pointer (some ⟨p, 0, none⟩)] W fun e w' => e = .returned (.int .i64 (ws.length : Int)) ∧ Below W.heap.size W w' := by
  have k := all_any p v ws W h hsm
  go_enter Try.func19, Try.ntmps19
  go_wp2_with (go_at_call 11; refine held ?_)
  unfold Held
  refine k.mono ?_
  rintro e w3 ⟨v, rfl, ho, b3⟩
  obtain ⟨a, c, rfl⟩ : ∃ a c, v = .slice a ws.length c := by
    rcases ho.2 with ⟨h1, h2⟩ | ⟨g, cap, cur, h1, _⟩
    · exact ⟨none, 0, by rw [h1, h2]⟩
    · exact ⟨_, _, h1⟩
  clear k h
  go_wp2
  go_ret
  exact ⟨rfl, b3⟩
set_option maxHeartbeats 1000000 in
theorem len_nil (W : World) :
    Calls Try.prog 19 #[.pointer none] W fun e w' => e = .returned (.int .i64 0) ∧ Below W.heap.size W w' := by
  have k := all_nil W
  go_enter Try.func19, Try.ntmps19
  go_wp2_with (go_at_call 11; refine held ?_)
  unfold Held
  refine k.mono ?_
  rintro e w3 ⟨rfl, rfl⟩
  go_wp2
  go_ret
  exact ⟨rfl, Below.refl _ _⟩
theorem ownsRow_mono {base base' : Nat} {e : TypeId} {size : Nat} {W : World} {v : Value} {n : Nat} {xs : List Value} (h : W.ownsRow base e size v n xs) (hb : base' ≤ base) : W.ownsRow base' e size v n xs := by
  refine ⟨h.1, ?_⟩
  rcases h.2 with h | ⟨g, cap, cur, h1, h2, h3⟩
  · exact .inl h
  · exact .inr ⟨g, cap, cur, h1, Nat.le_trans hb h2, h3⟩
set_option maxRecDepth 100000 in
set_option maxHeartbeats 1000000 in
theorem copy_any (p : Nat) (v : Value) (ws : List Wt) (W : World) (h : FutAt W p v ws) (hsm : ws.length ≤ 1000000000) :
    Calls Try.prog 24 #[.pointer (some ⟨p, 0, none⟩)] W fun e w' => ∃ q v', e = .returned (.pointer (some ⟨q, 0, none⟩)) ∧ W.heap.size ≤ q ∧ (∀ b, SFut q v' b → W.heap.size ≤ b) ∧ FutAt w' q v' ws ∧ Below W.heap.size W w' := by
  have k := all_any p v ws W h hsm
  go_enter Try.func24, Try.ntmps24
  go_wp2_with (go_at_call 11; refine held ?_)
  unfold Held
  refine k.mono ?_
  rintro e w3 ⟨v, rfl, ho, b3⟩
  have hlt := fun b hb => ho.lt b hb
  obtain ⟨a, c, rfl⟩ : ∃ a c, v = .slice a ws.length c := by
    rcases ho.2 with ⟨h1, h2⟩ | ⟨g, cap, cur, h1, _⟩
    · exact ⟨none, 0, by rw [h1, h2]⟩
    · exact ⟨_, _, h1⟩
  clear k h
  go_wp2
  go_ret
  have hs := b3.size
  refine ⟨w3.heap.size, _, rfl, hs, ?_, ⟨World.alloc_heap_new _ _, ?_, ?_⟩, b3.alloc hs _⟩
  · rintro b (rfl | hb)
    · exact hs
    · exact (hlt b hb).1
  · exact ownsRow_same (ownsRow_mono ho (Nat.zero_le _)) fun b hb => Below.heap_alloc _ _ _ (hlt b hb).2
  · intro b hb
    have := (hlt b hb).2
    omega
set_option maxHeartbeats 1000000 in
theorem copy_nil (W : World) :
    Calls Try.prog 24 #[.pointer none] W fun e w' => e = .returned (.pointer none) ∧ w' = W := by
  go_enter Try.func24, Try.ntmps24
  go_wp2
  go_ret
  exact ⟨rfl, rfl⟩
end Go.Proofs.Ytdnhaappglbooaa
