/- The walk of the law FramesLeast. -/
import Derived.Test.YtdacdfnfbknndaaFramesDoubleW
namespace Go.Proofs.Ytdacdfnfbknndaa
open Go Go.RowKit
attribute [local go_sem] upV_value upV_skip upV_enter
set_option linter.unusedVariables false
set_option linter.unnecessarySimpa false
set_option linter.unusedSimpArgs false
theorem usedF_mem {fs : List Fr} {x : Int} : x ∈ usedF fs ↔ ∃ (i : Nat) (hi : i < fs.length), x = i ∧ fs[i].n ≠ 0 := by
  unfold usedF usedTo
  simp only [List.mem_map, List.mem_filter, List.mem_range, decide_eq_true_eq]
  constructor
  · rintro ⟨i, ⟨hi, hn⟩, rfl⟩
    rw [frAt_at hi] at hn
    exact ⟨i, hi, rfl, hn⟩
  · rintro ⟨i, hi, rfl, hn⟩
    exact ⟨i, ⟨hi, by rw [frAt_at hi]; exact hn⟩, rfl⟩
theorem usedF_nodup (fs : List Fr) : (usedF fs).Nodup := by
  unfold usedF usedTo
  have h1 : (List.range fs.length).Nodup := List.nodup_range
  have h2 := List.Pairwise.filter (fun i : Nat => decide ((frAt fs (i : Int)).n ≠ 0)) h1
  exact List.Pairwise.map (R := fun a b : Nat => a ≠ b) (S := fun a b : Int => a ≠ b) Int.ofNat (fun a b h e => h (Int.ofNat.inj e)) h2
theorem nodup_take {U : List Int} (h : U.Nodup) (j : Nat) (hj : j < U.length) : ¬ U[j] ∈ U.take j := by
  intro hm
  obtain ⟨i, hi, he⟩ := List.mem_iff_getElem.1 hm
  rw [List.getElem_take] at he
  rw [List.length_take] at hi
  exact (List.pairwise_iff_getElem.1 h) i j (by omega) hj (by omega) he
theorem usedTo_full (fs : List Fr) (j : Nat) (h : ∀ i, i < j → (frAt fs (i : Int)).n ≠ 0) : (usedTo fs j).length = j := by
  unfold usedTo
  rw [List.length_map, List.filter_eq_self.2, List.length_range]
  intro i hi
  simpa using h i (List.mem_range.1 hi)
theorem usedF_full (fs : List Fr) (h : ∀ i (hi : i < fs.length), fs[i].n ≠ 0) : (usedF fs).length = fs.length :=
  usedTo_full fs _ fun i hi => by rw [frAt_at hi]; exact h i hi
/-- which of 12 are among these -/
def inL (ks : List Int) : List Value := (List.range 12).map fun i : Nat => Value.bool (decide ((i : Int) ∈ ks))
theorem inL_nil : inL [] = List.replicate 12 (.bool false) := by rfl
theorem inL_at (ks : List Int) (i : Nat) (hi : i < 12) : (inL ks)[i]? = some (.bool (decide ((i : Int) ∈ ks))) := by
  unfold inL
  rw [List.getElem?_map, List.getElem?_range hi]; rfl
theorem inL_set (ks : List Int) (i : Nat) (hi : i < 12) : (inL ks).set i (.bool true) = inL (ks ++ [(i : Int)]) := by
  apply List.ext_getElem?
  intro j
  rw [List.getElem?_set]
  split
  · rename_i e; subst e
    rw [if_pos (by unfold inL; simpa using hi), inL_at _ _ hi]
    simp
  · rename_i e
    by_cases hj : j < 12
    · rw [inL_at _ _ hj, inL_at _ _ hj]
      have : ((j : Int) ∈ ks ++ [(i : Int)]) ↔ (j : Int) ∈ ks := by
        rw [List.mem_append, List.mem_singleton]
        exact ⟨fun h => h.elim id fun h => absurd h (by omega), .inl⟩
      rw [decide_eq_decide.2 this]
    · rw [List.getElem?_eq_none (by unfold inL; simpa using hj), List.getElem?_eq_none (by unfold inL; simpa using hj)]
def BoxI (W : World) (b : Nat) (ks : List Int) : Prop := W.heap[b]? = some (.cells (inL ks).toArray 50)
theorem BoxI.cell {W : World} {b : Nat} {ks : List Int} (h : BoxI W b ks) (i : Nat) (hi : i < 12) : W.cell? ⟨b, i, none⟩ = some (.bool (decide ((i : Int) ∈ ks))) := by
  rw [cell_of_row _ _ i _ _ _ h, List.getElem?_toArray, inL_at _ _ hi]
theorem BoxI.set {W : World} {b : Nat} {ks : List Int} (h : BoxI W b ks) (i : Nat) (hi : i < 12) : BoxI (W.setCell ⟨b, i, none⟩ (.bool true)) b (ks ++ [(i : Int)]) := by
  unfold BoxI
  rw [heap_setCell_same _ _ _ _ _ _ h, List.setIfInBounds_toArray, inL_set _ _ hi]
set_option maxRecDepth 100000 in
set_option maxHeartbeats 8000000 in
theorem framesLeast_any (W : World) (a : Option Addr) (len cap : Nat) (os : List OpM) (h : IsOps W.heap.size W a len cap os) :
    Calls Try.prog 6 #[.slice a len cap] W fun e W' => e = .returned (.bool true) ∧ Below W.heap.size W W' := by
  go_enter Try.func6, Try.ntmps6
  go_wp2_with (go_at_call 10; refine held ?_)
  unfold Held
  refine (alive_any W).mono ?_
  rintro e w2 ⟨rfl, bW2⟩
  have h2 := (h.below bW2).mono bW2.size
  go_wp2_with (go_at_call 11; refine held ?_)
  unfold Held
  refine (great_any _ w2 a len cap os h2).mono ?_
  rintro e w3 ⟨rfl, ⟨rfl, hl1, hl2⟩ | rfl⟩
  rotate_left
  · go_wp2
    go_ret
    exact ⟨rfl, bW2⟩
  have kg := grown_any w2 a len cap os h2 hl1 hl2
  go_wp2_with (go_at_call 12; refine held ?_)
  unfold Held
  refine kg.mono ?_
  rintro e w3 ⟨p, g, cp, rfl, hF, hg, hp, b3⟩
  have hGl := growF_len 12 os
  have hGm := growF_mem 12 os
  have hol := h.1
  obtain ⟨fs, hfs⟩ : ∃ fs, fs = growF 12 os := ⟨_, rfl⟩
  rw [← hfs] at hF hGl hGm
  have bW3 := bW2.trans (b3.mono bW2.size)
  have hgw : W.heap.size ≤ g := Nat.le_trans bW2.size hg
  clear hfs kg h2 b3 bW2 h hl2 hg hp
  have hsm := hGm.sm
  have hG := hF
  have K1 := Lib.hid (used_any p g cp fs w3 hF)
  go_wp2_with (go_at_call 21; refine held ?_)
  unfold Held
  refine Calls.mono K1 ?_
  rintro e w4 ⟨v4, rfl, o4, b4⟩
  have F4 := hF.below b4
  have bW4 := bW3.trans (b4.mono bW3.size)
  have hu := usedF_nodup fs
  have hum := fun x => usedF_mem (fs := fs) (x := x)
  have hul := usedF_len fs
  have k2 := free_any p g cp fs w4 F4
  rw [hGl] at k2
  obtain ⟨U, hU⟩ : ∃ U, U = usedF fs := ⟨_, rfl⟩
  rw [← hU] at o4 hu hul k2
  simp only [← hU] at hum
  obtain ⟨ua, uc, rfl, hop⟩ := own_open o4
  have K2 := Lib.hid k2
  have HU := Lib.hid hu
  have HM := Lib.hid hum
  clear K1 hF hG b4 bW3 hU k2 hu hum
  go_wp2_with (go_at_call 22; refine held ?_)
  unfold Held
  refine Calls.mono K2 ?_
  rintro e w5 ⟨rfl, b5⟩
  have o5 := row_below o4 b5
  have F5 := F4.below b5
  have bW5 := bW4.trans (b5.mono bW4.size)
  have z5 : (((12 : Nat) : Int) - (U.length : Int) + (U.length : Int) != 12) = false := by simp
  have z6 : ((12 : Int) - (U.length : Int) + (U.length : Int) != 12) = false := by simp
  clear K2 o4 F4 b5 bW4
  obtain ⟨V, hV⟩ : ∃ V, V = w5.alloc (.cells #[.bool false, .bool false, .bool false, .bool false, .bool false, .bool false, .bool false, .bool false, .bool false, .bool false, .bool false, .bool false] 50) := ⟨_, rfl⟩
  have bV : Below w5.heap.size w5 V := by rw [hV]; exact (Below.refl _ _).alloc (Nat.le_refl _) _
  have xV : BoxI V w5.heap.size [] := by unfold BoxI; rw [inL_nil, hV]; exact World.alloc_heap_new _ _
  obtain ⟨I, hI⟩ : ∃ I, I = w5.heap.size := ⟨_, rfl⟩
  have oV := row_below o5 bV
  have FV := F5.below bV
  have bWV := bW5.trans (bV.mono bW5.size)
  have hIw : W.heap.size ≤ I := by have := bW5.size; omega
  have lV : I < V.heap.size := by rw [hI, hV]; simp
  have lg := F5.ltg
  have lp := F5.ltp
  have lu := o5.lt
  rw [← hI] at xV lg lp lu
  have hUc : U.length ≤ 12 := by omega
  go_wp2_with fail
  rw [← hV, ← hI]
  have HLU := Lib.hid lu
  have HSM := Lib.hid hsm
  have HGM := Lib.hid hGm
  clear hV hI bV o5 F5 bW5 lu hsm hGm
  go_loopw [8, 35] (fun _ x wr => ∃ (j : Nat), x = .int .i64 (j : Int) ∧ j ≤ U.length ∧ BoxI wr I (U.take j) ∧ Wr (· = I) (· = I) V wr) (fun _ x _ => U.length - (intOf x).toNat)
  case atStart => exact ⟨0, rfl, Nat.zero_le _, by rw [List.take_zero]; exact xV, Wr.refl _ _⟩
  case round =>
    clear xV
    obtain ⟨j, rfl, hj, hx, hw⟩ := hrel
    have hF0 := FV.same (hw.block p FV.ltp (by omega)) (hw.block g FV.ltg (by omega))
    have orr : wr.ownsRow _ _ _ _ _ _ := ownsRow_same oV fun b hb => hw.block b (oV.lt b hb).2 (by have := ((show ∀ b, _ → _ ∧ _ from HLU) b hb).2; omega)
    by_cases hlt : j < U.length
    · have t6 : decide ((j : Int) < ((U.length : Nat) : Int)) = true := by simp; omega
      obtain ⟨ub, rfl, hub, hcc, hcm⟩ := hop (by omega)
      simp only [maxLen] at hcm
      have c1 : wr.cell? ⟨ub, j, none⟩ = some (.int .i64 U[j]) := by
        rw [orr.cellAt j (by omega), List.getElem?_map, List.getElem?_eq_getElem hlt]; rfl
      obtain ⟨i, hi, he, hn⟩ := ((show ∀ x, x ∈ U ↔ _ from HM) U[j]).1 (List.getElem_mem hlt)
      have hni := nodup_take HU j hlt
      have htk : U.take (j + 1) = U.take j ++ [(i : Int)] := by rw [List.take_succ_eq_append_getElem hlt, he]
      rw [he] at c1 hni
      have c2 := hx.cell i (by omega)
      rw [decide_eq_false hni] at c2
      have hxs := hx.set i (by omega)
      rw [← htk] at hxs
      have hws := hw.setCell (p := ⟨I, i, none⟩) (.inl rfl) (.bool true)
      have fz : wr.frozen? ⟨I, i, none⟩ = false := by simp only [World.frozen?, show wr.heap[I]? = _ from hx]; simp
      have u1 : decide ((i : Int) < 0) = false := by simp
      have u2 : decide ((i : Int) ≥ 12) = false := by simp; omega
      have k1 := refs_any p g cp fs i wr hF0
      rw [okF_at hi, frAt_at hi, decide_eq_true hn, if_pos rfl] at k1
      have hs := (show ∀ x ∈ fs, 0 ≤ x.n ∧ _ from HSM) _ (List.getElem_mem hi)
      have u3 : decide (fs[i].n < 1) = false := by simp; omega
      obtain ⟨N, hN⟩ : ∃ N, N = fs[i].n := ⟨_, rfl⟩
      rw [← hN] at k1 u3
      have K1 := Lib.hid k1
      have HX := Lib.hid (And.intro hxs hws)
      have hi12 : i < 12 := by omega
      clear k1 hxs hws htk hni he hx hw orr hF0 hop oV FV hN hs hn hi
      go_wp2_with (go_at_call 19; refine held ?_)
      unfold Held
      refine Calls.mono K1 ?_
      rintro e w8 ⟨rfl, rfl⟩
      clear K1
      go_wp2
      go_roundw
      case rel => exact ⟨j + 1, by go_num, by omega, HX.1, HX.2⟩
      case measure => simp [intOf]; omega
    · have t6 : decide ((j : Int) < ((U.length : Nat) : Int)) = false := by simp; omega
      obtain rfl : j = U.length := by omega
      rw [List.take_length] at hx
      have bWr : Below W.heap.size W wr := ⟨hw.os.trans bWV.os, hw.tape.trans bWV.tape, hw.output.trans bWV.output, Nat.le_trans bWV.size hw.size, fun b hb => (hw.block b (by have := bWV.size; omega) (by omega)).trans (bWV.block b hb)⟩
      clear hop oV FV orr hw bWV lV
      go_wp2_with fail
      go_loopw [9, 10, 11] (fun x _ _ wr => ∃ (j : Nat) (gs : List Fr), x = .int .i64 (j : Int) ∧ j ≤ 12 ∧ FrAt wr p g cp gs ∧ Hid (gs.length = 12 ∧ (∀ i (h : i < gs.length), i < j → gs[i].n ≠ 0) ∧ ∀ i (h : i < gs.length) (h' : i < fs.length), j ≤ i → gs[i] = fs[i]) ∧ BoxI wr I U ∧ Below W.heap.size W wr) (fun x _ _ _ => 12 - (intOf x).toNat)
      case atStart => exact ⟨0, fs, rfl, Nat.zero_le _, hF0, ⟨hGl, fun i h hi => by omega, fun i h h' _ => rfl⟩, hx, bWr⟩
      case round =>
        clear hF0 hx bWr
        obtain ⟨j, gs, rfl, hj, hF, hgs, hx, hb⟩ := hrel
        obtain ⟨hl, hlo, hhi⟩ := (show _ ∧ _ ∧ _ from hgs)
        by_cases hlt : j < 12
        · have t7 : decide ((j : Int) < 12) = true := by simp; omega
          have c2 := hx.cell j hlt
          by_cases hn : fs[j].n = 0
          · have hni : ¬ (j : Int) ∈ U := fun hm => by
              obtain ⟨i, hi, he, hne⟩ := ((show ∀ x, x ∈ U ↔ _ from HM) (j : Int)).1 hm
              obtain rfl : j = i := by omega
              exact hne hn
            rw [decide_eq_false hni] at c2
            have hjl : j < gs.length := by omega
            have hgj : gs[j].n = 0 := by rw [hhi j hjl (by omega) (Nat.le_refl _)]; exact hn
            have htk : takeF gs = some j := by
              unfold takeF
              rw [List.findIdx?_eq_some_iff_getElem]
              exact ⟨hjl, by simpa using hgj, fun i hi => by simpa using hlo i (by omega) hi⟩
            have k1 := take_any p g cp gs wr hF
            rw [show takeV gs = j by unfold takeV; rw [htk], show takeE gs = 0 by unfold takeE; rw [htk], show takeL gs = gs.set j ⟨gs[j].b, 1⟩ by unfold takeL; rw [htk]; simp only; rw [frAt_at hjl]] at k1
            have hl2 : (gs.set j (⟨gs[j].b, 1⟩ : Fr)).length = 12 := by rw [List.length_set]; exact hl
            have hG2 : Hid ((gs.set j (⟨gs[j].b, 1⟩ : Fr)).length = 12 ∧ (∀ i (h : i < (gs.set j (⟨gs[j].b, 1⟩ : Fr)).length), i < j + 1 → (gs.set j (⟨gs[j].b, 1⟩ : Fr))[i].n ≠ 0) ∧ ∀ i (h : i < (gs.set j (⟨gs[j].b, 1⟩ : Fr)).length) (h' : i < fs.length), j + 1 ≤ i → (gs.set j (⟨gs[j].b, 1⟩ : Fr))[i] = fs[i]) := by
              refine ⟨hl2, fun i h hi => ?_, fun i h h' hi => ?_⟩
              · rw [List.getElem_set]
                split
                · simp
                · exact hlo i (by omega) (by omega)
              · rw [List.getElem_set_ne (by omega)]
                exact hhi i (by omega) h' (by omega)
            have hk : okF (gs.set j (⟨gs[j].b, 1⟩ : Fr)) j = true := okF_set hjl _ (by simp)
            have hf : (frAt (gs.set j (⟨gs[j].b, 1⟩ : Fr)) j).n = 1 := by rw [frAt_at (by rw [List.length_set]; exact hjl), List.getElem_set_self]
            obtain ⟨g2, hg2⟩ : ∃ g2, g2 = gs.set j (⟨gs[j].b, 1⟩ : Fr) := ⟨_, rfl⟩
            rw [← hg2] at k1 hG2 hk hf
            have K1 := Lib.hid k1
            have K2 := Lib.hid (fun (W' : World) (hf' : FrAt W' p g cp g2) => by
              have := refs_any p g cp g2 j W' hf'
              rw [hk, if_pos rfl, hf] at this
              exact this)
            have HX := Lib.hid hx
            clear k1 hk hf hg2 htk hgj hni hlo hhi hgs hl hl2 hn hF hx
            go_wp2_with (go_at_call 23; refine held ?_)
            unfold Held
            refine Calls.mono K1 ?_
            rintro e w8 ⟨rfl, F8, hw8⟩
            have x8 : BoxI w8 I U := (hw8.block I (Array.getElem?_eq_some_iff.1 (show wr.heap[I]? = _ from HX)).1 (by omega)).trans HX
            have b8 := hb.trans (below_of_wr hw8 hgw hb.size)
            clear K1 hw8 HX hb c2
            go_wp2_with (go_at_call 19; refine held ?_)
            unfold Held
            refine Calls.mono ((show ∀ W' (hf : FrAt W' p g cp g2), _ from K2) w8 F8) ?_
            rintro e w9 ⟨rfl, rfl⟩
            clear K2
            go_wp2
            go_roundw
            case rel => exact ⟨j + 1, g2, by go_num, by omega, F8, hG2, x8, b8⟩
            case measure => simp [intOf]; omega
          · have hni : (j : Int) ∈ U := ((show ∀ x, x ∈ U ↔ _ from HM) (j : Int)).2 ⟨j, by omega, rfl, hn⟩
            rw [decide_eq_true hni] at c2
            have hG2 : Hid (gs.length = 12 ∧ (∀ i (h : i < gs.length), i < j + 1 → gs[i].n ≠ 0) ∧ ∀ i (h : i < gs.length) (h' : i < fs.length), j + 1 ≤ i → gs[i] = fs[i]) := by
              refine ⟨hl, fun i h hi => ?_, fun i h h' hi => hhi i h h' (by omega)⟩
              by_cases e : i = j
              · subst e; rw [hhi i h (by omega) (Nat.le_refl _)]; exact hn
              · exact hlo i h (by omega)
            have HX := Lib.hid (And.intro hF (And.intro hx hb))
            clear hni hn hlo hhi hgs hl hF hx hb
            go_wp2
            go_roundw
            case rel => exact ⟨j + 1, gs, by go_num, by omega, HX.1, hG2, HX.2.1, HX.2.2⟩
            case measure => simp [intOf]; omega
        · have t7 : decide ((j : Int) < 12) = false := by simp; omega
          have hall : ∀ i (h : i < gs.length), gs[i].n ≠ 0 := fun i h => hlo i h (by omega)
          have htk : takeF gs = none := by
            unfold takeF
            rw [List.findIdx?_eq_none_iff]
            intro x hx
            obtain ⟨i, hi, rfl⟩ := List.mem_iff_getElem.1 hx
            simpa using hall i hi
          have hul2 := usedF_full gs hall
          rw [hl] at hul2
          have k1 := take_any p g cp gs wr hF
          rw [show takeV gs = 0 by unfold takeV; rw [htk], show takeE gs = 40 by unfold takeE; rw [htk], show takeL gs = gs by unfold takeL; rw [htk]] at k1
          have K1 := Lib.hid k1
          have K2 := Lib.hid (fun (W' : World) (hf' : FrAt W' p g cp gs) => by
            have := free_any p g cp gs W' hf'
            rw [hl, hul2] at this
            exact this)
          have K3 := Lib.hid (fun (W' : World) (hf' : FrAt W' p g cp gs) => by
            have := used_any p g cp gs W' hf'
            rw [hul2] at this
            exact this)
          clear k1 htk hall hul2 hlo hhi hgs hl hF hx
          go_wp2_with (go_at_call 23; refine held ?_)
          unfold Held
          refine Calls.mono K1 ?_
          rintro e w8 ⟨rfl, F8, hw8⟩
          have b8 := hb.trans (below_of_wr hw8 hgw hb.size)
          clear K1 hw8 hb
          go_wp2_with (go_at_call 22; refine held ?_)
          unfold Held
          refine Calls.mono ((show ∀ W' (hf : FrAt W' p g cp gs), _ from K2) w8 F8) ?_
          rintro e w9 ⟨rfl, bb9⟩
          have b9 := b8.trans (bb9.mono b8.size)
          have F9 := F8.below bb9
          clear K2 b8 bb9 F8
          go_wp2_with (go_at_call 21; refine held ?_)
          unfold Held
          refine Calls.mono ((show ∀ W' (hf : FrAt W' p g cp gs), _ from K3) w9 F9) ?_
          rintro e w10 ⟨v10, rfl, o10, bb10⟩
          have b10 := b9.trans (bb10.mono b9.size)
          obtain ⟨a10, c10, rfl⟩ := sl_own o10
          clear K3 b9 bb10 F9 o10
          go_wp2
          go_ret
          exact ⟨rfl, b10⟩
end Go.Proofs.Ytdacdfnfbknndaa
