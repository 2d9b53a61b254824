/- The calls that a law is told; grown. -/
import Derived.Test.YtdnhaappglbooaaFutJ
namespace Go.Proofs.Ytdnhaappglbooaa
open Go Go.RowKit
attribute [local go_sem] upV_value upV_skip upV_enter
set_option linter.unusedVariables false
set_option linter.unnecessarySimpa false
set_option linter.unusedSimpArgs false
/-- a call -/
structure OpF where
  kind : Int
  pid : Int
  k : Ky
  n : Int
/-- one call's cells -/
def CellsO (W : World) (b off : Nat) (o : OpF) : Prop :=
  W.cell? ⟨b, off, none⟩ = some (.int .i64 o.kind) ∧ W.cell? ⟨b, off + 1, none⟩ = some (.int .i64 o.pid) ∧ W.cell? ⟨b, off + 2, none⟩ = some (.int .i64 o.k.p) ∧ W.cell? ⟨b, off + 3, none⟩ = some (.int .i64 o.k.f) ∧ W.cell? ⟨b, off + 4, none⟩ = some (.int .i64 o.k.o) ∧ W.cell? ⟨b, off + 5, none⟩ = some (.int .i64 o.n)
theorem CellsO.below {n : Nat} {A B : World} {b off : Nat} {o : OpF} (h : CellsO A b off o) (hb : Below n A B) (hl : b < n) : CellsO B b off o := by
  obtain ⟨h0, h1, h2, h3, h4, h5⟩ := h
  exact ⟨(hb.cell (p := ⟨b, _, none⟩) hl).trans h0, (hb.cell (p := ⟨b, _, none⟩) hl).trans h1, (hb.cell (p := ⟨b, _, none⟩) hl).trans h2, (hb.cell (p := ⟨b, _, none⟩) hl).trans h3, (hb.cell (p := ⟨b, _, none⟩) hl).trans h4, (hb.cell (p := ⟨b, _, none⟩) hl).trans h5⟩
/-- A SLICE OF CALLS -/
def IsOps (n₀ : Nat) (W : World) (a : Option Addr) (len cap : Nat) (os : List OpF) : Prop := os.length = len ∧
  (len = 0 ∨ ∃ b off, a = some ⟨b, off, none⟩ ∧ b < n₀ ∧ len ≤ cap ∧ cap ≤ maxLen ∧ ∀ (j : Nat) (h : j < os.length), CellsO W b (off + j * 6) os[j])
theorem IsOps.below {n : Nat} {A B : World} {a : Option Addr} {len cap : Nat} {os : List OpF} (h : IsOps n A a len cap os) (hb : Below n A B) : IsOps n B a len cap os := by
  obtain ⟨hl, h | ⟨b, off, h1, h2, h3, h4, hc⟩⟩ := h
  · exact ⟨hl, .inl h⟩
  · exact ⟨hl, .inr ⟨b, off, h1, h2, h3, h4, fun j hj => (hc j hj).below hb h2⟩⟩
theorem IsOps.small {n : Nat} {A : World} {a : Option Addr} {len cap : Nat} {os : List OpF} (h : IsOps n A a len cap os) : len ≤ 9223372036854775807 := by
  obtain ⟨hl, h | ⟨b, off, h1, h2, h3, h4, hc⟩⟩ := h
  · omega
  · simp only [maxLen] at h4; omega
/-- who waits behind a call -/
def stepL (ws : List Wt) (o : OpF) : List Wt :=
  if o.kind = 0 then (waitL ws o.pid o.k).2 else if o.kind = 1 then goneAll ws (wakeO ws o.k o.n) else if o.kind = 2 then ws.eraseP (isP o.pid) else ws
def growL (os : List OpF) : List Wt := os.foldl stepL []
theorem waitL_len (ws : List Wt) (pid : Int) (k : Ky) : (waitL ws pid k).2.length ≤ ws.length + 1 := by
  unfold waitL
  split
  · simp
  · split <;> simp
theorem stepL_len (ws : List Wt) (o : OpF) : (stepL ws o).length ≤ ws.length + 1 := by
  unfold stepL
  split
  · exact waitL_len _ _ _
  · split
    · exact Nat.le_trans (goneAll_len _ _) (Nat.le_succ _)
    · split
      · exact Nat.le_trans List.length_eraseP_le (Nat.le_succ _)
      · exact Nat.le_succ _
theorem foldl_len (os : List OpF) (ws : List Wt) : (os.foldl stepL ws).length ≤ ws.length + os.length := by
  induction os generalizing ws with
  | nil => simp
  | cons o r ih =>
    have := ih (stepL ws o)
    have := stepL_len ws o
    simp only [List.foldl_cons, List.length_cons]
    omega
theorem growL_len (os : List OpF) : (growL os).length ≤ os.length := by have := foldl_len os []; rw [List.length_nil, Nat.zero_add] at this; exact this
theorem growL_take (os : List OpF) (j : Nat) (h : j < os.length) : growL (os.take (j + 1)) = stepL (growL (os.take j)) os[j] := by
  unfold growL
  rw [List.take_succ_eq_append_getElem h, List.foldl_append]
  rfl
theorem belowPre (n : Nat) : Pre (Below n) := ⟨fun w => Below.refl _ w, fun h k => h.trans k⟩
set_option maxRecDepth 100000 in
set_option maxHeartbeats 8000000 in
theorem grown_any (W : World) (a : Option Addr) (len cap : Nat) (os : List OpF) (h : IsOps W.heap.size W a len cap os) (hlen : len ≤ 200) :
    Calls Try.prog 10 #[.slice a len cap] W fun e W' => ∃ q v, e = .returned (.pointer (some ⟨q, 0, none⟩)) ∧ Fresh W.heap.size W' q v (growL os) ∧ Below W.heap.size W W' := by
  have hol := h.1
  have f0 := Fresh.new W.heap.size W (Nat.le_refl _)
  have b0 : Below W.heap.size W (W.alloc (.cells #[.slice none 0 0] 28)) := (Below.refl _ W).alloc (Nat.le_refl _) _
  go_enter Try.func10, Try.ntmps10
  go_wp2
  go_loopw [4, 9, 17, 31, 45] (fun _ i _ _ _ wr => ∃ (j : Nat) (v : Value), i = .int .i64 (j : Int) ∧ j ≤ len ∧ Fresh W.heap.size wr W.heap.size v (growL (os.take j)) ∧ Below W.heap.size W wr) (fun _ i _ _ _ _ => len - (intOf i).toNat)
  case atStart => exact ⟨0, _, rfl, Nat.zero_le _, f0, b0⟩
  case round =>
    obtain ⟨j, v, rfl, hj, hf, hb⟩ := hrel
    by_cases hlt : j < len
    · have t1 : decide ((j : Int) < (len : Int)) = true := by simp; omega
      have hT := growL_take os j (by omega)
      have hL := growL_len (os.take j)
      rw [List.length_take] at hL
      obtain ⟨_, h0 | ⟨b, off, rfl, hbn, hlc, hcm, hc⟩⟩ := h
      · omega
      have hcj := (hc j (by omega)).below hb hbn
      simp only [maxLen] at hcm
      obtain ⟨o, ho⟩ : ∃ o, o = os[j]'(by omega) := ⟨_, rfl⟩
      rw [← ho] at hT hcj
      obtain ⟨ws, hws⟩ : ∃ ws, ws = growL (os.take j) := ⟨_, rfl⟩
      rw [← hws] at hf hT hL
      have HT := Lib.hid hT
      clear hT hc ho hws
      have cv : ∀ W', Below W.heap.size wr W' → CellsO W' b (off + j * 6) o := fun W' hW => hcj.below hW hbn
      obtain ⟨c0, c1, c2, c3, c4, c5⟩ := hcj
      by_cases k0 : o.kind = 0
      · have t2 : (o.kind == 0) = true := by simpa using k0
        have hst : stepL ws o = (waitL ws o.pid o.k).2 := if_pos k0
        clear k0
        go_wp2_with fail
        refine wp_region_anyV (Below W.heap.size) (by kernel_rfl) 12 rfl ?_
        first
          | (refine anyV_val 0 (belowPre _) rfl (by kernel_rfl) (by kernel_rfl) (by kernel_rfl) (by rfl) (v := ?av1) (fun W hW => ?ay1) (fun K hK => ?ar1); case ay1 => (obtain ⟨q0, q1, q2, q3, q4, q5⟩ := cv W (below_undrew hW); go_simp; first | done | rfl))
          | refine anyV_skip 0 (belowPre _) rfl (by kernel_rfl) (by kernel_rfl) (by kernel_rfl) (by rfl) (fun K hK => ?_)
        go_simp
        refine hK _ ?_
        clear hK K
        first
          | (refine anyV_val 1 (belowPre _) rfl (by kernel_rfl) (by kernel_rfl) (by kernel_rfl) (by rfl) (v := ?av2) (fun W hW => ?ay2) (fun K hK => ?ar2); case ay2 => (obtain ⟨q0, q1, q2, q3, q4, q5⟩ := cv W (below_undrew hW); go_simp; first | done | rfl))
          | refine anyV_skip 1 (belowPre _) rfl (by kernel_rfl) (by kernel_rfl) (by kernel_rfl) (by rfl) (fun K hK => ?_)
        go_simp
        refine hK _ ?_
        clear hK K
        first
          | (refine anyV_val 2 (belowPre _) rfl (by kernel_rfl) (by kernel_rfl) (by kernel_rfl) (by rfl) (v := ?av3) (fun W hW => ?ay3) (fun K hK => ?ar3); case ay3 => (obtain ⟨q0, q1, q2, q3, q4, q5⟩ := cv W (below_undrew hW); go_simp; first | done | rfl))
          | refine anyV_skip 2 (belowPre _) rfl (by kernel_rfl) (by kernel_rfl) (by kernel_rfl) (by rfl) (fun K hK => ?_)
        go_simp
        refine hK _ ?_
        clear hK K
        first
          | (refine anyV_val 3 (belowPre _) rfl (by kernel_rfl) (by kernel_rfl) (by kernel_rfl) (by rfl) (v := ?av4) (fun W hW => ?ay4) (fun K hK => ?ar4); case ay4 => (obtain ⟨q0, q1, q2, q3, q4, q5⟩ := cv W (below_undrew hW); go_simp; first | done | rfl))
          | refine anyV_skip 3 (belowPre _) rfl (by kernel_rfl) (by kernel_rfl) (by kernel_rfl) (by rfl) (fun K hK => ?_)
        go_simp
        refine hK _ ?_
        clear hK K
        first
          | (refine anyV_val 4 (belowPre _) rfl (by kernel_rfl) (by kernel_rfl) (by kernel_rfl) (by rfl) (v := ?av5) (fun W hW => ?ay5) (fun K hK => ?ar5); case ay5 => (obtain ⟨q0, q1, q2, q3, q4, q5⟩ := cv W (below_undrew hW); go_simp; first | done | rfl))
          | refine anyV_skip 4 (belowPre _) rfl (by kernel_rfl) (by kernel_rfl) (by kernel_rfl) (by rfl) (fun K hK => ?_)
        go_simp
        refine hK _ ?_
        clear hK K
        first
          | (refine anyV_val 5 (belowPre _) rfl (by kernel_rfl) (by kernel_rfl) (by kernel_rfl) (by rfl) (v := ?av6) (fun W hW => ?ay6) (fun K hK => ?ar6); case ay6 => (obtain ⟨q0, q1, q2, q3, q4, q5⟩ := cv W (below_undrew hW); go_simp; first | done | rfl))
          | refine anyV_skip 5 (belowPre _) rfl (by kernel_rfl) (by kernel_rfl) (by kernel_rfl) (by rfl) (fun K hK => ?_)
        go_simp
        refine hK _ ?_
        clear hK K
        first
          | (refine anyV_val 6 (belowPre _) rfl (by kernel_rfl) (by kernel_rfl) (by kernel_rfl) (by rfl) (v := ?av7) (fun W hW => ?ay7) (fun K hK => ?ar7); case ay7 => (obtain ⟨q0, q1, q2, q3, q4, q5⟩ := cv W (below_undrew hW); go_simp; first | done | rfl))
          | refine anyV_skip 6 (belowPre _) rfl (by kernel_rfl) (by kernel_rfl) (by kernel_rfl) (by rfl) (fun K hK => ?_)
        go_simp
        refine hK _ ?_
        clear hK K
        first
          | (refine anyV_val 7 (belowPre _) rfl (by kernel_rfl) (by kernel_rfl) (by kernel_rfl) (by rfl) (v := ?av8) (fun W hW => ?ay8) (fun K hK => ?ar8); case ay8 => (obtain ⟨q0, q1, q2, q3, q4, q5⟩ := cv W (below_undrew hW); go_simp; first | done | rfl))
          | refine anyV_skip 7 (belowPre _) rfl (by kernel_rfl) (by kernel_rfl) (by kernel_rfl) (by rfl) (fun K hK => ?_)
        go_simp
        refine hK _ ?_
        clear hK K
        first
          | (refine anyV_val 8 (belowPre _) rfl (by kernel_rfl) (by kernel_rfl) (by kernel_rfl) (by rfl) (v := ?av9) (fun W hW => ?ay9) (fun K hK => ?ar9); case ay9 => (obtain ⟨q0, q1, q2, q3, q4, q5⟩ := cv W (below_undrew hW); go_simp; first | done | rfl))
          | refine anyV_skip 8 (belowPre _) rfl (by kernel_rfl) (by kernel_rfl) (by kernel_rfl) (by rfl) (fun K hK => ?_)
        go_simp
        refine hK _ ?_
        clear hK K
        first
          | (refine anyV_val 9 (belowPre _) rfl (by kernel_rfl) (by kernel_rfl) (by kernel_rfl) (by rfl) (v := ?av10) (fun W hW => ?ay10) (fun K hK => ?ar10); case ay10 => (obtain ⟨q0, q1, q2, q3, q4, q5⟩ := cv W (below_undrew hW); go_simp; first | done | rfl))
          | refine anyV_skip 9 (belowPre _) rfl (by kernel_rfl) (by kernel_rfl) (by kernel_rfl) (by rfl) (fun K hK => ?_)
        go_simp
        refine hK _ ?_
        clear hK K
        first
          | (refine anyV_val 10 (belowPre _) rfl (by kernel_rfl) (by kernel_rfl) (by kernel_rfl) (by rfl) (v := ?av11) (fun W hW => ?ay11) (fun K hK => ?ar11); case ay11 => (obtain ⟨q0, q1, q2, q3, q4, q5⟩ := cv W (below_undrew hW); go_simp; first | done | rfl))
          | refine anyV_skip 10 (belowPre _) rfl (by kernel_rfl) (by kernel_rfl) (by kernel_rfl) (by rfl) (fun K hK => ?_)
        go_simp
        refine hK _ ?_
        clear hK K
        refine anyV_only 11 rfl (by kernel_rfl) (by rfl) (fun K hK => ?_)
        go_simp
        refine (wait_any _ _ _ o.pid o.k wr.drew hf.fut.drew (by omega)).mono ?_
        rintro e w3 ⟨v3, rfl, h3, hw3⟩
        have f3 := hf.step hb.size h3 (Wr.undrew hw3)
        have b3 : Below W.heap.size wr w3 := hf.wr hb.size (Wr.undrew hw3)
        refine ⟨_, rfl, hK _ _ (show Below W.heap.size wr.drew w3 from ⟨b3.os, b3.tape, b3.output, b3.size, b3.block⟩) ?_⟩
        clear hK K
        refine anyV_frame (fun K hK => ?_)
        go_simp
        refine hK _ ?_
        clear hK K
        refine anyV_done (by kernel_rfl) ?_
        have b4 := hb.trans b3
        rw [← hst] at f3
        clear hst h3 hw3 b3 hf c0 c1 c2 c3 c4 c5
        go_wp2_with fail
        go_roundw
        case rel => exact ⟨j + 1, _, by go_num, by omega, by rw [show growL (os.take (j + 1)) = stepL ws o from HT]; exact f3, b4⟩
        case measure => simp [intOf]; omega
      have t2 : (o.kind == 0) = false := by simpa using k0
      by_cases k1 : o.kind = 1
      · have t3 : (o.kind == 1) = true := by simpa using k1
        have hst : stepL ws o = goneAll ws (wakeO ws o.k o.n) := by unfold stepL; rw [if_neg k0, if_pos k1]
        clear k0 k1
        go_wp2_with fail
        refine wp_region_anyV (Below W.heap.size) (by kernel_rfl) 12 rfl ?_
        first
          | (refine anyV_val 0 (belowPre _) rfl (by kernel_rfl) (by kernel_rfl) (by kernel_rfl) (by rfl) (v := ?av12) (fun W hW => ?ay12) (fun K hK => ?ar12); case ay12 => (obtain ⟨q0, q1, q2, q3, q4, q5⟩ := cv W (below_undrew hW); go_simp; first | done | rfl))
          | refine anyV_skip 0 (belowPre _) rfl (by kernel_rfl) (by kernel_rfl) (by kernel_rfl) (by rfl) (fun K hK => ?_)
        go_simp
        refine hK _ ?_
        clear hK K
        first
          | (refine anyV_val 1 (belowPre _) rfl (by kernel_rfl) (by kernel_rfl) (by kernel_rfl) (by rfl) (v := ?av13) (fun W hW => ?ay13) (fun K hK => ?ar13); case ay13 => (obtain ⟨q0, q1, q2, q3, q4, q5⟩ := cv W (below_undrew hW); go_simp; first | done | rfl))
          | refine anyV_skip 1 (belowPre _) rfl (by kernel_rfl) (by kernel_rfl) (by kernel_rfl) (by rfl) (fun K hK => ?_)
        go_simp
        refine hK _ ?_
        clear hK K
        first
          | (refine anyV_val 2 (belowPre _) rfl (by kernel_rfl) (by kernel_rfl) (by kernel_rfl) (by rfl) (v := ?av14) (fun W hW => ?ay14) (fun K hK => ?ar14); case ay14 => (obtain ⟨q0, q1, q2, q3, q4, q5⟩ := cv W (below_undrew hW); go_simp; first | done | rfl))
          | refine anyV_skip 2 (belowPre _) rfl (by kernel_rfl) (by kernel_rfl) (by kernel_rfl) (by rfl) (fun K hK => ?_)
        go_simp
        refine hK _ ?_
        clear hK K
        first
          | (refine anyV_val 3 (belowPre _) rfl (by kernel_rfl) (by kernel_rfl) (by kernel_rfl) (by rfl) (v := ?av15) (fun W hW => ?ay15) (fun K hK => ?ar15); case ay15 => (obtain ⟨q0, q1, q2, q3, q4, q5⟩ := cv W (below_undrew hW); go_simp; first | done | rfl))
          | refine anyV_skip 3 (belowPre _) rfl (by kernel_rfl) (by kernel_rfl) (by kernel_rfl) (by rfl) (fun K hK => ?_)
        go_simp
        refine hK _ ?_
        clear hK K
        first
          | (refine anyV_val 4 (belowPre _) rfl (by kernel_rfl) (by kernel_rfl) (by kernel_rfl) (by rfl) (v := ?av16) (fun W hW => ?ay16) (fun K hK => ?ar16); case ay16 => (obtain ⟨q0, q1, q2, q3, q4, q5⟩ := cv W (below_undrew hW); go_simp; first | done | rfl))
          | refine anyV_skip 4 (belowPre _) rfl (by kernel_rfl) (by kernel_rfl) (by kernel_rfl) (by rfl) (fun K hK => ?_)
        go_simp
        refine hK _ ?_
        clear hK K
        first
          | (refine anyV_val 5 (belowPre _) rfl (by kernel_rfl) (by kernel_rfl) (by kernel_rfl) (by rfl) (v := ?av17) (fun W hW => ?ay17) (fun K hK => ?ar17); case ay17 => (obtain ⟨q0, q1, q2, q3, q4, q5⟩ := cv W (below_undrew hW); go_simp; first | done | rfl))
          | refine anyV_skip 5 (belowPre _) rfl (by kernel_rfl) (by kernel_rfl) (by kernel_rfl) (by rfl) (fun K hK => ?_)
        go_simp
        refine hK _ ?_
        clear hK K
        first
          | (refine anyV_val 6 (belowPre _) rfl (by kernel_rfl) (by kernel_rfl) (by kernel_rfl) (by rfl) (v := ?av18) (fun W hW => ?ay18) (fun K hK => ?ar18); case ay18 => (obtain ⟨q0, q1, q2, q3, q4, q5⟩ := cv W (below_undrew hW); go_simp; first | done | rfl))
          | refine anyV_skip 6 (belowPre _) rfl (by kernel_rfl) (by kernel_rfl) (by kernel_rfl) (by rfl) (fun K hK => ?_)
        go_simp
        refine hK _ ?_
        clear hK K
        first
          | (refine anyV_val 7 (belowPre _) rfl (by kernel_rfl) (by kernel_rfl) (by kernel_rfl) (by rfl) (v := ?av19) (fun W hW => ?ay19) (fun K hK => ?ar19); case ay19 => (obtain ⟨q0, q1, q2, q3, q4, q5⟩ := cv W (below_undrew hW); go_simp; first | done | rfl))
          | refine anyV_skip 7 (belowPre _) rfl (by kernel_rfl) (by kernel_rfl) (by kernel_rfl) (by rfl) (fun K hK => ?_)
        go_simp
        refine hK _ ?_
        clear hK K
        first
          | (refine anyV_val 8 (belowPre _) rfl (by kernel_rfl) (by kernel_rfl) (by kernel_rfl) (by rfl) (v := ?av20) (fun W hW => ?ay20) (fun K hK => ?ar20); case ay20 => (obtain ⟨q0, q1, q2, q3, q4, q5⟩ := cv W (below_undrew hW); go_simp; first | done | rfl))
          | refine anyV_skip 8 (belowPre _) rfl (by kernel_rfl) (by kernel_rfl) (by kernel_rfl) (by rfl) (fun K hK => ?_)
        go_simp
        refine hK _ ?_
        clear hK K
        first
          | (refine anyV_val 9 (belowPre _) rfl (by kernel_rfl) (by kernel_rfl) (by kernel_rfl) (by rfl) (v := ?av21) (fun W hW => ?ay21) (fun K hK => ?ar21); case ay21 => (obtain ⟨q0, q1, q2, q3, q4, q5⟩ := cv W (below_undrew hW); go_simp; first | done | rfl))
          | refine anyV_skip 9 (belowPre _) rfl (by kernel_rfl) (by kernel_rfl) (by kernel_rfl) (by rfl) (fun K hK => ?_)
        go_simp
        refine hK _ ?_
        clear hK K
        first
          | (refine anyV_val 10 (belowPre _) rfl (by kernel_rfl) (by kernel_rfl) (by kernel_rfl) (by rfl) (v := ?av22) (fun W hW => ?ay22) (fun K hK => ?ar22); case ay22 => (obtain ⟨q0, q1, q2, q3, q4, q5⟩ := cv W (below_undrew hW); go_simp; first | done | rfl))
          | refine anyV_skip 10 (belowPre _) rfl (by kernel_rfl) (by kernel_rfl) (by kernel_rfl) (by rfl) (fun K hK => ?_)
        go_simp
        refine hK _ ?_
        clear hK K
        refine anyV_only 11 rfl (by kernel_rfl) (by rfl) (fun K hK => ?_)
        go_simp
        refine (wake_any _ _ _ o.k o.n wr.drew hf.fut.drew (by omega)).mono ?_
        rintro e w3 ⟨u3, v3, rfl, _, h3, hw3⟩
        have f3 := hf.step hb.size h3 (Wr.undrew hw3)
        have b3 : Below W.heap.size wr w3 := hf.wr hb.size (Wr.undrew hw3)
        refine ⟨_, rfl, hK _ _ (show Below W.heap.size wr.drew w3 from ⟨b3.os, b3.tape, b3.output, b3.size, b3.block⟩) ?_⟩
        clear hK K
        refine anyV_frame (fun K hK => ?_)
        go_simp
        refine hK _ ?_
        clear hK K
        refine anyV_done (by kernel_rfl) ?_
        have b4 := hb.trans b3
        rw [← hst] at f3
        clear hst h3 hw3 b3 hf c0 c1 c2 c3 c4 c5
        go_wp2_with fail
        go_roundw
        case rel => exact ⟨j + 1, _, by go_num, by omega, by rw [show growL (os.take (j + 1)) = stepL ws o from HT]; exact f3, b4⟩
        case measure => simp [intOf]; omega
      have t3 : (o.kind == 1) = false := by simpa using k1
      by_cases k2 : o.kind = 2
      · have t4 : (o.kind == 2) = true := by simpa using k2
        have hst : stepL ws o = ws.eraseP (isP o.pid) := by unfold stepL; rw [if_neg k0, if_neg k1, if_pos k2]
        clear k0 k1 k2
        go_wp2_with (go_at_call 22; refine held ?_)
        unfold Held
        refine (gone_any _ _ _ o.pid wr hf.fut (by omega)).mono ?_
        rintro e w3 ⟨v3, rfl, h3, hw3⟩
        have f3 := hf.step hb.size h3 hw3
        have b4 := hb.trans (hf.wr hb.size hw3)
        rw [← hst] at f3
        clear hst h3 hw3 hf c0 c1 c2 c3 c4 c5
        go_wp2_with fail
        go_roundw
        case rel => exact ⟨j + 1, _, by go_num, by omega, by rw [show growL (os.take (j + 1)) = stepL ws o from HT]; exact f3, b4⟩
        case measure => simp [intOf]; omega
      · have t4 : (o.kind == 2) = false := by simpa using k2
        have hst : stepL ws o = ws := by unfold stepL; rw [if_neg k0, if_neg k1, if_neg k2]
        have HS := Lib.hid hst
        clear k0 k1 k2 hst
        go_wp2_with fail
        go_roundw
        case rel => exact ⟨j + 1, _, by go_num, by omega, by rw [show growL (os.take (j + 1)) = stepL ws o from HT, show stepL ws o = ws from HS]; exact hf, hb⟩
        case measure => simp [intOf]; omega
    · have t1 : decide ((j : Int) < (len : Int)) = false := by simp; omega
      obtain rfl : j = len := by omega
      rw [← hol, List.take_length] at hf
      go_wp2
      go_ret
      exact ⟨_, _, rfl, hf, hb⟩
end Go.Proofs.Ytdnhaappglbooaa
