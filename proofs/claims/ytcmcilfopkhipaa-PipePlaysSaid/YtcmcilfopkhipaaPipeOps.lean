/- The calls of a pipe that a law is told: its arguments, Great, act. -/
import Derived.Test.YtcmcilfopkhipaaPipeAlive
namespace Go.Proofs.Ytcmcilfopkhipaa
open Go Go.RowKit
set_option linter.unusedVariables false
set_option linter.unnecessarySimpa false
/-- a call -/
structure OpV where
  k : Int
  a : Option Addr
  len : Nat
  cap : Nat
  bs : List Int
  n : Int
  w : Bool
/-- what it is told of -/
structure IsOp (n₀ : Nat) (W : World) (o : OpV) : Prop where
  row : Row8 n₀ W (.slice o.a o.len o.cap) o.bs
  k1 : -9223372036854775808 ≤ o.k
  k2 : o.k ≤ 9223372036854775807
  n1 : -9223372036854775808 ≤ o.n
  n2 : o.n ≤ 9223372036854775807
/-- A SLICE OF CALLS -/
def IsOps (n₀ : Nat) (W : World) (a : Option Addr) (len cap : Nat) (os : List OpV) : Prop := os.length = len ∧
  (len = 0 ∨ ∃ b off, a = some ⟨b, off, none⟩ ∧ b < n₀ ∧ len ≤ cap ∧ cap ≤ maxLen ∧
    ∀ (j : Nat) (h : j < os.length), W.cell? ⟨b, off + j * 4, none⟩ = some (.int .i64 os[j].k) ∧ W.cell? ⟨b, off + j * 4 + 1, none⟩ = some (.slice os[j].a os[j].len os[j].cap) ∧ W.cell? ⟨b, off + j * 4 + 2, none⟩ = some (.int .i64 os[j].n) ∧ W.cell? ⟨b, off + j * 4 + 3, none⟩ = some (.bool os[j].w) ∧ IsOp n₀ W os[j])
theorem IsOp.below {n : Nat} {A B : World} {o : OpV} (h : IsOp n A o) (hb : Below n A B) : IsOp n B o := ⟨h.row.below hb, h.k1, h.k2, h.n1, h.n2⟩
theorem IsOps.below {n : Nat} {A B : World} {a : Option Addr} {len cap : Nat} {os : List OpV} (h : IsOps n A a len cap os) (hb : Below n A B) : IsOps n B a len cap os := by
  obtain ⟨hl, h | ⟨b, off, h1, h2, h3, h4, hc⟩⟩ := h
  · exact ⟨hl, .inl h⟩
  · refine ⟨hl, .inr ⟨b, off, h1, h2, h3, h4, fun j hj => ?_⟩⟩
    obtain ⟨c1, c2, c3, c4, ho⟩ := hc j hj
    exact ⟨(hb.cell (p := ⟨b, _, none⟩) h2).trans c1, (hb.cell (p := ⟨b, _, none⟩) h2).trans c2, (hb.cell (p := ⟨b, _, none⟩) h2).trans c3, (hb.cell (p := ⟨b, _, none⟩) h2).trans c4, ho.below hb⟩
theorem IsOps.small {n : Nat} {A : World} {a : Option Addr} {len cap : Nat} {os : List OpV} (h : IsOps n A a len cap os) : len ≤ 9223372036854775807 := by
  obtain ⟨hl, h | ⟨b, off, h1, h2, h3, h4, hc⟩⟩ := h
  · omega
  · simp only [maxLen] at h4; omega
set_option maxHeartbeats 1000000 in
theorem great_any (n₀ : Nat) (W : World) (a : Option Addr) (len cap : Nat) (os : List OpV) (h : IsOps n₀ W a len cap os) :
    Calls Try.prog 14 #[.slice a len cap] W fun e W' => W = W' ∧ ((e = .returned (.int .i64 0) ∧ len ≤ 200 ∧ ∀ o ∈ os, o.len ≤ 200) ∨ e = .returned (.int .i64 1)) := by
  have hs := h.small
  obtain ⟨hl, hc⟩ := h
  go_enter Try.func14, Try.ntmps14
  by_cases h200 : 200 < len
  · have t1 : decide ((200 : Int) < (len : Int)) = true := by simp; omega
    go_wp2
    go_ret
    exact ⟨rfl, .inr rfl⟩
  · have t1 : decide ((200 : Int) < (len : Int)) = false := by simp; omega
    go_wp2_with fail
    go_loopw [9] (fun i wr => ∃ k : Nat, k ≤ len ∧ i = .int .i64 (k : Int) ∧ W = wr ∧ ∀ j (h : j < os.length), j < k → os[j].len ≤ 200) (fun i _ => len - (intOf i).toNat)
    case atStart => exact ⟨0, Nat.zero_le _, rfl, rfl, fun j h hj => by omega⟩
    case round =>
      obtain ⟨k, hk, rfl, rfl, hall⟩ := hrel
      by_cases hlt : k < len
      · have t3 : decide ((k : Int) < (len : Int)) = true := by simp; omega
        obtain h0 | ⟨b, off, rfl, h2, h3, h4, hc⟩ := hc
        · omega
        obtain ⟨c1, c2, c3, c4, ho⟩ := hc k (by omega)
        have hr := ho.row.1
        obtain ⟨ol, hol⟩ : ∃ ol, ol = os[k].len := ⟨_, rfl⟩
        rw [← hol] at c2
        have HA := Lib.hid hall
        have HL := Lib.hid hol
        have hsm : ol ≤ maxLen := by
          rcases hr with ⟨_, _, h, _⟩ | ⟨_, _, _, h, _, h5, h6, _⟩
          · injection h with e1 e2 e3; omega
          · injection h with e1 e2 e3; omega
        clear hall hol hc
        simp only [maxLen] at hsm
        by_cases h3 : 200 < ol
        · have t4 : decide ((200 : Int) < (ol : Int)) = true := by simp; omega
          go_wp2
          go_ret
          exact ⟨rfl, .inr rfl⟩
        · have t4 : decide ((200 : Int) < (ol : Int)) = false := by simp; omega
          go_wp2
          refine ⟨⟨k + 1, by omega, by simp, trivial, fun j h hj => ?_⟩, by simp [intOf]; omega⟩
          by_cases e : j = k
          · subst e
            have : ol = os[j].len := HL
            omega
          · exact HA j h (by omega)
      · have t3 : decide ((k : Int) < (len : Int)) = false := by simp; omega
        go_wp2
        go_ret
        refine ⟨rfl, .inl ⟨rfl, by omega, fun o ho => ?_⟩⟩
        obtain ⟨j, hj, rfl⟩ := List.getElem_of_mem ho
        exact hall j hj (by omega)
theorem OwnBytes.conv1 (W : World) (q : Nat) : (convert 22 9 (.slice (some ⟨W.heap.size, 0, none⟩) 1 1)).run Try.prog (W.alloc (.cells #[.int .u8 q] 5)) = .ok (.string (strOfNums [(q : Int)])) (W.alloc (.cells #[.int .u8 q] 5)) := by
  refine convRow (n₀ := W.heap.size + 1) (zs := [(q : Int)]) (.inr ⟨W.heap.size, 0, 1, rfl, by omega, Nat.le_refl _, by decide, fun j hj => ?_⟩) 22 5 9 Try.underlying22 Try.underlying5 Try.underlying9
  rw [Nat.zero_add, World.cell?_alloc_mark]
  obtain rfl : j = 0 := by simp at hj; omega
  rfl
/-- what act answers, and what it leaves -/
def actA (m : Nat) (bs : List Int) (rd wr : Nat) (o : OpV) : ByteArray :=
  if o.k = 0 then strOfNums [(writeR m bs rd wr o.len).1] else if o.k = 1 then strOfNums (readR bs rd wr o.n).1 else if o.k = 3 ∧ cnt rd wr o.w = 1 then { data := #[108, 97, 115, 116] } else { data := #[] }
def actB (m : Nat) (bs : List Int) (rd wr : Nat) (o : OpV) : Int :=
  if o.k = 0 then (writeR m bs rd wr o.len).2.1 else if o.k = 1 then (readR bs rd wr o.n).2.1 else 0
def actE (m : Nat) (bs : List Int) (rd wr : Nat) (o : OpV) : Int :=
  if o.k = 0 then (writeR m bs rd wr o.len).2.2 else if o.k = 1 then (readR bs rd wr o.n).2.2 else if o.k = 2 then (if 0 < cnt rd wr o.w ∧ cnt rd wr o.w < 64 then 0 else 90) else if o.k = 3 then (if 0 < cnt rd wr o.w then 0 else 90) else 0
def actBs (m : Nat) (bs : List Int) (rd wr : Nat) (o : OpV) : List Int :=
  if o.k = 0 then writeBs m bs rd wr o.bs else if o.k = 1 then readBs bs rd o.n else bs
def actRd (rd wr : Nat) (o : OpV) : Nat :=
  if o.k = 2 then (if o.w = false ∧ 0 < rd ∧ rd < 64 then rd + 1 else rd) else if o.k = 3 then (if o.w = false then rd - 1 else rd) else rd
def actWr (rd wr : Nat) (o : OpV) : Nat :=
  if o.k = 2 then (if o.w = true ∧ 0 < wr ∧ wr < 64 then wr + 1 else wr) else if o.k = 3 then (if o.w = true then wr - 1 else wr) else wr
theorem writeR_lt (m : Nat) (bs : List Int) (rd wr len : Nat) (hm : m ≤ 64) : ∃ q : Nat, (writeR m bs rd wr len).1 = q ∧ q ≤ 64 := by
  unfold writeR
  split
  · exact ⟨0, rfl, by omega⟩
  · split
    · exact ⟨0, rfl, by omega⟩
    · split
      · exact ⟨0, rfl, by omega⟩
      · exact ⟨_, rfl, by omega⟩
set_option maxRecDepth 100000 in
set_option maxHeartbeats 4000000 in
theorem act_any (W : World) (p g m : Nat) (bs : List Int) (rd wr : Nat) (o : OpV) (hI : IsPipe W p g m bs rd wr) (ho : IsOp W.heap.size W o) (hg : ¬ blockOf (.slice o.a o.len o.cap) g) (hl : o.len ≤ 200) :
    Calls Try.prog 16 #[.pointer (some ⟨p, 0, none⟩), .agg #[.int .i64 o.k, .slice o.a o.len o.cap, .int .i64 o.n, .bool o.w]] W fun e W' =>
      e = .returned (.tuple #[.string (actA m bs rd wr o), .int .i64 (actB m bs rd wr o), .int .i64 (actE m bs rd wr o)]) ∧ IsPipe W' p g m (actBs m bs rd wr o) (actRd rd wr o) (actWr rd wr o) ∧ Wr (fun b => b = p ∨ b = g) (fun b => b = p ∨ b = g) W W' := by
  obtain ⟨k, a, len, cap, xs, n, sw⟩ := o
  obtain ⟨hr, k1, k2, n1, n2⟩ := ho
  simp only at hr k1 k2 n1 n2 hg hl
  obtain ⟨W1, hW1⟩ : ∃ W1, W1 = W.alloc (.cells #[.int .i64 k, .slice a len cap, .int .i64 n, .bool sw] 39) := ⟨_, rfl⟩
  have hb1 : Below W.heap.size W W1 := by rw [hW1]; exact (Below.refl _ W).alloc (Nat.le_refl _) _
  have hI1 : IsPipe W1 p g m bs rd wr := hI.below hb1
  have hr1 : Row8 W1.heap.size W1 (.slice a len cap) xs := (hr.below hb1).mono hb1.size
  have hm := hI.ring.most_le
  go_enter Try.func16, Try.ntmps16
  by_cases e0 : k = 0
  · subst e0
    obtain ⟨q, hq, hq64⟩ := writeR_lt m bs rd wr len hm.2.1
    have kw := pwrite_any W1 p g m bs rd wr hI1 a len cap xs hr1 hg (by omega)
    rw [hq] at kw
    obtain ⟨u1, hu1⟩ : ∃ u1, u1 = (writeR m bs rd wr len).2.1 := ⟨_, rfl⟩
    obtain ⟨u2, hu2⟩ : ∃ u2, u2 = (writeR m bs rd wr len).2.2 := ⟨_, rfl⟩
    rw [← hu1, ← hu2] at kw
    have HQ := Lib.hid (And.intro hq (And.intro hu1 hu2))
    clear hq hu1 hu2
    go_wp2_with (go_at_call 11; refine held ?_)
    unfold Held
    rw [← hW1]
    refine kw.mono ?_
    rintro e w2 ⟨rfl, hP2, hw2⟩
    have hw := Wr.after hb1 (Wr.widen hw2 (S' := fun b => b = p ∨ b = g) (fun b h => .inr h))
    have cv := OwnBytes.conv1 w2 q
    clear kw
    go_wp2_with fail
    go_ret3
    have H' : (writeR m bs rd wr len).1 = q ∧ u1 = (writeR m bs rd wr len).2.1 ∧ u2 = (writeR m bs rd wr len).2.2 := HQ
    refine ⟨?_, hP2.below ((Below.refl _ w2).alloc (Nat.le_refl _) _), hw.alloc _⟩
    simp only [actA, actB, actE, if_true]
    rw [H'.1, ← H'.2.1, ← H'.2.2]
    rfl
  · have t0 : (k == 0) = false := by simpa using e0
    by_cases e1 : k = 1
    · subst e1
      obtain ⟨rs, hrs⟩ : ∃ rs, rs = (readR bs rd wr n).1 := ⟨_, rfl⟩
      obtain ⟨u1, hu1⟩ : ∃ u1, u1 = (readR bs rd wr n).2.1 := ⟨_, rfl⟩
      obtain ⟨u2, hu2⟩ : ∃ u2, u2 = (readR bs rd wr n).2.2 := ⟨_, rfl⟩
      have kr := pread_any W1 p g m bs rd wr hI1 n
      rw [← hrs, ← hu1, ← hu2] at kr
      go_wp2_with (go_at_call 12; refine held ?_)
      unfold Held
      rw [← hW1]
      refine kr.mono ?_
      rintro e w2 ⟨v, rfl, hv, hP2, hw2⟩
      have hw := Wr.after hb1 (Wr.widen hw2 (S' := fun b => b = p ∨ b = g) (fun b h => .inr h))
      have cv := OwnBytes.conv hv
      have HQ := Lib.hid (And.intro hrs (And.intro hu1 hu2))
      clear hrs hu1 hu2 kr
      go_wp2_with fail
      go_ret3
      have H' : rs = (readR bs rd wr n).1 ∧ u1 = (readR bs rd wr n).2.1 ∧ u2 = (readR bs rd wr n).2.2 := HQ
      refine ⟨?_, hP2, hw⟩
      simp only [actA, actB, actE, if_true, show ¬ (1 : Int) = 0 from by decide, if_false]
      rw [← H'.1, ← H'.2.1, ← H'.2.2]
      rfl
    · have t1 : (k == 1) = false := by simpa using e1
      by_cases e2 : k = 2
      · subst e2
        go_wp2_with (go_at_call 20; refine held ?_)
        unfold Held
        rw [← hW1]
        refine (open_pipe_any W1 p g m bs rd wr hI1 sw).mono ?_
        rintro e w2 (⟨hc, rfl, rfl⟩ | ⟨hc1, hc2, rfl, hP2, hw2⟩)
        · go_wp2_with fail
          go_ret3
          rw [← hW1]
          refine ⟨?_, ?_, Wr.of_below hb1⟩
          · simp only [actA, actB, actE, show ¬ (2 : Int) = 0 from by decide, show ¬ (2 : Int) = 1 from by decide, show ¬ (2 : Int) = 3 from by decide, if_false, if_true, false_and]
            rw [if_neg (by omega)]
            rfl
          · simp only [actBs, actRd, actWr, show ¬ (2 : Int) = 0 from by decide, show ¬ (2 : Int) = 1 from by decide, if_false, if_true]
            cases sw
            · rw [if_neg (by simp only [cnt, Bool.false_eq_true, if_false] at hc; omega)]; simpa using hI1
            · rw [if_neg (by simp), if_neg (by simp only [cnt, if_true] at hc; omega)]; exact hI1
        · go_wp2_with fail
          go_ret3
          refine ⟨?_, ?_, Wr.after hb1 (Wr.widen hw2 (fun b h => .inl h))⟩
          · simp only [actA, actB, actE, show ¬ (2 : Int) = 0 from by decide, show ¬ (2 : Int) = 1 from by decide, show ¬ (2 : Int) = 3 from by decide, if_false, if_true, false_and]
            rw [if_pos ⟨hc1, hc2⟩]
            rfl
          · simp only [actBs, actRd, actWr, show ¬ (2 : Int) = 0 from by decide, show ¬ (2 : Int) = 1 from by decide, if_false, if_true]
            cases sw
            · simp only [cnt, Bool.false_eq_true, if_false] at hc1 hc2 hP2
              rw [if_pos ⟨rfl, hc1, hc2⟩]; simpa using hP2
            · simp only [cnt, if_true] at hc1 hc2 hP2
              rw [if_neg (by simp), if_pos ⟨rfl, hc1, hc2⟩]; exact hP2
      · have t2 : (k == 2) = false := by simpa using e2
        by_cases e3 : k = 3
        · subst e3
          go_wp2_with (go_at_call 13; refine held ?_)
          unfold Held
          rw [← hW1]
          refine (close_pipe_any W1 p g m bs rd wr hI1 sw).mono ?_
          rintro e w2 (⟨hc, rfl, rfl⟩ | ⟨hc1, rfl, hP2, hw2⟩)
          · go_wp2_with fail
            go_ret3
            rw [← hW1]
            refine ⟨?_, ?_, Wr.of_below hb1⟩
            · simp only [actA, actB, actE, show ¬ (3 : Int) = 0 from by decide, show ¬ (3 : Int) = 1 from by decide, show ¬ (3 : Int) = 2 from by decide, if_false, if_true, true_and]
              rw [if_neg (by omega), if_neg (by omega)]
              rfl
            · simp only [actBs, actRd, actWr, show ¬ (3 : Int) = 0 from by decide, show ¬ (3 : Int) = 1 from by decide, show ¬ (3 : Int) = 2 from by decide, if_false, if_true]
              cases sw
              · simp only [cnt, Bool.false_eq_true, if_false] at hc
                subst hc
                simpa using hI1
              · simp only [cnt, if_true] at hc
                subst hc
                simpa using hI1
          · have hP3 : IsPipe w2 p g m (actBs m bs rd wr ⟨3, a, len, cap, xs, n, sw⟩) (actRd rd wr ⟨3, a, len, cap, xs, n, sw⟩) (actWr rd wr ⟨3, a, len, cap, xs, n, sw⟩) := by
              simp only [actBs, actRd, actWr, show ¬ (3 : Int) = 0 from by decide, show ¬ (3 : Int) = 1 from by decide, show ¬ (3 : Int) = 2 from by decide, if_false, if_true]
              cases sw
              · simpa using hP2
              · simpa using hP2
            have hw := Wr.after hb1 (Wr.widen hw2 (S' := fun b => b = p ∨ b = g) (fun b h => .inl h))
            by_cases hc : cnt rd wr sw = 1
            · rw [decide_eq_true hc]
              go_wp2_with fail
              go_ret3
              refine ⟨?_, hP3, hw⟩
              simp only [actA, actB, actE, show ¬ (3 : Int) = 0 from by decide, show ¬ (3 : Int) = 1 from by decide, show ¬ (3 : Int) = 2 from by decide, if_false, if_true, true_and]
              rw [if_pos hc, if_pos hc1]
              rfl
            · rw [decide_eq_false hc]
              go_wp2_with fail
              go_ret3
              refine ⟨?_, hP3, hw⟩
              simp only [actA, actB, actE, show ¬ (3 : Int) = 0 from by decide, show ¬ (3 : Int) = 1 from by decide, show ¬ (3 : Int) = 2 from by decide, if_false, if_true, true_and]
              rw [if_neg hc, if_pos hc1]
              rfl
        · have t3 : (k == 3) = false := by simpa using e3
          go_wp2_with fail
          go_ret3
          rw [← hW1]
          refine ⟨?_, ?_, Wr.of_below hb1⟩
          · simp only [actA, actB, actE, if_neg e0, if_neg e1, if_neg e2, if_neg e3]
            rw [if_neg (fun h => e3 h.1)]
            rfl
          · simp only [actBs, actRd, actWr, if_neg e0, if_neg e1, if_neg e2, if_neg e3]; exact hI1
/-- a pipe's start -/
structure StV where
  c : Int
  a : Option Addr
  len : Nat
  cap : Nat
  bs : List Int
  rd : Int
  wr : Int
structure IsSt (n₀ : Nat) (W : World) (s : StV) : Prop where
  row : Row8 n₀ W (.slice s.a s.len s.cap) s.bs
/-- a start lies in the block sb -/
def StAt (W : World) (sb : Nat) (s : StV) : Prop := W.heap[sb]? = some (.cells #[.int .i64 s.c, .slice s.a s.len s.cap, .int .i64 s.rd, .int .i64 s.wr] 36 (0, 0))
section
variable {W : World} {sb : Nat} {s : StV}
theorem StAt.c0 (h : StAt W sb s) : W.cell? ⟨sb, 0, none⟩ = some (.int .i64 s.c) := by rw [cell_of_row W sb 0 _ _ _ h]; rfl
theorem StAt.c1 (h : StAt W sb s) : W.cell? ⟨sb, 1, none⟩ = some (.slice s.a s.len s.cap) := by rw [cell_of_row W sb 1 _ _ _ h]; rfl
theorem StAt.c2 (h : StAt W sb s) : W.cell? ⟨sb, 2, none⟩ = some (.int .i64 s.rd) := by rw [cell_of_row W sb 2 _ _ _ h]; rfl
theorem StAt.c3 (h : StAt W sb s) : W.cell? ⟨sb, 3, none⟩ = some (.int .i64 s.wr) := by rw [cell_of_row W sb 3 _ _ _ h]; rfl
theorem StAt.lt (h : StAt W sb s) : sb < W.heap.size := (Array.getElem?_eq_some_iff.1 h).1
theorem StAt.same {B : World} (h : StAt W sb s) (hs : B.heap[sb]? = W.heap[sb]?) : StAt B sb s := hs.trans h
theorem StAt.below {B : World} (h : StAt W sb s) (hb : Below W.heap.size W B) : StAt B sb s := h.same (hb.block _ h.lt)
end
/-- one call lies in the block xb -/
def XAt (W : World) (xb : Nat) (o : OpV) : Prop := W.heap[xb]? = some (.cells #[.int .i64 o.k, .slice o.a o.len o.cap, .int .i64 o.n, .bool o.w] 39 (0, 0))
section
variable {W : World} {xb : Nat} {o : OpV}
theorem XAt.c2 (h : XAt W xb o) : W.cell? ⟨xb, 2, none⟩ = some (.int .i64 o.n) := by rw [cell_of_row W xb 2 _ _ _ h]; rfl
theorem XAt.c3 (h : XAt W xb o) : W.cell? ⟨xb, 3, none⟩ = some (.bool o.w) := by rw [cell_of_row W xb 3 _ _ _ h]; rfl
theorem XAt.lt (h : XAt W xb o) : xb < W.heap.size := (Array.getElem?_eq_some_iff.1 h).1
theorem XAt.same {B : World} (h : XAt W xb o) (hs : B.heap[xb]? = W.heap[xb]?) : XAt B xb o := hs.trans h
theorem XAt.below {B : World} (h : XAt W xb o) (hb : Below W.heap.size W B) : XAt B xb o := h.same (hb.block _ h.lt)
end
theorem IsOp.wr {S S' : Nat → Prop} {A B : World} {o : OpV} (h : IsOp A.heap.size A o) (hw : Wr S S' A B) (hg : ∀ b, blockOf (.slice o.a o.len o.cap) b → ¬ S b) : IsOp B.heap.size B o :=
  ⟨(h.row.same fun b hb => hw.block b (h.row.lt b hb) (hg b hb)).mono hw.size, h.k1, h.k2, h.n1, h.n2⟩
end Go.Proofs.Ytcmcilfopkhipaa
