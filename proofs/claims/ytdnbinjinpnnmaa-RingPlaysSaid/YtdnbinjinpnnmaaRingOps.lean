/- The calls of a ring that a law is told: its argument, Great, act. -/
import Derived.Test.YtdnbinjinpnnmaaRingAlive
import Derived.Test.YtdnbinjinpnnmaaRowSlice
import Derived.Test.YtdnbinjinpnnmaaAnyV
namespace Go.Proofs.Ytdnbinjinpnnmaa
open Go Go.RowKit
set_option linter.unusedVariables false
set_option linter.unnecessarySimpa false
/-- a call -/
structure OpV where
  k : Int
  a : Option Addr
  len : Nat
  cap : Nat
  bs : List Int
  n : Int
/-- what it is told of -/
structure IsOp (n₀ : Nat) (W : World) (o : OpV) : Prop where
  row : Row8 n₀ W (.slice o.a o.len o.cap) o.bs
  k1 : -9223372036854775808 ≤ o.k
  k2 : o.k ≤ 9223372036854775807
  n1 : -9223372036854775808 ≤ o.n
  n2 : o.n ≤ 9223372036854775807
/-- A SLICE OF CALLS -/
def IsOps (n₀ : Nat) (W : World) (a : Option Addr) (len cap : Nat) (os : List OpV) : Prop := os.length = len ∧
  (len = 0 ∨ ∃ b off, a = some ⟨b, off, none⟩ ∧ b < n₀ ∧ len ≤ cap ∧ cap ≤ maxLen ∧
    ∀ (j : Nat) (h : j < os.length), W.cell? ⟨b, off + j * 3, none⟩ = some (.int .i64 os[j].k) ∧ W.cell? ⟨b, off + j * 3 + 1, none⟩ = some (.slice os[j].a os[j].len os[j].cap) ∧ W.cell? ⟨b, off + j * 3 + 2, none⟩ = some (.int .i64 os[j].n) ∧ IsOp n₀ W os[j])
theorem IsOp.below {n : Nat} {A B : World} {o : OpV} (h : IsOp n A o) (hb : Below n A B) : IsOp n B o := ⟨h.row.below hb, h.k1, h.k2, h.n1, h.n2⟩
theorem IsOps.below {n : Nat} {A B : World} {a : Option Addr} {len cap : Nat} {os : List OpV} (h : IsOps n A a len cap os) (hb : Below n A B) : IsOps n B a len cap os := by
  obtain ⟨hl, h | ⟨b, off, h1, h2, h3, h4, hc⟩⟩ := h
  · exact ⟨hl, .inl h⟩
  · refine ⟨hl, .inr ⟨b, off, h1, h2, h3, h4, fun j hj => ?_⟩⟩
    obtain ⟨c1, c2, c3, ho⟩ := hc j hj
    exact ⟨(hb.cell (p := ⟨b, _, none⟩) h2).trans c1, (hb.cell (p := ⟨b, _, none⟩) h2).trans c2, (hb.cell (p := ⟨b, _, none⟩) h2).trans c3, ho.below hb⟩
theorem IsOp.wr {g : Nat} {A B : World} {o : OpV} (h : IsOp A.heap.size A o) (hw : Wr (· = g) (· = g) A B) (hg : ¬ blockOf (.slice o.a o.len o.cap) g) : IsOp B.heap.size B o :=
  ⟨(h.row.same fun b hb => hw.block b (h.row.lt b hb) (fun e => hg (e ▸ hb))).mono hw.size, h.k1, h.k2, h.n1, h.n2⟩
theorem IsOps.small {n : Nat} {A : World} {a : Option Addr} {len cap : Nat} {os : List OpV} (h : IsOps n A a len cap os) : len ≤ 9223372036854775807 := by
  obtain ⟨hl, h | ⟨b, off, h1, h2, h3, h4, hc⟩⟩ := h
  · omega
  · simp only [maxLen] at h4; omega
set_option maxHeartbeats 1000000 in
theorem great_any (n₀ : Nat) (W : World) (a : Option Addr) (len cap : Nat) (os : List OpV) (h : IsOps n₀ W a len cap os) :
    Calls Try.prog 16 #[.slice a len cap] W fun e W' => W = W' ∧ ((e = .returned (.int .i64 0) ∧ len ≤ 200 ∧ ∀ o ∈ os, o.len ≤ 300) ∨ e = .returned (.int .i64 1)) := by
  have hs := h.small
  obtain ⟨hl, hc⟩ := h
  go_enter Try.func16, Try.ntmps16
  by_cases h200 : 200 < len
  · have t1 : decide ((200 : Int) < (len : Int)) = true := by simp; omega
    go_wp2
    go_ret
    exact ⟨rfl, .inr rfl⟩
  · have t1 : decide ((200 : Int) < (len : Int)) = false := by simp; omega
    go_wp2_with fail
    go_loopw [9] (fun i wr => ∃ k : Nat, k ≤ len ∧ i = .int .i64 (k : Int) ∧ W = wr ∧ ∀ j (h : j < os.length), j < k → os[j].len ≤ 300) (fun i _ => len - (intOf i).toNat)
    case atStart => exact ⟨0, Nat.zero_le _, rfl, rfl, fun j h hj => by omega⟩
    case round =>
      obtain ⟨k, hk, rfl, rfl, hall⟩ := hrel
      by_cases hlt : k < len
      · have t3 : decide ((k : Int) < (len : Int)) = true := by simp; omega
        obtain h0 | ⟨b, off, rfl, h2, h3, h4, hc⟩ := hc
        · omega
        obtain ⟨c1, c2, c3, ho⟩ := hc k (by omega)
        have hr := ho.row.1
        obtain ⟨ol, hol⟩ : ∃ ol, ol = os[k].len := ⟨_, rfl⟩
        rw [← hol] at c2
        have HA := Lib.hid hall
        have HL := Lib.hid hol
        have hsm : ol ≤ maxLen := by
          rcases hr with ⟨_, _, h, _⟩ | ⟨_, _, _, h, _, h5, h6, _⟩
          · injection h with e1 e2 e3; omega
          · injection h with e1 e2 e3; omega
        clear hall hol hc
        simp only [maxLen] at hsm
        by_cases h300 : 300 < ol
        · have t4 : decide ((300 : Int) < (ol : Int)) = true := by simp; omega
          go_wp2
          go_ret
          exact ⟨rfl, .inr rfl⟩
        · have t4 : decide ((300 : Int) < (ol : Int)) = false := by simp; omega
          go_wp2
          refine ⟨⟨k + 1, by omega, by simp, trivial, fun j h hj => ?_⟩, by simp [intOf]; omega⟩
          by_cases e : j = k
          · subst e
            have : ol = os[j].len := HL
            omega
          · exact HA j h (by omega)
      · have t3 : decide ((k : Int) < (len : Int)) = false := by simp; omega
        go_wp2
        go_ret
        refine ⟨rfl, .inl ⟨rfl, by omega, fun o ho => ?_⟩⟩
        obtain ⟨j, hj, rfl⟩ := List.getElem_of_mem ho
        exact hall j hj (by omega)
theorem OwnBytes.conv1 (W : World) (q : Nat) : (convert 22 9 (.slice (some ⟨W.heap.size, 0, none⟩) 1 1)).run Try.prog (W.alloc (.cells #[.int .u8 q] 5)) = .ok (.string (strOfNums [(q : Int)])) (W.alloc (.cells #[.int .u8 q] 5)) := by
  refine convRow (n₀ := W.heap.size + 1) (zs := [(q : Int)]) (.inr ⟨W.heap.size, 0, 1, rfl, by omega, Nat.le_refl _, by decide, fun j hj => ?_⟩) 22 5 9 Try.underlying22 Try.underlying5 Try.underlying9
  rw [Nat.zero_add, World.cell?_alloc_mark]
  obtain rfl : j = 0 := by simp at hj; omega
  rfl
/-- what act answers, and what it leaves: of so many at most -/
def actOut (m : Nat) (bs : List Int) (o : OpV) : List Int :=
  if o.k = 0 then [((min o.len (m - bs.length) : Nat) : Int)] else if o.k = 1 then bs.take o.n.toNat else if o.k = 2 then bs.take o.n.toNat else []
def actBs (m : Nat) (bs : List Int) (o : OpV) : List Int :=
  if o.k = 0 then bs ++ o.bs.take (m - bs.length) else if o.k = 1 then bs.drop o.n.toNat else bs
set_option maxRecDepth 100000 in
set_option maxHeartbeats 2000000 in
theorem act_any (W : World) (g m : Nat) (bs : List Int) (o : OpV) (hI : IsRing W g m bs) (ho : IsOp W.heap.size W o) (hg : ¬ blockOf (.slice o.a o.len o.cap) g) (hl : o.len ≤ 300) :
    Calls Try.prog 17 #[.pointer (some ⟨g, 0, none⟩), .agg #[.int .i64 o.k, .slice o.a o.len o.cap, .int .i64 o.n]] W fun e W' =>
      e = .returned (.string (strOfNums (actOut m bs o))) ∧ IsRing W' g m (actBs m bs o) ∧ Wr (· = g) (· = g) W W' := by
  obtain ⟨k, a, len, cap, xs, n⟩ := o
  obtain ⟨hr, k1, k2, n1, n2⟩ := ho
  simp only at hr k1 k2 n1 n2 hg hl
  obtain ⟨W1, hW1⟩ : ∃ W1, W1 = W.alloc (.cells #[.int .i64 k, .slice a len cap, .int .i64 n] 35) := ⟨_, rfl⟩
  have hb1 : Below W.heap.size W W1 := by rw [hW1]; exact (Below.refl _ W).alloc (Nat.le_refl _) _
  have hI1 : IsRing W1 g m bs := hI.below hI.lt hb1
  have hr1 : Row8 W1.heap.size W1 (.slice a len cap) xs := (hr.below hb1).mono hb1.size
  have hm := hI.most_le
  go_enter Try.func17, Try.ntmps17
  by_cases e0 : k = 0
  · subst e0
    go_wp2_with (go_at_call 10; refine held ?_)
    unfold Held
    rw [← hW1]
    refine (write_ring W1 g m bs a len cap xs hI1 hr1 hg (by omega)).mono ?_
    rintro e w2 ⟨rfl, hI2, hw2⟩
    have hw := Wr.after hb1 hw2
    obtain ⟨q, hq⟩ : ∃ q, q = min len (m - bs.length) := ⟨_, rfl⟩
    rw [← hq]
    have hq64 : q ≤ 64 := by omega
    have HQ := Lib.hid hq
    clear hq
    have cv := OwnBytes.conv1 w2 q
    go_wp2_with fail
    go_ret
    have hq : q = min len (m - bs.length) := HQ
    refine ⟨?_, ?_, hw.alloc _⟩
    · simp only [actOut, if_true]; rw [← hq]; rfl
    · simp only [actBs, if_true]; exact hI2.same (Below.heap_alloc _ _ _ hI2.lt)
  · have t0 : (k == 0) = false := by simpa using e0
    by_cases e1 : k = 1
    · subst e1
      go_wp2_with (go_at_call 11; refine held ?_)
      unfold Held
      rw [← hW1]
      refine (read_ring W1 g m bs n hI1).mono ?_
      rintro e w2 ⟨⟨v, rfl, hv, _⟩, hI2, hw2⟩
      have hw := Wr.after hb1 hw2
      have cv := OwnBytes.conv hv
      go_wp2_with fail
      go_ret
      exact ⟨rfl, hI2, hw⟩
    · have t1 : (k == 1) = false := by simpa using e1
      by_cases e2 : k = 2
      · subst e2
        go_wp2_with (go_at_call 19; refine held ?_)
        unfold Held
        rw [← hW1]
        refine (peek_ring W1 g m bs n hI1).mono ?_
        rintro e w2 ⟨⟨v, rfl, hv, _⟩, hb2⟩
        have cv := OwnBytes.conv hv
        go_wp2_with fail
        go_ret
        exact ⟨rfl, hI1.below hI1.lt hb2, Wr.after hb1 (Wr.of_below hb2)⟩
      · have t2 : (k == 2) = false := by simpa using e2
        go_wp2_with fail
        go_ret
        rw [← hW1]
        refine ⟨?_, ?_, Wr.of_below hb1⟩
        · simp only [actOut, if_neg e0, if_neg e1, if_neg e2]; rfl
        · simp only [actBs, if_neg e0, if_neg e1]; exact hI1
end Go.Proofs.Ytdnbinjinpnnmaa
