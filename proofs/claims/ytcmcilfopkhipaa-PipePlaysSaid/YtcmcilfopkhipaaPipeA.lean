/- The functions of package pipe that hold no iterator. -/
import Derived.Test.YtcmcilfopkhipaaRingNone
import Derived.Test.YtcmcilfopkhipaaAnyV
import Derived.Laws.StructEq
namespace Go.Proofs.Ytcmcilfopkhipaa
open Go Go.RowKit
attribute [local go_sem] upV_value upV_skip upV_enter
set_option linter.unusedVariables false
set_option linter.unnecessarySimpa false
/-- the cells of a pipe -/
def pipeCells (g : Nat) (rd wr : Int) : Array Value := #[.pointer (some ⟨g, 0, none⟩), .int .i64 rd, .int .i64 wr]
def PipeAt (W : World) (p g : Nat) (rd wr : Nat) : Prop := W.heap[p]? = some (.cells (pipeCells g rd wr) 70 (0, 0))
/-- A PIPE in the block p, its ring in the block g: of so many at most, with these bytes, and so many of each side -/
structure IsPipe (W : World) (p g m : Nat) (bs : List Int) (rd wr : Nat) : Prop where
  at_ : PipeAt W p g rd wr
  ring : IsRing W g m bs
  ne : p ≠ g
  rd64 : rd ≤ 64
  wr64 : wr ≤ 64
section
variable {W : World} {p g m : Nat} {bs : List Int} {rd wr : Nat}
theorem PipeAt.cell (h : PipeAt W p g rd wr) (i : Nat) (v : Value) (hv : (pipeCells g rd wr)[i]? = some v) : W.cell? ⟨p, i, none⟩ = some v := by
  rw [cell_of_row W p i _ _ _ h]; exact hv
theorem PipeAt.c0 (h : PipeAt W p g rd wr) : W.cell? ⟨p, 0, none⟩ = some (.pointer (some ⟨g, 0, none⟩)) := h.cell 0 _ rfl
theorem PipeAt.c1 (h : PipeAt W p g rd wr) : W.cell? ⟨p, 1, none⟩ = some (.int .i64 rd) := h.cell 1 _ rfl
theorem PipeAt.c2 (h : PipeAt W p g rd wr) : W.cell? ⟨p, 2, none⟩ = some (.int .i64 wr) := h.cell 2 _ rfl
theorem PipeAt.frozen (h : PipeAt W p g rd wr) (i : Nat) : W.frozen? ⟨p, i, none⟩ = false := by
  unfold World.frozen?
  rw [show W.heap[(⟨p, i, none⟩ : Addr).block]? = _ from h]
  simp
theorem PipeAt.lt (h : PipeAt W p g rd wr) : p < W.heap.size := (Array.getElem?_eq_some_iff.1 h).1
theorem PipeAt.set (h : PipeAt W p g rd wr) (i : Nat) (v : Value) {rd' wr' : Nat} (hs : (pipeCells g rd wr).setIfInBounds i v = pipeCells g rd' wr') : PipeAt (W.setCell ⟨p, i, none⟩ v) p g rd' wr' := by
  obtain ⟨hlt, hk⟩ := Array.getElem?_eq_some_iff.1 h
  show (W.heap.modify p _)[p]? = _
  rw [Array.getElem?_eq_getElem (by rw [Array.size_modify]; exact hlt), Array.getElem_modify_self, hk, ← hs]
  rfl
theorem PipeAt.same {B : World} (h : PipeAt W p g rd wr) (hs : B.heap[p]? = W.heap[p]?) : PipeAt B p g rd wr := hs.trans h
theorem IsPipe.same {B : World} (h : IsPipe W p g m bs rd wr) (h1 : B.heap[p]? = W.heap[p]?) (h2 : B.heap[g]? = W.heap[g]?) : IsPipe B p g m bs rd wr := ⟨h.at_.same h1, h.ring.same h2, h.ne, h.rd64, h.wr64⟩
theorem IsPipe.below {B : World} (h : IsPipe W p g m bs rd wr) (hb : Below W.heap.size W B) : IsPipe B p g m bs rd wr := h.same (hb.block _ h.at_.lt) (hb.block _ h.ring.lt)
theorem IsPipe.lt (h : IsPipe W p g m bs rd wr) : p < W.heap.size ∧ g < W.heap.size := ⟨h.at_.lt, h.ring.lt⟩
end
theorem eqMany (a b : Int) (w : World) : (Op.equalIn 10000 68 (.agg #[.int .i64 a, .int .i64 b]) (.agg #[.int .i64 0, .int .i64 0])).run Try.prog w = .ok (a == 0 && b == 0) w := by
  have u3 := Try.underlying3
  have a3 := Try.isAgg3
  have z3 := Try.sizeOf3
  rw [show (10000 : Nat) = 9999 + 1 from rfl, Op.equalIn]
  simp only [Sem.run_bind, run_underlying Try.underlying68, Result.andThen_ok]
  simp only [Std.Legacy.Range.forIn_eq_forIn_range', Std.Legacy.Range.size, Nat.sub_zero, Nat.add_sub_cancel, Nat.div_one, List.range'_succ, List.range'_zero, List.forIn_cons, List.forIn_nil]
  go_simp
  by_cases h1 : a = 0 <;> by_cases h2 : b = 0 <;> simp [h1, h2]
/-- how many there are of a side -/
def cnt (rd wr : Nat) (s : Bool) : Nat := if s then wr else rd
def sideN (s : Bool) : Int := if s then 1 else 0
theorem side_any (W : World) (s : Bool) : Calls Try.prog 36 #[.bool s] W fun e w' => e = .returned (.int .i64 (sideN s)) ∧ W = w' := by
  cases s <;>
  · go_enter Try.func36, Try.ntmps36
    go_wp2
    go_ret
    exact ⟨rfl, rfl⟩
def mayE (rd wr : Nat) (s : Bool) : Int := if cnt rd wr s = 0 then 90 else 0
section
variable (W : World) (p g m : Nat) (bs : List Int) (rd wr : Nat) (h : IsPipe W p g m bs rd wr)
include h
theorem may_any (s : Bool) : Calls Try.prog 31 #[.pointer (some ⟨p, 0, none⟩), .int .i64 (sideN s)] W fun e w' => e = .returned (.int .i64 (mayE rd wr s)) ∧ W = w' := by
  have c0 := h.at_.c0
  have c1 := h.at_.c1
  have c2 := h.at_.c2
  cases s
  · show Calls Try.prog _ #[.pointer (some ⟨p, 0, none⟩), .int .i64 0] W _
    by_cases h0 : rd = 0
    · subst h0
      go_enter Try.func31, Try.ntmps31
      go_wp2
      go_ret
      exact ⟨rfl, rfl⟩
    · have e0 : ((rd : Int) == 0) = false := by simpa using h0
      rw [show mayE rd wr false = 0 from if_neg h0]
      go_enter Try.func31, Try.ntmps31
      go_wp2
      go_ret
      exact ⟨rfl, rfl⟩
  · show Calls Try.prog _ #[.pointer (some ⟨p, 0, none⟩), .int .i64 1] W _
    by_cases h0 : wr = 0
    · subst h0
      go_enter Try.func31, Try.ntmps31
      go_wp2
      go_ret
      exact ⟨rfl, rfl⟩
    · have e0 : ((wr : Int) == 0) = false := by simpa using h0
      rw [show mayE rd wr true = 0 from if_neg h0]
      go_enter Try.func31, Try.ntmps31
      go_wp2
      go_ret
      exact ⟨rfl, rfl⟩
theorem readers_any : Calls Try.prog 17 #[.pointer (some ⟨p, 0, none⟩)] W fun e w' => e = .returned (.int .i64 (rd : Int)) ∧ W = w' := by
  have c1 := h.at_.c1
  have k : Calls Try.prog 38 #[.pointer (some ⟨p, 0, none⟩), .int .i64 0] W fun e w' => e = .returned (.int .i64 (rd : Int)) ∧ W = w' := by
    go_enter Try.func38, Try.ntmps38
    go_wp2
    go_ret
    exact ⟨rfl, rfl⟩
  go_enter Try.func17, Try.ntmps17
  go_wp2_with (go_at_call 38; refine k.mono ?_; rintro e w1 ⟨rfl, rfl⟩)
  go_ret
  exact ⟨rfl, rfl⟩
theorem writers_any : Calls Try.prog 18 #[.pointer (some ⟨p, 0, none⟩)] W fun e w' => e = .returned (.int .i64 (wr : Int)) ∧ W = w' := by
  have c1 := h.at_.c2
  have k : Calls Try.prog 38 #[.pointer (some ⟨p, 0, none⟩), .int .i64 1] W fun e w' => e = .returned (.int .i64 (wr : Int)) ∧ W = w' := by
    go_enter Try.func38, Try.ntmps38
    go_wp2
    go_ret
    exact ⟨rfl, rfl⟩
  go_enter Try.func18, Try.ntmps18
  go_wp2_with (go_at_call 38; refine k.mono ?_; rintro e w1 ⟨rfl, rfl⟩)
  go_ret
  exact ⟨rfl, rfl⟩
theorem pcap_any : Calls Try.prog 24 #[.pointer (some ⟨p, 0, none⟩)] W fun e w' => e = .returned (.int .i64 (m : Int)) ∧ W = w' := by
  have c0 := h.at_.c0
  have hr := h.ring
  go_enter Try.func24, Try.ntmps24
  go_wp2_with (go_at_call 41; refine (cap_ring W g m bs hr).mono ?_; rintro e w1 ⟨rfl, rfl⟩)
  go_ret
  exact ⟨rfl, rfl⟩
theorem pall_any : Calls Try.prog 19 #[.pointer (some ⟨p, 0, none⟩)] W fun e W' => OwnBytes W.heap.size bs e W' ∧ Below W.heap.size W W' := by
  have c0 := h.at_.c0
  have hr := h.ring
  go_enter Try.func19, Try.ntmps19
  go_wp2_with (go_at_call 39; refine (all_ring W g m bs hr).mono ?_; rintro e w1 ⟨⟨v, rfl, ho, hn⟩, hb⟩)
  go_ret
  exact ⟨⟨v, rfl, ho, hn⟩, hb⟩
theorem gone_any : Calls Try.prog 21 #[.pointer (some ⟨p, 0, none⟩)] W fun e w' => e = .returned (.bool (decide (rd = 0 ∧ wr = 0))) ∧ W = w' := by
  have c0 := h.at_.c0
  have c1 := h.at_.c1
  have c2 := h.at_.c2
  obtain ⟨d, hd⟩ : ∃ d, d = decide (rd = 0 ∧ wr = 0) := ⟨_, rfl⟩
  rw [← hd]
  have e3 : ((rd : Int) == 0 && (wr : Int) == 0) = d := by rw [hd]; by_cases h1 : rd = 0 <;> by_cases h2 : wr = 0 <;> simp [h1, h2]
  have e4 : (rd == 0 && wr == 0) = d := by rw [hd]; by_cases h1 : rd = 0 <;> by_cases h2 : wr = 0 <;> simp [h1, h2]
  clear hd
  have he := fun W => eqMany (rd : Int) (wr : Int) W
  rw [e3] at he
  go_enter Try.func21, Try.ntmps21
  go_wp2
  go_ret
  exact ⟨rfl, rfl⟩
set_option maxHeartbeats 1000000 in
theorem open_pipe_any (s : Bool) : Calls Try.prog 20 #[.pointer (some ⟨p, 0, none⟩), .bool s] W fun e W' =>
    (((cnt rd wr s = 0 ∨ 64 ≤ cnt rd wr s) ∧ e = .returned (.int .i64 90) ∧ W = W') ∨
     (0 < cnt rd wr s ∧ cnt rd wr s < 64 ∧ e = .returned (.int .i64 0) ∧ IsPipe W' p g m bs (if s then rd else rd + 1) (if s then wr + 1 else wr) ∧ Wr (· = p) (· = p) W W')) := by
  have hP := h
  have c1 := h.at_.c1
  have c2 := h.at_.c2
  have f1 := h.at_.frozen 1
  have f2 := h.at_.frozen 2
  cases s
  · have hs : Calls Try.prog 36 #[.bool false] W fun e w' => e = .returned (.int .i64 0) ∧ W = w' := side_any W false
    have hm : Calls Try.prog 31 #[.pointer (some ⟨p, 0, none⟩), .int .i64 0] W fun e w' => e = .returned (.int .i64 (mayE rd wr false)) ∧ W = w' := may_any W p g m bs rd wr h false
    by_cases h0 : rd = 0
    · subst h0
      rw [show mayE 0 wr false = 90 from rfl] at hm
      go_enter Try.func20, Try.ntmps20
      go_wp2_with (first
        | (go_at_call 36; refine hs.mono ?_; rintro e w1 ⟨rfl, rfl⟩)
        | (go_at_call 31; refine hm.mono ?_; rintro e w1 ⟨rfl, rfl⟩))
      go_ret
      exact .inl ⟨.inl rfl, rfl, rfl⟩
    · rw [show mayE rd wr false = 0 from if_neg h0] at hm
      by_cases h64 : 64 ≤ rd
      · have t1 : decide ((64 : Int) ≤ (rd : Int)) = true := by simp; omega
        go_enter Try.func20, Try.ntmps20
        go_wp2_with (first
          | (go_at_call 36; refine hs.mono ?_; rintro e w1 ⟨rfl, rfl⟩)
          | (go_at_call 31; refine hm.mono ?_; rintro e w1 ⟨rfl, rfl⟩))
        go_ret
        exact .inl ⟨.inr h64, rfl, rfl⟩
      · have t1 : decide ((64 : Int) ≤ (rd : Int)) = false := by simp; omega
        have hset := h.at_.set 1 (.int .i64 ((rd : Int) + 1)) (rd' := rd + 1) (wr' := wr) (by simp [pipeCells])
        have w1 : (rd : Int) + 1 < 100 := by omega
        go_enter Try.func20, Try.ntmps20
        go_wp2_with (first
          | (go_at_call 36; refine hs.mono ?_; rintro e w1 ⟨rfl, rfl⟩)
          | (go_at_call 31; refine hm.mono ?_; rintro e w1 ⟨rfl, rfl⟩))
        have cd : W.drew.cell? ⟨p, 1, none⟩ = some (.int .i64 rd) := c1
        have fd : W.drew.frozen? ⟨p, 1, none⟩ = false := f1
        go_region
        go_wp2
        go_ret
        refine .inr ⟨by show 0 < rd; omega, by show rd < 64; omega, rfl, ⟨hset, hP.ring.same (Below.heap_setCell _ ⟨p, 1, none⟩ _ _ (fun e => hP.ne e.symm)), hP.ne, ?_, ?_⟩, ((Wr.refl (· = p) W).setCell (p := ⟨p, 1, none⟩) (.inl rfl) _).drew⟩
        · show rd + 1 ≤ 64; have := hP.rd64; omega
        · show wr ≤ 64; have := hP.wr64; omega
  · have hs : Calls Try.prog 36 #[.bool true] W fun e w' => e = .returned (.int .i64 1) ∧ W = w' := side_any W true
    have hm : Calls Try.prog 31 #[.pointer (some ⟨p, 0, none⟩), .int .i64 1] W fun e w' => e = .returned (.int .i64 (mayE rd wr true)) ∧ W = w' := may_any W p g m bs rd wr h true
    by_cases h0 : wr = 0
    · subst h0
      rw [show mayE rd 0 true = 90 from rfl] at hm
      go_enter Try.func20, Try.ntmps20
      go_wp2_with (first
        | (go_at_call 36; refine hs.mono ?_; rintro e w1 ⟨rfl, rfl⟩)
        | (go_at_call 31; refine hm.mono ?_; rintro e w1 ⟨rfl, rfl⟩))
      go_ret
      exact .inl ⟨.inl rfl, rfl, rfl⟩
    · rw [show mayE rd wr true = 0 from if_neg h0] at hm
      by_cases h64 : 64 ≤ wr
      · have t1 : decide ((64 : Int) ≤ (wr : Int)) = true := by simp; omega
        go_enter Try.func20, Try.ntmps20
        go_wp2_with (first
          | (go_at_call 36; refine hs.mono ?_; rintro e w1 ⟨rfl, rfl⟩)
          | (go_at_call 31; refine hm.mono ?_; rintro e w1 ⟨rfl, rfl⟩))
        go_ret
        exact .inl ⟨.inr h64, rfl, rfl⟩
      · have t1 : decide ((64 : Int) ≤ (wr : Int)) = false := by simp; omega
        have hset := h.at_.set 2 (.int .i64 ((wr : Int) + 1)) (rd' := rd) (wr' := wr + 1) (by simp [pipeCells])
        have w1 : (wr : Int) + 1 < 100 := by omega
        go_enter Try.func20, Try.ntmps20
        go_wp2_with (first
          | (go_at_call 36; refine hs.mono ?_; rintro e w1 ⟨rfl, rfl⟩)
          | (go_at_call 31; refine hm.mono ?_; rintro e w1 ⟨rfl, rfl⟩))
        have cd : W.drew.cell? ⟨p, 2, none⟩ = some (.int .i64 wr) := c2
        have fd : W.drew.frozen? ⟨p, 2, none⟩ = false := f2
        go_region
        go_wp2
        go_ret
        refine .inr ⟨by show 0 < wr; omega, by show wr < 64; omega, rfl, ⟨hset, hP.ring.same (Below.heap_setCell _ ⟨p, 2, none⟩ _ _ (fun e => hP.ne e.symm)), hP.ne, ?_, ?_⟩, ((Wr.refl (· = p) W).setCell (p := ⟨p, 2, none⟩) (.inl rfl) _).drew⟩
        · show rd ≤ 64; have := hP.rd64; omega
        · show wr + 1 ≤ 64; have := hP.wr64; omega
set_option maxHeartbeats 1000000 in
theorem close_pipe_any (s : Bool) : Calls Try.prog 13 #[.pointer (some ⟨p, 0, none⟩), .bool s] W fun e W' =>
    ((cnt rd wr s = 0 ∧ e = .returned (.tuple #[.bool false, .int .i64 90]) ∧ W = W') ∨
     (0 < cnt rd wr s ∧ e = .returned (.tuple #[.bool (decide (cnt rd wr s = 1)), .int .i64 0]) ∧ IsPipe W' p g m bs (if s then rd else rd - 1) (if s then wr - 1 else wr) ∧ Wr (· = p) (· = p) W W')) := by
  have hP := h
  have c1 := h.at_.c1
  have c2 := h.at_.c2
  have f1 := h.at_.frozen 1
  have f2 := h.at_.frozen 2
  cases s
  · have hs : Calls Try.prog 36 #[.bool false] W fun e w' => e = .returned (.int .i64 0) ∧ W = w' := side_any W false
    have hm : Calls Try.prog 31 #[.pointer (some ⟨p, 0, none⟩), .int .i64 0] W fun e w' => e = .returned (.int .i64 (mayE rd wr false)) ∧ W = w' := may_any W p g m bs rd wr h false
    by_cases h0 : rd = 0
    · subst h0
      rw [show mayE 0 wr false = 90 from rfl] at hm
      go_enter Try.func13, Try.ntmps13
      go_wp2_with (first
        | (go_at_call 36; refine hs.mono ?_; rintro e w1 ⟨rfl, rfl⟩)
        | (go_at_call 31; refine hm.mono ?_; rintro e w1 ⟨rfl, rfl⟩))
      go_ret2
      exact .inl ⟨rfl, rfl, rfl⟩
    · rw [show mayE rd wr false = 0 from if_neg h0] at hm
      obtain ⟨k, rfl⟩ : ∃ k, rd = k + 1 := ⟨rd - 1, by omega⟩
      have hset := h.at_.set 1 (.int .i64 (k : Int)) (rd' := k) (wr' := wr) (by simp [pipeCells])
      have w1 : (k : Int) + 1 < 100 := by have := h.rd64; omega
      have w2 : ((k + 1 : Nat) : Int) - 1 = (k : Int) := by omega
      have cd : W.drew.cell? ⟨p, 1, none⟩ = some (.int .i64 ((k + 1 : Nat) : Int)) := c1
      have fd : W.drew.frozen? ⟨p, 1, none⟩ = false := f1
      obtain ⟨y, hy⟩ : ∃ y, y = ((k + 1 : Nat) : Int) := ⟨_, rfl⟩
      rw [← hy] at cd w2
      obtain ⟨d, hd⟩ : ∃ d, d = ((k : Int) == 0) := ⟨_, rfl⟩
      have hy0 : 1 ≤ y := by omega
      have hy1 : y ≤ 100 := by omega
      clear hy c1 c2
      go_enter Try.func13, Try.ntmps13
      go_wp2_with (first
        | (go_at_call 36; refine hs.mono ?_; rintro e w1 ⟨rfl, rfl⟩)
        | (go_at_call 31; refine hm.mono ?_; rintro e w1 ⟨rfl, rfl⟩))
      go_region
      have c2 := hset.c1
      clear cd fd
      go_wp2
      go_ret2
      have ek : ((k : Int) == 0) = decide (cnt (k + 1) wr false = 1) := by show _ = decide (k + 1 = 1); by_cases e : k = 0 <;> simp [e]
      refine .inr ⟨by show 0 < k + 1; omega, ?_, ⟨hset, hP.ring.same (Below.heap_setCell _ ⟨p, 1, none⟩ _ _ (fun e => hP.ne e.symm)), hP.ne, ?_, ?_⟩, ((Wr.refl (· = p) W).setCell (p := ⟨p, 1, none⟩) (.inl rfl) _).drew⟩
      · rw [← ek]; rfl
      · have := hP.rd64; (try simp only [if_true, Bool.false_eq_true, if_false]); omega
      · have := hP.wr64; (try simp only [if_true, Bool.false_eq_true, if_false]); omega
  · have hs : Calls Try.prog 36 #[.bool true] W fun e w' => e = .returned (.int .i64 1) ∧ W = w' := side_any W true
    have hm : Calls Try.prog 31 #[.pointer (some ⟨p, 0, none⟩), .int .i64 1] W fun e w' => e = .returned (.int .i64 (mayE rd wr true)) ∧ W = w' := may_any W p g m bs rd wr h true
    by_cases h0 : wr = 0
    · subst h0
      rw [show mayE rd 0 true = 90 from rfl] at hm
      go_enter Try.func13, Try.ntmps13
      go_wp2_with (first
        | (go_at_call 36; refine hs.mono ?_; rintro e w1 ⟨rfl, rfl⟩)
        | (go_at_call 31; refine hm.mono ?_; rintro e w1 ⟨rfl, rfl⟩))
      go_ret2
      exact .inl ⟨rfl, rfl, rfl⟩
    · rw [show mayE rd wr true = 0 from if_neg h0] at hm
      obtain ⟨k, rfl⟩ : ∃ k, wr = k + 1 := ⟨wr - 1, by omega⟩
      have hset := h.at_.set 2 (.int .i64 (k : Int)) (rd' := rd) (wr' := k) (by simp [pipeCells])
      have w1 : (k : Int) + 1 < 100 := by have := h.wr64; omega
      have w2 : ((k + 1 : Nat) : Int) - 1 = (k : Int) := by omega
      have cd : W.drew.cell? ⟨p, 2, none⟩ = some (.int .i64 ((k + 1 : Nat) : Int)) := c2
      have fd : W.drew.frozen? ⟨p, 2, none⟩ = false := f2
      obtain ⟨y, hy⟩ : ∃ y, y = ((k + 1 : Nat) : Int) := ⟨_, rfl⟩
      rw [← hy] at cd w2
      obtain ⟨d, hd⟩ : ∃ d, d = ((k : Int) == 0) := ⟨_, rfl⟩
      have hy0 : 1 ≤ y := by omega
      have hy1 : y ≤ 100 := by omega
      clear hy c1 c2
      go_enter Try.func13, Try.ntmps13
      go_wp2_with (first
        | (go_at_call 36; refine hs.mono ?_; rintro e w1 ⟨rfl, rfl⟩)
        | (go_at_call 31; refine hm.mono ?_; rintro e w1 ⟨rfl, rfl⟩))
      go_region
      have c2 := hset.c2
      clear cd fd
      go_wp2
      go_ret2
      have ek : ((k : Int) == 0) = decide (cnt rd (k + 1) true = 1) := by show _ = decide (k + 1 = 1); by_cases e : k = 0 <;> simp [e]
      refine .inr ⟨by show 0 < k + 1; omega, ?_, ⟨hset, hP.ring.same (Below.heap_setCell _ ⟨p, 2, none⟩ _ _ (fun e => hP.ne e.symm)), hP.ne, ?_, ?_⟩, ((Wr.refl (· = p) W).setCell (p := ⟨p, 2, none⟩) (.inl rfl) _).drew⟩
      · rw [← ek]; rfl
      · have := hP.rd64; (try simp only [if_true, Bool.false_eq_true, if_false]); omega
      · have := hP.wr64; (try simp only [if_true, Bool.false_eq_true, if_false]); omega
end
end Go.Proofs.Ytcmcilfopkhipaa
