/- The calls of a memory that a law is told: its arguments, Great. -/
import Derived.Test.YtdacdfnfbknndaaFrmSame
namespace Go.Proofs.Ytdacdfnfbknndaa
open Go Go.RowKit
set_option linter.unusedVariables false
set_option linter.unnecessarySimpa false
/-- a call -/
structure OpM where
  k : Int
  f : Int
  o : Int
  n : Int
  a : Option Addr
  len : Nat
  cap : Nat
  bs : List Int
/-- what it is told of -/
structure IsOp (n₀ : Nat) (W : World) (o : OpM) : Prop where
  row : Row8 n₀ W (.slice o.a o.len o.cap) o.bs
/-- A SLICE OF CALLS -/
def IsOps (n₀ : Nat) (W : World) (a : Option Addr) (len cap : Nat) (os : List OpM) : Prop := os.length = len ∧
  (len = 0 ∨ ∃ b off, a = some ⟨b, off, none⟩ ∧ b < n₀ ∧ len ≤ cap ∧ cap ≤ maxLen ∧
    ∀ (j : Nat) (h : j < os.length), W.cell? ⟨b, off + j * 5, none⟩ = some (.int .i64 os[j].k) ∧ W.cell? ⟨b, off + j * 5 + 1, none⟩ = some (.int .i64 os[j].f) ∧ W.cell? ⟨b, off + j * 5 + 2, none⟩ = some (.int .i64 os[j].o) ∧ W.cell? ⟨b, off + j * 5 + 3, none⟩ = some (.int .i64 os[j].n) ∧ W.cell? ⟨b, off + j * 5 + 4, none⟩ = some (.slice os[j].a os[j].len os[j].cap) ∧ IsOp n₀ W os[j])
theorem IsOp.below {n : Nat} {A B : World} {o : OpM} (h : IsOp n A o) (hb : Below n A B) : IsOp n B o := ⟨h.row.below hb⟩
theorem IsOps.below {n : Nat} {A B : World} {a : Option Addr} {len cap : Nat} {os : List OpM} (h : IsOps n A a len cap os) (hb : Below n A B) : IsOps n B a len cap os := by
  obtain ⟨hl, h | ⟨b, off, h1, h2, h3, h4, hc⟩⟩ := h
  · exact ⟨hl, .inl h⟩
  · refine ⟨hl, .inr ⟨b, off, h1, h2, h3, h4, fun j hj => ?_⟩⟩
    obtain ⟨c1, c2, c3, c4, c5, ho⟩ := hc j hj
    exact ⟨(hb.cell (p := ⟨b, _, none⟩) h2).trans c1, (hb.cell (p := ⟨b, _, none⟩) h2).trans c2, (hb.cell (p := ⟨b, _, none⟩) h2).trans c3, (hb.cell (p := ⟨b, _, none⟩) h2).trans c4, (hb.cell (p := ⟨b, _, none⟩) h2).trans c5, ho.below hb⟩
theorem IsOps.small {n : Nat} {A : World} {a : Option Addr} {len cap : Nat} {os : List OpM} (h : IsOps n A a len cap os) : len ≤ 9223372036854775807 := by
  obtain ⟨hl, h | ⟨b, off, h1, h2, h3, h4, hc⟩⟩ := h
  · omega
  · simp only [maxLen] at h4; omega
set_option maxHeartbeats 1000000 in
theorem great_any (n₀ : Nat) (W : World) (a : Option Addr) (len cap : Nat) (os : List OpM) (h : IsOps n₀ W a len cap os) :
    Calls Try.prog 11 #[.slice a len cap] W fun e W' => W = W' ∧ ((e = .returned (.int .i64 0) ∧ len ≤ 150 ∧ ∀ o ∈ os, o.len ≤ 100) ∨ e = .returned (.int .i64 1)) := by
  have hs := h.small
  obtain ⟨hl, hc⟩ := h
  go_enter Try.func11, Try.ntmps11
  by_cases h200 : 150 < len
  · have t1 : decide ((len : Int) > 150) = true := by simp; omega
    go_wp2
    go_ret
    exact ⟨rfl, .inr rfl⟩
  · have t1 : decide ((len : Int) > 150) = false := by simp; omega
    go_wp2_with fail
    go_loopw [9] (fun i wr => ∃ k : Nat, k ≤ len ∧ i = .int .i64 (k : Int) ∧ W = wr ∧ ∀ j (h : j < os.length), j < k → os[j].len ≤ 100) (fun i _ => len - (intOf i).toNat)
    case atStart => exact ⟨0, Nat.zero_le _, rfl, rfl, fun j h hj => by omega⟩
    case round =>
      obtain ⟨k, hk, rfl, rfl, hall⟩ := hrel
      by_cases hlt : k < len
      · have t3 : decide ((k : Int) < (len : Int)) = true := by simp; omega
        obtain h0 | ⟨b, off, rfl, h2, h3, h4, hc⟩ := hc
        · omega
        obtain ⟨c1, c2, c3, c4, c5, ho⟩ := hc k (by omega)
        have hr := ho.row.1
        obtain ⟨ol, hol⟩ : ∃ ol, ol = os[k].len := ⟨_, rfl⟩
        rw [← hol] at c5
        have HA := Lib.hid hall
        have HL := Lib.hid hol
        have hsm : ol ≤ maxLen := by
          rcases hr with ⟨_, _, h, _⟩ | ⟨_, _, _, h, _, h5, h6, _⟩
          · injection h with e1 e2 e3; omega
          · injection h with e1 e2 e3; omega
        clear hall hol hc
        simp only [maxLen] at hsm
        by_cases h3 : 100 < ol
        · have t4 : decide ((ol : Int) > 100) = true := by simp; omega
          go_wp2
          go_ret
          exact ⟨rfl, .inr rfl⟩
        · have t4 : decide ((ol : Int) > 100) = false := by simp; omega
          go_wp2
          refine ⟨⟨k + 1, by omega, by simp, trivial, fun j h hj => ?_⟩, by simp [intOf]; omega⟩
          by_cases e : j = k
          · subst e
            have : ol = os[j].len := HL
            omega
          · exact HA j h (by omega)
      · have t3 : decide ((k : Int) < (len : Int)) = false := by simp; omega
        go_wp2
        go_ret
        refine ⟨rfl, .inl ⟨rfl, by omega, fun o ho => ?_⟩⟩
        obtain ⟨j, hj, rfl⟩ := List.getElem_of_mem ho
        exact hall j hj (by omega)
end Go.Proofs.Ytdacdfnfbknndaa
