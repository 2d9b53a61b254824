/- The walk of the document's read. -/
import Derived.Test.YtdlhnipkhlihjaaTlvTwin
import Derived.Test.YtdlhnipkhlihjaaTlvReadQ
import Derived.Test.YtdlhnipkhlihjaaRowSlice
import Derived.Test.YtdlhnipkhlihjaaAnyV
import Derived.Deep.Cut
import Derived.Deep.CutRange
import Derived.Deep.CutBlock
namespace Go.Proofs.Ytdlhnipkhlihjaa
open Go Go.RowKit
attribute [local go_sem] upV_value upV_skip upV_enter
set_option linter.unusedVariables false
set_option linter.unnecessarySimpa false
set_option linter.unusedSimpArgs false
/-- what a reading of bytes answers -/
def RdPost (n₀ d : Nat) (bs : List Int) (W : World) (e : Ending) (W' : World) : Prop :=
  Below W.heap.size W W' ∧ ∃ ra rl rc ok, e = .returned (.tuple #[.slice ra rl rc, .bool ok]) ∧ (ok = false → readL d bs = none) ∧
    (ok = true → ∃ f, readL d bs = some f ∧ ∀ (W2 : World) (n' : Nat), (∀ x, (x < n₀ ∨ W.heap.size ≤ x ∧ x < W'.heap.size) → W2.heap[x]? = W'.heap[x]? ∧ x < n') → SlF n' W2 ra rl rc f)
theorem Row8.to {n m : Nat} {W W' : World} {sv : Value} {zs : List Int} (h : Row8 n W sv zs) (hs : ∀ b, b < n → W'.heap[b]? = W.heap[b]? ∧ b < m) : Row8 m W' sv zs := by
  have h2 := h.same (B := W') fun b hb => (hs b (h.lt b hb)).1
  refine ⟨?_, h2.2⟩
  rcases h2.1 with h3 | ⟨b, off, cap, e, hb, h4⟩
  · exact .inl h3
  · exact .inr ⟨b, off, cap, e, (hs b hb).2, h4⟩
def RReadOK (m : Nat) : Prop := ∀ (n₀ d : Nat) (bs : List Int) (W : World) (a : Option Addr) (len cap : Nat), bs.length ≤ m → n₀ ≤ W.heap.size → d ≤ 9 → bs.length ≤ 1048576 → Row8 n₀ W (.slice a len cap) bs →
  Calls Try.prog 37 #[.slice a len cap, .int .i64 d] W (RdPost n₀ d bs W)
set_option maxRecDepth 100000 in
set_option maxHeartbeats 8000000 in
theorem rread_step (m : Nat) (ih : ∀ m', m' < m → RReadOK m') : RReadOK m := by
  intro n₀ d bs W a len cap hm hn hd hbl hr
  obtain ⟨i0, hi, hz0, hz1, hz2⟩ := info_parts info_tlv
  obtain ⟨hlen, b, off, hopen, hc⟩ := hr.1.open
  have hcap := hr.1.cap
  have hby := hr.2
  have hR := Lib.hid hr
  have HC := Lib.hid hc
  clear hr hc
  go_enter Try.func37, Try.ntmps37
  by_cases h8 : 8 < d ∧ 0 < len
  · have t1 : decide ((8 : Int) < (d : Int)) = true := by simp; omega
    have t2 : decide ((0 : Int) < (len : Int)) = true := by simp; omega
    go_wp2
    go_ret2
    refine ⟨Below.refl _ _, _, _, _, _, rfl, fun _ => ?_, fun h => by cases h⟩
    by_cases h5 : bs.length < 5
    · exact (Rd.start d bs).short (by omega) (by omega)
    · exact (Rd.start d bs).bad (by omega) (.inl h8.1)
  by_cases h9 : 8 < d
  · have t1 : decide ((8 : Int) < (d : Int)) = true := by simp; omega
    obtain rfl : len = 0 := by omega
    have hbs : bs = [] := List.eq_nil_of_length_eq_zero hlen
    have HBS := Lib.hid hbs
    clear hbs
    go_wp2
    go_loopw [6, 7, 8, 9, 10, 11, 12, 13] (fun out at_ n _ _ _ _ _ wr => out = .slice none 0 0 ∧ at_ = .int .i64 0 ∧ n = .int .i64 0 ∧ wr = W) (fun _ _ _ _ _ _ _ _ _ => 0)
    case atStart => exact ⟨rfl, rfl, rfl, rfl⟩
    case round =>
      obtain ⟨rfl, rfl, rfl, rfl⟩ := hrel
      go_wp2
      go_ret2
      have hbs : bs = [] := HBS
      refine ⟨Below.refl _ _, _, _, _, _, rfl, fun h => (by cases h), fun _ => ⟨.nil, by rw [hbs, readL_nil], fun _ _ _ => ⟨rfl, .inl rfl⟩⟩⟩
  have t1 : decide ((8 : Int) < (d : Int)) = false := by simp; omega
  go_wp2
  go_loopw [6, 7, 8, 9, 10, 11, 12, 13] (fun out at_ n _ _ _ _ _ wr => ∃ (A N : Nat) (P : Forest) (vs : List Value) (S : Nat → Prop), at_ = .int .i64 (A : Int) ∧ n = .int .i64 (N : Int) ∧ A ≤ len ∧ N * 5 ≤ A ∧ P.length = N ∧ Hid (Rd d bs A P) ∧ wr.ownsRow W.heap.size 30 3 out N vs ∧ RelocS S wr P vs ∧ (∀ x, S x → (x < n₀ ∨ W.heap.size ≤ x) ∧ x < wr.heap.size ∧ out.ownBlock ≠ some x) ∧ Below W.heap.size W wr) (fun _ a _ _ _ _ _ _ _ => len - (intOf a).toNat)
  case atStart => exact ⟨0, 0, .nil, [], fun _ => False, rfl, rfl, Nat.zero_le _, Nat.le_refl _, rfl, Rd.start d bs, World.ownsRow_nil _ _ _ _, RelocS.nil, fun x h => h.elim, Below.refl _ _⟩
  case round =>
    obtain ⟨A, N, P, vs, S, rfl, rfl, hA, hN, hP, hRd, hown, hrel, hS, hb0⟩ := hrel
    have s1 : decide ((N : Int) ≤ (len : Int)) = true := by simp; omega
    by_cases hlt : A < len
    rotate_left
    · have s2 : decide ((A : Int) < (len : Int)) = false := by simp; omega
      obtain ⟨va, vc, rfl, hva⟩ := ownsRow_slice hown
      have hK : Hid (∀ (W2 : World) (n' : Nat), (∀ x, (x < n₀ ∨ W.heap.size ≤ x ∧ x < wr.heap.size) → W2.heap[x]? = wr.heap[x]? ∧ x < n') → SlF n' W2 va N vc P) := fun W2 n' h => own_slF hown hrel hP W2 n' fun x hx => h x (by
        rcases hx with hx | hx
        · obtain ⟨h1, h2, _⟩ := hS x hx
          rcases h1 with h1 | h1
          · exact .inl h1
          · exact .inr ⟨h1, h2⟩
        · exact .inr (hown.lt x hx))
      clear hown hrel hS hva
      go_wp2
      go_ret2
      exact ⟨hb0, _, _, _, _, rfl, fun h => (by cases h), fun _ => ⟨P, Rd.end (show Rd d bs A P from hRd) (by omega), hK⟩⟩
    have s2 : decide ((A : Int) < (len : Int)) = true := by simp; omega
    obtain ⟨rfl, hbn, _, hcm⟩ := hopen (by omega)
    have hc : ∀ j, j < len → wr.cell? ⟨b, off + j, none⟩ = some (.int .u8 (bs.getD j 0)) := fun j hj => (hb0.cell (p := ⟨b, off + j, none⟩) (show b < W.heap.size by omega)).trans ((show ∀ j, j < len → W.cell? ⟨b, off + j, none⟩ = some (.int .u8 (bs.getD j 0)) from HC) j hj)
    by_cases h5 : len < A + 5
    · have s3 : decide ((len : Int) - (A : Int) < (5 : Int)) = true := by simp; omega
      clear hc hown hrel hS
      go_wp2
      go_ret2
      exact ⟨hb0, _, _, _, _, rfl, fun _ => (show Rd d bs A P from hRd).short (by omega) (by omega), fun h => (by cases h)⟩
    have s3 : decide ((len : Int) - (A : Int) < (5 : Int)) = false := by simp; omega
    have hz : ∀ j, A + j < len → 0 ≤ bs.getD (A + j) 0 ∧ bs.getD (A + j) 0 ≤ 255 := fun j hj => by
      rw [getD_at _ _ (by omega)]; exact hby _ (List.getElem_mem _)
    obtain ⟨x0, hx0⟩ : ∃ x, x = bs.getD A 0 := ⟨_, rfl⟩
    obtain ⟨x1, hx1⟩ : ∃ x, x = bs.getD (A + 1) 0 := ⟨_, rfl⟩
    obtain ⟨x2, hx2⟩ : ∃ x, x = bs.getD (A + 2) 0 := ⟨_, rfl⟩
    obtain ⟨x3, hx3⟩ : ∃ x, x = bs.getD (A + 3) 0 := ⟨_, rfl⟩
    obtain ⟨x4, hx4⟩ : ∃ x, x = bs.getD (A + 4) 0 := ⟨_, rfl⟩
    have c0 := hc A (by omega)
    have c1 := hc (A + 1) (by omega)
    have c2 := hc (A + 2) (by omega)
    have c3 := hc (A + 3) (by omega)
    have c4 := hc (A + 4) (by omega)
    have z0 := hz 0 (by omega)
    have z1 := hz 1 (by omega)
    have z2 := hz 2 (by omega)
    have z3 := hz 3 (by omega)
    have z4 := hz 4 (by omega)
    rw [Nat.add_zero, ← hx0] at z0
    rw [← hx1] at z1 c1
    rw [← hx2] at z2 c2
    rw [← hx3] at z3 c3
    rw [← hx4] at z4 c4
    rw [← hx0] at c0
    have hL : lenAt bs A = lenH x1 x2 x3 x4 := by unfold lenAt; rw [hx1, hx2, hx3, hx4]
    have HL := Lib.hid hL
    have HX0 := Lib.hid hx0
    clear hL hx0 hx1 hx2 hx3 hx4 hz hc
    have HOWN := Lib.hid hown
    have HREL := Lib.hid hrel
    have HS := Lib.hid hS
    clear hrel hS
    have k1 : (A : Int) + 1 < (len : Int) := by omega
    have k2 : (A : Int) + 2 < (len : Int) := by omega
    have k3 : (A : Int) + 3 < (len : Int) := by omega
    have k4 : (A : Int) + 4 < (len : Int) := by omega
    have j1 : (0 : Int) ≤ (A : Int) + 1 := by omega
    have j2 : (0 : Int) ≤ (A : Int) + 2 := by omega
    have j3 : (0 : Int) ≤ (A : Int) + 3 := by omega
    have j4 : (0 : Int) ≤ (A : Int) + 4 := by omega
    by_cases h0 : x0 = 0
    · have s4 : (x0 == 0) = true := by simp [h0]
      have H0 := Lib.hid h0
      clear h0 hown
      go_wp2
      go_ret2
      exact ⟨hb0, _, _, _, _, rfl, fun _ => (show Rd d bs A P from hRd).bad (by omega) (.inr (.inl ((show x0 = bs.getD A 0 from HX0).symm.trans H0))), fun h => (by cases h)⟩
    have s4 : (x0 == 0) = false := by simp [h0]
    have H0 := Lib.hid h0
    clear h0 hown
    have w1' : IntKind.i64.wrap ((A : Int) + 1) = (A : Int) + 1 := by rw [IntKind.wrap_i64]; omega
    have w2' : IntKind.i64.wrap ((A : Int) + 2) = (A : Int) + 2 := by rw [IntKind.wrap_i64]; omega
    have w3' : IntKind.i64.wrap ((A : Int) + 3) = (A : Int) + 3 := by rw [IntKind.wrap_i64]; omega
    have w4' : IntKind.i64.wrap ((A : Int) + 4) = (A : Int) + 4 := by rw [IntKind.wrap_i64]; omega
    rw [show A + 2 = ((A : Int) + 2).toNat from by omega] at c2
    rw [show A + 3 = ((A : Int) + 3).toNat from by omega] at c3
    rw [show A + 4 = ((A : Int) + 4).toNat from by omega] at c4
    have hbw : b < wr.heap.size := by have := hb0.size; omega
    have HX := Lib.hid (show ∀ W', Grows wr.drew W' → W'.cell? ⟨b, off + (A + 1), none⟩ = some (.int .u8 x1) ∧ W'.cell? ⟨b, off + ((A : Int) + 2).toNat, none⟩ = some (.int .u8 x2) ∧ W'.cell? ⟨b, off + ((A : Int) + 3).toNat, none⟩ = some (.int .u8 x3) ∧ W'.cell? ⟨b, off + ((A : Int) + 4).toNat, none⟩ = some (.int .u8 x4) from fun W' hW => by
      have hW2 := below_undrew hW
      exact ⟨(hW2.cell (p := ⟨b, off + (A + 1), none⟩) hbw).trans c1, (hW2.cell (p := ⟨b, off + ((A : Int) + 2).toNat, none⟩) hbw).trans c2, (hW2.cell (p := ⟨b, off + ((A : Int) + 3).toNat, none⟩) hbw).trans c3, (hW2.cell (p := ⟨b, off + ((A : Int) + 4).toNat, none⟩) hbw).trans c4⟩)
    clear c1 c2 c3 c4
    go_wp2_with fail
    refine wp_region_anyV Grows (by kernel_rfl) 31 rfl ?_
    first
      | (refine anyV_val 0 (Grows.pre) rfl (by kernel_rfl) (by kernel_rfl) (by kernel_rfl) (by rfl) (v := ?av1) (fun W hW => ?ay1) (fun K hK => ?ar1); case ay1 => (obtain ⟨q1, q2, q3, q4⟩ := (show ∀ W', Grows wr.drew W' → _ from HX) W hW; go_simp; first | done | rfl))
      | refine anyV_skip 0 (Grows.pre) rfl (by kernel_rfl) (by kernel_rfl) (by kernel_rfl) (by rfl) (fun K hK => ?_)
    go_simp
    refine hK _ ?_
    clear hK K
    first
      | (refine anyV_val 1 (Grows.pre) rfl (by kernel_rfl) (by kernel_rfl) (by kernel_rfl) (by rfl) (v := ?av2) (fun W hW => ?ay2) (fun K hK => ?ar2); case ay2 => (obtain ⟨q1, q2, q3, q4⟩ := (show ∀ W', Grows wr.drew W' → _ from HX) W hW; go_simp; first | done | rfl))
      | refine anyV_skip 1 (Grows.pre) rfl (by kernel_rfl) (by kernel_rfl) (by kernel_rfl) (by rfl) (fun K hK => ?_)
    go_simp
    refine hK _ ?_
    clear hK K
    first
      | (refine anyV_val 2 (Grows.pre) rfl (by kernel_rfl) (by kernel_rfl) (by kernel_rfl) (by rfl) (v := ?av3) (fun W hW => ?ay3) (fun K hK => ?ar3); case ay3 => (obtain ⟨q1, q2, q3, q4⟩ := (show ∀ W', Grows wr.drew W' → _ from HX) W hW; go_simp; first | done | rfl))
      | refine anyV_skip 2 (Grows.pre) rfl (by kernel_rfl) (by kernel_rfl) (by kernel_rfl) (by rfl) (fun K hK => ?_)
    go_simp
    refine hK _ ?_
    clear hK K
    first
      | (refine anyV_val 3 (Grows.pre) rfl (by kernel_rfl) (by kernel_rfl) (by kernel_rfl) (by rfl) (v := ?av4) (fun W hW => ?ay4) (fun K hK => ?ar4); case ay4 => (obtain ⟨q1, q2, q3, q4⟩ := (show ∀ W', Grows wr.drew W' → _ from HX) W hW; go_simp; first | done | rfl))
      | refine anyV_skip 3 (Grows.pre) rfl (by kernel_rfl) (by kernel_rfl) (by kernel_rfl) (by rfl) (fun K hK => ?_)
    go_simp
    refine hK _ ?_
    clear hK K
    first
      | (refine anyV_val 4 (Grows.pre) rfl (by kernel_rfl) (by kernel_rfl) (by kernel_rfl) (by rfl) (v := ?av5) (fun W hW => ?ay5) (fun K hK => ?ar5); case ay5 => (obtain ⟨q1, q2, q3, q4⟩ := (show ∀ W', Grows wr.drew W' → _ from HX) W hW; go_simp; first | done | rfl))
      | refine anyV_skip 4 (Grows.pre) rfl (by kernel_rfl) (by kernel_rfl) (by kernel_rfl) (by rfl) (fun K hK => ?_)
    go_simp
    refine hK _ ?_
    clear hK K
    first
      | (refine anyV_val 5 (Grows.pre) rfl (by kernel_rfl) (by kernel_rfl) (by kernel_rfl) (by rfl) (v := ?av6) (fun W hW => ?ay6) (fun K hK => ?ar6); case ay6 => (obtain ⟨q1, q2, q3, q4⟩ := (show ∀ W', Grows wr.drew W' → _ from HX) W hW; go_simp; first | done | rfl))
      | refine anyV_skip 5 (Grows.pre) rfl (by kernel_rfl) (by kernel_rfl) (by kernel_rfl) (by rfl) (fun K hK => ?_)
    go_simp
    refine hK _ ?_
    clear hK K
    first
      | (refine anyV_val 6 (Grows.pre) rfl (by kernel_rfl) (by kernel_rfl) (by kernel_rfl) (by rfl) (v := ?av7) (fun W hW => ?ay7) (fun K hK => ?ar7); case ay7 => (obtain ⟨q1, q2, q3, q4⟩ := (show ∀ W', Grows wr.drew W' → _ from HX) W hW; go_simp; first | done | rfl))
      | refine anyV_skip 6 (Grows.pre) rfl (by kernel_rfl) (by kernel_rfl) (by kernel_rfl) (by rfl) (fun K hK => ?_)
    go_simp
    refine hK _ ?_
    clear hK K
    first
      | (refine anyV_val 7 (Grows.pre) rfl (by kernel_rfl) (by kernel_rfl) (by kernel_rfl) (by rfl) (v := ?av8) (fun W hW => ?ay8) (fun K hK => ?ar8); case ay8 => (obtain ⟨q1, q2, q3, q4⟩ := (show ∀ W', Grows wr.drew W' → _ from HX) W hW; go_simp; first | done | rfl))
      | refine anyV_skip 7 (Grows.pre) rfl (by kernel_rfl) (by kernel_rfl) (by kernel_rfl) (by rfl) (fun K hK => ?_)
    go_simp
    refine hK _ ?_
    clear hK K
    first
      | (refine anyV_val 8 (Grows.pre) rfl (by kernel_rfl) (by kernel_rfl) (by kernel_rfl) (by rfl) (v := ?av9) (fun W hW => ?ay9) (fun K hK => ?ar9); case ay9 => (obtain ⟨q1, q2, q3, q4⟩ := (show ∀ W', Grows wr.drew W' → _ from HX) W hW; go_simp; first | done | rfl))
      | refine anyV_skip 8 (Grows.pre) rfl (by kernel_rfl) (by kernel_rfl) (by kernel_rfl) (by rfl) (fun K hK => ?_)
    go_simp
    refine hK _ ?_
    clear hK K
    first
      | (refine anyV_val 9 (Grows.pre) rfl (by kernel_rfl) (by kernel_rfl) (by kernel_rfl) (by rfl) (v := ?av10) (fun W hW => ?ay10) (fun K hK => ?ar10); case ay10 => (obtain ⟨q1, q2, q3, q4⟩ := (show ∀ W', Grows wr.drew W' → _ from HX) W hW; go_simp; first | done | rfl))
      | refine anyV_skip 9 (Grows.pre) rfl (by kernel_rfl) (by kernel_rfl) (by kernel_rfl) (by rfl) (fun K hK => ?_)
    go_simp
    refine hK _ ?_
    clear hK K
    first
      | (refine anyV_val 10 (Grows.pre) rfl (by kernel_rfl) (by kernel_rfl) (by kernel_rfl) (by rfl) (v := ?av11) (fun W hW => ?ay11) (fun K hK => ?ar11); case ay11 => (obtain ⟨q1, q2, q3, q4⟩ := (show ∀ W', Grows wr.drew W' → _ from HX) W hW; go_simp; first | done | rfl))
      | refine anyV_skip 10 (Grows.pre) rfl (by kernel_rfl) (by kernel_rfl) (by kernel_rfl) (by rfl) (fun K hK => ?_)
    go_simp
    refine hK _ ?_
    clear hK K
    first
      | (refine anyV_val 11 (Grows.pre) rfl (by kernel_rfl) (by kernel_rfl) (by kernel_rfl) (by rfl) (v := ?av12) (fun W hW => ?ay12) (fun K hK => ?ar12); case ay12 => (obtain ⟨q1, q2, q3, q4⟩ := (show ∀ W', Grows wr.drew W' → _ from HX) W hW; go_simp; first | done | rfl))
      | refine anyV_skip 11 (Grows.pre) rfl (by kernel_rfl) (by kernel_rfl) (by kernel_rfl) (by rfl) (fun K hK => ?_)
    go_simp
    refine hK _ ?_
    clear hK K
    first
      | (refine anyV_val 12 (Grows.pre) rfl (by kernel_rfl) (by kernel_rfl) (by kernel_rfl) (by rfl) (v := ?av13) (fun W hW => ?ay13) (fun K hK => ?ar13); case ay13 => (obtain ⟨q1, q2, q3, q4⟩ := (show ∀ W', Grows wr.drew W' → _ from HX) W hW; go_simp; first | done | rfl))
      | refine anyV_skip 12 (Grows.pre) rfl (by kernel_rfl) (by kernel_rfl) (by kernel_rfl) (by rfl) (fun K hK => ?_)
    go_simp
    refine hK _ ?_
    clear hK K
    first
      | (refine anyV_val 13 (Grows.pre) rfl (by kernel_rfl) (by kernel_rfl) (by kernel_rfl) (by rfl) (v := ?av14) (fun W hW => ?ay14) (fun K hK => ?ar14); case ay14 => (obtain ⟨q1, q2, q3, q4⟩ := (show ∀ W', Grows wr.drew W' → _ from HX) W hW; go_simp; first | done | rfl))
      | refine anyV_skip 13 (Grows.pre) rfl (by kernel_rfl) (by kernel_rfl) (by kernel_rfl) (by rfl) (fun K hK => ?_)
    go_simp
    refine hK _ ?_
    clear hK K
    first
      | (refine anyV_val 14 (Grows.pre) rfl (by kernel_rfl) (by kernel_rfl) (by kernel_rfl) (by rfl) (v := ?av15) (fun W hW => ?ay15) (fun K hK => ?ar15); case ay15 => (obtain ⟨q1, q2, q3, q4⟩ := (show ∀ W', Grows wr.drew W' → _ from HX) W hW; go_simp; first | done | rfl))
      | refine anyV_skip 14 (Grows.pre) rfl (by kernel_rfl) (by kernel_rfl) (by kernel_rfl) (by rfl) (fun K hK => ?_)
    go_simp
    refine hK _ ?_
    clear hK K
    first
      | (refine anyV_val 15 (Grows.pre) rfl (by kernel_rfl) (by kernel_rfl) (by kernel_rfl) (by rfl) (v := ?av16) (fun W hW => ?ay16) (fun K hK => ?ar16); case ay16 => (obtain ⟨q1, q2, q3, q4⟩ := (show ∀ W', Grows wr.drew W' → _ from HX) W hW; go_simp; first | done | rfl))
      | refine anyV_skip 15 (Grows.pre) rfl (by kernel_rfl) (by kernel_rfl) (by kernel_rfl) (by rfl) (fun K hK => ?_)
    go_simp
    refine hK _ ?_
    clear hK K
    first
      | (refine anyV_val 16 (Grows.pre) rfl (by kernel_rfl) (by kernel_rfl) (by kernel_rfl) (by rfl) (v := ?av17) (fun W hW => ?ay17) (fun K hK => ?ar17); case ay17 => (obtain ⟨q1, q2, q3, q4⟩ := (show ∀ W', Grows wr.drew W' → _ from HX) W hW; go_simp; first | done | rfl))
      | refine anyV_skip 16 (Grows.pre) rfl (by kernel_rfl) (by kernel_rfl) (by kernel_rfl) (by rfl) (fun K hK => ?_)
    go_simp
    refine hK _ ?_
    clear hK K
    first
      | (refine anyV_val 17 (Grows.pre) rfl (by kernel_rfl) (by kernel_rfl) (by kernel_rfl) (by rfl) (v := ?av18) (fun W hW => ?ay18) (fun K hK => ?ar18); case ay18 => (obtain ⟨q1, q2, q3, q4⟩ := (show ∀ W', Grows wr.drew W' → _ from HX) W hW; go_simp; first | done | rfl))
      | refine anyV_skip 17 (Grows.pre) rfl (by kernel_rfl) (by kernel_rfl) (by kernel_rfl) (by rfl) (fun K hK => ?_)
    go_simp
    refine hK _ ?_
    clear hK K
    first
      | (refine anyV_val 18 (Grows.pre) rfl (by kernel_rfl) (by kernel_rfl) (by kernel_rfl) (by rfl) (v := ?av19) (fun W hW => ?ay19) (fun K hK => ?ar19); case ay19 => (obtain ⟨q1, q2, q3, q4⟩ := (show ∀ W', Grows wr.drew W' → _ from HX) W hW; go_simp; first | done | rfl))
      | refine anyV_skip 18 (Grows.pre) rfl (by kernel_rfl) (by kernel_rfl) (by kernel_rfl) (by rfl) (fun K hK => ?_)
    go_simp
    refine hK _ ?_
    clear hK K
    first
      | (refine anyV_val 19 (Grows.pre) rfl (by kernel_rfl) (by kernel_rfl) (by kernel_rfl) (by rfl) (v := ?av20) (fun W hW => ?ay20) (fun K hK => ?ar20); case ay20 => (obtain ⟨q1, q2, q3, q4⟩ := (show ∀ W', Grows wr.drew W' → _ from HX) W hW; go_simp; first | done | rfl))
      | refine anyV_skip 19 (Grows.pre) rfl (by kernel_rfl) (by kernel_rfl) (by kernel_rfl) (by rfl) (fun K hK => ?_)
    go_simp
    refine hK _ ?_
    clear hK K
    first
      | (refine anyV_val 20 (Grows.pre) rfl (by kernel_rfl) (by kernel_rfl) (by kernel_rfl) (by rfl) (v := ?av21) (fun W hW => ?ay21) (fun K hK => ?ar21); case ay21 => (obtain ⟨q1, q2, q3, q4⟩ := (show ∀ W', Grows wr.drew W' → _ from HX) W hW; go_simp; first | done | rfl))
      | refine anyV_skip 20 (Grows.pre) rfl (by kernel_rfl) (by kernel_rfl) (by kernel_rfl) (by rfl) (fun K hK => ?_)
    go_simp
    refine hK _ ?_
    clear hK K
    first
      | (refine anyV_val 21 (Grows.pre) rfl (by kernel_rfl) (by kernel_rfl) (by kernel_rfl) (by rfl) (v := ?av22) (fun W hW => ?ay22) (fun K hK => ?ar22); case ay22 => (obtain ⟨q1, q2, q3, q4⟩ := (show ∀ W', Grows wr.drew W' → _ from HX) W hW; go_simp; first | done | rfl))
      | refine anyV_skip 21 (Grows.pre) rfl (by kernel_rfl) (by kernel_rfl) (by kernel_rfl) (by rfl) (fun K hK => ?_)
    go_simp
    refine hK _ ?_
    clear hK K
    first
      | (refine anyV_val 22 (Grows.pre) rfl (by kernel_rfl) (by kernel_rfl) (by kernel_rfl) (by rfl) (v := ?av23) (fun W hW => ?ay23) (fun K hK => ?ar23); case ay23 => (obtain ⟨q1, q2, q3, q4⟩ := (show ∀ W', Grows wr.drew W' → _ from HX) W hW; go_simp; first | done | rfl))
      | refine anyV_skip 22 (Grows.pre) rfl (by kernel_rfl) (by kernel_rfl) (by kernel_rfl) (by rfl) (fun K hK => ?_)
    go_simp
    refine hK _ ?_
    clear hK K
    first
      | (refine anyV_val 23 (Grows.pre) rfl (by kernel_rfl) (by kernel_rfl) (by kernel_rfl) (by rfl) (v := ?av24) (fun W hW => ?ay24) (fun K hK => ?ar24); case ay24 => (obtain ⟨q1, q2, q3, q4⟩ := (show ∀ W', Grows wr.drew W' → _ from HX) W hW; go_simp; first | done | rfl))
      | refine anyV_skip 23 (Grows.pre) rfl (by kernel_rfl) (by kernel_rfl) (by kernel_rfl) (by rfl) (fun K hK => ?_)
    go_simp
    refine hK _ ?_
    clear hK K
    first
      | (refine anyV_val 24 (Grows.pre) rfl (by kernel_rfl) (by kernel_rfl) (by kernel_rfl) (by rfl) (v := ?av25) (fun W hW => ?ay25) (fun K hK => ?ar25); case ay25 => (obtain ⟨q1, q2, q3, q4⟩ := (show ∀ W', Grows wr.drew W' → _ from HX) W hW; go_simp; first | done | rfl))
      | refine anyV_skip 24 (Grows.pre) rfl (by kernel_rfl) (by kernel_rfl) (by kernel_rfl) (by rfl) (fun K hK => ?_)
    go_simp
    refine hK _ ?_
    clear hK K
    first
      | (refine anyV_val 25 (Grows.pre) rfl (by kernel_rfl) (by kernel_rfl) (by kernel_rfl) (by rfl) (v := ?av26) (fun W hW => ?ay26) (fun K hK => ?ar26); case ay26 => (obtain ⟨q1, q2, q3, q4⟩ := (show ∀ W', Grows wr.drew W' → _ from HX) W hW; go_simp; first | done | rfl))
      | refine anyV_skip 25 (Grows.pre) rfl (by kernel_rfl) (by kernel_rfl) (by kernel_rfl) (by rfl) (fun K hK => ?_)
    go_simp
    refine hK _ ?_
    clear hK K
    first
      | (refine anyV_val 26 (Grows.pre) rfl (by kernel_rfl) (by kernel_rfl) (by kernel_rfl) (by rfl) (v := ?av27) (fun W hW => ?ay27) (fun K hK => ?ar27); case ay27 => (obtain ⟨q1, q2, q3, q4⟩ := (show ∀ W', Grows wr.drew W' → _ from HX) W hW; go_simp; first | done | rfl))
      | refine anyV_skip 26 (Grows.pre) rfl (by kernel_rfl) (by kernel_rfl) (by kernel_rfl) (by rfl) (fun K hK => ?_)
    go_simp
    refine hK _ ?_
    clear hK K
    first
      | (refine anyV_val 27 (Grows.pre) rfl (by kernel_rfl) (by kernel_rfl) (by kernel_rfl) (by rfl) (v := ?av28) (fun W hW => ?ay28) (fun K hK => ?ar28); case ay28 => (obtain ⟨q1, q2, q3, q4⟩ := (show ∀ W', Grows wr.drew W' → _ from HX) W hW; go_simp; first | done | rfl))
      | refine anyV_skip 27 (Grows.pre) rfl (by kernel_rfl) (by kernel_rfl) (by kernel_rfl) (by rfl) (fun K hK => ?_)
    go_simp
    refine hK _ ?_
    clear hK K
    first
      | (refine anyV_val 28 (Grows.pre) rfl (by kernel_rfl) (by kernel_rfl) (by kernel_rfl) (by rfl) (v := ?av29) (fun W hW => ?ay29) (fun K hK => ?ar29); case ay29 => (obtain ⟨q1, q2, q3, q4⟩ := (show ∀ W', Grows wr.drew W' → _ from HX) W hW; go_simp; first | done | rfl))
      | refine anyV_skip 28 (Grows.pre) rfl (by kernel_rfl) (by kernel_rfl) (by kernel_rfl) (by rfl) (fun K hK => ?_)
    go_simp
    refine hK _ ?_
    clear hK K
    first
      | (refine anyV_val 29 (Grows.pre) rfl (by kernel_rfl) (by kernel_rfl) (by kernel_rfl) (by rfl) (v := ?av30) (fun W hW => ?ay30) (fun K hK => ?ar30); case ay30 => (obtain ⟨q1, q2, q3, q4⟩ := (show ∀ W', Grows wr.drew W' → _ from HX) W hW; go_simp; first | done | rfl))
      | refine anyV_skip 29 (Grows.pre) rfl (by kernel_rfl) (by kernel_rfl) (by kernel_rfl) (by rfl) (fun K hK => ?_)
    go_simp
    refine hK _ ?_
    clear hK K
    first
      | (refine anyV_val 30 (Grows.pre) rfl (by kernel_rfl) (by kernel_rfl) (by kernel_rfl) (by rfl) (v := ?av31) (fun W hW => ?ay31) (fun K hK => ?ar31); case ay31 => (obtain ⟨q1, q2, q3, q4⟩ := (show ∀ W', Grows wr.drew W' → _ from HX) W hW; go_simp; first | done | rfl))
      | refine anyV_skip 30 (Grows.pre) rfl (by kernel_rfl) (by kernel_rfl) (by kernel_rfl) (by rfl) (fun K hK => ?_)
    go_simp
    refine hK _ ?_
    clear hK K
    refine anyV_done (by kernel_rfl) ?_
    obtain ⟨L, hLd⟩ : ∃ L, L = lenAt bs A := ⟨_, rfl⟩
    have hL2 : (L : Int) = x1 + 256 * x2 + 65536 * x3 + 16777216 * x4 := by
      rw [hLd, show lenAt bs A = lenH x1 x2 x3 x4 from HL]; unfold lenH; omega
    have e64 : IntKind.u64.wrap (IntKind.u64.wrap (IntKind.u64.wrap (IntKind.u64.wrap x1 + IntKind.u64.wrap (256 * IntKind.u64.wrap x2)) + IntKind.u64.wrap (65536 * IntKind.u64.wrap x3)) + IntKind.u64.wrap (16777216 * IntKind.u64.wrap x4)) = (L : Int) := by
      simp only [IntKind.wrap_u64]; omega
    rw [e64]
    obtain ⟨V0, hV0⟩ : ∃ V0, V0 = wr.drew := ⟨_, rfl⟩
    have sV0 : V0.heap.size = wr.heap.size := by rw [hV0]; rfl
    have kV0 : ∀ x : Nat, V0.heap[x]? = wr.heap[x]? := fun x => by rw [hV0]; rfl
    have b0' : Below W.heap.size W V0 := by rw [hV0]; exact ⟨hb0.os, hb0.tape, hb0.output, hb0.size, hb0.block⟩
    have c0' : V0.cell? ⟨b, off + A, none⟩ = some (.int .u8 x0) := cell_same (kV0 _) c0
    have own0 := Lib.hid (ownsRow_same (B := V0) (show wr.ownsRow W.heap.size 30 3 u6 N vs from HOWN) fun q _ => kV0 q)
    have rel0 := Lib.hid ((show RelocS S wr P vs from HREL).keep (W2 := V0) fun x _ => kV0 x)
    have hS0 := Lib.hid (show ∀ x, S x → (x < n₀ ∨ W.heap.size ≤ x) ∧ x < V0.heap.size ∧ u6.ownBlock ≠ some x by rw [sV0]; exact HS)
    rw [← hV0]
    have hbw0 : b < V0.heap.size := by omega
    clear hV0 kV0 HOWN HREL HS c0 hb0 sV0 hbw
    have HLD := Lib.hid hLd
    have hLb : L < 4294967296 := by omega
    clear hL2 e64 hLd HL HX z1 z2 z3 z4 w1' w2' w3' w4' k1 k2 k3 k4 j1 j2 j3 j4
    by_cases hlong : len < A + 5 + L
    · have s5 : decide ((len : Int) - (A : Int) - 5 < (L : Int)) = true := by simp; omega
      go_wp2
      go_ret2
      exact ⟨b0', _, _, _, _, rfl, fun _ => (show Rd d bs A P from hRd).bad (by omega) (.inr (.inr (by rw [← (show L = lenAt bs A from HLD)]; omega))), fun h => (by cases h)⟩
    have s5 : decide ((len : Int) - (A : Int) - 5 < (L : Int)) = false := by simp; omega
    have m1 : A + 5 ≤ A + 5 + L := by omega
    have m2 : A + 5 + L ≤ len := by omega
    have hsub := (show Row8 n₀ W (.slice (some ⟨b, off, none⟩) len cap) bs from hR).sub (A + 5) (A + 5 + L) m1 m2
    have w1' : IntKind.i64.wrap ((A : Int) + 5) = (A : Int) + 5 := by rw [IntKind.wrap_i64]; omega
    go_wp2_with first
      | (refine wpList_slice (by rfl) 25 (.tmp 83) (some (.tmp 85)) (some (.tmp 90)) rfl (some ⟨b, off, none⟩) len cap (A + 5) (A + 5 + L) rfl (.inr ⟨_, rfl, rfl⟩) (.inr ⟨_, rfl, rfl⟩) (by kernel_rfl) (by kernel_rfl) m1 m2 hcap ?_; intro q hq)
      | ((fail_if_success (unfold Held)); refine at_store (t := 30) rfl ?_)
    unfold Held
    refine wpList_store_row rfl 30 (.tmp 11) (.tmp 97) rfl V0.heap.size #[.int .i64 x0, .slice none 0 0, .slice none 0 0] rfl rfl 30 zT (World.alloc_heap_new _ _) infoT rfl (agg3_one ..) ?_
    rw [World.setRow_alloc_new]
    obtain ⟨V4, hV4⟩ : ∃ V4, V4 = V0.alloc (.cells #[.int .i64 x0, .slice none 0 0, .slice none 0 0] 30) := ⟨_, rfl⟩
    have x4 : V4.heap[V0.heap.size]? = some (.cells #[.int .i64 x0, .slice none 0 0, .slice none 0 0] 30) := by rw [hV4]; exact World.alloc_heap_new _ _
    have b4 : Below V0.heap.size V0 V4 := by rw [hV4]; exact (Below.refl _ _).alloc (Nat.le_refl _) _
    have s4h : V4.heap.size = V0.heap.size + 1 := by rw [hV4]; simp
    rw [← hV4]
    clear hV4
    have hsq : Row8 n₀ W (.slice q L (cap - (A + 5))) (valAt bs A) := by
      have h := hsub.1
      rw [hq, show A + 5 + L - (A + 5) = L by omega] at h
      unfold valAt
      rw [← (show L = lenAt bs A from HLD)]
      exact h
    have hvl : (valAt bs A).length = L := by rw [valAt_length _ _ (by rw [← (show L = lenAt bs A from HLD)]; omega)]; exact HLD.symm
    have y0 : V4.cell? ⟨V0.heap.size, 0, none⟩ = some (.int .i64 x0) := by rw [cell_of_row V4 _ 0 _ _ _ x4]; rfl
    obtain ⟨lc, hlc⟩ : ∃ lc, lc = cap - (A + 5) := ⟨_, rfl⟩
    rw [show A + 5 + L - (A + 5) = L by omega] at hq
    rw [← hlc] at hsq
    try rw [← hlc]
    have hL3 : A + 5 + lenAt bs A ≤ bs.length := by rw [← (show L = lenAt bs A from HLD)]; omega
    clear hq hsub hlc c0'
    go_upto_if 100 with fail
    go_cut [12, 13] from 21 to 122 (fun _ _ wx => ∃ (fl : Forest) (ya : Option Addr) (yl yc : Nat) (ka : Option Addr) (kl kc : Nat) (T : Nat → Prop), wx.heap[V0.heap.size]? = some (.cells #[.int .i64 x0, .slice ya yl yc, .slice ka kl kc] 30) ∧ fl.length = 1 ∧ Hid (Rd d bs (A + 5 + L) (P.app fl)) ∧ RelocS T wx fl [.int .i64 x0, .slice ya yl yc, .slice ka kl kc] ∧ (∀ x, T x → (x < n₀ ∨ V0.heap.size < x) ∧ x < wx.heap.size) ∧ Below V0.heap.size V4 wx)
    case first =>
      have s40 : V0.heap.size < V4.heap.size := by omega
      have hWV := b0'.size
      have hV4W : ∀ x, x < n₀ → V4.heap[x]? = W.heap[x]? := fun x hx => (b4.block x (by omega)).trans (b0'.block x (by omega))
      by_cases ht : 128 ≤ x0
      · have tt : decide ((127 : Int) < x0) = true := by simp; omega
        have kc : Calls Try.prog 37 #[.slice q L lc, .int .i64 ((d : Int) + 1)] V4 (RdPost n₀ (d + 1) (valAt bs A) V4) := ih (valAt bs A).length (by omega) n₀ (d + 1) (valAt bs A) V4 q L lc (Nat.le_refl _) (by omega) (by omega) (by omega) (hsq.same fun x hx => hV4W x (hsq.lt x hx))
        have K1 := Lib.hid kc
        have X4 := Lib.hid x4
        clear kc x4 ih hsq own0 rel0 hS0
        go_wp2_with (go_at_call 37; refine held ?_)
        unfold Held
        refine Calls.mono K1 ?_
        rintro e w5 ⟨b5, ra, rl, rc, ok, rfl, hn5, hs5⟩
        try dsimp only
        have hb45 := b5.size
        cases ok with
        | false =>
          have hno := Lib.hid (hn5 rfl)
          clear hn5 hs5 K1
          go_wp2
          go_ret2
          have bfin : Below W.heap.size W w5 := (b0'.trans (b4.mono hWV)).trans (b5.mono (by omega))
          exact ⟨bfin, _, _, _, _, rfl, fun _ => (show Rd d bs A P from hRd).kidsNone (by omega) (by rw [← (show x0 = bs.getD A 0 from HX0)]; exact ht) hno, fun h => (by cases h)⟩
        | true =>
          obtain ⟨f, hf, hS5⟩ := hs5 rfl
          have e5 : w5.heap[V0.heap.size]? = some (.cells #[.int .i64 x0, .slice none 0 0, .slice none 0 0] 30) := (b5.block V0.heap.size s40).trans X4
          have cc5 : w5.cell? ⟨V0.heap.size, 2, none⟩ = some (.slice none 0 0) := by rw [cell_of_row w5 _ 2 _ _ _ e5]; rfl
          have ff5 := frozen_of_row w5 V0.heap.size 2 _ _ e5
          have HF := Lib.hid hf
          have HS5 := Lib.hid hS5
          clear hn5 hs5 K1 hf hS5
          go_wp2
          obtain ⟨W8, hW8⟩ : ∃ W8, W8 = w5.setCell ⟨V0.heap.size, 2, none⟩ (.slice ra rl rc) := ⟨_, rfl⟩
          have e8 : W8.heap[V0.heap.size]? = some (.cells #[.int .i64 x0, .slice none 0 0, .slice ra rl rc] 30) := by rw [hW8]; exact heap_setCell_same _ _ _ _ _ _ e5
          have s8 : w5.heap.size = W8.heap.size := by rw [hW8]; show _ = (w5.heap.modify _ _).size; rw [Array.size_modify]
          have k8 : ∀ x, x ≠ V0.heap.size → W8.heap[x]? = w5.heap[x]? := fun x hx => by rw [hW8]; exact Below.heap_setCell _ _ _ _ hx
          have b8 : Below V0.heap.size V4 W8 := by
            have h : Below V0.heap.size V4 w5 := b5.mono (by omega)
            refine ⟨?_, ?_, ?_, by omega, fun x hx => (k8 x (by omega)).trans (h.block x hx)⟩
            · rw [hW8]; exact h.os
            · rw [hW8]; exact h.tape
            · rw [hW8]; exact h.output
          rw [← hW8]
          clear hW8
          go_meet
          refine ⟨.cons x0 [] f .nil, none, 0, 0, ra, rl, rc, fun x => x < n₀ ∨ (V4.heap.size ≤ x ∧ x < w5.heap.size), e8, rfl, ?_, ?_, ?_, b8⟩
          · have h := (show Rd d bs A P from hRd).kids hL3 (by omega) (by rw [← (show x0 = bs.getD A 0 from HX0)]; exact ht) (k := f) HF
            rw [← (show L = lenAt bs A from HLD), ← (show x0 = bs.getD A 0 from HX0)] at h
            exact h
          · refine RelocS.one (by omega) (by omega) (by simp) (fun W' n' h1 h2 => ⟨.inl ⟨_, _, rfl, rfl⟩, by simp⟩) (fun W' n' h1 h2 => ?_)
            exact (show ∀ (W2 : World) (n' : Nat), (∀ x, (x < n₀ ∨ V4.heap.size ≤ x ∧ x < w5.heap.size) → W2.heap[x]? = w5.heap[x]? ∧ x < n') → SlF n' W2 ra rl rc f from HS5) W' n' fun x hx => ⟨(h1 x hx).trans (k8 x (by omega)), h2 x hx⟩
          · intro x hx
            constructor <;> omega
      · have tt : decide ((127 : Int) < x0) = false := by simp; omega
        have cc4 : V4.cell? ⟨V0.heap.size, 1, none⟩ = some (.slice none 0 0) := by rw [cell_of_row V4 _ 1 _ _ _ x4]; rfl
        have ff4 := frozen_of_row V4 V0.heap.size 1 _ _ x4
        have X4 := Lib.hid x4
        clear x4 ih own0 rel0 hS0
        go_wp2
        have x4 : V4.heap[V0.heap.size]? = some (.cells #[.int .i64 x0, .slice none 0 0, .slice none 0 0] 30) := X4
        obtain ⟨W8, hW8⟩ : ∃ W8, W8 = V4.setCell ⟨V0.heap.size, 1, none⟩ (.slice q L lc) := ⟨_, rfl⟩
        have e8 : W8.heap[V0.heap.size]? = some (.cells #[.int .i64 x0, .slice q L lc, .slice none 0 0] 30) := by rw [hW8]; exact heap_setCell_same _ _ _ _ _ _ x4
        have s8 : V4.heap.size = W8.heap.size := by rw [hW8]; show _ = (V4.heap.modify _ _).size; rw [Array.size_modify]
        have k8 : ∀ x, x ≠ V0.heap.size → W8.heap[x]? = V4.heap[x]? := fun x hx => by rw [hW8]; exact Below.heap_setCell _ _ _ _ hx
        have b8 : Below V0.heap.size V4 W8 := by
          refine ⟨?_, ?_, ?_, by omega, fun x hx => (k8 x (by omega))⟩
          · rw [hW8]; rfl
          · rw [hW8]; rfl
          · rw [hW8]; rfl
        rw [← hW8]
        clear hW8
        go_meet
        refine ⟨.cons x0 (valAt bs A) .nil .nil, q, L, lc, none, 0, 0, fun x => x < n₀, e8, rfl, ?_, ?_, ?_, b8⟩
        · have h := (show Rd d bs A P from hRd).plain hL3 (by omega) (by rw [← (show x0 = bs.getD A 0 from HX0)]; exact H0) (by rw [← (show x0 = bs.getD A 0 from HX0)]; omega)
          rw [← (show L = lenAt bs A from HLD), ← (show x0 = bs.getD A 0 from HX0)] at h
          exact h
        · refine RelocS.one (by omega) (by omega) (by omega) (fun W' n' h1 h2 => hsq.to fun x hx => ⟨(h1 x hx).trans ((k8 x (by omega)).trans (hV4W x hx)), h2 x hx⟩) (fun W' n' h1 h2 => ⟨rfl, .inl rfl⟩)
        · intro x hx
          constructor <;> omega
    case rest =>
      obtain ⟨fl, ya, yl, yc, ka, kl, kc, T, e1, hfl, hRd2, hrel2, hT, b5⟩ := hcut
      have s40 : V0.heap.size < V4.heap.size := by omega
      have hWV := b0'.size
      have hVc := b5.size
      have own0' : V0.ownsRow W.heap.size 30 3 u6 N vs := own0
      have own5 : wc.ownsRow W.heap.size 30 3 u6 N vs := ownsRow_same own0' fun x hx => (b5.block x (own0'.lt x hx).2).trans (b4.block x (own0'.lt x hx).2)
      have hS0' : ∀ x, S x → (x < n₀ ∨ W.heap.size ≤ x) ∧ x < V0.heap.size ∧ u6.ownBlock ≠ some x := hS0
      have rel5 : RelocS S wc P vs := (show RelocS S V0 P vs from rel0).keep fun x hx => (b5.block x (hS0' x hx).2.1).trans (b4.block x (hS0' x hx).2.1)
      have bc : Below W.heap.size W wc := (b0'.trans (b4.mono hWV)).trans (b5.mono hWV)
      have hul := fun x hx => own0'.lt x hx
      have z0 : wc.cell? ⟨V0.heap.size, 0, none⟩ = some (.int .i64 x0) := by rw [cell_of_row wc _ 0 _ _ _ e1]; rfl
      have z1 : wc.cell? ⟨V0.heap.size, 1, none⟩ = some (.slice ya yl yc) := by rw [cell_of_row wc _ 1 _ _ _ e1]; rfl
      have z2 : wc.cell? ⟨V0.heap.size, 2, none⟩ = some (.slice ka kl kc) := by rw [cell_of_row wc _ 2 _ _ _ e1]; rfl
      have REL := Lib.hid rel5
      have HS0 := Lib.hid hS0'
      have REL2 := Lib.hid hrel2
      have HT := Lib.hid hT
      clear own0 own0' hS0 hS0' rel0 rel5 e1 x4 b4 b5 b0' ih hsq hrel2 hT
      go_wp2_with (at_builtin; refine held ?_)
      unfold Held
      obtain ⟨W6, hW6⟩ : ∃ W6, W6 = wc.alloc (Obj.cells #[.int .i64 x0, .slice ya yl yc, .slice ka kl kc] 30) := ⟨_, rfl⟩
      have b6 : Below wc.heap.size wc W6 := by rw [hW6]; exact (Below.refl _ _).alloc (Nat.le_refl _) _
      have x6 : W6.heap[wc.heap.size]? = some (.cells #[.int .i64 x0, .slice ya yl yc, .slice ka kl kc] 30) := by rw [hW6]; exact World.alloc_heap_new _ _
      have s6 : W6.heap.size = wc.heap.size + 1 := by rw [hW6]; simp
      have own6 : W6.ownsRow W.heap.size 30 3 u6 N vs := ownsRow_same own5 fun x hx => b6.block x (by have := (hul x hx).2; omega)
      have bc6 : Below W.heap.size W W6 := bc.trans (b6.mono bc.size)
      rw [← hW6]
      clear hW6 own5
      refine wpList_append_vals rfl _ _ 22 rfl W.heap.size 30 i0 _ 3 56 Try.underlying22 hi hz0 hz1 hz2 rfl (by decide) u6 N vs rfl own6 (some ⟨wc.heap.size, 0, none⟩) 1 1 [.int .i64 x0, .slice ya yl yc, .slice ka kl kc] rfl rfl (by simp [Value.oneCell']) (.inr ⟨_, _, rfl, fun j u hj => by
          rw [Nat.zero_add, cell_of_row W6 _ j _ _ _ x6, List.getElem?_toArray]
          exact hj⟩) (by omega) (by simp only [maxLen]; omega) bc6.size ?_
      intro v7 w7 o7 g7 hv7
      have keep : ∀ x, x < wc.heap.size → u6.ownBlock ≠ some x → w7.heap[x]? = wc.heap[x]? := fun x h1 h2 => (g7.block x (by omega) (fun e => h2 e.symm)).trans (b6.block x h1)
      have hv7' : ∀ x, v7.ownBlock = some x → u6.ownBlock = some x ∨ x = W6.heap.size := fun x hx => by
        rcases hv7 with h | h
        · rw [h] at hx; exact .inl hx
        · rw [h] at hx; injection hx with hx; exact .inr hx.symm
      have b7 : Below W.heap.size W w7 := bc6.grown g7 bc6.size fun x hx => (hul x hx).1
      have s7 := g7.size
      have F1 : Hid (w7.ownsRow W.heap.size 30 3 v7 (N + 1) (vs ++ [.int .i64 x0, .slice ya yl yc, .slice ka kl kc]) ∧ RelocS (fun x => S x ∨ T x) w7 (P.app fl) (vs ++ [.int .i64 x0, .slice ya yl yc, .slice ka kl kc]) ∧ (∀ x, (S x ∨ T x) → (x < n₀ ∨ W.heap.size ≤ x) ∧ x < w7.heap.size ∧ v7.ownBlock ≠ some x) ∧ Below W.heap.size W w7) := by
        have hS' : ∀ x, S x → (x < n₀ ∨ W.heap.size ≤ x) ∧ x < V0.heap.size ∧ u6.ownBlock ≠ some x := HS0
        have hT' : ∀ x, T x → (x < n₀ ∨ V0.heap.size < x) ∧ x < wc.heap.size := HT
        have hTu : ∀ x, T x → u6.ownBlock ≠ some x := fun x hx e => by
          have h1 := hT' x hx
          have h2 := hul x e
          omega
        refine ⟨o7, RelocS.app ?_ ?_ (by rw [hP]; exact own6.1), ?_, b7⟩
        · exact ((show RelocS S wc P vs from REL).keep fun x hx => keep x (by have := (hS' x hx).2.1; omega) (hS' x hx).2.2).widen fun x hx => .inl hx
        · exact ((show RelocS T wc fl _ from REL2).keep fun x hx => keep x (hT' x hx).2 (hTu x hx)).widen fun x hx => .inr hx
        · rintro x (hx | hx)
          · have h1 := hS' x hx
            refine ⟨h1.1, by omega, fun e => ?_⟩
            rcases hv7' x e with h | h
            · exact h1.2.2 h
            · omega
          · have h1 := hT' x hx
            refine ⟨by omega, by omega, fun e => ?_⟩
            rcases hv7' x e with h | h
            · exact hTu x hx h
            · omega
      have hPl : (P.app fl).length = N + 1 := by rw [Forest.length_app, hfl, hP]
      clear keep hv7' b7 g7 hv7 o7 s7 own6 bc6 b6 x6 s6 bc REL HS0 REL2 HT z0 z1 z2
      go_wp2
      go_roundw
      case rel => exact ⟨A + 5 + L, N + 1, P.app fl, _, _, by go_num, by go_num, by omega, by omega, hPl, hRd2, F1⟩
      case measure => simp [intOf]; omega
theorem rread_any (m : Nat) : RReadOK m := Nat.strongRecOn m rread_step
end Go.Proofs.Ytdlhnipkhlihjaa
