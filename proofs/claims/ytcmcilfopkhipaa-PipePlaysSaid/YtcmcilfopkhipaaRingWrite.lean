/- The walk of (*ring.Ring).Write. -/
import Derived.Test.YtcmcilfopkhipaaRingA
import Derived.Deep.RegionHeld3
import Derived.BigRegion
namespace Go.Proofs.Ytcmcilfopkhipaa
open Go Go.RowKit
set_option linter.unusedVariables false
set_option linter.unnecessarySimpa false
theorem mod_inj {m a x y : Nat} (hm : 1 ≤ m) (hx : x < m) (hy : y < m) (h : (a + x) % m = (a + y) % m) : x = y := by
  have h1 : (a + x) % m = (a % m + x) % m := by simp [Nat.add_mod]
  have h2 : (a + y) % m = (a % m + y) % m := by simp [Nat.add_mod]
  have h3 : a % m < m := Nat.mod_lt _ hm
  rw [h1, h2] at h
  have e : ∀ z, z < m → (a % m + z) % m = if a % m + z < m then a % m + z else a % m + z - m := fun z hz => by
    split
    · exact Nat.mod_eq_of_lt ‹_›
    · rw [Nat.mod_eq_sub_mod (by omega), Nat.mod_eq_of_lt (by omega)]
  rw [e x hx, e y hy] at h
  split at h <;> split at h <;> omega
set_option maxRecDepth 100000 in
set_option maxHeartbeats 2000000 in
theorem write_any (W : World) (g : Nat) (f : Nat → Int) (most first n : Nat) (a : Option Addr) (len cap : Nat) (zs : List Int) (h : RingAt W g f most first n) (h1 : 1 ≤ most) (h2 : most ≤ 64) (hf : first < most) (hn : n ≤ most)
    (hr : Row8 W.heap.size W (.slice a len cap) zs) (hg : ¬ blockOf (.slice a len cap) g) (hs : len ≤ 1000000000000) :
    Calls Try.prog 33 #[.pointer (some ⟨g, 0, none⟩), .slice a len cap] W fun e W' => ∃ f', e = .returned (.int .i64 ((min len (most - n) : Nat) : Int)) ∧ RingAt W' g f' most first ((n + min len (most - n) : Nat) : Int) ∧
      (∀ j, j < min len (most - n) → f' ((first + (n + j)) % most) = zs.getD j 0) ∧ (∀ j, j < n → f' ((first + j) % most) = f ((first + j) % most)) ∧ Wr (· = g) (· = g) W W' := by
  obtain ⟨hr1, hz⟩ := hr
  obtain ⟨hlen, b, off, hopen, hc⟩ := hr1.open
  have hmin : (if (len : Int) < (most : Int) - (n : Int) then (len : Int) else (most : Int) - (n : Int)) = ((min len (most - n) : Nat) : Int) := by split <;> omega
  have hmin2 : (if (most : Int) - (n : Int) < (len : Int) then (most : Int) - (n : Int) else (len : Int)) = ((min len (most - n) : Nat) : Int) := by split <;> omega
  obtain ⟨k, hk⟩ : ∃ k, k = min len (most - n) := ⟨_, rfl⟩
  rw [← hk] at hmin hmin2
  have HK := Lib.hid hk
  have HC := Lib.hid hc
  have hkl : k ≤ len := by omega
  have hkm : n + k ≤ most := by omega
  subst hlen
  clear hk hc
  go_enter Try.func33, Try.ntmps33
  go_wp2_with (go_at_call 46; refine (room_any W g f most first n h (by omega) (by omega) (by omega) (by omega)).mono ?_; rintro e w1 ⟨rfl, rfl⟩)
  clear hmin hmin2
  go_loopw [13] (fun i wr => ∃ (j : Nat) (f' : Nat → Int), j ≤ k ∧ i = .int .i64 j ∧ RingAt wr g f' most first ((n + j : Nat) : Int) ∧
    (∀ x, x < j → f' ((first + (n + x)) % most) = zs.getD x 0) ∧ (∀ x, x < n → f' ((first + x) % most) = f ((first + x) % most)) ∧ Wr (· = g) (· = g) W wr) (fun i _ => k - (intOf i).toNat)
  case atStart => exact ⟨0, f, Nat.zero_le _, rfl, h, fun x hx => by omega, fun _ _ => rfl, Wr.refl _ _⟩
  case round =>
    obtain ⟨j, f', hj, rfl, hR, hA, hB, hW⟩ := hrel
    by_cases hlt : j < k
    · obtain ⟨rfl, hbn, _, _⟩ := hopen (by omega)
      have hbg : b ≠ g := fun e => hg ⟨by omega, e.symm⟩
      have c0 : wr.cell? ⟨b, off + j, none⟩ = some (.int .u8 (zs.getD j 0)) := cell_same (p := ⟨b, off + j, none⟩) (hW.block b hbn hbg) (HC j (by omega))
      have c1 := hR.most
      have c2 := hR.first
      have c3 := hR.num
      obtain ⟨p, hp⟩ : ∃ p : Nat, p = (first + (n + j)) % most := ⟨_, rfl⟩
      have hp64 : p < most := by rw [hp]; exact Nat.mod_lt _ h1
      have ep : ((first : Int) + ((n + j : Nat) : Int)) % (most : Int) = (p : Int) := by rw [hp]; push_cast; rfl
      have fz := hR.frozen p
      have d1 : (0 : Int) ≤ (p : Int) := by omega
      have d2 : (p : Int) < 64 := by omega
      have c4 := hR.byte p (by omega)
      have HP := Lib.hid hp
      have HA := Lib.hid hA
      have HB := Lib.hid hB
      obtain ⟨v, hv⟩ : ∃ v, v = zs.getD j 0 := ⟨_, rfl⟩
      rw [← hv] at c0
      have HV := Lib.hid hv
      obtain ⟨q, hq⟩ : ∃ q, q = n + j := ⟨_, rfl⟩
      rw [← hq] at c3 ep
      have HQ := Lib.hid hq
      have hq64 : q < 64 := by omega
      have m0 : ((most : Int) == 0) = false := by simp; omega
      have m1 : (0 : Int) < (most : Int) := by omega
      have m2 : ¬ (most : Int) = 0 := by omega
      have j1 : (j : Int) < (zs.length : Int) := by omega
      have hR2 : RingAt (wr.setCell ⟨g, p, none⟩ (.int .u8 v)).drew g (fun x => if x = p then v else f' x) most first q := hR.set p _ (by rw [ringCells_set _ _ _ _ _ _ (by omega), hq])
      have c02 : (wr.setCell ⟨g, p, none⟩ (.int .u8 v)).drew.cell? ⟨b, off + j, none⟩ = some (.int .u8 v) := cell_same (A := wr) (p := ⟨b, off + j, none⟩) (Below.heap_setCell wr ⟨g, p, none⟩ (.int .u8 v) b (fun e => hbg e)) c0
      clear hp hA hB hv hq
      go_wp2_with fail
      have c0d : wr.drew.cell? ⟨b, off + j, none⟩ = some (.int .u8 v) := c0
      have c1d : wr.drew.cell? ⟨g, 64, none⟩ = some (.int .i64 most) := c1
      have c2d : wr.drew.cell? ⟨g, 65, none⟩ = some (.int .i64 first) := c2
      have c3d : wr.drew.cell? ⟨g, 66, none⟩ = some (.int .i64 q) := c3
      have c4d : wr.drew.cell? ⟨g, p, none⟩ = some (.int .u8 (f' p)) := c4
      have fzd : wr.drew.frozen? ⟨g, p, none⟩ = false := fz
      go_region
      have e3 := hR2.num
      have ef := hR2.frozen 66
      clear c0 c1 c2 c3 c4 c0d c1d c2d c3d c4d fz fzd
      go_wp2
      go_roundw
      case rel =>
        have hq : q = n + j := HQ
        have hp : p = (first + (n + j)) % most := HP
        have hv : v = zs.getD j 0 := HV
        have hR3 := hR2.set 66 (.int .i64 ((q : Int) + 1)) (ringCells_66 _ _ _ _ _)
        refine ⟨j + 1, fun x => if x = p then v else f' x, by omega, by go_num, ?_, fun x hx => ?_, fun x hx => ?_, ?_⟩
        · rw [show ((n + (j + 1) : Nat) : Int) = (q : Int) + 1 from by omega]; exact hR3
        · by_cases e : x = j
          · subst e; simp only [hp, if_true]; exact hv
          · have : ¬ (first + (n + x)) % most = p := fun h => e (by
              rw [hp] at h
              have := mod_inj h1 (x := n + x) (y := n + j) (by omega) (by omega) h
              omega)
            simp only [this, if_false]; exact HA x (by omega)
        · have : ¬ (first + x) % most = p := fun h => by
            rw [hp] at h
            have := mod_inj h1 (x := x) (y := n + j) (by omega) (by omega) h
            omega
          simp only [this, if_false]; exact HB x hx
        · exact ((hW.setCell (p := ⟨g, p, none⟩) (.inl rfl) _).drew).setCell (p := ⟨g, 66, none⟩) (.inl rfl) _
      case measure => simp [intOf]; omega
    · obtain rfl : j = k := by omega
      go_wp2
      go_ret
      have hk : j = min zs.length (most - n) := HK
      rw [← hk]
      exact ⟨rfl, f', hR, hA, hB, hW⟩
end Go.Proofs.Ytcmcilfopkhipaa
