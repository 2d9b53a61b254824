/- The walks of alive, grown. -/
import Derived.Test.YtdacdfnfbknndaaFrmDoB
namespace Go.Proofs.Ytdacdfnfbknndaa
open Go Go.RowKit
attribute [local go_sem] upV_value upV_skip upV_enter
set_option linter.unusedVariables false
set_option linter.unnecessarySimpa false
set_option linter.unusedSimpArgs false
theorem IsOp.mono {n m : Nat} {A : World} {o : OpM} (h : IsOp n A o) (hm : n ≤ m) : IsOp m A o := ⟨h.row.mono hm⟩
theorem IsOps.mono {n m : Nat} {A : World} {a : Option Addr} {len cap : Nat} {os : List OpM} (h : IsOps n A a len cap os) (hm : n ≤ m) : IsOps m A a len cap os := by
  obtain ⟨hl, h | ⟨b, off, h1, h2, h3, h4, hc⟩⟩ := h
  · exact ⟨hl, .inl h⟩
  · refine ⟨hl, .inr ⟨b, off, h1, by omega, h3, h4, fun j hj => ?_⟩⟩
    obtain ⟨c1, c2, c3, c4, c5, ho⟩ := hc j hj
    exact ⟨c1, c2, c3, c4, c5, ho.mono hm⟩
def one1 : List Fr := [⟨zeros, 1⟩, ⟨zeros, 0⟩]
def one2 : List Fr := [⟨zeros, 1⟩, ⟨zeros, 1⟩]
set_option maxRecDepth 100000 in
set_option maxHeartbeats 4000000 in
theorem alive_any (W : World) : Calls Try.prog 10 #[] W fun e W' => e = .returned (.bool true) ∧ Below W.heap.size W W' := by
  go_enter Try.func10, Try.ntmps10
  go_wp2_with (go_at_call 14; refine held ?_)
  unfold Held
  refine (new_any 2 W (by decide) (by decide)).mono ?_
  rintro e w1 ⟨p, g, rfl, h1, hp, hg, b1⟩
  go_wp2_with (go_at_call 23; refine held ?_)
  unfold Held
  have k1 := take_any p g 2 (newL 2) w1 h1
  rw [show takeV (newL 2) = 0 from rfl, show takeE (newL 2) = 0 from rfl, show takeL (newL 2) = one1 from rfl] at k1
  refine k1.mono ?_
  rintro e w2 ⟨rfl, h2, hw2⟩
  have b2 := b1.trans (below_of_wr hw2 hg b1.size)
  clear k1 h1 hw2 b1
  go_wp2_with (go_at_call 23; refine held ?_)
  unfold Held
  have k2 := take_any p g 2 one1 w2 h2
  rw [show takeV one1 = 1 from rfl, show takeE one1 = 0 from rfl, show takeL one1 = one2 from rfl] at k2
  refine k2.mono ?_
  rintro e w3 ⟨rfl, h3, hw3⟩
  have b3 := b2.trans (below_of_wr hw3 hg b2.size)
  clear k2 h2 hw3 b2
  go_wp2_with (go_at_call 23; refine held ?_)
  unfold Held
  have k3 := take_any p g 2 one2 w3 h3
  rw [show takeV one2 = 0 from rfl, show takeE one2 = 40 from rfl, show takeL one2 = one2 from rfl] at k3
  refine k3.mono ?_
  rintro e w4 ⟨rfl, h4, hw4⟩
  have b4 := b3.trans (below_of_wr hw4 hg b3.size)
  clear k3 h3 hw4 b3 h4
  go_wp2
  go_ret
  exact ⟨rfl, b4⟩
/-- the j-th call, in another world -/
theorem IsOps.at {n : Nat} {W W' : World} {a : Option Addr} {len cap : Nat} {os : List OpM} (h : IsOps n W a len cap os) (hb : Below n W W') (j : Nat) (hj : j < len) :
    ∃ b off, a = some ⟨b, off, none⟩ ∧ len ≤ cap ∧ cap ≤ maxLen ∧ ∃ hj' : j < os.length, W'.cell? ⟨b, off + j * 5, none⟩ = some (.int .i64 os[j].k) ∧ W'.cell? ⟨b, off + j * 5 + 1, none⟩ = some (.int .i64 os[j].f) ∧ W'.cell? ⟨b, off + j * 5 + 2, none⟩ = some (.int .i64 os[j].o) ∧ W'.cell? ⟨b, off + j * 5 + 3, none⟩ = some (.int .i64 os[j].n) ∧ W'.cell? ⟨b, off + j * 5 + 4, none⟩ = some (.slice os[j].a os[j].len os[j].cap) ∧ IsOp n W' os[j] := by
  obtain ⟨hl, h0 | ⟨b, off, h1, h2, h3, h4, hc⟩⟩ := h.below hb
  · omega
  · obtain ⟨c1, c2, c3, c4, c5, ho⟩ := hc j (by omega)
    exact ⟨b, off, h1, h3, h4, by omega, c1, c2, c3, c4, c5, ho⟩
set_option maxRecDepth 100000 in
set_option maxHeartbeats 8000000 in
theorem grown_any (W : World) (a : Option Addr) (len cap : Nat) (os : List OpM) (h : IsOps W.heap.size W a len cap os) (hlen : len ≤ 150) (hbs : ∀ o ∈ os, o.len ≤ 100) :
    Calls Try.prog 12 #[.slice a len cap] W fun e W' => ∃ p g cp, e = .returned (.pointer (some ⟨p, 0, none⟩)) ∧ FrAt W' p g cp (growF 12 os) ∧ W.heap.size ≤ g ∧ W.heap.size ≤ p ∧ Below W.heap.size W W' := by
  have hol := h.1
  go_enter Try.func12, Try.ntmps12
  go_wp2_with (go_at_call 14; refine held ?_)
  unfold Held
  refine (new_any 12 W (by decide) (by decide)).mono ?_
  rintro e w1 ⟨p, g, rfl, h1, hp, hg, b1⟩
  go_wp2_with (go_at_call 15; refine held ?_)
  unfold Held
  refine (dnew_any 12 w1 (by decide) (by decide)).mono ?_
  rintro e w2 ⟨d, gr, cr, gb, cb, rfl, h2, hd, hgr, hgb, b2⟩
  have hs1 := b1.size
  have S2 : Sd W.heap.size w2 p g 12 d gr cr gb cb (growF 12 (os.take 0)) (growF 12 (os.take 0)) := ⟨h1.below b2, h2, hg, by omega, by omega, Nat.le_trans hs1 b2.size⟩
  have b2' := b1.trans (b2.mono hs1)
  clear h1 h2 b1 b2
  go_wp2
  go_loopw [7, 18] (fun _ x wr => ∃ (j : Nat), x = .int .i64 (j : Int) ∧ j ≤ len ∧ Sd W.heap.size wr p g 12 d gr cr gb cb (growF 12 (os.take j)) (growF 12 (os.take j)) ∧ Below W.heap.size W wr) (fun _ x _ => len - (intOf x).toNat)
  case atStart => exact ⟨0, rfl, Nat.zero_le _, S2, b2'⟩
  case round =>
    clear S2 b2'
    obtain ⟨j, rfl, hj, hS, hb⟩ := hrel
    by_cases hlt : j < len
    · have t1 : decide ((j : Int) < (len : Int)) = true := by simp; omega
      obtain ⟨b, off, rfl, hlc, hcm, hj', c0, c1, c2, c3, c4, ho⟩ := h.at hb j hlt
      simp only [maxLen] at hcm
      have hT := growF_take 12 os j hj'
      have hM := growF_mem 12 (os.take j)
      rw [List.length_take] at hM
      have hol' := hbs _ (List.getElem_mem hj')
      obtain ⟨o, ho'⟩ : ∃ o, o = os[j] := ⟨_, rfl⟩
      rw [← ho'] at hT c0 c1 c2 c3 c4 ho hol'
      obtain ⟨fs, hfs⟩ : ∃ fs, fs = growF 12 (os.take j) := ⟨_, rfl⟩
      rw [← hfs] at hS hT hM
      have K := Lib.hid (do_any W.heap.size wr p g 12 d gr cr gb cb fs o hS _ hM (by omega) ho hol')
      have HT := Lib.hid hT
      clear hT hM hfs ho' ho hS hbs h
      go_wp2_with (go_at_call 16; refine held ?_)
      unfold Held
      refine Calls.mono K ?_
      rintro e w3 ⟨rfl, s3, b3⟩
      have b3' := hb.trans b3
      clear K b3 hb c0 c1 c2 c3 c4
      go_wp2_with fail
      go_roundw
      case rel => exact ⟨j + 1, by go_num, by omega, by rw [show growF 12 (os.take (j + 1)) = stepF fs o from HT]; exact s3, b3'⟩
      case measure => simp [intOf]; omega
    · have t1 : decide ((j : Int) < (len : Int)) = false := by simp; omega
      obtain rfl : j = len := by omega
      rw [← hol, List.take_length] at hS
      go_wp2
      go_ret
      exact ⟨_, _, _, rfl, hS.fr, hg, hp, hb⟩
end Go.Proofs.Ytdacdfnfbknndaa
