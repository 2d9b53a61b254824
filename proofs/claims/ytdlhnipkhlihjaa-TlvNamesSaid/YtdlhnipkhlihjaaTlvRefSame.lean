/- The walk of the document's Same. -/
import Derived.Test.YtdlhnipkhlihjaaTlvRefFind
namespace Go.Proofs.Ytdlhnipkhlihjaa
open Go Go.RowKit
attribute [local go_sem] upV_value upV_skip upV_enter
set_option linter.unusedVariables false
set_option linter.unnecessarySimpa false
set_option linter.unusedSimpArgs false
theorem strOfNums_inj {xs ys : List Int} (hx : ∀ z ∈ xs, 0 ≤ z ∧ z ≤ 255) (hy : ∀ z ∈ ys, 0 ≤ z ∧ z ≤ 255) (h1 : (strOfNums xs).data.toList = (strOfNums ys).data.toList) : xs = ys := by
  simp only [strOfNums_data] at h1
  induction xs generalizing ys with
  | nil =>
    cases ys with
    | nil => rfl
    | cons y ys => simp at h1
  | cons x xs ih =>
    cases ys with
    | nil => simp at h1
    | cons y ys =>
      simp only [List.map_cons, List.cons.injEq] at h1
      have e := ih (fun z hz => hx z (List.mem_cons_of_mem _ hz)) (fun z hz => hy z (List.mem_cons_of_mem _ hz)) h1.2
      have := congrArg UInt8.toNat h1.1
      have a1 := hx x (List.mem_cons_self ..)
      have a2 := hy y (List.mem_cons_self ..)
      simp at this
      rw [e]
      congr 1
      omega
def RSameOK (f : Forest) : Prop := ∀ (g : Forest) (W : World) (n : Nat) (a : Option Addr) (la ca : Nat) (b : Option Addr) (lb cb : Nat), n ≤ W.heap.size → SlF n W a la ca f → SlF n W b lb cb g →
  Calls Try.prog 17 #[.slice a la ca, .slice b lb cb] W fun e W' => ∃ r : Bool, e = .returned (.bool r) ∧ (r = true ↔ f = g) ∧ Below W.heap.size W W'
set_option maxRecDepth 100000 in
set_option maxHeartbeats 8000000 in
theorem rsame_step (f : Forest) (hk : f.AllKids RSameOK) : RSameOK f := by
  intro g W n a la ca b lb cb hn h1 h2
  have bn : ∀ V, Below W.heap.size W V → Below n W V := fun V h => ⟨h.os, h.tape, h.output, h.size, fun q hq => h.block q (by omega)⟩
  have hs1 := h1.small
  have hs2 := h2.small
  go_enter Try.func17, Try.ntmps17
  by_cases hl : la = lb
  rotate_left
  · have t1 : ((la : Int) != (lb : Int)) = true := by simp; omega
    have hne : ¬ f = g := by intro h; subst h; have := h1.1; have := h2.1; omega
    have HN := Lib.hid hne
    clear hne
    go_wp2
    go_ret
    exact ⟨false, rfl, ⟨fun h => by simp at h, fun h => absurd h HN⟩, Below.refl _ _⟩
  subst hl
  obtain ⟨hl1, hc1⟩ := h1
  obtain ⟨hl2, hc2⟩ := h2
  go_wp2
  go_loopw [5, 6] (fun x _ wr => ∃ (k : Nat) (F G : Forest), x = .int .i64 (k : Int) ∧ k + F.length = la ∧ k + G.length = la ∧ Hid ((f = g ↔ F = G) ∧ F.AllKids RSameOK) ∧
    (0 < F.length → ∃ p o q r, a = some ⟨p, o, none⟩ ∧ b = some ⟨q, r, none⟩ ∧ p < n ∧ q < n ∧ la ≤ ca ∧ ca ≤ maxLen ∧ la ≤ cb ∧ cb ≤ maxLen ∧ RowF n W F p (o + k * 3) ∧ RowF n W G q (r + k * 3)) ∧ Below W.heap.size W wr) (fun x _ _ => la - (intOf x).toNat)
  case atStart =>
    refine ⟨0, f, g, rfl, by omega, by omega, ⟨Iff.rfl, hk⟩, fun hl => ?_, Below.refl _ _⟩
    rcases hc1 with h0 | ⟨p, o, e1, e2, e3, e4, e5⟩
    · omega
    rcases hc2 with h0 | ⟨q, r, d1, d2, d3, d4, d5⟩
    · omega
    exact ⟨p, o, q, r, e1, d1, e2, d2, e3, e4, d3, d4, by simpa using e5, by simpa using d5⟩
  case round =>
    clear hc1 hc2 hk
    obtain ⟨k, F, G, rfl, hF, hG, hFG, hrows, hb⟩ := hrel
    by_cases hlt : k < la
    rotate_left
    · have t1 : decide ((k : Int) < (la : Int)) = false := by simp; omega
      have hFn : F = .nil := by
        cases F with
        | nil => rfl
        | cons _ _ _ _ => simp only [Forest.length] at hF; omega
      have hGn : G = .nil := by
        cases G with
        | nil => rfl
        | cons _ _ _ _ => simp only [Forest.length] at hG; omega
      have hfg : f = g := hFG.1.2 (by rw [hFn, hGn])
      have HFG := Lib.hid hfg
      clear hFG hrows hfg hFn hGn
      go_wp2
      go_ret
      exact ⟨true, rfl, ⟨fun _ => HFG, fun _ => rfl⟩, hb⟩
    have t1 : decide ((k : Int) < (la : Int)) = true := by simp; omega
    obtain ⟨p, o, q, r, rfl, rfl, hp, hq, hca1, hca2, hcb1, hcb2, hr1, hr2⟩ := hrows (by omega)
    have hn1 := hr1
    have hn2 := hr2
    have m1 := hca2
    have m2 := hcb2
    simp only [maxLen] at hca2 hcb2
    have hr1' : RowF n wr F p (o + k * 3) := RowF.below (bn _ hb) F p _ hp hr1
    have hr2' : RowF n wr G q (r + k * 3) := RowF.below (bn _ hb) G q _ hq hr2
    obtain ⟨t1', bs1, k1, f1, a1, l1, c1, ka1, kl1, kc1, rfl, p0, p1, p2, _, _, hb1, hk1, hrr1⟩ := hr1'.open (by omega)
    obtain ⟨t2', bs2, k2, g2, a2, l2, c2, ka2, kl2, kc2, rfl, q0, q1, q2, _, _, hb2, hk2, hrr2⟩ := hr2'.open (by omega)
    obtain ⟨hfg, hall⟩ := (show _ ∧ _ from hFG)
    have kS := hall.1 k2 wr.drew n ka1 kl1 kc1 ka2 kl2 kc2 (by have := hb.size; exact Nat.le_trans hn this) (hk1.below ⟨rfl, rfl, rfl, Nat.le_refl _, fun _ _ => rfl⟩) (hk2.below ⟨rfl, rfl, rfl, Nat.le_refl _, fun _ _ => rfl⟩)
    have hNext := Lib.hid (fun (_ : 0 < f1.length) => (by
      obtain ⟨_, _, _, _, _, _, _, _, _, _, _, _, _, _, z1⟩ := hn1
      obtain ⟨_, _, _, _, _, _, _, _, _, _, _, _, _, _, z2⟩ := hn2
      refine ⟨p, o, q, r, rfl, rfl, hp, hq, hca1, m1, hcb1, m2, ?_, ?_⟩
      · rw [show o + (k + 1) * 3 = o + k * 3 + 3 by omega]; exact z1
      · rw [show r + (k + 1) * 3 = r + k * 3 + 3 by omega]; exact z2 : ∃ p' o' q' r', some (Addr.mk p o none) = some ⟨p', o', none⟩ ∧ some (Addr.mk q r none) = some ⟨q', r', none⟩ ∧ p' < n ∧ q' < n ∧ la ≤ ca ∧ ca ≤ maxLen ∧ la ≤ cb ∧ cb ≤ maxLen ∧ RowF n W f1 p' (o' + (k + 1) * 3) ∧ RowF n W g2 q' (r' + (k + 1) * 3)))
    have hF2 : k + 1 + f1.length = la := by simp only [Forest.length] at hF; omega
    have hG2 : k + 1 + g2.length = la := by simp only [Forest.length] at hG; omega
    have hbw := hb.size
    have HX : Hid (∀ W', Below n wr W' → (W'.cell? ⟨p, o + k * 3, none⟩ = some (.int .i64 t1') ∧ W'.cell? ⟨p, o + k * 3 + 1, none⟩ = some (.slice a1 l1 c1) ∧ W'.cell? ⟨p, o + k * 3 + 2, none⟩ = some (.slice ka1 kl1 kc1)) ∧ (W'.cell? ⟨q, r + k * 3, none⟩ = some (.int .i64 t2') ∧ W'.cell? ⟨q, r + k * 3 + 1, none⟩ = some (.slice a2 l2 c2) ∧ W'.cell? ⟨q, r + k * 3 + 2, none⟩ = some (.slice ka2 kl2 kc2)) ∧
        (convert 25 9 (.slice a1 l1 c1)).run Try.prog W' = .ok (.string (strOfNums bs1)) W' ∧ (convert 25 9 (.slice a2 l2 c2)).run Try.prog W' = .ok (.string (strOfNums bs2)) W') := fun W' hW =>
      ⟨⟨(hW.cell (p := ⟨p, _, none⟩) hp).trans p0, (hW.cell (p := ⟨p, _, none⟩) hp).trans p1, (hW.cell (p := ⟨p, _, none⟩) hp).trans p2⟩, ⟨(hW.cell (p := ⟨q, _, none⟩) hq).trans q0, (hW.cell (p := ⟨q, _, none⟩) hq).trans q1, (hW.cell (p := ⟨q, _, none⟩) hq).trans q2⟩,
        convRow (P := Try.prog) (hb1.1.below hW).1 25 5 9 Try.underlying25 Try.underlying5 Try.underlying9, convRow (P := Try.prog) (hb2.1.below hW).1 25 5 9 Try.underlying25 Try.underlying5 Try.underlying9⟩
    have bt1 := hb1.1.2
    have bt2 := hb2.1.2
    have KS := Lib.hid kS
    have HFG := Lib.hid hfg
    have HALL := Lib.hid hall.2
    clear kS hall hFG hfg hrows hr1 hr2 hr1' hr2' hb1 hb2 hk1 hk2 hrr1 hrr2 p0 p1 p2 q0 q1 q2 hn1 hn2 m1 m2
    go_wp2_with fail
    refine wp_region_anyV Grows (by kernel_rfl) 12 rfl ?_
    first
      | (refine anyV_val 0 (Grows.pre) rfl (by kernel_rfl) (by kernel_rfl) (by kernel_rfl) (by rfl) (v := ?av1) (fun W hW => ?ay1) (fun K hK => ?ar1); case ay1 => (obtain ⟨⟨z0, z1, z2⟩, ⟨y0, y1, y2⟩, _⟩ := (show ∀ W', Below n wr W' → _ from HX) W ((below_undrew hW).mono (Nat.le_trans hn hbw)); go_simp; first | done | rfl))
      | refine anyV_skip 0 (Grows.pre) rfl (by kernel_rfl) (by kernel_rfl) (by kernel_rfl) (by rfl) (fun K hK => ?_)
    go_simp
    refine hK _ ?_
    clear hK K
    first
      | (refine anyV_val 1 (Grows.pre) rfl (by kernel_rfl) (by kernel_rfl) (by kernel_rfl) (by rfl) (v := ?av2) (fun W hW => ?ay2) (fun K hK => ?ar2); case ay2 => (obtain ⟨⟨z0, z1, z2⟩, ⟨y0, y1, y2⟩, _⟩ := (show ∀ W', Below n wr W' → _ from HX) W ((below_undrew hW).mono (Nat.le_trans hn hbw)); go_simp; first | done | rfl))
      | refine anyV_skip 1 (Grows.pre) rfl (by kernel_rfl) (by kernel_rfl) (by kernel_rfl) (by rfl) (fun K hK => ?_)
    go_simp
    refine hK _ ?_
    clear hK K
    first
      | (refine anyV_val 2 (Grows.pre) rfl (by kernel_rfl) (by kernel_rfl) (by kernel_rfl) (by rfl) (v := ?av3) (fun W hW => ?ay3) (fun K hK => ?ar3); case ay3 => (obtain ⟨⟨z0, z1, z2⟩, ⟨y0, y1, y2⟩, _⟩ := (show ∀ W', Below n wr W' → _ from HX) W ((below_undrew hW).mono (Nat.le_trans hn hbw)); go_simp; first | done | rfl))
      | refine anyV_skip 2 (Grows.pre) rfl (by kernel_rfl) (by kernel_rfl) (by kernel_rfl) (by rfl) (fun K hK => ?_)
    go_simp
    refine hK _ ?_
    clear hK K
    first
      | (refine anyV_val 3 (Grows.pre) rfl (by kernel_rfl) (by kernel_rfl) (by kernel_rfl) (by rfl) (v := ?av4) (fun W hW => ?ay4) (fun K hK => ?ar4); case ay4 => (obtain ⟨⟨z0, z1, z2⟩, ⟨y0, y1, y2⟩, _⟩ := (show ∀ W', Below n wr W' → _ from HX) W ((below_undrew hW).mono (Nat.le_trans hn hbw)); go_simp; first | done | rfl))
      | refine anyV_skip 3 (Grows.pre) rfl (by kernel_rfl) (by kernel_rfl) (by kernel_rfl) (by rfl) (fun K hK => ?_)
    go_simp
    refine hK _ ?_
    clear hK K
    first
      | (refine anyV_val 4 (Grows.pre) rfl (by kernel_rfl) (by kernel_rfl) (by kernel_rfl) (by rfl) (v := ?av5) (fun W hW => ?ay5) (fun K hK => ?ar5); case ay5 => (obtain ⟨⟨z0, z1, z2⟩, ⟨y0, y1, y2⟩, _⟩ := (show ∀ W', Below n wr W' → _ from HX) W ((below_undrew hW).mono (Nat.le_trans hn hbw)); go_simp; first | done | rfl))
      | refine anyV_skip 4 (Grows.pre) rfl (by kernel_rfl) (by kernel_rfl) (by kernel_rfl) (by rfl) (fun K hK => ?_)
    go_simp
    refine hK _ ?_
    clear hK K
    first
      | (refine anyV_val 5 (Grows.pre) rfl (by kernel_rfl) (by kernel_rfl) (by kernel_rfl) (by rfl) (v := ?av6) (fun W hW => ?ay6) (fun K hK => ?ar6); case ay6 => (obtain ⟨⟨z0, z1, z2⟩, ⟨y0, y1, y2⟩, _⟩ := (show ∀ W', Below n wr W' → _ from HX) W ((below_undrew hW).mono (Nat.le_trans hn hbw)); go_simp; first | done | rfl))
      | refine anyV_skip 5 (Grows.pre) rfl (by kernel_rfl) (by kernel_rfl) (by kernel_rfl) (by rfl) (fun K hK => ?_)
    go_simp
    refine hK _ ?_
    clear hK K
    first
      | (refine anyV_val 6 (Grows.pre) rfl (by kernel_rfl) (by kernel_rfl) (by kernel_rfl) (by rfl) (v := ?av7) (fun W hW => ?ay7) (fun K hK => ?ar7); case ay7 => (obtain ⟨⟨z0, z1, z2⟩, ⟨y0, y1, y2⟩, _⟩ := (show ∀ W', Below n wr W' → _ from HX) W ((below_undrew hW).mono (Nat.le_trans hn hbw)); go_simp; first | done | rfl))
      | refine anyV_skip 6 (Grows.pre) rfl (by kernel_rfl) (by kernel_rfl) (by kernel_rfl) (by rfl) (fun K hK => ?_)
    go_simp
    refine hK _ ?_
    clear hK K
    first
      | (refine anyV_val 7 (Grows.pre) rfl (by kernel_rfl) (by kernel_rfl) (by kernel_rfl) (by rfl) (v := ?av8) (fun W hW => ?ay8) (fun K hK => ?ar8); case ay8 => (obtain ⟨⟨z0, z1, z2⟩, ⟨y0, y1, y2⟩, _⟩ := (show ∀ W', Below n wr W' → _ from HX) W ((below_undrew hW).mono (Nat.le_trans hn hbw)); go_simp; first | done | rfl))
      | refine anyV_skip 7 (Grows.pre) rfl (by kernel_rfl) (by kernel_rfl) (by kernel_rfl) (by rfl) (fun K hK => ?_)
    go_simp
    refine hK _ ?_
    clear hK K
    first
      | (refine anyV_val 8 (Grows.pre) rfl (by kernel_rfl) (by kernel_rfl) (by kernel_rfl) (by rfl) (v := ?av9) (fun W hW => ?ay9) (fun K hK => ?ar9); case ay9 => (obtain ⟨⟨z0, z1, z2⟩, ⟨y0, y1, y2⟩, _⟩ := (show ∀ W', Below n wr W' → _ from HX) W ((below_undrew hW).mono (Nat.le_trans hn hbw)); go_simp; first | done | rfl))
      | refine anyV_skip 8 (Grows.pre) rfl (by kernel_rfl) (by kernel_rfl) (by kernel_rfl) (by rfl) (fun K hK => ?_)
    go_simp
    refine hK _ ?_
    clear hK K
    first
      | (refine anyV_val 9 (Grows.pre) rfl (by kernel_rfl) (by kernel_rfl) (by kernel_rfl) (by rfl) (v := ?av10) (fun W hW => ?ay10) (fun K hK => ?ar10); case ay10 => (obtain ⟨⟨z0, z1, z2⟩, ⟨y0, y1, y2⟩, _⟩ := (show ∀ W', Below n wr W' → _ from HX) W ((below_undrew hW).mono (Nat.le_trans hn hbw)); go_simp; first | done | rfl))
      | refine anyV_skip 9 (Grows.pre) rfl (by kernel_rfl) (by kernel_rfl) (by kernel_rfl) (by rfl) (fun K hK => ?_)
    go_simp
    refine hK _ ?_
    clear hK K
    refine anyV_only 10 rfl (by kernel_rfl) (by rfl) (fun K hK => ?_)
    go_simp
    refine Calls.mono KS ?_
    rintro e w3 ⟨rr, rfl, hrr, b3⟩
    have b3' : Below wr.heap.size wr w3 := below_undrew b3
    refine ⟨_, rfl, hK _ _ b3 ?_⟩
    clear hK K
    refine anyV_frame (fun K hK => ?_)
    go_simp
    refine hK _ ?_
    clear hK K
    first
      | (refine anyV_val 11 (Grows.pre) rfl (by kernel_rfl) (by kernel_rfl) (by kernel_rfl) (by rfl) (v := ?av11) (fun W hW => ?ay11) (fun K hK => ?ar11); case ay11 => (go_simp; first | done | rfl))
      | refine anyV_skip 11 (Grows.pre) rfl (by kernel_rfl) (by kernel_rfl) (by kernel_rfl) (by rfl) (fun K hK => ?_)
    go_simp
    refine hK _ ?_
    clear hK K
    refine anyV_done (by kernel_rfl) ?_
    have HRR := Lib.hid hrr
    have hb3 := hb.trans (b3'.mono hbw)
    have hbn3 : Below n wr w3 := b3'.mono (Nat.le_trans hn hbw)
    have hbw3 : n ≤ w3.heap.size := Nat.le_trans hn hb3.size
    clear KS hrr b3 hb
    by_cases hall : rr = true ∧ t1' = t2' ∧ bs1 = bs2
    · obtain ⟨rfl, rfl, rfl⟩ := hall
      have hkk : k1 = k2 := HRR.1 rfl
      have hfg' : f = g ↔ f1 = g2 := (show _ ↔ _ from HFG).trans ⟨fun h => by injection h, fun h => by rw [hkk, h]⟩
      have HFG' := Lib.hid (And.intro hfg' HALL)
      clear hkk hfg' HRR HFG HALL bt1 bt2
      go_wp2_with fail
      refine wp_region_anyV Grows (by kernel_rfl) 30 rfl ?_
      first
        | (refine anyV_val 0 (Grows.pre) rfl (by kernel_rfl) (by kernel_rfl) (by kernel_rfl) (by rfl) (v := ?av12) (fun W hW => ?ay12) (fun K hK => ?ar12); case ay12 => (obtain ⟨⟨z0, z1, z2⟩, ⟨y0, y1, y2⟩, s1, s2⟩ := (show ∀ W', Below n wr W' → _ from HX) W (hbn3.trans ((below_undrew hW).mono hbw3)); go_simp; first | done | rfl))
        | refine anyV_skip 0 (Grows.pre) rfl (by kernel_rfl) (by kernel_rfl) (by kernel_rfl) (by rfl) (fun K hK => ?_)
      go_simp
      refine hK _ ?_
      clear hK K
      first
        | (refine anyV_val 1 (Grows.pre) rfl (by kernel_rfl) (by kernel_rfl) (by kernel_rfl) (by rfl) (v := ?av13) (fun W hW => ?ay13) (fun K hK => ?ar13); case ay13 => (obtain ⟨⟨z0, z1, z2⟩, ⟨y0, y1, y2⟩, s1, s2⟩ := (show ∀ W', Below n wr W' → _ from HX) W (hbn3.trans ((below_undrew hW).mono hbw3)); go_simp; first | done | rfl))
        | refine anyV_skip 1 (Grows.pre) rfl (by kernel_rfl) (by kernel_rfl) (by kernel_rfl) (by rfl) (fun K hK => ?_)
      go_simp
      refine hK _ ?_
      clear hK K
      first
        | (refine anyV_val 2 (Grows.pre) rfl (by kernel_rfl) (by kernel_rfl) (by kernel_rfl) (by rfl) (v := ?av14) (fun W hW => ?ay14) (fun K hK => ?ar14); case ay14 => (obtain ⟨⟨z0, z1, z2⟩, ⟨y0, y1, y2⟩, s1, s2⟩ := (show ∀ W', Below n wr W' → _ from HX) W (hbn3.trans ((below_undrew hW).mono hbw3)); go_simp; first | done | rfl))
        | refine anyV_skip 2 (Grows.pre) rfl (by kernel_rfl) (by kernel_rfl) (by kernel_rfl) (by rfl) (fun K hK => ?_)
      go_simp
      refine hK _ ?_
      clear hK K
      first
        | (refine anyV_val 3 (Grows.pre) rfl (by kernel_rfl) (by kernel_rfl) (by kernel_rfl) (by rfl) (v := ?av15) (fun W hW => ?ay15) (fun K hK => ?ar15); case ay15 => (obtain ⟨⟨z0, z1, z2⟩, ⟨y0, y1, y2⟩, s1, s2⟩ := (show ∀ W', Below n wr W' → _ from HX) W (hbn3.trans ((below_undrew hW).mono hbw3)); go_simp; first | done | rfl))
        | refine anyV_skip 3 (Grows.pre) rfl (by kernel_rfl) (by kernel_rfl) (by kernel_rfl) (by rfl) (fun K hK => ?_)
      go_simp
      refine hK _ ?_
      clear hK K
      first
        | (refine anyV_val 4 (Grows.pre) rfl (by kernel_rfl) (by kernel_rfl) (by kernel_rfl) (by rfl) (v := ?av16) (fun W hW => ?ay16) (fun K hK => ?ar16); case ay16 => (obtain ⟨⟨z0, z1, z2⟩, ⟨y0, y1, y2⟩, s1, s2⟩ := (show ∀ W', Below n wr W' → _ from HX) W (hbn3.trans ((below_undrew hW).mono hbw3)); go_simp; first | done | rfl))
        | refine anyV_skip 4 (Grows.pre) rfl (by kernel_rfl) (by kernel_rfl) (by kernel_rfl) (by rfl) (fun K hK => ?_)
      go_simp
      refine hK _ ?_
      clear hK K
      first
        | (refine anyV_val 5 (Grows.pre) rfl (by kernel_rfl) (by kernel_rfl) (by kernel_rfl) (by rfl) (v := ?av17) (fun W hW => ?ay17) (fun K hK => ?ar17); case ay17 => (obtain ⟨⟨z0, z1, z2⟩, ⟨y0, y1, y2⟩, s1, s2⟩ := (show ∀ W', Below n wr W' → _ from HX) W (hbn3.trans ((below_undrew hW).mono hbw3)); go_simp; first | done | rfl))
        | refine anyV_skip 5 (Grows.pre) rfl (by kernel_rfl) (by kernel_rfl) (by kernel_rfl) (by rfl) (fun K hK => ?_)
      go_simp
      refine hK _ ?_
      clear hK K
      first
        | (refine anyV_val 6 (Grows.pre) rfl (by kernel_rfl) (by kernel_rfl) (by kernel_rfl) (by rfl) (v := ?av18) (fun W hW => ?ay18) (fun K hK => ?ar18); case ay18 => (obtain ⟨⟨z0, z1, z2⟩, ⟨y0, y1, y2⟩, s1, s2⟩ := (show ∀ W', Below n wr W' → _ from HX) W (hbn3.trans ((below_undrew hW).mono hbw3)); go_simp; first | done | rfl))
        | refine anyV_skip 6 (Grows.pre) rfl (by kernel_rfl) (by kernel_rfl) (by kernel_rfl) (by rfl) (fun K hK => ?_)
      go_simp
      refine hK _ ?_
      clear hK K
      first
        | (refine anyV_val 7 (Grows.pre) rfl (by kernel_rfl) (by kernel_rfl) (by kernel_rfl) (by rfl) (v := ?av19) (fun W hW => ?ay19) (fun K hK => ?ar19); case ay19 => (obtain ⟨⟨z0, z1, z2⟩, ⟨y0, y1, y2⟩, s1, s2⟩ := (show ∀ W', Below n wr W' → _ from HX) W (hbn3.trans ((below_undrew hW).mono hbw3)); go_simp; first | done | rfl))
        | refine anyV_skip 7 (Grows.pre) rfl (by kernel_rfl) (by kernel_rfl) (by kernel_rfl) (by rfl) (fun K hK => ?_)
      go_simp
      refine hK _ ?_
      clear hK K
      first
        | (refine anyV_val 8 (Grows.pre) rfl (by kernel_rfl) (by kernel_rfl) (by kernel_rfl) (by rfl) (v := ?av20) (fun W hW => ?ay20) (fun K hK => ?ar20); case ay20 => (obtain ⟨⟨z0, z1, z2⟩, ⟨y0, y1, y2⟩, s1, s2⟩ := (show ∀ W', Below n wr W' → _ from HX) W (hbn3.trans ((below_undrew hW).mono hbw3)); go_simp; first | done | rfl))
        | refine anyV_skip 8 (Grows.pre) rfl (by kernel_rfl) (by kernel_rfl) (by kernel_rfl) (by rfl) (fun K hK => ?_)
      go_simp
      refine hK _ ?_
      clear hK K
      first
        | (refine anyV_val 9 (Grows.pre) rfl (by kernel_rfl) (by kernel_rfl) (by kernel_rfl) (by rfl) (v := ?av21) (fun W hW => ?ay21) (fun K hK => ?ar21); case ay21 => (obtain ⟨⟨z0, z1, z2⟩, ⟨y0, y1, y2⟩, s1, s2⟩ := (show ∀ W', Below n wr W' → _ from HX) W (hbn3.trans ((below_undrew hW).mono hbw3)); go_simp; first | done | rfl))
        | refine anyV_skip 9 (Grows.pre) rfl (by kernel_rfl) (by kernel_rfl) (by kernel_rfl) (by rfl) (fun K hK => ?_)
      go_simp
      refine hK _ ?_
      clear hK K
      first
        | (refine anyV_val 10 (Grows.pre) rfl (by kernel_rfl) (by kernel_rfl) (by kernel_rfl) (by rfl) (v := ?av22) (fun W hW => ?ay22) (fun K hK => ?ar22); case ay22 => (obtain ⟨⟨z0, z1, z2⟩, ⟨y0, y1, y2⟩, s1, s2⟩ := (show ∀ W', Below n wr W' → _ from HX) W (hbn3.trans ((below_undrew hW).mono hbw3)); go_simp; first | done | rfl))
        | refine anyV_skip 10 (Grows.pre) rfl (by kernel_rfl) (by kernel_rfl) (by kernel_rfl) (by rfl) (fun K hK => ?_)
      go_simp
      refine hK _ ?_
      clear hK K
      first
        | (refine anyV_val 11 (Grows.pre) rfl (by kernel_rfl) (by kernel_rfl) (by kernel_rfl) (by rfl) (v := ?av23) (fun W hW => ?ay23) (fun K hK => ?ar23); case ay23 => (obtain ⟨⟨z0, z1, z2⟩, ⟨y0, y1, y2⟩, s1, s2⟩ := (show ∀ W', Below n wr W' → _ from HX) W (hbn3.trans ((below_undrew hW).mono hbw3)); go_simp; first | done | rfl))
        | refine anyV_skip 11 (Grows.pre) rfl (by kernel_rfl) (by kernel_rfl) (by kernel_rfl) (by rfl) (fun K hK => ?_)
      go_simp
      refine hK _ ?_
      clear hK K
      first
        | (refine anyV_val 12 (Grows.pre) rfl (by kernel_rfl) (by kernel_rfl) (by kernel_rfl) (by rfl) (v := ?av24) (fun W hW => ?ay24) (fun K hK => ?ar24); case ay24 => (obtain ⟨⟨z0, z1, z2⟩, ⟨y0, y1, y2⟩, s1, s2⟩ := (show ∀ W', Below n wr W' → _ from HX) W (hbn3.trans ((below_undrew hW).mono hbw3)); go_simp; first | done | rfl))
        | refine anyV_skip 12 (Grows.pre) rfl (by kernel_rfl) (by kernel_rfl) (by kernel_rfl) (by rfl) (fun K hK => ?_)
      go_simp
      refine hK _ ?_
      clear hK K
      first
        | (refine anyV_val 13 (Grows.pre) rfl (by kernel_rfl) (by kernel_rfl) (by kernel_rfl) (by rfl) (v := ?av25) (fun W hW => ?ay25) (fun K hK => ?ar25); case ay25 => (obtain ⟨⟨z0, z1, z2⟩, ⟨y0, y1, y2⟩, s1, s2⟩ := (show ∀ W', Below n wr W' → _ from HX) W (hbn3.trans ((below_undrew hW).mono hbw3)); go_simp; first | done | rfl))
        | refine anyV_skip 13 (Grows.pre) rfl (by kernel_rfl) (by kernel_rfl) (by kernel_rfl) (by rfl) (fun K hK => ?_)
      go_simp
      refine hK _ ?_
      clear hK K
      first
        | (refine anyV_val 14 (Grows.pre) rfl (by kernel_rfl) (by kernel_rfl) (by kernel_rfl) (by rfl) (v := ?av26) (fun W hW => ?ay26) (fun K hK => ?ar26); case ay26 => (obtain ⟨⟨z0, z1, z2⟩, ⟨y0, y1, y2⟩, s1, s2⟩ := (show ∀ W', Below n wr W' → _ from HX) W (hbn3.trans ((below_undrew hW).mono hbw3)); go_simp; first | done | rfl))
        | refine anyV_skip 14 (Grows.pre) rfl (by kernel_rfl) (by kernel_rfl) (by kernel_rfl) (by rfl) (fun K hK => ?_)
      go_simp
      refine hK _ ?_
      clear hK K
      first
        | (refine anyV_val 15 (Grows.pre) rfl (by kernel_rfl) (by kernel_rfl) (by kernel_rfl) (by rfl) (v := ?av27) (fun W hW => ?ay27) (fun K hK => ?ar27); case ay27 => (obtain ⟨⟨z0, z1, z2⟩, ⟨y0, y1, y2⟩, s1, s2⟩ := (show ∀ W', Below n wr W' → _ from HX) W (hbn3.trans ((below_undrew hW).mono hbw3)); go_simp; first | done | rfl))
        | refine anyV_skip 15 (Grows.pre) rfl (by kernel_rfl) (by kernel_rfl) (by kernel_rfl) (by rfl) (fun K hK => ?_)
      go_simp
      refine hK _ ?_
      clear hK K
      first
        | (refine anyV_val 16 (Grows.pre) rfl (by kernel_rfl) (by kernel_rfl) (by kernel_rfl) (by rfl) (v := ?av28) (fun W hW => ?ay28) (fun K hK => ?ar28); case ay28 => (obtain ⟨⟨z0, z1, z2⟩, ⟨y0, y1, y2⟩, s1, s2⟩ := (show ∀ W', Below n wr W' → _ from HX) W (hbn3.trans ((below_undrew hW).mono hbw3)); go_simp; first | done | rfl))
        | refine anyV_skip 16 (Grows.pre) rfl (by kernel_rfl) (by kernel_rfl) (by kernel_rfl) (by rfl) (fun K hK => ?_)
      go_simp
      refine hK _ ?_
      clear hK K
      first
        | (refine anyV_val 17 (Grows.pre) rfl (by kernel_rfl) (by kernel_rfl) (by kernel_rfl) (by rfl) (v := ?av29) (fun W hW => ?ay29) (fun K hK => ?ar29); case ay29 => (obtain ⟨⟨z0, z1, z2⟩, ⟨y0, y1, y2⟩, s1, s2⟩ := (show ∀ W', Below n wr W' → _ from HX) W (hbn3.trans ((below_undrew hW).mono hbw3)); go_simp; first | done | rfl))
        | refine anyV_skip 17 (Grows.pre) rfl (by kernel_rfl) (by kernel_rfl) (by kernel_rfl) (by rfl) (fun K hK => ?_)
      go_simp
      refine hK _ ?_
      clear hK K
      first
        | (refine anyV_val 18 (Grows.pre) rfl (by kernel_rfl) (by kernel_rfl) (by kernel_rfl) (by rfl) (v := ?av30) (fun W hW => ?ay30) (fun K hK => ?ar30); case ay30 => (obtain ⟨⟨z0, z1, z2⟩, ⟨y0, y1, y2⟩, s1, s2⟩ := (show ∀ W', Below n wr W' → _ from HX) W (hbn3.trans ((below_undrew hW).mono hbw3)); go_simp; first | done | rfl))
        | refine anyV_skip 18 (Grows.pre) rfl (by kernel_rfl) (by kernel_rfl) (by kernel_rfl) (by rfl) (fun K hK => ?_)
      go_simp
      refine hK _ ?_
      clear hK K
      first
        | (refine anyV_val 19 (Grows.pre) rfl (by kernel_rfl) (by kernel_rfl) (by kernel_rfl) (by rfl) (v := ?av31) (fun W hW => ?ay31) (fun K hK => ?ar31); case ay31 => (obtain ⟨⟨z0, z1, z2⟩, ⟨y0, y1, y2⟩, s1, s2⟩ := (show ∀ W', Below n wr W' → _ from HX) W (hbn3.trans ((below_undrew hW).mono hbw3)); go_simp; first | done | rfl))
        | refine anyV_skip 19 (Grows.pre) rfl (by kernel_rfl) (by kernel_rfl) (by kernel_rfl) (by rfl) (fun K hK => ?_)
      go_simp
      refine hK _ ?_
      clear hK K
      first
        | (refine anyV_val 20 (Grows.pre) rfl (by kernel_rfl) (by kernel_rfl) (by kernel_rfl) (by rfl) (v := ?av32) (fun W hW => ?ay32) (fun K hK => ?ar32); case ay32 => (obtain ⟨⟨z0, z1, z2⟩, ⟨y0, y1, y2⟩, s1, s2⟩ := (show ∀ W', Below n wr W' → _ from HX) W (hbn3.trans ((below_undrew hW).mono hbw3)); go_simp; first | done | rfl))
        | refine anyV_skip 20 (Grows.pre) rfl (by kernel_rfl) (by kernel_rfl) (by kernel_rfl) (by rfl) (fun K hK => ?_)
      go_simp
      refine hK _ ?_
      clear hK K
      first
        | (refine anyV_val 21 (Grows.pre) rfl (by kernel_rfl) (by kernel_rfl) (by kernel_rfl) (by rfl) (v := ?av33) (fun W hW => ?ay33) (fun K hK => ?ar33); case ay33 => (obtain ⟨⟨z0, z1, z2⟩, ⟨y0, y1, y2⟩, s1, s2⟩ := (show ∀ W', Below n wr W' → _ from HX) W (hbn3.trans ((below_undrew hW).mono hbw3)); go_simp; first | done | rfl))
        | refine anyV_skip 21 (Grows.pre) rfl (by kernel_rfl) (by kernel_rfl) (by kernel_rfl) (by rfl) (fun K hK => ?_)
      go_simp
      refine hK _ ?_
      clear hK K
      first
        | (refine anyV_val 22 (Grows.pre) rfl (by kernel_rfl) (by kernel_rfl) (by kernel_rfl) (by rfl) (v := ?av34) (fun W hW => ?ay34) (fun K hK => ?ar34); case ay34 => (obtain ⟨⟨z0, z1, z2⟩, ⟨y0, y1, y2⟩, s1, s2⟩ := (show ∀ W', Below n wr W' → _ from HX) W (hbn3.trans ((below_undrew hW).mono hbw3)); go_simp; first | done | rfl))
        | refine anyV_skip 22 (Grows.pre) rfl (by kernel_rfl) (by kernel_rfl) (by kernel_rfl) (by rfl) (fun K hK => ?_)
      go_simp
      refine hK _ ?_
      clear hK K
      first
        | (refine anyV_val 23 (Grows.pre) rfl (by kernel_rfl) (by kernel_rfl) (by kernel_rfl) (by rfl) (v := ?av35) (fun W hW => ?ay35) (fun K hK => ?ar35); case ay35 => (obtain ⟨⟨z0, z1, z2⟩, ⟨y0, y1, y2⟩, s1, s2⟩ := (show ∀ W', Below n wr W' → _ from HX) W (hbn3.trans ((below_undrew hW).mono hbw3)); go_simp; first | done | rfl))
        | refine anyV_skip 23 (Grows.pre) rfl (by kernel_rfl) (by kernel_rfl) (by kernel_rfl) (by rfl) (fun K hK => ?_)
      go_simp
      refine hK _ ?_
      clear hK K
      first
        | (refine anyV_val 24 (Grows.pre) rfl (by kernel_rfl) (by kernel_rfl) (by kernel_rfl) (by rfl) (v := ?av36) (fun W hW => ?ay36) (fun K hK => ?ar36); case ay36 => (obtain ⟨⟨z0, z1, z2⟩, ⟨y0, y1, y2⟩, s1, s2⟩ := (show ∀ W', Below n wr W' → _ from HX) W (hbn3.trans ((below_undrew hW).mono hbw3)); go_simp; first | done | rfl))
        | refine anyV_skip 24 (Grows.pre) rfl (by kernel_rfl) (by kernel_rfl) (by kernel_rfl) (by rfl) (fun K hK => ?_)
      go_simp
      refine hK _ ?_
      clear hK K
      first
        | (refine anyV_val 25 (Grows.pre) rfl (by kernel_rfl) (by kernel_rfl) (by kernel_rfl) (by rfl) (v := ?av37) (fun W hW => ?ay37) (fun K hK => ?ar37); case ay37 => (obtain ⟨⟨z0, z1, z2⟩, ⟨y0, y1, y2⟩, s1, s2⟩ := (show ∀ W', Below n wr W' → _ from HX) W (hbn3.trans ((below_undrew hW).mono hbw3)); go_simp; first | done | rfl))
        | refine anyV_skip 25 (Grows.pre) rfl (by kernel_rfl) (by kernel_rfl) (by kernel_rfl) (by rfl) (fun K hK => ?_)
      go_simp
      refine hK _ ?_
      clear hK K
      first
        | (refine anyV_val 26 (Grows.pre) rfl (by kernel_rfl) (by kernel_rfl) (by kernel_rfl) (by rfl) (v := ?av38) (fun W hW => ?ay38) (fun K hK => ?ar38); case ay38 => (obtain ⟨⟨z0, z1, z2⟩, ⟨y0, y1, y2⟩, s1, s2⟩ := (show ∀ W', Below n wr W' → _ from HX) W (hbn3.trans ((below_undrew hW).mono hbw3)); go_simp; first | done | rfl))
        | refine anyV_skip 26 (Grows.pre) rfl (by kernel_rfl) (by kernel_rfl) (by kernel_rfl) (by rfl) (fun K hK => ?_)
      go_simp
      refine hK _ ?_
      clear hK K
      first
        | (refine anyV_val 27 (Grows.pre) rfl (by kernel_rfl) (by kernel_rfl) (by kernel_rfl) (by rfl) (v := ?av39) (fun W hW => ?ay39) (fun K hK => ?ar39); case ay39 => (obtain ⟨⟨z0, z1, z2⟩, ⟨y0, y1, y2⟩, s1, s2⟩ := (show ∀ W', Below n wr W' → _ from HX) W (hbn3.trans ((below_undrew hW).mono hbw3)); go_simp; first | done | rfl))
        | refine anyV_skip 27 (Grows.pre) rfl (by kernel_rfl) (by kernel_rfl) (by kernel_rfl) (by rfl) (fun K hK => ?_)
      go_simp
      refine hK _ ?_
      clear hK K
      first
        | (refine anyV_val 28 (Grows.pre) rfl (by kernel_rfl) (by kernel_rfl) (by kernel_rfl) (by rfl) (v := ?av40) (fun W hW => ?ay40) (fun K hK => ?ar40); case ay40 => (obtain ⟨⟨z0, z1, z2⟩, ⟨y0, y1, y2⟩, s1, s2⟩ := (show ∀ W', Below n wr W' → _ from HX) W (hbn3.trans ((below_undrew hW).mono hbw3)); go_simp; first | done | rfl))
        | refine anyV_skip 28 (Grows.pre) rfl (by kernel_rfl) (by kernel_rfl) (by kernel_rfl) (by rfl) (fun K hK => ?_)
      go_simp
      refine hK _ ?_
      clear hK K
      first
        | (refine anyV_val 29 (Grows.pre) rfl (by kernel_rfl) (by kernel_rfl) (by kernel_rfl) (by rfl) (v := ?av41) (fun W hW => ?ay41) (fun K hK => ?ar41); case ay41 => (obtain ⟨⟨z0, z1, z2⟩, ⟨y0, y1, y2⟩, s1, s2⟩ := (show ∀ W', Below n wr W' → _ from HX) W (hbn3.trans ((below_undrew hW).mono hbw3)); go_simp; first | done | rfl))
        | refine anyV_skip 29 (Grows.pre) rfl (by kernel_rfl) (by kernel_rfl) (by kernel_rfl) (by rfl) (fun K hK => ?_)
      go_simp
      refine hK _ ?_
      clear hK K
      refine anyV_done (by kernel_rfl) ?_
      have hb4 : Below W.heap.size W w3.drew := ⟨hb3.os, hb3.tape, hb3.output, hb3.size, hb3.block⟩
      clear HX hb3 hbn3 b3'
      go_wp2_with fail
      go_roundw
      case rel => exact ⟨k + 1, f1, g2, by go_num, hF2, hG2, HFG', hNext, hb4⟩
      case measure => simp [intOf]; omega
    · have hne : ¬ f = g := fun h => by
        have := (show _ ↔ _ from HFG).1 h
        injection this with e1 e2 e3 e4
        exact hall ⟨HRR.2 e3, e1, e2⟩
      have HNE := Lib.hid hne
      have hways : rr = false ∨ (rr = true ∧ (t1' != t2') = true) ∨ (rr = true ∧ (t1' != t2') = false ∧ ((strOfNums bs1).toList == (strOfNums bs2).toList) = false) := by
        cases rr with
        | false => exact .inl rfl
        | true =>
          right
          by_cases ht : t1' = t2'
          · right
            refine ⟨rfl, by simpa using ht, ?_⟩
            refine beq_eq_false_iff_ne.2 fun he => ?_
            rw [ByteArray.toList_eq, ByteArray.toList_eq] at he
            exact hall ⟨rfl, ht, strOfNums_inj bt1 bt2 he⟩
          · left
            exact ⟨rfl, by simpa using ht⟩
      clear bt1 bt2 HFG HRR HALL hne hall
      rcases hways with rfl | ⟨rfl, tt⟩ | ⟨rfl, tt, ts⟩
      · clear hs1
        go_wp2_with fail
        refine wp_region_anyV Grows (by kernel_rfl) 30 rfl ?_
        first
          | (refine anyV_val 0 (Grows.pre) rfl (by kernel_rfl) (by kernel_rfl) (by kernel_rfl) (by rfl) (v := ?av42) (fun W hW => ?ay42) (fun K hK => ?ar42); case ay42 => (obtain ⟨⟨z0, z1, z2⟩, ⟨y0, y1, y2⟩, s1, s2⟩ := (show ∀ W', Below n wr W' → _ from HX) W (hbn3.trans ((below_undrew hW).mono hbw3)); go_simp; first | done | rfl))
          | refine anyV_skip 0 (Grows.pre) rfl (by kernel_rfl) (by kernel_rfl) (by kernel_rfl) (by rfl) (fun K hK => ?_)
        go_simp
        refine hK _ ?_
        clear hK K
        first
          | (refine anyV_val 1 (Grows.pre) rfl (by kernel_rfl) (by kernel_rfl) (by kernel_rfl) (by rfl) (v := ?av43) (fun W hW => ?ay43) (fun K hK => ?ar43); case ay43 => (obtain ⟨⟨z0, z1, z2⟩, ⟨y0, y1, y2⟩, s1, s2⟩ := (show ∀ W', Below n wr W' → _ from HX) W (hbn3.trans ((below_undrew hW).mono hbw3)); go_simp; first | done | rfl))
          | refine anyV_skip 1 (Grows.pre) rfl (by kernel_rfl) (by kernel_rfl) (by kernel_rfl) (by rfl) (fun K hK => ?_)
        go_simp
        refine hK _ ?_
        clear hK K
        first
          | (refine anyV_val 2 (Grows.pre) rfl (by kernel_rfl) (by kernel_rfl) (by kernel_rfl) (by rfl) (v := ?av44) (fun W hW => ?ay44) (fun K hK => ?ar44); case ay44 => (obtain ⟨⟨z0, z1, z2⟩, ⟨y0, y1, y2⟩, s1, s2⟩ := (show ∀ W', Below n wr W' → _ from HX) W (hbn3.trans ((below_undrew hW).mono hbw3)); go_simp; first | done | rfl))
          | refine anyV_skip 2 (Grows.pre) rfl (by kernel_rfl) (by kernel_rfl) (by kernel_rfl) (by rfl) (fun K hK => ?_)
        go_simp
        refine hK _ ?_
        clear hK K
        first
          | (refine anyV_val 3 (Grows.pre) rfl (by kernel_rfl) (by kernel_rfl) (by kernel_rfl) (by rfl) (v := ?av45) (fun W hW => ?ay45) (fun K hK => ?ar45); case ay45 => (obtain ⟨⟨z0, z1, z2⟩, ⟨y0, y1, y2⟩, s1, s2⟩ := (show ∀ W', Below n wr W' → _ from HX) W (hbn3.trans ((below_undrew hW).mono hbw3)); go_simp; first | done | rfl))
          | refine anyV_skip 3 (Grows.pre) rfl (by kernel_rfl) (by kernel_rfl) (by kernel_rfl) (by rfl) (fun K hK => ?_)
        go_simp
        refine hK _ ?_
        clear hK K
        first
          | (refine anyV_val 4 (Grows.pre) rfl (by kernel_rfl) (by kernel_rfl) (by kernel_rfl) (by rfl) (v := ?av46) (fun W hW => ?ay46) (fun K hK => ?ar46); case ay46 => (obtain ⟨⟨z0, z1, z2⟩, ⟨y0, y1, y2⟩, s1, s2⟩ := (show ∀ W', Below n wr W' → _ from HX) W (hbn3.trans ((below_undrew hW).mono hbw3)); go_simp; first | done | rfl))
          | refine anyV_skip 4 (Grows.pre) rfl (by kernel_rfl) (by kernel_rfl) (by kernel_rfl) (by rfl) (fun K hK => ?_)
        go_simp
        refine hK _ ?_
        clear hK K
        first
          | (refine anyV_val 5 (Grows.pre) rfl (by kernel_rfl) (by kernel_rfl) (by kernel_rfl) (by rfl) (v := ?av47) (fun W hW => ?ay47) (fun K hK => ?ar47); case ay47 => (obtain ⟨⟨z0, z1, z2⟩, ⟨y0, y1, y2⟩, s1, s2⟩ := (show ∀ W', Below n wr W' → _ from HX) W (hbn3.trans ((below_undrew hW).mono hbw3)); go_simp; first | done | rfl))
          | refine anyV_skip 5 (Grows.pre) rfl (by kernel_rfl) (by kernel_rfl) (by kernel_rfl) (by rfl) (fun K hK => ?_)
        go_simp
        refine hK _ ?_
        clear hK K
        first
          | (refine anyV_val 6 (Grows.pre) rfl (by kernel_rfl) (by kernel_rfl) (by kernel_rfl) (by rfl) (v := ?av48) (fun W hW => ?ay48) (fun K hK => ?ar48); case ay48 => (obtain ⟨⟨z0, z1, z2⟩, ⟨y0, y1, y2⟩, s1, s2⟩ := (show ∀ W', Below n wr W' → _ from HX) W (hbn3.trans ((below_undrew hW).mono hbw3)); go_simp; first | done | rfl))
          | refine anyV_skip 6 (Grows.pre) rfl (by kernel_rfl) (by kernel_rfl) (by kernel_rfl) (by rfl) (fun K hK => ?_)
        go_simp
        refine hK _ ?_
        clear hK K
        first
          | (refine anyV_val 7 (Grows.pre) rfl (by kernel_rfl) (by kernel_rfl) (by kernel_rfl) (by rfl) (v := ?av49) (fun W hW => ?ay49) (fun K hK => ?ar49); case ay49 => (obtain ⟨⟨z0, z1, z2⟩, ⟨y0, y1, y2⟩, s1, s2⟩ := (show ∀ W', Below n wr W' → _ from HX) W (hbn3.trans ((below_undrew hW).mono hbw3)); go_simp; first | done | rfl))
          | refine anyV_skip 7 (Grows.pre) rfl (by kernel_rfl) (by kernel_rfl) (by kernel_rfl) (by rfl) (fun K hK => ?_)
        go_simp
        refine hK _ ?_
        clear hK K
        first
          | (refine anyV_val 8 (Grows.pre) rfl (by kernel_rfl) (by kernel_rfl) (by kernel_rfl) (by rfl) (v := ?av50) (fun W hW => ?ay50) (fun K hK => ?ar50); case ay50 => (obtain ⟨⟨z0, z1, z2⟩, ⟨y0, y1, y2⟩, s1, s2⟩ := (show ∀ W', Below n wr W' → _ from HX) W (hbn3.trans ((below_undrew hW).mono hbw3)); go_simp; first | done | rfl))
          | refine anyV_skip 8 (Grows.pre) rfl (by kernel_rfl) (by kernel_rfl) (by kernel_rfl) (by rfl) (fun K hK => ?_)
        go_simp
        refine hK _ ?_
        clear hK K
        first
          | (refine anyV_val 9 (Grows.pre) rfl (by kernel_rfl) (by kernel_rfl) (by kernel_rfl) (by rfl) (v := ?av51) (fun W hW => ?ay51) (fun K hK => ?ar51); case ay51 => (obtain ⟨⟨z0, z1, z2⟩, ⟨y0, y1, y2⟩, s1, s2⟩ := (show ∀ W', Below n wr W' → _ from HX) W (hbn3.trans ((below_undrew hW).mono hbw3)); go_simp; first | done | rfl))
          | refine anyV_skip 9 (Grows.pre) rfl (by kernel_rfl) (by kernel_rfl) (by kernel_rfl) (by rfl) (fun K hK => ?_)
        go_simp
        refine hK _ ?_
        clear hK K
        first
          | (refine anyV_val 10 (Grows.pre) rfl (by kernel_rfl) (by kernel_rfl) (by kernel_rfl) (by rfl) (v := ?av52) (fun W hW => ?ay52) (fun K hK => ?ar52); case ay52 => (obtain ⟨⟨z0, z1, z2⟩, ⟨y0, y1, y2⟩, s1, s2⟩ := (show ∀ W', Below n wr W' → _ from HX) W (hbn3.trans ((below_undrew hW).mono hbw3)); go_simp; first | done | rfl))
          | refine anyV_skip 10 (Grows.pre) rfl (by kernel_rfl) (by kernel_rfl) (by kernel_rfl) (by rfl) (fun K hK => ?_)
        go_simp
        refine hK _ ?_
        clear hK K
        first
          | (refine anyV_val 11 (Grows.pre) rfl (by kernel_rfl) (by kernel_rfl) (by kernel_rfl) (by rfl) (v := ?av53) (fun W hW => ?ay53) (fun K hK => ?ar53); case ay53 => (obtain ⟨⟨z0, z1, z2⟩, ⟨y0, y1, y2⟩, s1, s2⟩ := (show ∀ W', Below n wr W' → _ from HX) W (hbn3.trans ((below_undrew hW).mono hbw3)); go_simp; first | done | rfl))
          | refine anyV_skip 11 (Grows.pre) rfl (by kernel_rfl) (by kernel_rfl) (by kernel_rfl) (by rfl) (fun K hK => ?_)
        go_simp
        refine hK _ ?_
        clear hK K
        first
          | (refine anyV_val 12 (Grows.pre) rfl (by kernel_rfl) (by kernel_rfl) (by kernel_rfl) (by rfl) (v := ?av54) (fun W hW => ?ay54) (fun K hK => ?ar54); case ay54 => (obtain ⟨⟨z0, z1, z2⟩, ⟨y0, y1, y2⟩, s1, s2⟩ := (show ∀ W', Below n wr W' → _ from HX) W (hbn3.trans ((below_undrew hW).mono hbw3)); go_simp; first | done | rfl))
          | refine anyV_skip 12 (Grows.pre) rfl (by kernel_rfl) (by kernel_rfl) (by kernel_rfl) (by rfl) (fun K hK => ?_)
        go_simp
        refine hK _ ?_
        clear hK K
        first
          | (refine anyV_val 13 (Grows.pre) rfl (by kernel_rfl) (by kernel_rfl) (by kernel_rfl) (by rfl) (v := ?av55) (fun W hW => ?ay55) (fun K hK => ?ar55); case ay55 => (obtain ⟨⟨z0, z1, z2⟩, ⟨y0, y1, y2⟩, s1, s2⟩ := (show ∀ W', Below n wr W' → _ from HX) W (hbn3.trans ((below_undrew hW).mono hbw3)); go_simp; first | done | rfl))
          | refine anyV_skip 13 (Grows.pre) rfl (by kernel_rfl) (by kernel_rfl) (by kernel_rfl) (by rfl) (fun K hK => ?_)
        go_simp
        refine hK _ ?_
        clear hK K
        first
          | (refine anyV_val 14 (Grows.pre) rfl (by kernel_rfl) (by kernel_rfl) (by kernel_rfl) (by rfl) (v := ?av56) (fun W hW => ?ay56) (fun K hK => ?ar56); case ay56 => (obtain ⟨⟨z0, z1, z2⟩, ⟨y0, y1, y2⟩, s1, s2⟩ := (show ∀ W', Below n wr W' → _ from HX) W (hbn3.trans ((below_undrew hW).mono hbw3)); go_simp; first | done | rfl))
          | refine anyV_skip 14 (Grows.pre) rfl (by kernel_rfl) (by kernel_rfl) (by kernel_rfl) (by rfl) (fun K hK => ?_)
        go_simp
        refine hK _ ?_
        clear hK K
        first
          | (refine anyV_val 15 (Grows.pre) rfl (by kernel_rfl) (by kernel_rfl) (by kernel_rfl) (by rfl) (v := ?av57) (fun W hW => ?ay57) (fun K hK => ?ar57); case ay57 => (obtain ⟨⟨z0, z1, z2⟩, ⟨y0, y1, y2⟩, s1, s2⟩ := (show ∀ W', Below n wr W' → _ from HX) W (hbn3.trans ((below_undrew hW).mono hbw3)); go_simp; first | done | rfl))
          | refine anyV_skip 15 (Grows.pre) rfl (by kernel_rfl) (by kernel_rfl) (by kernel_rfl) (by rfl) (fun K hK => ?_)
        go_simp
        refine hK _ ?_
        clear hK K
        first
          | (refine anyV_val 16 (Grows.pre) rfl (by kernel_rfl) (by kernel_rfl) (by kernel_rfl) (by rfl) (v := ?av58) (fun W hW => ?ay58) (fun K hK => ?ar58); case ay58 => (obtain ⟨⟨z0, z1, z2⟩, ⟨y0, y1, y2⟩, s1, s2⟩ := (show ∀ W', Below n wr W' → _ from HX) W (hbn3.trans ((below_undrew hW).mono hbw3)); go_simp; first | done | rfl))
          | refine anyV_skip 16 (Grows.pre) rfl (by kernel_rfl) (by kernel_rfl) (by kernel_rfl) (by rfl) (fun K hK => ?_)
        go_simp
        refine hK _ ?_
        clear hK K
        first
          | (refine anyV_val 17 (Grows.pre) rfl (by kernel_rfl) (by kernel_rfl) (by kernel_rfl) (by rfl) (v := ?av59) (fun W hW => ?ay59) (fun K hK => ?ar59); case ay59 => (obtain ⟨⟨z0, z1, z2⟩, ⟨y0, y1, y2⟩, s1, s2⟩ := (show ∀ W', Below n wr W' → _ from HX) W (hbn3.trans ((below_undrew hW).mono hbw3)); go_simp; first | done | rfl))
          | refine anyV_skip 17 (Grows.pre) rfl (by kernel_rfl) (by kernel_rfl) (by kernel_rfl) (by rfl) (fun K hK => ?_)
        go_simp
        refine hK _ ?_
        clear hK K
        first
          | (refine anyV_val 18 (Grows.pre) rfl (by kernel_rfl) (by kernel_rfl) (by kernel_rfl) (by rfl) (v := ?av60) (fun W hW => ?ay60) (fun K hK => ?ar60); case ay60 => (obtain ⟨⟨z0, z1, z2⟩, ⟨y0, y1, y2⟩, s1, s2⟩ := (show ∀ W', Below n wr W' → _ from HX) W (hbn3.trans ((below_undrew hW).mono hbw3)); go_simp; first | done | rfl))
          | refine anyV_skip 18 (Grows.pre) rfl (by kernel_rfl) (by kernel_rfl) (by kernel_rfl) (by rfl) (fun K hK => ?_)
        go_simp
        refine hK _ ?_
        clear hK K
        first
          | (refine anyV_val 19 (Grows.pre) rfl (by kernel_rfl) (by kernel_rfl) (by kernel_rfl) (by rfl) (v := ?av61) (fun W hW => ?ay61) (fun K hK => ?ar61); case ay61 => (obtain ⟨⟨z0, z1, z2⟩, ⟨y0, y1, y2⟩, s1, s2⟩ := (show ∀ W', Below n wr W' → _ from HX) W (hbn3.trans ((below_undrew hW).mono hbw3)); go_simp; first | done | rfl))
          | refine anyV_skip 19 (Grows.pre) rfl (by kernel_rfl) (by kernel_rfl) (by kernel_rfl) (by rfl) (fun K hK => ?_)
        go_simp
        refine hK _ ?_
        clear hK K
        first
          | (refine anyV_val 20 (Grows.pre) rfl (by kernel_rfl) (by kernel_rfl) (by kernel_rfl) (by rfl) (v := ?av62) (fun W hW => ?ay62) (fun K hK => ?ar62); case ay62 => (obtain ⟨⟨z0, z1, z2⟩, ⟨y0, y1, y2⟩, s1, s2⟩ := (show ∀ W', Below n wr W' → _ from HX) W (hbn3.trans ((below_undrew hW).mono hbw3)); go_simp; first | done | rfl))
          | refine anyV_skip 20 (Grows.pre) rfl (by kernel_rfl) (by kernel_rfl) (by kernel_rfl) (by rfl) (fun K hK => ?_)
        go_simp
        refine hK _ ?_
        clear hK K
        first
          | (refine anyV_val 21 (Grows.pre) rfl (by kernel_rfl) (by kernel_rfl) (by kernel_rfl) (by rfl) (v := ?av63) (fun W hW => ?ay63) (fun K hK => ?ar63); case ay63 => (obtain ⟨⟨z0, z1, z2⟩, ⟨y0, y1, y2⟩, s1, s2⟩ := (show ∀ W', Below n wr W' → _ from HX) W (hbn3.trans ((below_undrew hW).mono hbw3)); go_simp; first | done | rfl))
          | refine anyV_skip 21 (Grows.pre) rfl (by kernel_rfl) (by kernel_rfl) (by kernel_rfl) (by rfl) (fun K hK => ?_)
        go_simp
        refine hK _ ?_
        clear hK K
        first
          | (refine anyV_val 22 (Grows.pre) rfl (by kernel_rfl) (by kernel_rfl) (by kernel_rfl) (by rfl) (v := ?av64) (fun W hW => ?ay64) (fun K hK => ?ar64); case ay64 => (obtain ⟨⟨z0, z1, z2⟩, ⟨y0, y1, y2⟩, s1, s2⟩ := (show ∀ W', Below n wr W' → _ from HX) W (hbn3.trans ((below_undrew hW).mono hbw3)); go_simp; first | done | rfl))
          | refine anyV_skip 22 (Grows.pre) rfl (by kernel_rfl) (by kernel_rfl) (by kernel_rfl) (by rfl) (fun K hK => ?_)
        go_simp
        refine hK _ ?_
        clear hK K
        first
          | (refine anyV_val 23 (Grows.pre) rfl (by kernel_rfl) (by kernel_rfl) (by kernel_rfl) (by rfl) (v := ?av65) (fun W hW => ?ay65) (fun K hK => ?ar65); case ay65 => (obtain ⟨⟨z0, z1, z2⟩, ⟨y0, y1, y2⟩, s1, s2⟩ := (show ∀ W', Below n wr W' → _ from HX) W (hbn3.trans ((below_undrew hW).mono hbw3)); go_simp; first | done | rfl))
          | refine anyV_skip 23 (Grows.pre) rfl (by kernel_rfl) (by kernel_rfl) (by kernel_rfl) (by rfl) (fun K hK => ?_)
        go_simp
        refine hK _ ?_
        clear hK K
        first
          | (refine anyV_val 24 (Grows.pre) rfl (by kernel_rfl) (by kernel_rfl) (by kernel_rfl) (by rfl) (v := ?av66) (fun W hW => ?ay66) (fun K hK => ?ar66); case ay66 => (obtain ⟨⟨z0, z1, z2⟩, ⟨y0, y1, y2⟩, s1, s2⟩ := (show ∀ W', Below n wr W' → _ from HX) W (hbn3.trans ((below_undrew hW).mono hbw3)); go_simp; first | done | rfl))
          | refine anyV_skip 24 (Grows.pre) rfl (by kernel_rfl) (by kernel_rfl) (by kernel_rfl) (by rfl) (fun K hK => ?_)
        go_simp
        refine hK _ ?_
        clear hK K
        first
          | (refine anyV_val 25 (Grows.pre) rfl (by kernel_rfl) (by kernel_rfl) (by kernel_rfl) (by rfl) (v := ?av67) (fun W hW => ?ay67) (fun K hK => ?ar67); case ay67 => (obtain ⟨⟨z0, z1, z2⟩, ⟨y0, y1, y2⟩, s1, s2⟩ := (show ∀ W', Below n wr W' → _ from HX) W (hbn3.trans ((below_undrew hW).mono hbw3)); go_simp; first | done | rfl))
          | refine anyV_skip 25 (Grows.pre) rfl (by kernel_rfl) (by kernel_rfl) (by kernel_rfl) (by rfl) (fun K hK => ?_)
        go_simp
        refine hK _ ?_
        clear hK K
        first
          | (refine anyV_val 26 (Grows.pre) rfl (by kernel_rfl) (by kernel_rfl) (by kernel_rfl) (by rfl) (v := ?av68) (fun W hW => ?ay68) (fun K hK => ?ar68); case ay68 => (obtain ⟨⟨z0, z1, z2⟩, ⟨y0, y1, y2⟩, s1, s2⟩ := (show ∀ W', Below n wr W' → _ from HX) W (hbn3.trans ((below_undrew hW).mono hbw3)); go_simp; first | done | rfl))
          | refine anyV_skip 26 (Grows.pre) rfl (by kernel_rfl) (by kernel_rfl) (by kernel_rfl) (by rfl) (fun K hK => ?_)
        go_simp
        refine hK _ ?_
        clear hK K
        first
          | (refine anyV_val 27 (Grows.pre) rfl (by kernel_rfl) (by kernel_rfl) (by kernel_rfl) (by rfl) (v := ?av69) (fun W hW => ?ay69) (fun K hK => ?ar69); case ay69 => (obtain ⟨⟨z0, z1, z2⟩, ⟨y0, y1, y2⟩, s1, s2⟩ := (show ∀ W', Below n wr W' → _ from HX) W (hbn3.trans ((below_undrew hW).mono hbw3)); go_simp; first | done | rfl))
          | refine anyV_skip 27 (Grows.pre) rfl (by kernel_rfl) (by kernel_rfl) (by kernel_rfl) (by rfl) (fun K hK => ?_)
        go_simp
        refine hK _ ?_
        clear hK K
        first
          | (refine anyV_val 28 (Grows.pre) rfl (by kernel_rfl) (by kernel_rfl) (by kernel_rfl) (by rfl) (v := ?av70) (fun W hW => ?ay70) (fun K hK => ?ar70); case ay70 => (obtain ⟨⟨z0, z1, z2⟩, ⟨y0, y1, y2⟩, s1, s2⟩ := (show ∀ W', Below n wr W' → _ from HX) W (hbn3.trans ((below_undrew hW).mono hbw3)); go_simp; first | done | rfl))
          | refine anyV_skip 28 (Grows.pre) rfl (by kernel_rfl) (by kernel_rfl) (by kernel_rfl) (by rfl) (fun K hK => ?_)
        go_simp
        refine hK _ ?_
        clear hK K
        first
          | (refine anyV_val 29 (Grows.pre) rfl (by kernel_rfl) (by kernel_rfl) (by kernel_rfl) (by rfl) (v := ?av71) (fun W hW => ?ay71) (fun K hK => ?ar71); case ay71 => (obtain ⟨⟨z0, z1, z2⟩, ⟨y0, y1, y2⟩, s1, s2⟩ := (show ∀ W', Below n wr W' → _ from HX) W (hbn3.trans ((below_undrew hW).mono hbw3)); go_simp; first | done | rfl))
          | refine anyV_skip 29 (Grows.pre) rfl (by kernel_rfl) (by kernel_rfl) (by kernel_rfl) (by rfl) (fun K hK => ?_)
        go_simp
        refine hK _ ?_
        clear hK K
        refine anyV_done (by kernel_rfl) ?_
        have hb4 : Below W.heap.size W w3.drew := ⟨hb3.os, hb3.tape, hb3.output, hb3.size, hb3.block⟩
        clear HX hb3 hbn3 b3'
        go_wp2_with fail
        go_ret
        exact ⟨false, rfl, ⟨fun h => by simp at h, fun h => absurd h HNE⟩, hb4⟩
      · clear hs1
        go_wp2_with fail
        refine wp_region_anyV Grows (by kernel_rfl) 30 rfl ?_
        first
          | (refine anyV_val 0 (Grows.pre) rfl (by kernel_rfl) (by kernel_rfl) (by kernel_rfl) (by rfl) (v := ?av72) (fun W hW => ?ay72) (fun K hK => ?ar72); case ay72 => (obtain ⟨⟨z0, z1, z2⟩, ⟨y0, y1, y2⟩, s1, s2⟩ := (show ∀ W', Below n wr W' → _ from HX) W (hbn3.trans ((below_undrew hW).mono hbw3)); go_simp; first | done | rfl))
          | refine anyV_skip 0 (Grows.pre) rfl (by kernel_rfl) (by kernel_rfl) (by kernel_rfl) (by rfl) (fun K hK => ?_)
        go_simp
        refine hK _ ?_
        clear hK K
        first
          | (refine anyV_val 1 (Grows.pre) rfl (by kernel_rfl) (by kernel_rfl) (by kernel_rfl) (by rfl) (v := ?av73) (fun W hW => ?ay73) (fun K hK => ?ar73); case ay73 => (obtain ⟨⟨z0, z1, z2⟩, ⟨y0, y1, y2⟩, s1, s2⟩ := (show ∀ W', Below n wr W' → _ from HX) W (hbn3.trans ((below_undrew hW).mono hbw3)); go_simp; first | done | rfl))
          | refine anyV_skip 1 (Grows.pre) rfl (by kernel_rfl) (by kernel_rfl) (by kernel_rfl) (by rfl) (fun K hK => ?_)
        go_simp
        refine hK _ ?_
        clear hK K
        first
          | (refine anyV_val 2 (Grows.pre) rfl (by kernel_rfl) (by kernel_rfl) (by kernel_rfl) (by rfl) (v := ?av74) (fun W hW => ?ay74) (fun K hK => ?ar74); case ay74 => (obtain ⟨⟨z0, z1, z2⟩, ⟨y0, y1, y2⟩, s1, s2⟩ := (show ∀ W', Below n wr W' → _ from HX) W (hbn3.trans ((below_undrew hW).mono hbw3)); go_simp; first | done | rfl))
          | refine anyV_skip 2 (Grows.pre) rfl (by kernel_rfl) (by kernel_rfl) (by kernel_rfl) (by rfl) (fun K hK => ?_)
        go_simp
        refine hK _ ?_
        clear hK K
        first
          | (refine anyV_val 3 (Grows.pre) rfl (by kernel_rfl) (by kernel_rfl) (by kernel_rfl) (by rfl) (v := ?av75) (fun W hW => ?ay75) (fun K hK => ?ar75); case ay75 => (obtain ⟨⟨z0, z1, z2⟩, ⟨y0, y1, y2⟩, s1, s2⟩ := (show ∀ W', Below n wr W' → _ from HX) W (hbn3.trans ((below_undrew hW).mono hbw3)); go_simp; first | done | rfl))
          | refine anyV_skip 3 (Grows.pre) rfl (by kernel_rfl) (by kernel_rfl) (by kernel_rfl) (by rfl) (fun K hK => ?_)
        go_simp
        refine hK _ ?_
        clear hK K
        first
          | (refine anyV_val 4 (Grows.pre) rfl (by kernel_rfl) (by kernel_rfl) (by kernel_rfl) (by rfl) (v := ?av76) (fun W hW => ?ay76) (fun K hK => ?ar76); case ay76 => (obtain ⟨⟨z0, z1, z2⟩, ⟨y0, y1, y2⟩, s1, s2⟩ := (show ∀ W', Below n wr W' → _ from HX) W (hbn3.trans ((below_undrew hW).mono hbw3)); go_simp; first | done | rfl))
          | refine anyV_skip 4 (Grows.pre) rfl (by kernel_rfl) (by kernel_rfl) (by kernel_rfl) (by rfl) (fun K hK => ?_)
        go_simp
        refine hK _ ?_
        clear hK K
        first
          | (refine anyV_val 5 (Grows.pre) rfl (by kernel_rfl) (by kernel_rfl) (by kernel_rfl) (by rfl) (v := ?av77) (fun W hW => ?ay77) (fun K hK => ?ar77); case ay77 => (obtain ⟨⟨z0, z1, z2⟩, ⟨y0, y1, y2⟩, s1, s2⟩ := (show ∀ W', Below n wr W' → _ from HX) W (hbn3.trans ((below_undrew hW).mono hbw3)); go_simp; first | done | rfl))
          | refine anyV_skip 5 (Grows.pre) rfl (by kernel_rfl) (by kernel_rfl) (by kernel_rfl) (by rfl) (fun K hK => ?_)
        go_simp
        refine hK _ ?_
        clear hK K
        first
          | (refine anyV_val 6 (Grows.pre) rfl (by kernel_rfl) (by kernel_rfl) (by kernel_rfl) (by rfl) (v := ?av78) (fun W hW => ?ay78) (fun K hK => ?ar78); case ay78 => (obtain ⟨⟨z0, z1, z2⟩, ⟨y0, y1, y2⟩, s1, s2⟩ := (show ∀ W', Below n wr W' → _ from HX) W (hbn3.trans ((below_undrew hW).mono hbw3)); go_simp; first | done | rfl))
          | refine anyV_skip 6 (Grows.pre) rfl (by kernel_rfl) (by kernel_rfl) (by kernel_rfl) (by rfl) (fun K hK => ?_)
        go_simp
        refine hK _ ?_
        clear hK K
        first
          | (refine anyV_val 7 (Grows.pre) rfl (by kernel_rfl) (by kernel_rfl) (by kernel_rfl) (by rfl) (v := ?av79) (fun W hW => ?ay79) (fun K hK => ?ar79); case ay79 => (obtain ⟨⟨z0, z1, z2⟩, ⟨y0, y1, y2⟩, s1, s2⟩ := (show ∀ W', Below n wr W' → _ from HX) W (hbn3.trans ((below_undrew hW).mono hbw3)); go_simp; first | done | rfl))
          | refine anyV_skip 7 (Grows.pre) rfl (by kernel_rfl) (by kernel_rfl) (by kernel_rfl) (by rfl) (fun K hK => ?_)
        go_simp
        refine hK _ ?_
        clear hK K
        first
          | (refine anyV_val 8 (Grows.pre) rfl (by kernel_rfl) (by kernel_rfl) (by kernel_rfl) (by rfl) (v := ?av80) (fun W hW => ?ay80) (fun K hK => ?ar80); case ay80 => (obtain ⟨⟨z0, z1, z2⟩, ⟨y0, y1, y2⟩, s1, s2⟩ := (show ∀ W', Below n wr W' → _ from HX) W (hbn3.trans ((below_undrew hW).mono hbw3)); go_simp; first | done | rfl))
          | refine anyV_skip 8 (Grows.pre) rfl (by kernel_rfl) (by kernel_rfl) (by kernel_rfl) (by rfl) (fun K hK => ?_)
        go_simp
        refine hK _ ?_
        clear hK K
        first
          | (refine anyV_val 9 (Grows.pre) rfl (by kernel_rfl) (by kernel_rfl) (by kernel_rfl) (by rfl) (v := ?av81) (fun W hW => ?ay81) (fun K hK => ?ar81); case ay81 => (obtain ⟨⟨z0, z1, z2⟩, ⟨y0, y1, y2⟩, s1, s2⟩ := (show ∀ W', Below n wr W' → _ from HX) W (hbn3.trans ((below_undrew hW).mono hbw3)); go_simp; first | done | rfl))
          | refine anyV_skip 9 (Grows.pre) rfl (by kernel_rfl) (by kernel_rfl) (by kernel_rfl) (by rfl) (fun K hK => ?_)
        go_simp
        refine hK _ ?_
        clear hK K
        first
          | (refine anyV_val 10 (Grows.pre) rfl (by kernel_rfl) (by kernel_rfl) (by kernel_rfl) (by rfl) (v := ?av82) (fun W hW => ?ay82) (fun K hK => ?ar82); case ay82 => (obtain ⟨⟨z0, z1, z2⟩, ⟨y0, y1, y2⟩, s1, s2⟩ := (show ∀ W', Below n wr W' → _ from HX) W (hbn3.trans ((below_undrew hW).mono hbw3)); go_simp; first | done | rfl))
          | refine anyV_skip 10 (Grows.pre) rfl (by kernel_rfl) (by kernel_rfl) (by kernel_rfl) (by rfl) (fun K hK => ?_)
        go_simp
        refine hK _ ?_
        clear hK K
        first
          | (refine anyV_val 11 (Grows.pre) rfl (by kernel_rfl) (by kernel_rfl) (by kernel_rfl) (by rfl) (v := ?av83) (fun W hW => ?ay83) (fun K hK => ?ar83); case ay83 => (obtain ⟨⟨z0, z1, z2⟩, ⟨y0, y1, y2⟩, s1, s2⟩ := (show ∀ W', Below n wr W' → _ from HX) W (hbn3.trans ((below_undrew hW).mono hbw3)); go_simp; first | done | rfl))
          | refine anyV_skip 11 (Grows.pre) rfl (by kernel_rfl) (by kernel_rfl) (by kernel_rfl) (by rfl) (fun K hK => ?_)
        go_simp
        refine hK _ ?_
        clear hK K
        first
          | (refine anyV_val 12 (Grows.pre) rfl (by kernel_rfl) (by kernel_rfl) (by kernel_rfl) (by rfl) (v := ?av84) (fun W hW => ?ay84) (fun K hK => ?ar84); case ay84 => (obtain ⟨⟨z0, z1, z2⟩, ⟨y0, y1, y2⟩, s1, s2⟩ := (show ∀ W', Below n wr W' → _ from HX) W (hbn3.trans ((below_undrew hW).mono hbw3)); go_simp; first | done | rfl))
          | refine anyV_skip 12 (Grows.pre) rfl (by kernel_rfl) (by kernel_rfl) (by kernel_rfl) (by rfl) (fun K hK => ?_)
        go_simp
        refine hK _ ?_
        clear hK K
        first
          | (refine anyV_val 13 (Grows.pre) rfl (by kernel_rfl) (by kernel_rfl) (by kernel_rfl) (by rfl) (v := ?av85) (fun W hW => ?ay85) (fun K hK => ?ar85); case ay85 => (obtain ⟨⟨z0, z1, z2⟩, ⟨y0, y1, y2⟩, s1, s2⟩ := (show ∀ W', Below n wr W' → _ from HX) W (hbn3.trans ((below_undrew hW).mono hbw3)); go_simp; first | done | rfl))
          | refine anyV_skip 13 (Grows.pre) rfl (by kernel_rfl) (by kernel_rfl) (by kernel_rfl) (by rfl) (fun K hK => ?_)
        go_simp
        refine hK _ ?_
        clear hK K
        first
          | (refine anyV_val 14 (Grows.pre) rfl (by kernel_rfl) (by kernel_rfl) (by kernel_rfl) (by rfl) (v := ?av86) (fun W hW => ?ay86) (fun K hK => ?ar86); case ay86 => (obtain ⟨⟨z0, z1, z2⟩, ⟨y0, y1, y2⟩, s1, s2⟩ := (show ∀ W', Below n wr W' → _ from HX) W (hbn3.trans ((below_undrew hW).mono hbw3)); go_simp; first | done | rfl))
          | refine anyV_skip 14 (Grows.pre) rfl (by kernel_rfl) (by kernel_rfl) (by kernel_rfl) (by rfl) (fun K hK => ?_)
        go_simp
        refine hK _ ?_
        clear hK K
        first
          | (refine anyV_val 15 (Grows.pre) rfl (by kernel_rfl) (by kernel_rfl) (by kernel_rfl) (by rfl) (v := ?av87) (fun W hW => ?ay87) (fun K hK => ?ar87); case ay87 => (obtain ⟨⟨z0, z1, z2⟩, ⟨y0, y1, y2⟩, s1, s2⟩ := (show ∀ W', Below n wr W' → _ from HX) W (hbn3.trans ((below_undrew hW).mono hbw3)); go_simp; first | done | rfl))
          | refine anyV_skip 15 (Grows.pre) rfl (by kernel_rfl) (by kernel_rfl) (by kernel_rfl) (by rfl) (fun K hK => ?_)
        go_simp
        refine hK _ ?_
        clear hK K
        first
          | (refine anyV_val 16 (Grows.pre) rfl (by kernel_rfl) (by kernel_rfl) (by kernel_rfl) (by rfl) (v := ?av88) (fun W hW => ?ay88) (fun K hK => ?ar88); case ay88 => (obtain ⟨⟨z0, z1, z2⟩, ⟨y0, y1, y2⟩, s1, s2⟩ := (show ∀ W', Below n wr W' → _ from HX) W (hbn3.trans ((below_undrew hW).mono hbw3)); go_simp; first | done | rfl))
          | refine anyV_skip 16 (Grows.pre) rfl (by kernel_rfl) (by kernel_rfl) (by kernel_rfl) (by rfl) (fun K hK => ?_)
        go_simp
        refine hK _ ?_
        clear hK K
        first
          | (refine anyV_val 17 (Grows.pre) rfl (by kernel_rfl) (by kernel_rfl) (by kernel_rfl) (by rfl) (v := ?av89) (fun W hW => ?ay89) (fun K hK => ?ar89); case ay89 => (obtain ⟨⟨z0, z1, z2⟩, ⟨y0, y1, y2⟩, s1, s2⟩ := (show ∀ W', Below n wr W' → _ from HX) W (hbn3.trans ((below_undrew hW).mono hbw3)); go_simp; first | done | rfl))
          | refine anyV_skip 17 (Grows.pre) rfl (by kernel_rfl) (by kernel_rfl) (by kernel_rfl) (by rfl) (fun K hK => ?_)
        go_simp
        refine hK _ ?_
        clear hK K
        first
          | (refine anyV_val 18 (Grows.pre) rfl (by kernel_rfl) (by kernel_rfl) (by kernel_rfl) (by rfl) (v := ?av90) (fun W hW => ?ay90) (fun K hK => ?ar90); case ay90 => (obtain ⟨⟨z0, z1, z2⟩, ⟨y0, y1, y2⟩, s1, s2⟩ := (show ∀ W', Below n wr W' → _ from HX) W (hbn3.trans ((below_undrew hW).mono hbw3)); go_simp; first | done | rfl))
          | refine anyV_skip 18 (Grows.pre) rfl (by kernel_rfl) (by kernel_rfl) (by kernel_rfl) (by rfl) (fun K hK => ?_)
        go_simp
        refine hK _ ?_
        clear hK K
        first
          | (refine anyV_val 19 (Grows.pre) rfl (by kernel_rfl) (by kernel_rfl) (by kernel_rfl) (by rfl) (v := ?av91) (fun W hW => ?ay91) (fun K hK => ?ar91); case ay91 => (obtain ⟨⟨z0, z1, z2⟩, ⟨y0, y1, y2⟩, s1, s2⟩ := (show ∀ W', Below n wr W' → _ from HX) W (hbn3.trans ((below_undrew hW).mono hbw3)); go_simp; first | done | rfl))
          | refine anyV_skip 19 (Grows.pre) rfl (by kernel_rfl) (by kernel_rfl) (by kernel_rfl) (by rfl) (fun K hK => ?_)
        go_simp
        refine hK _ ?_
        clear hK K
        first
          | (refine anyV_val 20 (Grows.pre) rfl (by kernel_rfl) (by kernel_rfl) (by kernel_rfl) (by rfl) (v := ?av92) (fun W hW => ?ay92) (fun K hK => ?ar92); case ay92 => (obtain ⟨⟨z0, z1, z2⟩, ⟨y0, y1, y2⟩, s1, s2⟩ := (show ∀ W', Below n wr W' → _ from HX) W (hbn3.trans ((below_undrew hW).mono hbw3)); go_simp; first | done | rfl))
          | refine anyV_skip 20 (Grows.pre) rfl (by kernel_rfl) (by kernel_rfl) (by kernel_rfl) (by rfl) (fun K hK => ?_)
        go_simp
        refine hK _ ?_
        clear hK K
        first
          | (refine anyV_val 21 (Grows.pre) rfl (by kernel_rfl) (by kernel_rfl) (by kernel_rfl) (by rfl) (v := ?av93) (fun W hW => ?ay93) (fun K hK => ?ar93); case ay93 => (obtain ⟨⟨z0, z1, z2⟩, ⟨y0, y1, y2⟩, s1, s2⟩ := (show ∀ W', Below n wr W' → _ from HX) W (hbn3.trans ((below_undrew hW).mono hbw3)); go_simp; first | done | rfl))
          | refine anyV_skip 21 (Grows.pre) rfl (by kernel_rfl) (by kernel_rfl) (by kernel_rfl) (by rfl) (fun K hK => ?_)
        go_simp
        refine hK _ ?_
        clear hK K
        first
          | (refine anyV_val 22 (Grows.pre) rfl (by kernel_rfl) (by kernel_rfl) (by kernel_rfl) (by rfl) (v := ?av94) (fun W hW => ?ay94) (fun K hK => ?ar94); case ay94 => (obtain ⟨⟨z0, z1, z2⟩, ⟨y0, y1, y2⟩, s1, s2⟩ := (show ∀ W', Below n wr W' → _ from HX) W (hbn3.trans ((below_undrew hW).mono hbw3)); go_simp; first | done | rfl))
          | refine anyV_skip 22 (Grows.pre) rfl (by kernel_rfl) (by kernel_rfl) (by kernel_rfl) (by rfl) (fun K hK => ?_)
        go_simp
        refine hK _ ?_
        clear hK K
        first
          | (refine anyV_val 23 (Grows.pre) rfl (by kernel_rfl) (by kernel_rfl) (by kernel_rfl) (by rfl) (v := ?av95) (fun W hW => ?ay95) (fun K hK => ?ar95); case ay95 => (obtain ⟨⟨z0, z1, z2⟩, ⟨y0, y1, y2⟩, s1, s2⟩ := (show ∀ W', Below n wr W' → _ from HX) W (hbn3.trans ((below_undrew hW).mono hbw3)); go_simp; first | done | rfl))
          | refine anyV_skip 23 (Grows.pre) rfl (by kernel_rfl) (by kernel_rfl) (by kernel_rfl) (by rfl) (fun K hK => ?_)
        go_simp
        refine hK _ ?_
        clear hK K
        first
          | (refine anyV_val 24 (Grows.pre) rfl (by kernel_rfl) (by kernel_rfl) (by kernel_rfl) (by rfl) (v := ?av96) (fun W hW => ?ay96) (fun K hK => ?ar96); case ay96 => (obtain ⟨⟨z0, z1, z2⟩, ⟨y0, y1, y2⟩, s1, s2⟩ := (show ∀ W', Below n wr W' → _ from HX) W (hbn3.trans ((below_undrew hW).mono hbw3)); go_simp; first | done | rfl))
          | refine anyV_skip 24 (Grows.pre) rfl (by kernel_rfl) (by kernel_rfl) (by kernel_rfl) (by rfl) (fun K hK => ?_)
        go_simp
        refine hK _ ?_
        clear hK K
        first
          | (refine anyV_val 25 (Grows.pre) rfl (by kernel_rfl) (by kernel_rfl) (by kernel_rfl) (by rfl) (v := ?av97) (fun W hW => ?ay97) (fun K hK => ?ar97); case ay97 => (obtain ⟨⟨z0, z1, z2⟩, ⟨y0, y1, y2⟩, s1, s2⟩ := (show ∀ W', Below n wr W' → _ from HX) W (hbn3.trans ((below_undrew hW).mono hbw3)); go_simp; first | done | rfl))
          | refine anyV_skip 25 (Grows.pre) rfl (by kernel_rfl) (by kernel_rfl) (by kernel_rfl) (by rfl) (fun K hK => ?_)
        go_simp
        refine hK _ ?_
        clear hK K
        first
          | (refine anyV_val 26 (Grows.pre) rfl (by kernel_rfl) (by kernel_rfl) (by kernel_rfl) (by rfl) (v := ?av98) (fun W hW => ?ay98) (fun K hK => ?ar98); case ay98 => (obtain ⟨⟨z0, z1, z2⟩, ⟨y0, y1, y2⟩, s1, s2⟩ := (show ∀ W', Below n wr W' → _ from HX) W (hbn3.trans ((below_undrew hW).mono hbw3)); go_simp; first | done | rfl))
          | refine anyV_skip 26 (Grows.pre) rfl (by kernel_rfl) (by kernel_rfl) (by kernel_rfl) (by rfl) (fun K hK => ?_)
        go_simp
        refine hK _ ?_
        clear hK K
        first
          | (refine anyV_val 27 (Grows.pre) rfl (by kernel_rfl) (by kernel_rfl) (by kernel_rfl) (by rfl) (v := ?av99) (fun W hW => ?ay99) (fun K hK => ?ar99); case ay99 => (obtain ⟨⟨z0, z1, z2⟩, ⟨y0, y1, y2⟩, s1, s2⟩ := (show ∀ W', Below n wr W' → _ from HX) W (hbn3.trans ((below_undrew hW).mono hbw3)); go_simp; first | done | rfl))
          | refine anyV_skip 27 (Grows.pre) rfl (by kernel_rfl) (by kernel_rfl) (by kernel_rfl) (by rfl) (fun K hK => ?_)
        go_simp
        refine hK _ ?_
        clear hK K
        first
          | (refine anyV_val 28 (Grows.pre) rfl (by kernel_rfl) (by kernel_rfl) (by kernel_rfl) (by rfl) (v := ?av100) (fun W hW => ?ay100) (fun K hK => ?ar100); case ay100 => (obtain ⟨⟨z0, z1, z2⟩, ⟨y0, y1, y2⟩, s1, s2⟩ := (show ∀ W', Below n wr W' → _ from HX) W (hbn3.trans ((below_undrew hW).mono hbw3)); go_simp; first | done | rfl))
          | refine anyV_skip 28 (Grows.pre) rfl (by kernel_rfl) (by kernel_rfl) (by kernel_rfl) (by rfl) (fun K hK => ?_)
        go_simp
        refine hK _ ?_
        clear hK K
        first
          | (refine anyV_val 29 (Grows.pre) rfl (by kernel_rfl) (by kernel_rfl) (by kernel_rfl) (by rfl) (v := ?av101) (fun W hW => ?ay101) (fun K hK => ?ar101); case ay101 => (obtain ⟨⟨z0, z1, z2⟩, ⟨y0, y1, y2⟩, s1, s2⟩ := (show ∀ W', Below n wr W' → _ from HX) W (hbn3.trans ((below_undrew hW).mono hbw3)); go_simp; first | done | rfl))
          | refine anyV_skip 29 (Grows.pre) rfl (by kernel_rfl) (by kernel_rfl) (by kernel_rfl) (by rfl) (fun K hK => ?_)
        go_simp
        refine hK _ ?_
        clear hK K
        refine anyV_done (by kernel_rfl) ?_
        have hb4 : Below W.heap.size W w3.drew := ⟨hb3.os, hb3.tape, hb3.output, hb3.size, hb3.block⟩
        clear HX hb3 hbn3 b3'
        go_wp2_with fail
        go_ret
        exact ⟨false, rfl, ⟨fun h => by simp at h, fun h => absurd h HNE⟩, hb4⟩
      · clear hs1
        go_wp2_with fail
        refine wp_region_anyV Grows (by kernel_rfl) 30 rfl ?_
        first
          | (refine anyV_val 0 (Grows.pre) rfl (by kernel_rfl) (by kernel_rfl) (by kernel_rfl) (by rfl) (v := ?av102) (fun W hW => ?ay102) (fun K hK => ?ar102); case ay102 => (obtain ⟨⟨z0, z1, z2⟩, ⟨y0, y1, y2⟩, s1, s2⟩ := (show ∀ W', Below n wr W' → _ from HX) W (hbn3.trans ((below_undrew hW).mono hbw3)); go_simp; first | done | rfl))
          | refine anyV_skip 0 (Grows.pre) rfl (by kernel_rfl) (by kernel_rfl) (by kernel_rfl) (by rfl) (fun K hK => ?_)
        go_simp
        refine hK _ ?_
        clear hK K
        first
          | (refine anyV_val 1 (Grows.pre) rfl (by kernel_rfl) (by kernel_rfl) (by kernel_rfl) (by rfl) (v := ?av103) (fun W hW => ?ay103) (fun K hK => ?ar103); case ay103 => (obtain ⟨⟨z0, z1, z2⟩, ⟨y0, y1, y2⟩, s1, s2⟩ := (show ∀ W', Below n wr W' → _ from HX) W (hbn3.trans ((below_undrew hW).mono hbw3)); go_simp; first | done | rfl))
          | refine anyV_skip 1 (Grows.pre) rfl (by kernel_rfl) (by kernel_rfl) (by kernel_rfl) (by rfl) (fun K hK => ?_)
        go_simp
        refine hK _ ?_
        clear hK K
        first
          | (refine anyV_val 2 (Grows.pre) rfl (by kernel_rfl) (by kernel_rfl) (by kernel_rfl) (by rfl) (v := ?av104) (fun W hW => ?ay104) (fun K hK => ?ar104); case ay104 => (obtain ⟨⟨z0, z1, z2⟩, ⟨y0, y1, y2⟩, s1, s2⟩ := (show ∀ W', Below n wr W' → _ from HX) W (hbn3.trans ((below_undrew hW).mono hbw3)); go_simp; first | done | rfl))
          | refine anyV_skip 2 (Grows.pre) rfl (by kernel_rfl) (by kernel_rfl) (by kernel_rfl) (by rfl) (fun K hK => ?_)
        go_simp
        refine hK _ ?_
        clear hK K
        first
          | (refine anyV_val 3 (Grows.pre) rfl (by kernel_rfl) (by kernel_rfl) (by kernel_rfl) (by rfl) (v := ?av105) (fun W hW => ?ay105) (fun K hK => ?ar105); case ay105 => (obtain ⟨⟨z0, z1, z2⟩, ⟨y0, y1, y2⟩, s1, s2⟩ := (show ∀ W', Below n wr W' → _ from HX) W (hbn3.trans ((below_undrew hW).mono hbw3)); go_simp; first | done | rfl))
          | refine anyV_skip 3 (Grows.pre) rfl (by kernel_rfl) (by kernel_rfl) (by kernel_rfl) (by rfl) (fun K hK => ?_)
        go_simp
        refine hK _ ?_
        clear hK K
        first
          | (refine anyV_val 4 (Grows.pre) rfl (by kernel_rfl) (by kernel_rfl) (by kernel_rfl) (by rfl) (v := ?av106) (fun W hW => ?ay106) (fun K hK => ?ar106); case ay106 => (obtain ⟨⟨z0, z1, z2⟩, ⟨y0, y1, y2⟩, s1, s2⟩ := (show ∀ W', Below n wr W' → _ from HX) W (hbn3.trans ((below_undrew hW).mono hbw3)); go_simp; first | done | rfl))
          | refine anyV_skip 4 (Grows.pre) rfl (by kernel_rfl) (by kernel_rfl) (by kernel_rfl) (by rfl) (fun K hK => ?_)
        go_simp
        refine hK _ ?_
        clear hK K
        first
          | (refine anyV_val 5 (Grows.pre) rfl (by kernel_rfl) (by kernel_rfl) (by kernel_rfl) (by rfl) (v := ?av107) (fun W hW => ?ay107) (fun K hK => ?ar107); case ay107 => (obtain ⟨⟨z0, z1, z2⟩, ⟨y0, y1, y2⟩, s1, s2⟩ := (show ∀ W', Below n wr W' → _ from HX) W (hbn3.trans ((below_undrew hW).mono hbw3)); go_simp; first | done | rfl))
          | refine anyV_skip 5 (Grows.pre) rfl (by kernel_rfl) (by kernel_rfl) (by kernel_rfl) (by rfl) (fun K hK => ?_)
        go_simp
        refine hK _ ?_
        clear hK K
        first
          | (refine anyV_val 6 (Grows.pre) rfl (by kernel_rfl) (by kernel_rfl) (by kernel_rfl) (by rfl) (v := ?av108) (fun W hW => ?ay108) (fun K hK => ?ar108); case ay108 => (obtain ⟨⟨z0, z1, z2⟩, ⟨y0, y1, y2⟩, s1, s2⟩ := (show ∀ W', Below n wr W' → _ from HX) W (hbn3.trans ((below_undrew hW).mono hbw3)); go_simp; first | done | rfl))
          | refine anyV_skip 6 (Grows.pre) rfl (by kernel_rfl) (by kernel_rfl) (by kernel_rfl) (by rfl) (fun K hK => ?_)
        go_simp
        refine hK _ ?_
        clear hK K
        first
          | (refine anyV_val 7 (Grows.pre) rfl (by kernel_rfl) (by kernel_rfl) (by kernel_rfl) (by rfl) (v := ?av109) (fun W hW => ?ay109) (fun K hK => ?ar109); case ay109 => (obtain ⟨⟨z0, z1, z2⟩, ⟨y0, y1, y2⟩, s1, s2⟩ := (show ∀ W', Below n wr W' → _ from HX) W (hbn3.trans ((below_undrew hW).mono hbw3)); go_simp; first | done | rfl))
          | refine anyV_skip 7 (Grows.pre) rfl (by kernel_rfl) (by kernel_rfl) (by kernel_rfl) (by rfl) (fun K hK => ?_)
        go_simp
        refine hK _ ?_
        clear hK K
        first
          | (refine anyV_val 8 (Grows.pre) rfl (by kernel_rfl) (by kernel_rfl) (by kernel_rfl) (by rfl) (v := ?av110) (fun W hW => ?ay110) (fun K hK => ?ar110); case ay110 => (obtain ⟨⟨z0, z1, z2⟩, ⟨y0, y1, y2⟩, s1, s2⟩ := (show ∀ W', Below n wr W' → _ from HX) W (hbn3.trans ((below_undrew hW).mono hbw3)); go_simp; first | done | rfl))
          | refine anyV_skip 8 (Grows.pre) rfl (by kernel_rfl) (by kernel_rfl) (by kernel_rfl) (by rfl) (fun K hK => ?_)
        go_simp
        refine hK _ ?_
        clear hK K
        first
          | (refine anyV_val 9 (Grows.pre) rfl (by kernel_rfl) (by kernel_rfl) (by kernel_rfl) (by rfl) (v := ?av111) (fun W hW => ?ay111) (fun K hK => ?ar111); case ay111 => (obtain ⟨⟨z0, z1, z2⟩, ⟨y0, y1, y2⟩, s1, s2⟩ := (show ∀ W', Below n wr W' → _ from HX) W (hbn3.trans ((below_undrew hW).mono hbw3)); go_simp; first | done | rfl))
          | refine anyV_skip 9 (Grows.pre) rfl (by kernel_rfl) (by kernel_rfl) (by kernel_rfl) (by rfl) (fun K hK => ?_)
        go_simp
        refine hK _ ?_
        clear hK K
        first
          | (refine anyV_val 10 (Grows.pre) rfl (by kernel_rfl) (by kernel_rfl) (by kernel_rfl) (by rfl) (v := ?av112) (fun W hW => ?ay112) (fun K hK => ?ar112); case ay112 => (obtain ⟨⟨z0, z1, z2⟩, ⟨y0, y1, y2⟩, s1, s2⟩ := (show ∀ W', Below n wr W' → _ from HX) W (hbn3.trans ((below_undrew hW).mono hbw3)); go_simp; first | done | rfl))
          | refine anyV_skip 10 (Grows.pre) rfl (by kernel_rfl) (by kernel_rfl) (by kernel_rfl) (by rfl) (fun K hK => ?_)
        go_simp
        refine hK _ ?_
        clear hK K
        first
          | (refine anyV_val 11 (Grows.pre) rfl (by kernel_rfl) (by kernel_rfl) (by kernel_rfl) (by rfl) (v := ?av113) (fun W hW => ?ay113) (fun K hK => ?ar113); case ay113 => (obtain ⟨⟨z0, z1, z2⟩, ⟨y0, y1, y2⟩, s1, s2⟩ := (show ∀ W', Below n wr W' → _ from HX) W (hbn3.trans ((below_undrew hW).mono hbw3)); go_simp; first | done | rfl))
          | refine anyV_skip 11 (Grows.pre) rfl (by kernel_rfl) (by kernel_rfl) (by kernel_rfl) (by rfl) (fun K hK => ?_)
        go_simp
        refine hK _ ?_
        clear hK K
        first
          | (refine anyV_val 12 (Grows.pre) rfl (by kernel_rfl) (by kernel_rfl) (by kernel_rfl) (by rfl) (v := ?av114) (fun W hW => ?ay114) (fun K hK => ?ar114); case ay114 => (obtain ⟨⟨z0, z1, z2⟩, ⟨y0, y1, y2⟩, s1, s2⟩ := (show ∀ W', Below n wr W' → _ from HX) W (hbn3.trans ((below_undrew hW).mono hbw3)); go_simp; first | done | rfl))
          | refine anyV_skip 12 (Grows.pre) rfl (by kernel_rfl) (by kernel_rfl) (by kernel_rfl) (by rfl) (fun K hK => ?_)
        go_simp
        refine hK _ ?_
        clear hK K
        first
          | (refine anyV_val 13 (Grows.pre) rfl (by kernel_rfl) (by kernel_rfl) (by kernel_rfl) (by rfl) (v := ?av115) (fun W hW => ?ay115) (fun K hK => ?ar115); case ay115 => (obtain ⟨⟨z0, z1, z2⟩, ⟨y0, y1, y2⟩, s1, s2⟩ := (show ∀ W', Below n wr W' → _ from HX) W (hbn3.trans ((below_undrew hW).mono hbw3)); go_simp; first | done | rfl))
          | refine anyV_skip 13 (Grows.pre) rfl (by kernel_rfl) (by kernel_rfl) (by kernel_rfl) (by rfl) (fun K hK => ?_)
        go_simp
        refine hK _ ?_
        clear hK K
        first
          | (refine anyV_val 14 (Grows.pre) rfl (by kernel_rfl) (by kernel_rfl) (by kernel_rfl) (by rfl) (v := ?av116) (fun W hW => ?ay116) (fun K hK => ?ar116); case ay116 => (obtain ⟨⟨z0, z1, z2⟩, ⟨y0, y1, y2⟩, s1, s2⟩ := (show ∀ W', Below n wr W' → _ from HX) W (hbn3.trans ((below_undrew hW).mono hbw3)); go_simp; first | done | rfl))
          | refine anyV_skip 14 (Grows.pre) rfl (by kernel_rfl) (by kernel_rfl) (by kernel_rfl) (by rfl) (fun K hK => ?_)
        go_simp
        refine hK _ ?_
        clear hK K
        first
          | (refine anyV_val 15 (Grows.pre) rfl (by kernel_rfl) (by kernel_rfl) (by kernel_rfl) (by rfl) (v := ?av117) (fun W hW => ?ay117) (fun K hK => ?ar117); case ay117 => (obtain ⟨⟨z0, z1, z2⟩, ⟨y0, y1, y2⟩, s1, s2⟩ := (show ∀ W', Below n wr W' → _ from HX) W (hbn3.trans ((below_undrew hW).mono hbw3)); go_simp; first | done | rfl))
          | refine anyV_skip 15 (Grows.pre) rfl (by kernel_rfl) (by kernel_rfl) (by kernel_rfl) (by rfl) (fun K hK => ?_)
        go_simp
        refine hK _ ?_
        clear hK K
        first
          | (refine anyV_val 16 (Grows.pre) rfl (by kernel_rfl) (by kernel_rfl) (by kernel_rfl) (by rfl) (v := ?av118) (fun W hW => ?ay118) (fun K hK => ?ar118); case ay118 => (obtain ⟨⟨z0, z1, z2⟩, ⟨y0, y1, y2⟩, s1, s2⟩ := (show ∀ W', Below n wr W' → _ from HX) W (hbn3.trans ((below_undrew hW).mono hbw3)); go_simp; first | done | rfl))
          | refine anyV_skip 16 (Grows.pre) rfl (by kernel_rfl) (by kernel_rfl) (by kernel_rfl) (by rfl) (fun K hK => ?_)
        go_simp
        refine hK _ ?_
        clear hK K
        first
          | (refine anyV_val 17 (Grows.pre) rfl (by kernel_rfl) (by kernel_rfl) (by kernel_rfl) (by rfl) (v := ?av119) (fun W hW => ?ay119) (fun K hK => ?ar119); case ay119 => (obtain ⟨⟨z0, z1, z2⟩, ⟨y0, y1, y2⟩, s1, s2⟩ := (show ∀ W', Below n wr W' → _ from HX) W (hbn3.trans ((below_undrew hW).mono hbw3)); go_simp; first | done | rfl))
          | refine anyV_skip 17 (Grows.pre) rfl (by kernel_rfl) (by kernel_rfl) (by kernel_rfl) (by rfl) (fun K hK => ?_)
        go_simp
        refine hK _ ?_
        clear hK K
        first
          | (refine anyV_val 18 (Grows.pre) rfl (by kernel_rfl) (by kernel_rfl) (by kernel_rfl) (by rfl) (v := ?av120) (fun W hW => ?ay120) (fun K hK => ?ar120); case ay120 => (obtain ⟨⟨z0, z1, z2⟩, ⟨y0, y1, y2⟩, s1, s2⟩ := (show ∀ W', Below n wr W' → _ from HX) W (hbn3.trans ((below_undrew hW).mono hbw3)); go_simp; first | done | rfl))
          | refine anyV_skip 18 (Grows.pre) rfl (by kernel_rfl) (by kernel_rfl) (by kernel_rfl) (by rfl) (fun K hK => ?_)
        go_simp
        refine hK _ ?_
        clear hK K
        first
          | (refine anyV_val 19 (Grows.pre) rfl (by kernel_rfl) (by kernel_rfl) (by kernel_rfl) (by rfl) (v := ?av121) (fun W hW => ?ay121) (fun K hK => ?ar121); case ay121 => (obtain ⟨⟨z0, z1, z2⟩, ⟨y0, y1, y2⟩, s1, s2⟩ := (show ∀ W', Below n wr W' → _ from HX) W (hbn3.trans ((below_undrew hW).mono hbw3)); go_simp; first | done | rfl))
          | refine anyV_skip 19 (Grows.pre) rfl (by kernel_rfl) (by kernel_rfl) (by kernel_rfl) (by rfl) (fun K hK => ?_)
        go_simp
        refine hK _ ?_
        clear hK K
        first
          | (refine anyV_val 20 (Grows.pre) rfl (by kernel_rfl) (by kernel_rfl) (by kernel_rfl) (by rfl) (v := ?av122) (fun W hW => ?ay122) (fun K hK => ?ar122); case ay122 => (obtain ⟨⟨z0, z1, z2⟩, ⟨y0, y1, y2⟩, s1, s2⟩ := (show ∀ W', Below n wr W' → _ from HX) W (hbn3.trans ((below_undrew hW).mono hbw3)); go_simp; first | done | rfl))
          | refine anyV_skip 20 (Grows.pre) rfl (by kernel_rfl) (by kernel_rfl) (by kernel_rfl) (by rfl) (fun K hK => ?_)
        go_simp
        refine hK _ ?_
        clear hK K
        first
          | (refine anyV_val 21 (Grows.pre) rfl (by kernel_rfl) (by kernel_rfl) (by kernel_rfl) (by rfl) (v := ?av123) (fun W hW => ?ay123) (fun K hK => ?ar123); case ay123 => (obtain ⟨⟨z0, z1, z2⟩, ⟨y0, y1, y2⟩, s1, s2⟩ := (show ∀ W', Below n wr W' → _ from HX) W (hbn3.trans ((below_undrew hW).mono hbw3)); go_simp; first | done | rfl))
          | refine anyV_skip 21 (Grows.pre) rfl (by kernel_rfl) (by kernel_rfl) (by kernel_rfl) (by rfl) (fun K hK => ?_)
        go_simp
        refine hK _ ?_
        clear hK K
        first
          | (refine anyV_val 22 (Grows.pre) rfl (by kernel_rfl) (by kernel_rfl) (by kernel_rfl) (by rfl) (v := ?av124) (fun W hW => ?ay124) (fun K hK => ?ar124); case ay124 => (obtain ⟨⟨z0, z1, z2⟩, ⟨y0, y1, y2⟩, s1, s2⟩ := (show ∀ W', Below n wr W' → _ from HX) W (hbn3.trans ((below_undrew hW).mono hbw3)); go_simp; first | done | rfl))
          | refine anyV_skip 22 (Grows.pre) rfl (by kernel_rfl) (by kernel_rfl) (by kernel_rfl) (by rfl) (fun K hK => ?_)
        go_simp
        refine hK _ ?_
        clear hK K
        first
          | (refine anyV_val 23 (Grows.pre) rfl (by kernel_rfl) (by kernel_rfl) (by kernel_rfl) (by rfl) (v := ?av125) (fun W hW => ?ay125) (fun K hK => ?ar125); case ay125 => (obtain ⟨⟨z0, z1, z2⟩, ⟨y0, y1, y2⟩, s1, s2⟩ := (show ∀ W', Below n wr W' → _ from HX) W (hbn3.trans ((below_undrew hW).mono hbw3)); go_simp; first | done | rfl))
          | refine anyV_skip 23 (Grows.pre) rfl (by kernel_rfl) (by kernel_rfl) (by kernel_rfl) (by rfl) (fun K hK => ?_)
        go_simp
        refine hK _ ?_
        clear hK K
        first
          | (refine anyV_val 24 (Grows.pre) rfl (by kernel_rfl) (by kernel_rfl) (by kernel_rfl) (by rfl) (v := ?av126) (fun W hW => ?ay126) (fun K hK => ?ar126); case ay126 => (obtain ⟨⟨z0, z1, z2⟩, ⟨y0, y1, y2⟩, s1, s2⟩ := (show ∀ W', Below n wr W' → _ from HX) W (hbn3.trans ((below_undrew hW).mono hbw3)); go_simp; first | done | rfl))
          | refine anyV_skip 24 (Grows.pre) rfl (by kernel_rfl) (by kernel_rfl) (by kernel_rfl) (by rfl) (fun K hK => ?_)
        go_simp
        refine hK _ ?_
        clear hK K
        first
          | (refine anyV_val 25 (Grows.pre) rfl (by kernel_rfl) (by kernel_rfl) (by kernel_rfl) (by rfl) (v := ?av127) (fun W hW => ?ay127) (fun K hK => ?ar127); case ay127 => (obtain ⟨⟨z0, z1, z2⟩, ⟨y0, y1, y2⟩, s1, s2⟩ := (show ∀ W', Below n wr W' → _ from HX) W (hbn3.trans ((below_undrew hW).mono hbw3)); go_simp; first | done | rfl))
          | refine anyV_skip 25 (Grows.pre) rfl (by kernel_rfl) (by kernel_rfl) (by kernel_rfl) (by rfl) (fun K hK => ?_)
        go_simp
        refine hK _ ?_
        clear hK K
        first
          | (refine anyV_val 26 (Grows.pre) rfl (by kernel_rfl) (by kernel_rfl) (by kernel_rfl) (by rfl) (v := ?av128) (fun W hW => ?ay128) (fun K hK => ?ar128); case ay128 => (obtain ⟨⟨z0, z1, z2⟩, ⟨y0, y1, y2⟩, s1, s2⟩ := (show ∀ W', Below n wr W' → _ from HX) W (hbn3.trans ((below_undrew hW).mono hbw3)); go_simp; first | done | rfl))
          | refine anyV_skip 26 (Grows.pre) rfl (by kernel_rfl) (by kernel_rfl) (by kernel_rfl) (by rfl) (fun K hK => ?_)
        go_simp
        refine hK _ ?_
        clear hK K
        first
          | (refine anyV_val 27 (Grows.pre) rfl (by kernel_rfl) (by kernel_rfl) (by kernel_rfl) (by rfl) (v := ?av129) (fun W hW => ?ay129) (fun K hK => ?ar129); case ay129 => (obtain ⟨⟨z0, z1, z2⟩, ⟨y0, y1, y2⟩, s1, s2⟩ := (show ∀ W', Below n wr W' → _ from HX) W (hbn3.trans ((below_undrew hW).mono hbw3)); go_simp; first | done | rfl))
          | refine anyV_skip 27 (Grows.pre) rfl (by kernel_rfl) (by kernel_rfl) (by kernel_rfl) (by rfl) (fun K hK => ?_)
        go_simp
        refine hK _ ?_
        clear hK K
        first
          | (refine anyV_val 28 (Grows.pre) rfl (by kernel_rfl) (by kernel_rfl) (by kernel_rfl) (by rfl) (v := ?av130) (fun W hW => ?ay130) (fun K hK => ?ar130); case ay130 => (obtain ⟨⟨z0, z1, z2⟩, ⟨y0, y1, y2⟩, s1, s2⟩ := (show ∀ W', Below n wr W' → _ from HX) W (hbn3.trans ((below_undrew hW).mono hbw3)); go_simp; first | done | rfl))
          | refine anyV_skip 28 (Grows.pre) rfl (by kernel_rfl) (by kernel_rfl) (by kernel_rfl) (by rfl) (fun K hK => ?_)
        go_simp
        refine hK _ ?_
        clear hK K
        first
          | (refine anyV_val 29 (Grows.pre) rfl (by kernel_rfl) (by kernel_rfl) (by kernel_rfl) (by rfl) (v := ?av131) (fun W hW => ?ay131) (fun K hK => ?ar131); case ay131 => (obtain ⟨⟨z0, z1, z2⟩, ⟨y0, y1, y2⟩, s1, s2⟩ := (show ∀ W', Below n wr W' → _ from HX) W (hbn3.trans ((below_undrew hW).mono hbw3)); go_simp; first | done | rfl))
          | refine anyV_skip 29 (Grows.pre) rfl (by kernel_rfl) (by kernel_rfl) (by kernel_rfl) (by rfl) (fun K hK => ?_)
        go_simp
        refine hK _ ?_
        clear hK K
        refine anyV_done (by kernel_rfl) ?_
        have hb4 : Below W.heap.size W w3.drew := ⟨hb3.os, hb3.tape, hb3.output, hb3.size, hb3.block⟩
        clear HX hb3 hbn3 b3'
        go_wp2_with fail
        go_ret
        exact ⟨false, rfl, ⟨fun h => by simp at h, fun h => absurd h HNE⟩, hb4⟩
theorem rsame_any (f : Forest) : RSameOK f := Forest.all RSameOK rsame_step f
end Go.Proofs.Ytdlhnipkhlihjaa
