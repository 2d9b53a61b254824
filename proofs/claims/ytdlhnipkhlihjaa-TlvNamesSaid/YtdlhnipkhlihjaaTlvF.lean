/- The walk of slices.Equal and tlv.Same. -/
import Derived.Test.YtdlhnipkhlihjaaTlvD
import Derived.BigRegion
namespace Go.Proofs.Ytdlhnipkhlihjaa
open Go Go.RowKit
set_option linter.unusedVariables false
set_option linter.unnecessarySimpa false
theorem take_next {xs ys : List Int} {k : Nat} (h : xs.take k = ys.take k) (h1 : k < xs.length) (h2 : k < ys.length) (he : xs[k] = ys[k]) : xs.take (k + 1) = ys.take (k + 1) := by
  rw [List.take_succ_eq_append_getElem h1, List.take_succ_eq_append_getElem h2, h, he]
set_option maxRecDepth 100000 in
set_option maxHeartbeats 2000000 in
theorem equal_any (W : World) (n : Nat) (hn : n ≤ W.heap.size) (a : Option Addr) (la ca : Nat) (xs : List Int) (h1 : Row8 n W (.slice a la ca) xs) (b : Option Addr) (lb cb : Nat) (ys : List Int) (h2 : Row8 n W (.slice b lb cb) ys) (hsm : la ≤ 140737488351232) :
    Calls Try.prog 31 #[.slice a la ca, .slice b lb cb] W fun e W' => e = .returned (.bool (decide (xs = ys))) ∧ Below W.heap.size W W' := by
  obtain ⟨e1, b1, o1, op1, hc1⟩ := h1.1.open
  obtain ⟨e2, b2, o2, op2, hc2⟩ := h2.1.open
  go_enter Try.func31, Try.ntmps31
  by_cases hl : la = lb
  rotate_left
  · have t1 : ((la : Int) != (lb : Int)) = true := by simp; omega
    have hne : decide (xs = ys) = false := by simp; intro h; subst h; omega
    rw [hne]
    go_wp2
    go_ret
    exact ⟨rfl, Below.refl _ _⟩
  subst hl
  go_wp2
  go_loopw [5, 13] (fun _ i wr => ∃ k : Nat, k ≤ la ∧ i = .int .i64 (k : Int) ∧ Hid (xs.take k = ys.take k) ∧ Below W.heap.size W wr) (fun _ i _ => la - (intOf i).toNat)
  case atStart => exact ⟨0, Nat.zero_le _, rfl, rfl, Below.refl _ _⟩
  case round =>
    obtain ⟨k, hk, rfl, hT, hb⟩ := hrel
    by_cases hlt : k < la
    · have t1 : decide ((k : Int) < (la : Int)) = true := by simp; omega
      obtain ⟨rfl, hb1, _, _⟩ := op1 (by omega)
      obtain ⟨rfl, hb2, _, _⟩ := op2 (by omega)
      have c1 : wr.cell? ⟨b1, o1 + k, none⟩ = some (.int .u8 (xs.getD k 0)) := (hb.cell (p := ⟨b1, o1 + k, none⟩) (by show b1 < _; omega)).trans (hc1 k hlt)
      have c2 : wr.cell? ⟨b2, o2 + k, none⟩ = some (.int .u8 (ys.getD k 0)) := (hb.cell (p := ⟨b2, o2 + k, none⟩) (by show b2 < _; omega)).trans (hc2 k hlt)
      rw [getD_at _ _ (by omega)] at c1 c2
      obtain ⟨X, hX⟩ : ∃ X, X = xs[k]'(by omega) := ⟨_, rfl⟩
      obtain ⟨Y, hY⟩ : ∃ Y, Y = ys[k]'(by omega) := ⟨_, rfl⟩
      rw [← hX] at c1
      rw [← hY] at c2
      have HX := Lib.hid hX
      have HY := Lib.hid hY
      have HC1 := Lib.hid hc1
      have HC2 := Lib.hid hc2
      clear hX hY hc1 hc2
      by_cases hXY : X = Y
      · have t2 : (X != Y) = false := by simp [hXY]
        have HE := Lib.hid hXY
        clear hXY
        go_wp2_with fail
        go_region
        go_wp2
        go_roundw
        case rel =>
          have hX : X = xs[k]'(by omega) := HX
          have hY : Y = ys[k]'(by omega) := HY
          have hXY : X = Y := HE
          exact ⟨k + 1, by omega, by go_num, take_next hT (by omega) (by omega) (by rw [← hX, ← hY, hXY]), ⟨hb.os, hb.tape, hb.output, hb.size, hb.block⟩⟩
        case measure => simp [intOf]; omega
      · have t2 : (X != Y) = true := by simpa using hXY
        have hne : decide (xs = ys) = false := by
          simp; intro h; subst h
          exact hXY ((show X = _ from HX).trans (show Y = _ from HY).symm)
        have HN := Lib.hid hne
        clear hXY hne
        go_wp2_with fail
        go_region
        go_wp2
        go_ret
        exact ⟨by rw [show decide (xs = ys) = false from HN]; rfl, ⟨hb.os, hb.tape, hb.output, hb.size, hb.block⟩⟩
    · have t1 : decide ((k : Int) < (la : Int)) = false := by simp; omega
      obtain rfl : k = la := by omega
      have hT2 : xs.take k = ys.take k := hT
      rw [List.take_of_length_le (by omega), List.take_of_length_le (by omega)] at hT2
      have heq : decide (xs = ys) = true := by simpa using hT2
      have HN := Lib.hid heq
      clear hT2 hT heq
      go_wp2
      go_ret
      exact ⟨by rw [show decide (xs = ys) = true from HN]; rfl, hb⟩
/-- what Same answers -/
def SameOK (f : Forest) : Prop := ∀ (g : Forest) (W : World) (n : Nat) (a : Option Addr) (la ca : Nat) (b : Option Addr) (lb cb : Nat), n ≤ W.heap.size → SlF n W a la ca f → SlF n W b lb cb g →
  Calls Try.prog 14 #[.slice a la ca, .slice b lb cb] W fun e W' => ∃ r : Bool, e = .returned (.bool r) ∧ (r = true ↔ f = g) ∧ Below W.heap.size W W'
set_option maxRecDepth 100000 in
set_option maxHeartbeats 4000000 in
theorem same1_any (k1 : Forest) (hk : SameOK k1) (k2 : Forest) (W : World) (n : Nat) (hn : n ≤ W.heap.size) (t1 t2 : Int) (a1 : Option Addr) (l1 c1 : Nat) (x1 : List Int) (h1 : Row8 n W (.slice a1 l1 c1) x1) (hl1 : x1.length ≤ 140737488351232) (a2 : Option Addr) (l2 c2 : Nat) (x2 : List Int) (h2 : Row8 n W (.slice a2 l2 c2) x2)
    (b1 : Option Addr) (m1 d1 : Nat) (s1 : SlF n W b1 m1 d1 k1) (b2 : Option Addr) (m2 d2 : Nat) (s2 : SlF n W b2 m2 d2 k2) :
    Calls Try.prog 30 #[.agg #[.int .i64 t1, .slice a1 l1 c1, .slice b1 m1 d1], .agg #[.int .i64 t2, .slice a2 l2 c2, .slice b2 m2 d2]] W fun e W' => ∃ r : Bool, e = .returned (.bool r) ∧ (r = true ↔ t1 = t2 ∧ x1 = x2 ∧ k1 = k2) ∧ Below W.heap.size W W' := by
  have e1 := h1.1.open.1
  have bX : ∀ (X Y : Obj), Below W.heap.size W ((W.alloc X).alloc Y) := fun X Y => ((Below.refl _ W).alloc (Nat.le_refl _) X).alloc (by simp) Y
  have bn : ∀ V, Below W.heap.size W V → Below n W V := fun V h => ⟨h.os, h.tape, h.output, h.size, fun q hq => h.block q (by omega)⟩
  go_enter Try.func30, Try.ntmps30
  by_cases ht : t1 = t2
  rotate_left
  · have u1 : (t1 == t2) = false := by simpa using ht
    have HT := Lib.hid ht
    clear ht
    go_wp2
    go_ret
    exact ⟨false, rfl, ⟨fun h => by simp at h, fun h => absurd h.1 HT⟩, bX _ _⟩
  have u1 : (t1 == t2) = true := by simpa using ht
  have HT := Lib.hid ht
  clear ht
  go_wp2_with (go_at_call 31; refine held ?_)
  unfold Held
  obtain ⟨V, hV⟩ : ∃ V, V = (W.alloc (.cells #[.int .i64 t1, .slice a1 l1 c1, .slice b1 m1 d1] 30)).alloc (.cells #[.int .i64 t2, .slice a2 l2 c2, .slice b2 m2 d2] 30) := ⟨_, rfl⟩
  have bV : Below W.heap.size W V := by rw [hV]; exact bX _ _
  have p1 : V.heap[W.heap.size]? = some (.cells #[.int .i64 t1, .slice a1 l1 c1, .slice b1 m1 d1] 30) := by rw [hV]; exact (Below.heap_alloc _ _ _ (by simp)).trans (World.alloc_heap_new _ _)
  have p2 : V.heap[W.heap.size + 1]? = some (.cells #[.int .i64 t2, .slice a2 l2 c2, .slice b2 m2 d2] 30) := by
    rw [hV, show W.heap.size + 1 = (W.alloc (.cells #[.int .i64 t1, .slice a1 l1 c1, .slice b1 m1 d1] 30)).heap.size from (World.size_alloc ..).symm]; exact World.alloc_heap_new _ _
  have sV : V.heap.size = W.heap.size + 2 := by rw [hV]; simp
  rw [← hV]
  clear hV bX
  have bVs := bV.size
  refine (equal_any V n (by omega) a1 l1 c1 x1 (h1.below (bn V bV)) a2 l2 c2 x2 (h2.below (bn V bV)) (by omega)).mono ?_
  rintro e w2 ⟨rfl, b2'⟩
  have q1 := (b2'.block W.heap.size (by omega)).trans p1
  have q2 := (b2'.block (W.heap.size + 1) (by omega)).trans p2
  have y1 : w2.cell? ⟨W.heap.size, 2, none⟩ = some (.slice b1 m1 d1) := by rw [cell_of_row w2 _ 2 _ _ _ q1]; rfl
  have y2 : w2.cell? ⟨W.heap.size + 1, 2, none⟩ = some (.slice b2 m2 d2) := by rw [cell_of_row w2 _ 2 _ _ _ q2]; rfl
  have bw2 : Below W.heap.size W w2 := bV.trans (b2'.mono (by omega))
  have bw2s := bw2.size
  clear p1 p2 q1 q2 b2' bV
  by_cases hx : x1 = x2
  rotate_left
  · have u2 : decide (x1 = x2) = false := by simpa using hx
    have HX := Lib.hid hx
    rw [u2]
    clear hx u2
    go_wp2
    go_ret
    exact ⟨false, rfl, ⟨fun h => by simp at h, fun h => absurd h.2.1 HX⟩, bw2⟩
  have u2 : decide (x1 = x2) = true := by simpa using hx
  have HX := Lib.hid hx
  rw [u2]
  clear hx u2
  have kk := hk k2 w2 n b1 m1 d1 b2 m2 d2 (by omega) (s1.below (bn w2 bw2)) (s2.below (bn w2 bw2))
  go_wp2_with (go_at_call 14; refine held ?_)
  unfold Held
  refine kk.mono ?_
  rintro e w3 ⟨r, rfl, hr, b3⟩
  have HR := Lib.hid hr
  replace b3 := bw2.trans (b3.mono (by omega))
  clear hr kk y1 y2
  go_wp2
  go_ret
  refine ⟨r, rfl, ?_, b3⟩
  have hr : r = true ↔ k1 = k2 := HR
  exact hr.trans ⟨fun h => ⟨HT, HX, h⟩, fun h => h.2.2⟩
set_option maxRecDepth 100000 in
set_option maxHeartbeats 4000000 in
theorem same_step (f : Forest) (hk : f.AllKids SameOK) : SameOK f := by
  intro g W n a la ca b lb cb hn h1 h2
  have bn : ∀ V, Below W.heap.size W V → Below n W V := fun V h => ⟨h.os, h.tape, h.output, h.size, fun q hq => h.block q (by omega)⟩
  have hs1 := h1.small
  have hs2 := h2.small
  have key : Calls Try.prog 29 #[.slice a la ca, .slice b lb cb, .func (.func 30) #[] #[]] W fun e W' => ∃ r : Bool, e = .returned (.bool r) ∧ (r = true ↔ f = g) ∧ Below W.heap.size W W' := by
    go_enter Try.func29, Try.ntmps29
    by_cases hl : la = lb
    rotate_left
    · have t1 : ((la : Int) != (lb : Int)) = true := by simp; omega
      have hne : ¬ f = g := by intro h; subst h; have := h1.1; have := h2.1; omega
      have HN := Lib.hid hne
      clear hne
      go_wp2
      go_ret
      exact ⟨false, rfl, ⟨fun h => by simp at h, fun h => absurd h HN⟩, Below.refl _ _⟩
    subst hl
    go_wp2
    go_loopw [7, 8, 9, 17] (fun _ _ _ i wr => ∃ (k : Nat) (F G : Forest), i = .int .i64 (k : Int) ∧ k + F.length = la ∧ G.length = F.length ∧ F.AllKids SameOK ∧ Hid (f = g ↔ F = G) ∧ (∀ q off, a = some ⟨q, off, none⟩ → 0 < la → q < n ∧ RowF n W F q (off + k * 3)) ∧ (∀ q off, b = some ⟨q, off, none⟩ → 0 < la → q < n ∧ RowF n W G q (off + k * 3)) ∧ Below W.heap.size W wr) (fun _ _ _ i _ => la - (intOf i).toNat)
    case atStart =>
      refine ⟨0, f, g, rfl, by have := h1.1; omega, by have := h1.1; have := h2.1; omega, hk, Iff.rfl, fun q off ha hl => ?_, fun q off hb hl => ?_, Below.refl _ _⟩
      · obtain ⟨_, h0 | ⟨b', off', ha', hb', _, _, hrow⟩⟩ := h1
        · omega
        · rw [ha] at ha'; injection ha' with ha'; injection ha' with e1 e2; subst e1 e2
          exact ⟨hb', by simpa using hrow⟩
      · obtain ⟨_, h0 | ⟨b', off', ha', hb', _, _, hrow⟩⟩ := h2
        · omega
        · rw [hb] at ha'; injection ha' with ha'; injection ha' with e1 e2; subst e1 e2
          exact ⟨hb', by simpa using hrow⟩
    case round =>
      obtain ⟨k, F, G, rfl, hkF, hGF, hkk, hiff, hrF, hrG, hb0⟩ := hrel
      by_cases hlt : k < la
      · have t1 : decide ((k : Int) < (la : Int)) = true := by simp; omega
        obtain ⟨_, h0 | ⟨q1, o1, rfl, hq1, hc1, hm1, _⟩⟩ := h1
        · omega
        obtain ⟨_, h0 | ⟨q2, o2, rfl, hq2, hc2, hm2, _⟩⟩ := h2
        · omega
        have bnw := bn wr hb0
        obtain ⟨_, hrF2⟩ := hrF q1 o1 rfl (by omega)
        obtain ⟨_, hrG2⟩ := hrG q2 o2 rfl (by omega)
        obtain ⟨t, bs, kd, r, ba, blen, bcap, ka, kl, kc, rfl, c0, c1, c2, ht1, ht2, ⟨hb, hbl⟩, hkids, hr⟩ := (RowF.below bnw F q1 _ hq1 hrF2).open (by omega)
        obtain ⟨t', bs', kd', r', ba', blen', bcap', ka', kl', kc', rfl, d0, d1, d2, ht1', ht2', ⟨hb', hbl'⟩, hkids', hr'⟩ := (RowF.below bnw G q2 _ hq2 hrG2).open (by omega)
        have hrr : RowF n W r q1 (o1 + k * 3 + 3) := by
          obtain ⟨_, _, _, _, _, _, _, _, _, _, _, _, _, _, h⟩ := hrF2
          exact h
        have hrr' : RowF n W r' q2 (o2 + k * 3 + 3) := by
          obtain ⟨_, _, _, _, _, _, _, _, _, _, _, _, _, _, h⟩ := hrG2
          exact h
        obtain ⟨hkk1, hkk2⟩ := hkk
        have hlw := hb0.size
        have hq1w : q1 < wr.heap.size := by omega
        have hq2w : q2 < wr.heap.size := by omega
        have HI := Lib.hid hiff
        have HR := Lib.hid hrr
        have HR' := Lib.hid hrr'
        have hL : (Forest.cons t bs kd r).length = r.length + 1 := rfl
        have hL' : (Forest.cons t' bs' kd' r').length = r'.length + 1 := rfl
        clear hrF hrG hrF2 hrG2 hiff hrr hrr' hr hr'
        have bZ : ∀ (X Y : Obj), Below wr.heap.size wr ((wr.alloc X).alloc Y) := fun X Y => ((Below.refl _ wr).alloc (Nat.le_refl _) X).alloc (by simp) Y
        have bZn : ∀ (X Y : Obj), Below n wr ((wr.alloc X).alloc Y) := fun X Y => ⟨(bZ X Y).os, (bZ X Y).tape, (bZ X Y).output, (bZ X Y).size, fun q hq => (bZ X Y).block q (by omega)⟩
        have ks := fun (X Y : Obj) => same1_any kd hkk1 kd' ((wr.alloc X).alloc Y) n (by simp; omega) t t' ba blen bcap bs (hb.below (bZn X Y)) hbl ba' blen' bcap' bs' (hb'.below (bZn X Y)) ka kl kc (hkids.below (bZn X Y)) ka' kl' kc' (hkids'.below (bZn X Y))
        go_wp2_with (go_at_call 30; refine held ?_)
        unfold Held
        refine (ks _ _).mono ?_
        rintro e w3 ⟨rb, rfl, hrb, b3⟩
        have b4 : Below W.heap.size W w3 := hb0.trans (((bZ _ _).mono hlw).trans (b3.mono (by simp; omega)))
        clear ks b3 bZ bZn
        have HB := Lib.hid hrb
        clear hrb
        cases rb with
        | false =>
          go_wp2
          go_ret
          have hne : ¬ f = g := fun h => by
            have h2 := (show f = g ↔ Forest.cons t bs kd r = Forest.cons t' bs' kd' r' from HI).1 h
            injection h2 with x1 x2 x3 x4
            have := ((show false = true ↔ t = t' ∧ bs = bs' ∧ kd = kd' from HB).2 ⟨x1, x2, x3⟩)
            simp at this
          first
            | exact ⟨false, rfl, ⟨fun h => by simp at h, fun h => absurd h hne⟩, b4⟩
            | exact .inl ⟨rfl, hne, b4⟩
        | true =>
          go_wp2
          go_roundw
          case rel =>
            obtain ⟨x1, x2, x3⟩ := (show True ↔ t = t' ∧ bs = bs' ∧ kd = kd' from HB).1 trivial
            refine ⟨k + 1, r, r', by go_num, by omega, by omega, hkk2, ?_, fun q off ha hl => ?_, fun q off ha hl => ?_, b4⟩
            · subst x1 x2 x3
              exact (show f = g ↔ Forest.cons t bs kd r = Forest.cons t bs kd r' from HI).trans ⟨fun h => by injection h, fun h => by rw [h]⟩
            · injection ha with ha; injection ha with z1 z2; subst z1 z2
              exact ⟨hq1, by rw [show o1 + (k + 1) * 3 = o1 + k * 3 + 3 by omega]; exact HR⟩
            · injection ha with ha; injection ha with z1 z2; subst z1 z2
              exact ⟨hq2, by rw [show o2 + (k + 1) * 3 = o2 + k * 3 + 3 by omega]; exact HR'⟩
          case measure => simp [intOf]; omega
      · have t1 : decide ((k : Int) < (la : Int)) = false := by simp; omega
        have hF : F = .nil := by
          cases F with
          | nil => rfl
          | cons t bs k2 r => simp [Forest.length] at hkF; omega
        subst hF
        have hG : G = .nil := by
          cases G with
          | nil => rfl
          | cons t bs k2 r => simp [Forest.length] at hGF
        subst hG
        have HI := Lib.hid hiff
        clear hrF hrG hiff
        go_wp2
        go_ret
        first
          | exact ⟨true, rfl, ⟨fun _ => (show f = g ↔ True from HI).2 trivial, fun _ => rfl⟩, hb0⟩
          | exact .inr ⟨rfl, (show f = g ↔ True from HI).2 trivial, hb0⟩
  go_enter Try.func14, Try.ntmps14
  go_wp2_with (go_at_call 29; refine held ?_)
  unfold Held
  refine key.mono ?_
  rintro e w1 ⟨r, rfl, hr, b1⟩
  have HR := Lib.hid hr
  clear hr key
  go_wp2
  go_ret
  exact ⟨r, rfl, HR, b1⟩
theorem same_any (f : Forest) : SameOK f := Forest.all SameOK same_step f
end Go.Proofs.Ytdlhnipkhlihjaa
