/- The walk of the law CrcDivides. -/
import Derived.Test.YtcclakklaimiiaaCrcRefD
import Derived.Test.YtcclakklaimiiaaAnyV
namespace Go.Proofs.Ytcclakklaimiiaa
open Go Go.RowKit
attribute [local go_sem] upV_value upV_skip upV_enter
set_option linter.unusedVariables false
set_option linter.unnecessarySimpa false
instance opensDec (zs : List Int) : Decidable (opens zs) := by unfold opens; infer_instance
def errO (zs : List Int) : Int := if opens zs then 230 - 230 else 230
def outO (zs : List Int) : List Int := if opens zs then zs.take (zs.length - 4) else []
theorem open_gen (a : Option Addr) (len cap : Nat) (zs : List Int) (w : World) (hr : Row8 w.heap.size w (.slice a len cap) zs) (hsm : zs.length ≤ 10000) :
    Calls Try.prog 16 #[.slice a len cap] w fun e w' => ∃ v, e = .returned (.tuple #[v, .int .i64 (errO zs)]) ∧ RowI .u8 w'.heap.size w' v (outO zs) ∧ Below w.heap.size w w' := by
  refine (open_any a len cap zs w hr (by omega)).mono ?_
  rintro e w' ⟨hb, ⟨ho, v, rfl, hown⟩ | ⟨hno, rfl⟩⟩
  · refine ⟨v, by rw [errO, if_pos ho]; rfl, ?_, hb⟩
    rw [outO, if_pos ho, hr.1.open.1]
    exact (RowI.of_own hown).2
  · exact ⟨_, by rw [errO, if_neg hno], by rw [outO, if_neg hno]; exact .inl ⟨_, _, rfl, rfl⟩, hb⟩
theorem ropen_gen (a : Option Addr) (len cap : Nat) (zs : List Int) (w : World) (hr : Row8 w.heap.size w (.slice a len cap) zs) (hsm : zs.length ≤ 10000) :
    Calls Try.prog 17 #[.slice a len cap] w fun e w' => ∃ v, e = .returned (.tuple #[v, .int .i64 (errO zs)]) ∧ RowI .u8 w'.heap.size w' v (outO zs) ∧ Below w.heap.size w w' := by
  refine (ropen_any a len cap zs w hr hsm).mono ?_
  rintro e w' ⟨hb, ⟨ho, q, c, rfl, hrow⟩ | ⟨hno, rfl⟩⟩
  · refine ⟨_, by rw [errO, if_pos ho]; rfl, ?_, hb⟩
    rw [outO, if_pos ho, hr.1.open.1]
    exact hrow.1.mono hb.size
  · exact ⟨_, by rw [errO, if_neg hno], by rw [outO, if_neg hno]; exact .inl ⟨_, _, rfl, rfl⟩, hb⟩
theorem conv_row {n : Nat} {W : World} {v : Value} {X : List Int} (h : RowI .u8 n W v X) : ∀ W', Below n W W' → (convert 28 9 v).run Try.prog W' = .ok (.string (strOfNums X)) W' :=
  fun W' hW => convRow (P := Try.prog) (h.below hW) 28 5 9 Try.underlying28 Try.underlying5 Try.underlying9
set_option maxRecDepth 100000 in
set_option maxHeartbeats 8000000 in
theorem crcDivides_any (w : World) (n : Nat) (hn : n < 4294967296) (a1 : Option Addr) (l1 c1 : Nat) (z1 : List Int) (h1 : Row8 w.heap.size w (.slice a1 l1 c1) z1) :
    Calls Try.prog 6 #[.int .u32 n, .slice a1 l1 c1] w fun e w' => e = .returned (.bool true) ∧ Below w.heap.size w w' := by
  have e1 := h1.1.open.1
  go_enter Try.func6, Try.ntmps6
  by_cases g1 : l1 ≤ 3000
  rotate_left
  · have t1 : decide ((3000 : Int) < (l1 : Int)) = true := by simp; omega
    go_wp2
    go_ret
    exact ⟨rfl, Below.refl _ _⟩
  have t1 : decide ((3000 : Int) < (l1 : Int)) = false := by simp; omega
  have cv0 := conv_row h1.1 w (Below.refl _ w)
  go_wp2_with (go_at_call 16; refine held ?_)
  unfold Held
  refine (open_gen a1 l1 c1 z1 w h1 (by omega)).mono ?_
  rintro e w1 ⟨vc, rfl, hc, b1⟩
  try dsimp only
  clear cv0
  go_wp2_with (go_at_call 17; refine held ?_)
  unfold Held
  refine (ropen_gen a1 l1 c1 z1 w1 ((h1.below b1).mono b1.size) (by omega)).mono ?_
  rintro e w2 ⟨vd, rfl, hd, b2⟩
  try dsimp only
  have hc2 := (hc.below b2).mono b2.size
  replace b2 := below_step b1 b2
  obtain ⟨E, hE⟩ : ∃ E, E = errO z1 := ⟨_, rfl⟩
  obtain ⟨X, hX⟩ : ∃ X, X = outO z1 := ⟨_, rfl⟩
  rw [← hX] at hc2 hd
  rw [← hE]
  clear hE hX hc b1
  go_wp2_with fail
  have rB : Row8 w2.drew.heap.size w2.drew (.slice a1 l1 c1) z1 := (h1.below b2).mono b2.size
  have cvC := Lib.hid (conv_row (show RowI .u8 w2.drew.heap.size w2.drew vc X from hc2))
  have cvD := Lib.hid (conv_row (show RowI .u8 w2.drew.heap.size w2.drew vd X from hd))
  have cvB := Lib.hid (conv_row rB.1)
  have ks := fun (W : World) (hW : Below w2.drew.heap.size w2.drew W) => sum_any a1 l1 c1 z1 W ((rB.below hW).mono hW.size) (by omega)
  have kr := fun (W : World) (hW : Below w2.drew.heap.size w2.drew W) => rmore_any 0 a1 l1 c1 z1 W (by decide) ((rB.below hW).mono hW.size) (by omega)
  have km := fun (W : World) (hW : Below w2.drew.heap.size w2.drew W) => more_any n a1 l1 c1 z1 W hn ((rB.below hW).mono hW.size) (by omega)
  have kq := fun (W : World) (hW : Below w2.drew.heap.size w2.drew W) => rmore_any n a1 l1 c1 z1 W hn ((rB.below hW).mono hW.size) (by omega)
  have kS := fun (W : World) (hW : Below w2.drew.heap.size w2.drew W) => seal_any a1 l1 c1 z1 W ((rB.below hW).mono hW.size) (by omega)
  have kR := fun (W : World) (hW : Below w2.drew.heap.size w2.drew W) => rseal_any a1 l1 c1 z1 W ((rB.below hW).mono hW.size) (by omega)
  rw [show moreN 0 (z1.map Int.toNat) = sumL z1 from rfl] at kr
  obtain ⟨S, hS⟩ : ∃ S, S = sumL z1 := ⟨_, rfl⟩
  obtain ⟨M, hM⟩ : ∃ M, M = moreN n (z1.map Int.toNat) := ⟨_, rfl⟩
  obtain ⟨Z, hZ⟩ : ∃ Z, Z = z1 ++ bytesL (sumL z1) := ⟨_, rfl⟩
  simp only [← hS] at ks kr
  simp only [← hM] at km kq
  simp only [← hZ] at kS kR
  clear hS hM hZ rB hc2 hd
  refine wp_region_anyV Grows (by kernel_rfl) 42 rfl ?_
  first
    | (refine anyV_val 0 (Grows.pre) rfl (by kernel_rfl) (by kernel_rfl) (by kernel_rfl) (by rfl) (v := ?av1) (fun W hW => ?ay1) (fun K hK => ?ar1); case ay1 => (go_simp; first | done | rfl))
    | refine anyV_skip 0 (Grows.pre) rfl (by kernel_rfl) (by kernel_rfl) (by kernel_rfl) (by rfl) (fun K hK => ?_)
  go_simp
  refine hK _ ?_
  clear hK K
  first
    | (refine anyV_val 2 (Grows.pre) rfl (by kernel_rfl) (by kernel_rfl) (by kernel_rfl) (by rfl) (v := ?av2) (fun W hW => ?ay2) (fun K hK => ?ar2); case ay2 => (go_simp; first | done | rfl))
    | refine anyV_skip 2 (Grows.pre) rfl (by kernel_rfl) (by kernel_rfl) (by kernel_rfl) (by rfl) (fun K hK => ?_)
  go_simp
  refine hK _ ?_
  clear hK K
  refine anyV_only 1 rfl (by kernel_rfl) (by rfl) (fun K hK => ?_)
  go_simp
  refine (ks _ (Below.refl _ _)).mono ?_
  rintro e w3 ⟨rfl, g3⟩
  refine ⟨_, rfl, hK _ _ g3 ?_⟩
  clear hK K
  refine anyV_frame (fun K hK => ?_)
  go_simp
  refine hK _ ?_
  clear hK K
  refine anyV_only 3 rfl (by kernel_rfl) (by rfl) (fun K hK => ?_)
  go_simp
  refine (kr _ g3).mono ?_
  rintro e w4 ⟨rfl, b4⟩
  have g4 := below_step g3 b4
  refine ⟨_, rfl, hK _ _ b4 ?_⟩
  clear hK K
  refine anyV_frame (fun K hK => ?_)
  go_simp
  refine hK _ ?_
  clear hK K
  first
    | (refine anyV_val 4 (Grows.pre) rfl (by kernel_rfl) (by kernel_rfl) (by kernel_rfl) (by rfl) (v := ?av3) (fun W hW => ?ay3) (fun K hK => ?ar3); case ay3 => (go_simp; first | done | rfl))
    | refine anyV_skip 4 (Grows.pre) rfl (by kernel_rfl) (by kernel_rfl) (by kernel_rfl) (by rfl) (fun K hK => ?_)
  go_simp
  refine hK _ ?_
  clear hK K
  first
    | (refine anyV_val 5 (Grows.pre) rfl (by kernel_rfl) (by kernel_rfl) (by kernel_rfl) (by rfl) (v := ?av4) (fun W hW => ?ay4) (fun K hK => ?ar4); case ay4 => (go_simp; first | done | rfl))
    | refine anyV_skip 5 (Grows.pre) rfl (by kernel_rfl) (by kernel_rfl) (by kernel_rfl) (by rfl) (fun K hK => ?_)
  go_simp
  refine hK _ ?_
  clear hK K
  first
    | (refine anyV_val 6 (Grows.pre) rfl (by kernel_rfl) (by kernel_rfl) (by kernel_rfl) (by rfl) (v := ?av5) (fun W hW => ?ay5) (fun K hK => ?ar5); case ay5 => (go_simp; first | done | rfl))
    | refine anyV_skip 6 (Grows.pre) rfl (by kernel_rfl) (by kernel_rfl) (by kernel_rfl) (by rfl) (fun K hK => ?_)
  go_simp
  refine hK _ ?_
  clear hK K
  first
    | (refine anyV_val 7 (Grows.pre) rfl (by kernel_rfl) (by kernel_rfl) (by kernel_rfl) (by rfl) (v := ?av6) (fun W hW => ?ay6) (fun K hK => ?ar6); case ay6 => (go_simp; first | done | rfl))
    | refine anyV_skip 7 (Grows.pre) rfl (by kernel_rfl) (by kernel_rfl) (by kernel_rfl) (by rfl) (fun K hK => ?_)
  go_simp
  refine hK _ ?_
  clear hK K
  first
    | (refine anyV_val 9 (Grows.pre) rfl (by kernel_rfl) (by kernel_rfl) (by kernel_rfl) (by rfl) (v := ?av7) (fun W hW => ?ay7) (fun K hK => ?ar7); case ay7 => (go_simp; first | done | rfl))
    | refine anyV_skip 9 (Grows.pre) rfl (by kernel_rfl) (by kernel_rfl) (by kernel_rfl) (by rfl) (fun K hK => ?_)
  go_simp
  refine hK _ ?_
  clear hK K
  first
    | (refine anyV_val 10 (Grows.pre) rfl (by kernel_rfl) (by kernel_rfl) (by kernel_rfl) (by rfl) (v := ?av8) (fun W hW => ?ay8) (fun K hK => ?ar8); case ay8 => (go_simp; first | done | rfl))
    | refine anyV_skip 10 (Grows.pre) rfl (by kernel_rfl) (by kernel_rfl) (by kernel_rfl) (by rfl) (fun K hK => ?_)
  go_simp
  refine hK _ ?_
  clear hK K
  refine anyV_only 8 rfl (by kernel_rfl) (by rfl) (fun K hK => ?_)
  go_simp
  refine (km _ g4).mono ?_
  rintro e w5 ⟨rfl, b5⟩
  have g5 := below_step g4 b5
  refine ⟨_, rfl, hK _ _ b5 ?_⟩
  clear hK K
  refine anyV_frame (fun K hK => ?_)
  go_simp
  refine hK _ ?_
  clear hK K
  refine anyV_only 11 rfl (by kernel_rfl) (by rfl) (fun K hK => ?_)
  go_simp
  refine (kq _ g5).mono ?_
  rintro e w6 ⟨rfl, b6⟩
  have g6 := below_step g5 b6
  refine ⟨_, rfl, hK _ _ b6 ?_⟩
  clear hK K
  refine anyV_frame (fun K hK => ?_)
  go_simp
  refine hK _ ?_
  clear hK K
  first
    | (refine anyV_val 12 (Grows.pre) rfl (by kernel_rfl) (by kernel_rfl) (by kernel_rfl) (by rfl) (v := ?av9) (fun W hW => ?ay9) (fun K hK => ?ar9); case ay9 => (go_simp; first | done | rfl))
    | refine anyV_skip 12 (Grows.pre) rfl (by kernel_rfl) (by kernel_rfl) (by kernel_rfl) (by rfl) (fun K hK => ?_)
  go_simp
  refine hK _ ?_
  clear hK K
  first
    | (refine anyV_val 13 (Grows.pre) rfl (by kernel_rfl) (by kernel_rfl) (by kernel_rfl) (by rfl) (v := ?av10) (fun W hW => ?ay10) (fun K hK => ?ar10); case ay10 => (go_simp; first | done | rfl))
    | refine anyV_skip 13 (Grows.pre) rfl (by kernel_rfl) (by kernel_rfl) (by kernel_rfl) (by rfl) (fun K hK => ?_)
  go_simp
  refine hK _ ?_
  clear hK K
  first
    | (refine anyV_val 14 (Grows.pre) rfl (by kernel_rfl) (by kernel_rfl) (by kernel_rfl) (by rfl) (v := ?av11) (fun W hW => ?ay11) (fun K hK => ?ar11); case ay11 => (go_simp; first | done | rfl))
    | refine anyV_skip 14 (Grows.pre) rfl (by kernel_rfl) (by kernel_rfl) (by kernel_rfl) (by rfl) (fun K hK => ?_)
  go_simp
  refine hK _ ?_
  clear hK K
  first
    | (refine anyV_val 15 (Grows.pre) rfl (by kernel_rfl) (by kernel_rfl) (by kernel_rfl) (by rfl) (v := ?av12) (fun W hW => ?ay12) (fun K hK => ?ar12); case ay12 => (go_simp; first | done | rfl))
    | refine anyV_skip 15 (Grows.pre) rfl (by kernel_rfl) (by kernel_rfl) (by kernel_rfl) (by rfl) (fun K hK => ?_)
  go_simp
  refine hK _ ?_
  clear hK K
  first
    | (refine anyV_val 18 (Grows.pre) rfl (by kernel_rfl) (by kernel_rfl) (by kernel_rfl) (by rfl) (v := ?av13) (fun W hW => ?ay13) (fun K hK => ?ar13); case ay13 => (go_simp; first | done | rfl))
    | refine anyV_skip 18 (Grows.pre) rfl (by kernel_rfl) (by kernel_rfl) (by kernel_rfl) (by rfl) (fun K hK => ?_)
  go_simp
  refine hK _ ?_
  clear hK K
  refine anyV_only 16 rfl (by kernel_rfl) (by rfl) (fun K hK => ?_)
  go_simp
  refine (kS _ g6).mono ?_
  rintro e w7 ⟨v7, rfl, o7, b7⟩
  have g7 := below_step g6 b7
  have c7 := Lib.hid (conv_row (RowI.of_own o7).2)
  refine ⟨_, rfl, hK _ _ b7 ?_⟩
  clear hK K
  refine anyV_frame (fun K hK => ?_)
  go_simp
  refine hK _ ?_
  clear hK K
  first
    | (refine anyV_val 17 (Grows.pre) rfl (by kernel_rfl) (by kernel_rfl) (by kernel_rfl) (by rfl) (v := ?av14) (fun W hW => ?ay14) (fun K hK => ?ar14); case ay14 => (have q7 := (show ∀ W', Below w7.heap.size w7 W' → (convert 28 9 v7).run Try.prog W' = .ok (.string (strOfNums Z)) W' from c7) W hW; go_simp; first | done | rfl))
    | refine anyV_skip 17 (Grows.pre) rfl (by kernel_rfl) (by kernel_rfl) (by kernel_rfl) (by rfl) (fun K hK => ?_)
  go_simp
  refine hK _ ?_
  clear hK K
  refine anyV_only 19 rfl (by kernel_rfl) (by rfl) (fun K hK => ?_)
  go_simp
  refine (kR _ g7).mono ?_
  rintro e w8 ⟨v8, rfl, o8, b8⟩
  have g8 := below_step g7 b8
  have c8 := Lib.hid (conv_row (RowI.of_own o8).2)
  refine ⟨_, rfl, hK _ _ b8 ?_⟩
  clear hK K
  refine anyV_frame (fun K hK => ?_)
  go_simp
  refine hK _ ?_
  clear hK K
  first
    | (refine anyV_val 20 (Grows.pre) rfl (by kernel_rfl) (by kernel_rfl) (by kernel_rfl) (by rfl) (v := ?av15) (fun W hW => ?ay15) (fun K hK => ?ar15); case ay15 => ((have q8 := (show ∀ W', Below w8.heap.size w8 W' → (convert 28 9 v8).run Try.prog W' = .ok (.string (strOfNums Z)) W' from c8) W hW; have qC := (show ∀ W', Below w2.drew.heap.size w2.drew W' → (convert 28 9 vc).run Try.prog W' = .ok (.string (strOfNums X)) W' from cvC) W (below_step g8 hW); have qD := (show ∀ W', Below w2.drew.heap.size w2.drew W' → (convert 28 9 vd).run Try.prog W' = .ok (.string (strOfNums X)) W' from cvD) W (below_step g8 hW); have qB := (show ∀ W', Below w2.drew.heap.size w2.drew W' → (convert 28 9 (.slice a1 l1 c1)).run Try.prog W' = .ok (.string (strOfNums z1)) W' from cvB) W (below_step g8 hW)); go_simp; first | done | rfl))
    | refine anyV_skip 20 (Grows.pre) rfl (by kernel_rfl) (by kernel_rfl) (by kernel_rfl) (by rfl) (fun K hK => ?_)
  go_simp
  refine hK _ ?_
  clear hK K
  first
    | (refine anyV_val 21 (Grows.pre) rfl (by kernel_rfl) (by kernel_rfl) (by kernel_rfl) (by rfl) (v := ?av16) (fun W hW => ?ay16) (fun K hK => ?ar16); case ay16 => ((have q8 := (show ∀ W', Below w8.heap.size w8 W' → (convert 28 9 v8).run Try.prog W' = .ok (.string (strOfNums Z)) W' from c8) W hW; have qC := (show ∀ W', Below w2.drew.heap.size w2.drew W' → (convert 28 9 vc).run Try.prog W' = .ok (.string (strOfNums X)) W' from cvC) W (below_step g8 hW); have qD := (show ∀ W', Below w2.drew.heap.size w2.drew W' → (convert 28 9 vd).run Try.prog W' = .ok (.string (strOfNums X)) W' from cvD) W (below_step g8 hW); have qB := (show ∀ W', Below w2.drew.heap.size w2.drew W' → (convert 28 9 (.slice a1 l1 c1)).run Try.prog W' = .ok (.string (strOfNums z1)) W' from cvB) W (below_step g8 hW)); go_simp; first | done | rfl))
    | refine anyV_skip 21 (Grows.pre) rfl (by kernel_rfl) (by kernel_rfl) (by kernel_rfl) (by rfl) (fun K hK => ?_)
  go_simp
  refine hK _ ?_
  clear hK K
  first
    | (refine anyV_val 22 (Grows.pre) rfl (by kernel_rfl) (by kernel_rfl) (by kernel_rfl) (by rfl) (v := ?av17) (fun W hW => ?ay17) (fun K hK => ?ar17); case ay17 => ((have q8 := (show ∀ W', Below w8.heap.size w8 W' → (convert 28 9 v8).run Try.prog W' = .ok (.string (strOfNums Z)) W' from c8) W hW; have qC := (show ∀ W', Below w2.drew.heap.size w2.drew W' → (convert 28 9 vc).run Try.prog W' = .ok (.string (strOfNums X)) W' from cvC) W (below_step g8 hW); have qD := (show ∀ W', Below w2.drew.heap.size w2.drew W' → (convert 28 9 vd).run Try.prog W' = .ok (.string (strOfNums X)) W' from cvD) W (below_step g8 hW); have qB := (show ∀ W', Below w2.drew.heap.size w2.drew W' → (convert 28 9 (.slice a1 l1 c1)).run Try.prog W' = .ok (.string (strOfNums z1)) W' from cvB) W (below_step g8 hW)); go_simp; first | done | rfl))
    | refine anyV_skip 22 (Grows.pre) rfl (by kernel_rfl) (by kernel_rfl) (by kernel_rfl) (by rfl) (fun K hK => ?_)
  go_simp
  refine hK _ ?_
  clear hK K
  first
    | (refine anyV_val 23 (Grows.pre) rfl (by kernel_rfl) (by kernel_rfl) (by kernel_rfl) (by rfl) (v := ?av18) (fun W hW => ?ay18) (fun K hK => ?ar18); case ay18 => ((have q8 := (show ∀ W', Below w8.heap.size w8 W' → (convert 28 9 v8).run Try.prog W' = .ok (.string (strOfNums Z)) W' from c8) W hW; have qC := (show ∀ W', Below w2.drew.heap.size w2.drew W' → (convert 28 9 vc).run Try.prog W' = .ok (.string (strOfNums X)) W' from cvC) W (below_step g8 hW); have qD := (show ∀ W', Below w2.drew.heap.size w2.drew W' → (convert 28 9 vd).run Try.prog W' = .ok (.string (strOfNums X)) W' from cvD) W (below_step g8 hW); have qB := (show ∀ W', Below w2.drew.heap.size w2.drew W' → (convert 28 9 (.slice a1 l1 c1)).run Try.prog W' = .ok (.string (strOfNums z1)) W' from cvB) W (below_step g8 hW)); go_simp; first | done | rfl))
    | refine anyV_skip 23 (Grows.pre) rfl (by kernel_rfl) (by kernel_rfl) (by kernel_rfl) (by rfl) (fun K hK => ?_)
  go_simp
  refine hK _ ?_
  clear hK K
  first
    | (refine anyV_val 24 (Grows.pre) rfl (by kernel_rfl) (by kernel_rfl) (by kernel_rfl) (by rfl) (v := ?av19) (fun W hW => ?ay19) (fun K hK => ?ar19); case ay19 => ((have q8 := (show ∀ W', Below w8.heap.size w8 W' → (convert 28 9 v8).run Try.prog W' = .ok (.string (strOfNums Z)) W' from c8) W hW; have qC := (show ∀ W', Below w2.drew.heap.size w2.drew W' → (convert 28 9 vc).run Try.prog W' = .ok (.string (strOfNums X)) W' from cvC) W (below_step g8 hW); have qD := (show ∀ W', Below w2.drew.heap.size w2.drew W' → (convert 28 9 vd).run Try.prog W' = .ok (.string (strOfNums X)) W' from cvD) W (below_step g8 hW); have qB := (show ∀ W', Below w2.drew.heap.size w2.drew W' → (convert 28 9 (.slice a1 l1 c1)).run Try.prog W' = .ok (.string (strOfNums z1)) W' from cvB) W (below_step g8 hW)); go_simp; first | done | rfl))
    | refine anyV_skip 24 (Grows.pre) rfl (by kernel_rfl) (by kernel_rfl) (by kernel_rfl) (by rfl) (fun K hK => ?_)
  go_simp
  refine hK _ ?_
  clear hK K
  first
    | (refine anyV_val 25 (Grows.pre) rfl (by kernel_rfl) (by kernel_rfl) (by kernel_rfl) (by rfl) (v := ?av20) (fun W hW => ?ay20) (fun K hK => ?ar20); case ay20 => ((have q8 := (show ∀ W', Below w8.heap.size w8 W' → (convert 28 9 v8).run Try.prog W' = .ok (.string (strOfNums Z)) W' from c8) W hW; have qC := (show ∀ W', Below w2.drew.heap.size w2.drew W' → (convert 28 9 vc).run Try.prog W' = .ok (.string (strOfNums X)) W' from cvC) W (below_step g8 hW); have qD := (show ∀ W', Below w2.drew.heap.size w2.drew W' → (convert 28 9 vd).run Try.prog W' = .ok (.string (strOfNums X)) W' from cvD) W (below_step g8 hW); have qB := (show ∀ W', Below w2.drew.heap.size w2.drew W' → (convert 28 9 (.slice a1 l1 c1)).run Try.prog W' = .ok (.string (strOfNums z1)) W' from cvB) W (below_step g8 hW)); go_simp; first | done | rfl))
    | refine anyV_skip 25 (Grows.pre) rfl (by kernel_rfl) (by kernel_rfl) (by kernel_rfl) (by rfl) (fun K hK => ?_)
  go_simp
  refine hK _ ?_
  clear hK K
  first
    | (refine anyV_val 26 (Grows.pre) rfl (by kernel_rfl) (by kernel_rfl) (by kernel_rfl) (by rfl) (v := ?av21) (fun W hW => ?ay21) (fun K hK => ?ar21); case ay21 => ((have q8 := (show ∀ W', Below w8.heap.size w8 W' → (convert 28 9 v8).run Try.prog W' = .ok (.string (strOfNums Z)) W' from c8) W hW; have qC := (show ∀ W', Below w2.drew.heap.size w2.drew W' → (convert 28 9 vc).run Try.prog W' = .ok (.string (strOfNums X)) W' from cvC) W (below_step g8 hW); have qD := (show ∀ W', Below w2.drew.heap.size w2.drew W' → (convert 28 9 vd).run Try.prog W' = .ok (.string (strOfNums X)) W' from cvD) W (below_step g8 hW); have qB := (show ∀ W', Below w2.drew.heap.size w2.drew W' → (convert 28 9 (.slice a1 l1 c1)).run Try.prog W' = .ok (.string (strOfNums z1)) W' from cvB) W (below_step g8 hW)); go_simp; first | done | rfl))
    | refine anyV_skip 26 (Grows.pre) rfl (by kernel_rfl) (by kernel_rfl) (by kernel_rfl) (by rfl) (fun K hK => ?_)
  go_simp
  refine hK _ ?_
  clear hK K
  first
    | (refine anyV_val 27 (Grows.pre) rfl (by kernel_rfl) (by kernel_rfl) (by kernel_rfl) (by rfl) (v := ?av22) (fun W hW => ?ay22) (fun K hK => ?ar22); case ay22 => ((have q8 := (show ∀ W', Below w8.heap.size w8 W' → (convert 28 9 v8).run Try.prog W' = .ok (.string (strOfNums Z)) W' from c8) W hW; have qC := (show ∀ W', Below w2.drew.heap.size w2.drew W' → (convert 28 9 vc).run Try.prog W' = .ok (.string (strOfNums X)) W' from cvC) W (below_step g8 hW); have qD := (show ∀ W', Below w2.drew.heap.size w2.drew W' → (convert 28 9 vd).run Try.prog W' = .ok (.string (strOfNums X)) W' from cvD) W (below_step g8 hW); have qB := (show ∀ W', Below w2.drew.heap.size w2.drew W' → (convert 28 9 (.slice a1 l1 c1)).run Try.prog W' = .ok (.string (strOfNums z1)) W' from cvB) W (below_step g8 hW)); go_simp; first | done | rfl))
    | refine anyV_skip 27 (Grows.pre) rfl (by kernel_rfl) (by kernel_rfl) (by kernel_rfl) (by rfl) (fun K hK => ?_)
  go_simp
  refine hK _ ?_
  clear hK K
  first
    | (refine anyV_val 28 (Grows.pre) rfl (by kernel_rfl) (by kernel_rfl) (by kernel_rfl) (by rfl) (v := ?av23) (fun W hW => ?ay23) (fun K hK => ?ar23); case ay23 => ((have q8 := (show ∀ W', Below w8.heap.size w8 W' → (convert 28 9 v8).run Try.prog W' = .ok (.string (strOfNums Z)) W' from c8) W hW; have qC := (show ∀ W', Below w2.drew.heap.size w2.drew W' → (convert 28 9 vc).run Try.prog W' = .ok (.string (strOfNums X)) W' from cvC) W (below_step g8 hW); have qD := (show ∀ W', Below w2.drew.heap.size w2.drew W' → (convert 28 9 vd).run Try.prog W' = .ok (.string (strOfNums X)) W' from cvD) W (below_step g8 hW); have qB := (show ∀ W', Below w2.drew.heap.size w2.drew W' → (convert 28 9 (.slice a1 l1 c1)).run Try.prog W' = .ok (.string (strOfNums z1)) W' from cvB) W (below_step g8 hW)); go_simp; first | done | rfl))
    | refine anyV_skip 28 (Grows.pre) rfl (by kernel_rfl) (by kernel_rfl) (by kernel_rfl) (by rfl) (fun K hK => ?_)
  go_simp
  refine hK _ ?_
  clear hK K
  first
    | (refine anyV_val 29 (Grows.pre) rfl (by kernel_rfl) (by kernel_rfl) (by kernel_rfl) (by rfl) (v := ?av24) (fun W hW => ?ay24) (fun K hK => ?ar24); case ay24 => ((have q8 := (show ∀ W', Below w8.heap.size w8 W' → (convert 28 9 v8).run Try.prog W' = .ok (.string (strOfNums Z)) W' from c8) W hW; have qC := (show ∀ W', Below w2.drew.heap.size w2.drew W' → (convert 28 9 vc).run Try.prog W' = .ok (.string (strOfNums X)) W' from cvC) W (below_step g8 hW); have qD := (show ∀ W', Below w2.drew.heap.size w2.drew W' → (convert 28 9 vd).run Try.prog W' = .ok (.string (strOfNums X)) W' from cvD) W (below_step g8 hW); have qB := (show ∀ W', Below w2.drew.heap.size w2.drew W' → (convert 28 9 (.slice a1 l1 c1)).run Try.prog W' = .ok (.string (strOfNums z1)) W' from cvB) W (below_step g8 hW)); go_simp; first | done | rfl))
    | refine anyV_skip 29 (Grows.pre) rfl (by kernel_rfl) (by kernel_rfl) (by kernel_rfl) (by rfl) (fun K hK => ?_)
  go_simp
  refine hK _ ?_
  clear hK K
  first
    | (refine anyV_val 30 (Grows.pre) rfl (by kernel_rfl) (by kernel_rfl) (by kernel_rfl) (by rfl) (v := ?av25) (fun W hW => ?ay25) (fun K hK => ?ar25); case ay25 => ((have q8 := (show ∀ W', Below w8.heap.size w8 W' → (convert 28 9 v8).run Try.prog W' = .ok (.string (strOfNums Z)) W' from c8) W hW; have qC := (show ∀ W', Below w2.drew.heap.size w2.drew W' → (convert 28 9 vc).run Try.prog W' = .ok (.string (strOfNums X)) W' from cvC) W (below_step g8 hW); have qD := (show ∀ W', Below w2.drew.heap.size w2.drew W' → (convert 28 9 vd).run Try.prog W' = .ok (.string (strOfNums X)) W' from cvD) W (below_step g8 hW); have qB := (show ∀ W', Below w2.drew.heap.size w2.drew W' → (convert 28 9 (.slice a1 l1 c1)).run Try.prog W' = .ok (.string (strOfNums z1)) W' from cvB) W (below_step g8 hW)); go_simp; first | done | rfl))
    | refine anyV_skip 30 (Grows.pre) rfl (by kernel_rfl) (by kernel_rfl) (by kernel_rfl) (by rfl) (fun K hK => ?_)
  go_simp
  refine hK _ ?_
  clear hK K
  first
    | (refine anyV_val 31 (Grows.pre) rfl (by kernel_rfl) (by kernel_rfl) (by kernel_rfl) (by rfl) (v := ?av26) (fun W hW => ?ay26) (fun K hK => ?ar26); case ay26 => ((have q8 := (show ∀ W', Below w8.heap.size w8 W' → (convert 28 9 v8).run Try.prog W' = .ok (.string (strOfNums Z)) W' from c8) W hW; have qC := (show ∀ W', Below w2.drew.heap.size w2.drew W' → (convert 28 9 vc).run Try.prog W' = .ok (.string (strOfNums X)) W' from cvC) W (below_step g8 hW); have qD := (show ∀ W', Below w2.drew.heap.size w2.drew W' → (convert 28 9 vd).run Try.prog W' = .ok (.string (strOfNums X)) W' from cvD) W (below_step g8 hW); have qB := (show ∀ W', Below w2.drew.heap.size w2.drew W' → (convert 28 9 (.slice a1 l1 c1)).run Try.prog W' = .ok (.string (strOfNums z1)) W' from cvB) W (below_step g8 hW)); go_simp; first | done | rfl))
    | refine anyV_skip 31 (Grows.pre) rfl (by kernel_rfl) (by kernel_rfl) (by kernel_rfl) (by rfl) (fun K hK => ?_)
  go_simp
  refine hK _ ?_
  clear hK K
  first
    | (refine anyV_val 32 (Grows.pre) rfl (by kernel_rfl) (by kernel_rfl) (by kernel_rfl) (by rfl) (v := ?av27) (fun W hW => ?ay27) (fun K hK => ?ar27); case ay27 => ((have q8 := (show ∀ W', Below w8.heap.size w8 W' → (convert 28 9 v8).run Try.prog W' = .ok (.string (strOfNums Z)) W' from c8) W hW; have qC := (show ∀ W', Below w2.drew.heap.size w2.drew W' → (convert 28 9 vc).run Try.prog W' = .ok (.string (strOfNums X)) W' from cvC) W (below_step g8 hW); have qD := (show ∀ W', Below w2.drew.heap.size w2.drew W' → (convert 28 9 vd).run Try.prog W' = .ok (.string (strOfNums X)) W' from cvD) W (below_step g8 hW); have qB := (show ∀ W', Below w2.drew.heap.size w2.drew W' → (convert 28 9 (.slice a1 l1 c1)).run Try.prog W' = .ok (.string (strOfNums z1)) W' from cvB) W (below_step g8 hW)); go_simp; first | done | rfl))
    | refine anyV_skip 32 (Grows.pre) rfl (by kernel_rfl) (by kernel_rfl) (by kernel_rfl) (by rfl) (fun K hK => ?_)
  go_simp
  refine hK _ ?_
  clear hK K
  first
    | (refine anyV_val 33 (Grows.pre) rfl (by kernel_rfl) (by kernel_rfl) (by kernel_rfl) (by rfl) (v := ?av28) (fun W hW => ?ay28) (fun K hK => ?ar28); case ay28 => ((have q8 := (show ∀ W', Below w8.heap.size w8 W' → (convert 28 9 v8).run Try.prog W' = .ok (.string (strOfNums Z)) W' from c8) W hW; have qC := (show ∀ W', Below w2.drew.heap.size w2.drew W' → (convert 28 9 vc).run Try.prog W' = .ok (.string (strOfNums X)) W' from cvC) W (below_step g8 hW); have qD := (show ∀ W', Below w2.drew.heap.size w2.drew W' → (convert 28 9 vd).run Try.prog W' = .ok (.string (strOfNums X)) W' from cvD) W (below_step g8 hW); have qB := (show ∀ W', Below w2.drew.heap.size w2.drew W' → (convert 28 9 (.slice a1 l1 c1)).run Try.prog W' = .ok (.string (strOfNums z1)) W' from cvB) W (below_step g8 hW)); go_simp; first | done | rfl))
    | refine anyV_skip 33 (Grows.pre) rfl (by kernel_rfl) (by kernel_rfl) (by kernel_rfl) (by rfl) (fun K hK => ?_)
  go_simp
  refine hK _ ?_
  clear hK K
  first
    | (refine anyV_val 34 (Grows.pre) rfl (by kernel_rfl) (by kernel_rfl) (by kernel_rfl) (by rfl) (v := ?av29) (fun W hW => ?ay29) (fun K hK => ?ar29); case ay29 => ((have q8 := (show ∀ W', Below w8.heap.size w8 W' → (convert 28 9 v8).run Try.prog W' = .ok (.string (strOfNums Z)) W' from c8) W hW; have qC := (show ∀ W', Below w2.drew.heap.size w2.drew W' → (convert 28 9 vc).run Try.prog W' = .ok (.string (strOfNums X)) W' from cvC) W (below_step g8 hW); have qD := (show ∀ W', Below w2.drew.heap.size w2.drew W' → (convert 28 9 vd).run Try.prog W' = .ok (.string (strOfNums X)) W' from cvD) W (below_step g8 hW); have qB := (show ∀ W', Below w2.drew.heap.size w2.drew W' → (convert 28 9 (.slice a1 l1 c1)).run Try.prog W' = .ok (.string (strOfNums z1)) W' from cvB) W (below_step g8 hW)); go_simp; first | done | rfl))
    | refine anyV_skip 34 (Grows.pre) rfl (by kernel_rfl) (by kernel_rfl) (by kernel_rfl) (by rfl) (fun K hK => ?_)
  go_simp
  refine hK _ ?_
  clear hK K
  first
    | (refine anyV_val 35 (Grows.pre) rfl (by kernel_rfl) (by kernel_rfl) (by kernel_rfl) (by rfl) (v := ?av30) (fun W hW => ?ay30) (fun K hK => ?ar30); case ay30 => ((have q8 := (show ∀ W', Below w8.heap.size w8 W' → (convert 28 9 v8).run Try.prog W' = .ok (.string (strOfNums Z)) W' from c8) W hW; have qC := (show ∀ W', Below w2.drew.heap.size w2.drew W' → (convert 28 9 vc).run Try.prog W' = .ok (.string (strOfNums X)) W' from cvC) W (below_step g8 hW); have qD := (show ∀ W', Below w2.drew.heap.size w2.drew W' → (convert 28 9 vd).run Try.prog W' = .ok (.string (strOfNums X)) W' from cvD) W (below_step g8 hW); have qB := (show ∀ W', Below w2.drew.heap.size w2.drew W' → (convert 28 9 (.slice a1 l1 c1)).run Try.prog W' = .ok (.string (strOfNums z1)) W' from cvB) W (below_step g8 hW)); go_simp; first | done | rfl))
    | refine anyV_skip 35 (Grows.pre) rfl (by kernel_rfl) (by kernel_rfl) (by kernel_rfl) (by rfl) (fun K hK => ?_)
  go_simp
  refine hK _ ?_
  clear hK K
  first
    | (refine anyV_val 36 (Grows.pre) rfl (by kernel_rfl) (by kernel_rfl) (by kernel_rfl) (by rfl) (v := ?av31) (fun W hW => ?ay31) (fun K hK => ?ar31); case ay31 => ((have q8 := (show ∀ W', Below w8.heap.size w8 W' → (convert 28 9 v8).run Try.prog W' = .ok (.string (strOfNums Z)) W' from c8) W hW; have qC := (show ∀ W', Below w2.drew.heap.size w2.drew W' → (convert 28 9 vc).run Try.prog W' = .ok (.string (strOfNums X)) W' from cvC) W (below_step g8 hW); have qD := (show ∀ W', Below w2.drew.heap.size w2.drew W' → (convert 28 9 vd).run Try.prog W' = .ok (.string (strOfNums X)) W' from cvD) W (below_step g8 hW); have qB := (show ∀ W', Below w2.drew.heap.size w2.drew W' → (convert 28 9 (.slice a1 l1 c1)).run Try.prog W' = .ok (.string (strOfNums z1)) W' from cvB) W (below_step g8 hW)); go_simp; first | done | rfl))
    | refine anyV_skip 36 (Grows.pre) rfl (by kernel_rfl) (by kernel_rfl) (by kernel_rfl) (by rfl) (fun K hK => ?_)
  go_simp
  refine hK _ ?_
  clear hK K
  first
    | (refine anyV_val 37 (Grows.pre) rfl (by kernel_rfl) (by kernel_rfl) (by kernel_rfl) (by rfl) (v := ?av32) (fun W hW => ?ay32) (fun K hK => ?ar32); case ay32 => ((have q8 := (show ∀ W', Below w8.heap.size w8 W' → (convert 28 9 v8).run Try.prog W' = .ok (.string (strOfNums Z)) W' from c8) W hW; have qC := (show ∀ W', Below w2.drew.heap.size w2.drew W' → (convert 28 9 vc).run Try.prog W' = .ok (.string (strOfNums X)) W' from cvC) W (below_step g8 hW); have qD := (show ∀ W', Below w2.drew.heap.size w2.drew W' → (convert 28 9 vd).run Try.prog W' = .ok (.string (strOfNums X)) W' from cvD) W (below_step g8 hW); have qB := (show ∀ W', Below w2.drew.heap.size w2.drew W' → (convert 28 9 (.slice a1 l1 c1)).run Try.prog W' = .ok (.string (strOfNums z1)) W' from cvB) W (below_step g8 hW)); go_simp; first | done | rfl))
    | refine anyV_skip 37 (Grows.pre) rfl (by kernel_rfl) (by kernel_rfl) (by kernel_rfl) (by rfl) (fun K hK => ?_)
  go_simp
  refine hK _ ?_
  clear hK K
  first
    | (refine anyV_val 38 (Grows.pre) rfl (by kernel_rfl) (by kernel_rfl) (by kernel_rfl) (by rfl) (v := ?av33) (fun W hW => ?ay33) (fun K hK => ?ar33); case ay33 => ((have q8 := (show ∀ W', Below w8.heap.size w8 W' → (convert 28 9 v8).run Try.prog W' = .ok (.string (strOfNums Z)) W' from c8) W hW; have qC := (show ∀ W', Below w2.drew.heap.size w2.drew W' → (convert 28 9 vc).run Try.prog W' = .ok (.string (strOfNums X)) W' from cvC) W (below_step g8 hW); have qD := (show ∀ W', Below w2.drew.heap.size w2.drew W' → (convert 28 9 vd).run Try.prog W' = .ok (.string (strOfNums X)) W' from cvD) W (below_step g8 hW); have qB := (show ∀ W', Below w2.drew.heap.size w2.drew W' → (convert 28 9 (.slice a1 l1 c1)).run Try.prog W' = .ok (.string (strOfNums z1)) W' from cvB) W (below_step g8 hW)); go_simp; first | done | rfl))
    | refine anyV_skip 38 (Grows.pre) rfl (by kernel_rfl) (by kernel_rfl) (by kernel_rfl) (by rfl) (fun K hK => ?_)
  go_simp
  refine hK _ ?_
  clear hK K
  first
    | (refine anyV_val 39 (Grows.pre) rfl (by kernel_rfl) (by kernel_rfl) (by kernel_rfl) (by rfl) (v := ?av34) (fun W hW => ?ay34) (fun K hK => ?ar34); case ay34 => ((have q8 := (show ∀ W', Below w8.heap.size w8 W' → (convert 28 9 v8).run Try.prog W' = .ok (.string (strOfNums Z)) W' from c8) W hW; have qC := (show ∀ W', Below w2.drew.heap.size w2.drew W' → (convert 28 9 vc).run Try.prog W' = .ok (.string (strOfNums X)) W' from cvC) W (below_step g8 hW); have qD := (show ∀ W', Below w2.drew.heap.size w2.drew W' → (convert 28 9 vd).run Try.prog W' = .ok (.string (strOfNums X)) W' from cvD) W (below_step g8 hW); have qB := (show ∀ W', Below w2.drew.heap.size w2.drew W' → (convert 28 9 (.slice a1 l1 c1)).run Try.prog W' = .ok (.string (strOfNums z1)) W' from cvB) W (below_step g8 hW)); go_simp; first | done | rfl))
    | refine anyV_skip 39 (Grows.pre) rfl (by kernel_rfl) (by kernel_rfl) (by kernel_rfl) (by rfl) (fun K hK => ?_)
  go_simp
  refine hK _ ?_
  clear hK K
  first
    | (refine anyV_val 40 (Grows.pre) rfl (by kernel_rfl) (by kernel_rfl) (by kernel_rfl) (by rfl) (v := ?av35) (fun W hW => ?ay35) (fun K hK => ?ar35); case ay35 => ((have q8 := (show ∀ W', Below w8.heap.size w8 W' → (convert 28 9 v8).run Try.prog W' = .ok (.string (strOfNums Z)) W' from c8) W hW; have qC := (show ∀ W', Below w2.drew.heap.size w2.drew W' → (convert 28 9 vc).run Try.prog W' = .ok (.string (strOfNums X)) W' from cvC) W (below_step g8 hW); have qD := (show ∀ W', Below w2.drew.heap.size w2.drew W' → (convert 28 9 vd).run Try.prog W' = .ok (.string (strOfNums X)) W' from cvD) W (below_step g8 hW); have qB := (show ∀ W', Below w2.drew.heap.size w2.drew W' → (convert 28 9 (.slice a1 l1 c1)).run Try.prog W' = .ok (.string (strOfNums z1)) W' from cvB) W (below_step g8 hW)); go_simp; first | done | rfl))
    | refine anyV_skip 40 (Grows.pre) rfl (by kernel_rfl) (by kernel_rfl) (by kernel_rfl) (by rfl) (fun K hK => ?_)
  go_simp
  refine hK _ ?_
  clear hK K
  first
    | (refine anyV_val 41 (Grows.pre) rfl (by kernel_rfl) (by kernel_rfl) (by kernel_rfl) (by rfl) (v := ?av36) (fun W hW => ?ay36) (fun K hK => ?ar36); case ay36 => ((have q8 := (show ∀ W', Below w8.heap.size w8 W' → (convert 28 9 v8).run Try.prog W' = .ok (.string (strOfNums Z)) W' from c8) W hW; have qC := (show ∀ W', Below w2.drew.heap.size w2.drew W' → (convert 28 9 vc).run Try.prog W' = .ok (.string (strOfNums X)) W' from cvC) W (below_step g8 hW); have qD := (show ∀ W', Below w2.drew.heap.size w2.drew W' → (convert 28 9 vd).run Try.prog W' = .ok (.string (strOfNums X)) W' from cvD) W (below_step g8 hW); have qB := (show ∀ W', Below w2.drew.heap.size w2.drew W' → (convert 28 9 (.slice a1 l1 c1)).run Try.prog W' = .ok (.string (strOfNums z1)) W' from cvB) W (below_step g8 hW)); go_simp; first | done | rfl))
    | refine anyV_skip 41 (Grows.pre) rfl (by kernel_rfl) (by kernel_rfl) (by kernel_rfl) (by rfl) (fun K hK => ?_)
  go_simp
  refine hK _ ?_
  clear hK K
  refine anyV_done (by kernel_rfl) ?_
  have hg : Below w2.heap.size w2 w8 := below_undrew g8
  have hb := b2.trans (hg.mono b2.size)
  clear cvC cvD cvB ks kr km kq kS kR c7 c8
  go_wp2_with fail
  go_ret
  exact ⟨by simp, hb⟩
theorem crcDivides_int (w : World) (n : Int) (hn : 0 ≤ n ∧ n ≤ 4294967295) (a1 : Option Addr) (l1 c1 : Nat) (z1 : List Int) (h1 : Row8 w.heap.size w (.slice a1 l1 c1) z1) :
    Calls Try.prog 6 #[.int .u32 n, .slice a1 l1 c1] w fun e w' => e = .returned (.bool true) ∧ Below w.heap.size w w' := by
  have e1 : n = (n.toNat : Int) := by omega
  rw [e1]
  exact crcDivides_any w _ (by omega) a1 l1 c1 z1 h1
end Go.Proofs.Ytcclakklaimiiaa
