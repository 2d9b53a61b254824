/- The walk of tlv.Bytes and of the chapter's first examples. -/
import Derived.Test.YtdlhnipkhlihjaaTlvC
import Derived.Lib.SlBytesConst
import Derived.WalkSpells
import Derived.WalkLawsBesides
namespace Go.Proofs.Ytdlhnipkhlihjaa
open Go Go.RowKit
set_option linter.unusedVariables false
set_option linter.unnecessarySimpa false
theorem below_step {A B C : World} (h : Below A.heap.size A B) (k : Below B.heap.size B C) : Below A.heap.size A C := h.trans (k.mono h.size)
def outB (f : Forest) : List Int := if f.sizeL 1 0 < 0 then [] else f.layF
set_option maxHeartbeats 1000000 in
theorem tbytes_any (f : Forest) (W : World) (a : Option Addr) (len cap : Nat) (h : SlF W.heap.size W a len cap f) (hc : f.cnt ≤ 20000) :
    Calls Try.prog 12 #[.slice a len cap] W fun e W' => ∃ v, e = .returned (.tuple #[v, .int .i64 (tlvE f)]) ∧ W'.ownsRow W.heap.size 5 1 v (outB f).length ((outB f).map (Value.int .u8)) ∧ Below W.heap.size W W' := by
  have kc := check_any f W a len cap h hc
  have kl := fun (W1 : World) (hb : Below W.heap.size W W1) => lay_any f W1 a len cap ((h.below hb).mono hb.size) hc
  go_enter Try.func12, Try.ntmps12
  go_wp2_with (go_at_call 24; refine held ?_)
  unfold Held
  refine kc.mono ?_
  rintro e w1 ⟨rfl, b1⟩
  by_cases h0 : f.sizeL 1 0 < 0
  · have e1 : tlvE f = 220 := by unfold tlvE; rw [if_pos h0]
    have e2 : outB f = [] := by unfold outB; rw [if_pos h0]
    rw [e1]
    have E1 := Lib.hid e1
    have E2 := Lib.hid e2
    clear e1 e2
    go_wp2
    go_ret2
    have e1 : tlvE f = 220 := E1
    have e2 : outB f = [] := E2
    exact ⟨_, by rw [e1]; rfl, by rw [e2]; exact World.ownsRow_nil _ _ _ _, b1⟩
  · have e1 : tlvE f = 0 := by unfold tlvE; rw [if_neg h0]
    have e2 : outB f = f.layF := by unfold outB; rw [if_neg h0]
    rw [e1]
    have E1 := Lib.hid e1
    have E2 := Lib.hid e2
    have k2 := kl w1 b1
    clear kl kc e1 e2
    go_wp2_with (go_at_call 27; refine held ?_)
    unfold Held
    refine k2.mono ?_
    rintro e w2 ⟨v, rfl, o2, b2⟩
    have o3 : w2.ownsRow W.heap.size 5 1 v f.layF.length (f.layF.map (Value.int .u8)) := by
      have hb := b1.size
      refine ⟨o2.1, ?_⟩
      rcases o2.2 with h | ⟨g, cap, cur, h0, h1, h2⟩
      · exact .inl h
      · exact .inr ⟨g, cap, cur, h0, by omega, h2⟩
    have b3 := below_step b1 b2
    clear k2 o2
    go_wp2
    go_ret2
    have e1 : tlvE f = 0 := E1
    have e2 : outB f = f.layF := E2
    exact ⟨_, by rw [e1]; rfl, by rw [e2]; exact o3, b3⟩
def F1 : Forest := .cons 1 [97, 98] .nil .nil
def F2 : Forest := .cons 129 [] F1 .nil
theorem F1_out : outB F1 = [1, 2, 0, 0, 0, 97, 98] := by decide
theorem F2_out : outB F2 = [129, 7, 0, 0, 0, 1, 2, 0, 0, 0, 97, 98] := by decide
theorem F1_str : ((strOfNums [1, 2, 0, 0, 0, 97, 98]).toList == [1, 2, 0, 0, 0, 97, 98]) = true := by rw [ByteArray.toList_eq]; decide
theorem F2_str : ((strOfNums [129, 7, 0, 0, 0, 1, 2, 0, 0, 0, 97, 98]).toList == [129, 7, 0, 0, 0, 1, 2, 0, 0, 0, 97, 98]) = true := by rw [ByteArray.toList_eq]; decide
theorem F1_e : tlvE F1 = 0 := by decide
theorem F2_e : tlvE F2 = 0 := by decide
/-- one field, laid by a composite literal -/
theorem one_field (W : World) (n : Nat) (t : Int) (a : Option Addr) (len cap : Nat) (bs : List Int) (ka : Option Addr) (kl kc : Nat) (k : Forest) (ht1 : -9223372036854775808 ≤ t) (ht2 : t ≤ 9223372036854775807)
    (hb : Row8 W.heap.size W (.slice a len cap) bs) (hbl : bs.length ≤ 140737488351232) (hk : SlF W.heap.size W ka kl kc k) :
    SlF (W.alloc (.cells #[.int .i64 t, .slice a len cap, .slice ka kl kc] 30)).heap.size (W.alloc (.cells #[.int .i64 t, .slice a len cap, .slice ka kl kc] 30)) (some ⟨W.heap.size, 0, none⟩) 1 1 (.cons t bs k .nil) := by
  have bb : Below W.heap.size W (W.alloc (.cells #[.int .i64 t, .slice a len cap, .slice ka kl kc] 30)) := (Below.refl _ W).alloc (Nat.le_refl _) _
  obtain ⟨h7, h8⟩ := (hk.below bb).mono bb.size
  refine ⟨rfl, .inr ⟨W.heap.size, 0, rfl, by simp, Nat.le_refl _, by decide, a, len, cap, ka, kl, kc, ?_, ?_, ?_, ht1, ht2, ⟨(hb.below bb).mono bb.size, hbl⟩, h7, h8, trivial⟩⟩
  · rw [World.cell?_alloc_mark]; rfl
  · rw [World.cell?_alloc_mark]; rfl
  · rw [World.cell?_alloc_mark]; rfl
theorem slF_none (n : Nat) (W : World) : SlF n W none 0 0 .nil := ⟨rfl, .inl rfl⟩
theorem row8_none (n : Nat) (W : World) : Row8 n W (.slice none 0 0) [] := ⟨.inl ⟨_, _, rfl, rfl⟩, by simp⟩
set_option maxRecDepth 100000 in
set_option maxHeartbeats 4000000 in
theorem alive_any (w : World) :
    Calls Try.prog 10 #[] w fun e w' => e = .returned (.bool true) ∧ Below w.heap.size w w' := by
  have kc := fun (w : World) (C : Array Value) (n c : Nat) => Lib.run_convert_bytes_const (P := Try.prog) w 25 5 C n c Try.underlying25 Try.underlying5
  go_enter Try.func10, Try.ntmps10
  go_wp2_with (go_at_call 12; refine held ?_)
  unfold Held
  obtain ⟨W1, hW1⟩ : ∃ W1, W1 = w.alloc (.cells #[.int .u8 97, .int .u8 98] 5 (2, 3)) := ⟨_, rfl⟩
  have r1 : Row8 W1.heap.size W1 (.slice (some ⟨w.heap.size, 0, none⟩) 2 2) [97, 98] := by rw [hW1]; exact Row8.built w 5 (2, 3) [97, 98] (by decide) (by decide) _ rfl 2 rfl
  have b1 : Below w.heap.size w W1 := by rw [hW1]; exact (Below.refl _ w).alloc (Nat.le_refl _) _
  have s1 : W1.heap.size = w.heap.size + 1 := by rw [hW1]; simp
  rw [← hW1]
  obtain ⟨X, hX⟩ : ∃ X, X = Obj.cells #[.int .i64 1, .slice (some ⟨w.heap.size, 0, none⟩) 2 2, .slice none 0 0] 30 := ⟨_, rfl⟩
  rw [← hX]
  have sX : (W1.alloc X).heap.size = w.heap.size + 1 + 1 := by rw [World.size_alloc, s1]
  have f1 : SlF ((W1.alloc X).alloc X).heap.size ((W1.alloc X).alloc X) (some ⟨w.heap.size + 1 + 1, 0, none⟩) 1 1 F1 := by
    have := one_field (W1.alloc X) 0 1 (some ⟨w.heap.size, 0, none⟩) 2 2 [97, 98] none 0 0 .nil (by decide) (by decide) ((r1.below ((Below.refl _ W1).alloc (Nat.le_refl _) X)).mono (by simp)) (by decide) (slF_none _ _)
    rw [← hX, sX] at this
    exact this
  have x0 : ((W1.alloc X).alloc X).heap[w.heap.size + 1]? = some X := by
    refine (Below.heap_alloc _ _ _ (by omega)).trans ?_
    rw [← s1]; exact World.alloc_heap_new W1 X
  have b3 : Below w.heap.size w ((W1.alloc X).alloc X) := (b1.alloc b1.size X).alloc (by rw [sX]; omega) X
  refine (tbytes_any F1 _ _ _ _ f1 (by decide)).mono ?_
  rintro e w2 ⟨v1, rfl, o1, b2⟩
  rw [F1_e]
  rw [F1_out] at o1
  try dsimp only
  have y := (b2.block (w.heap.size + 1) (by simp; omega)).trans x0
  rw [hX] at y
  have y0 : w2.cell? ⟨w.heap.size + 1, 0, none⟩ = some (.int .i64 1) := by rw [cell_of_row w2 _ 0 _ _ _ y]; rfl
  have y1 : w2.cell? ⟨w.heap.size + 1, 1, none⟩ = some (.slice (some ⟨w.heap.size, 0, none⟩) 2 2) := by rw [cell_of_row w2 _ 1 _ _ _ y]; rfl
  have y2 : w2.cell? ⟨w.heap.size + 1, 2, none⟩ = some (.slice none 0 0) := by rw [cell_of_row w2 _ 2 _ _ _ y]; rfl
  have hs2 : w.heap.size + 1 < w2.heap.size := World.block_lt_of_cell? w2 _ y0
  have r2 : Row8 w2.heap.size w2 (.slice (some ⟨w.heap.size, 0, none⟩) 2 2) [97, 98] := by
    have h := r1.below (((Below.refl _ W1).alloc (Nat.le_refl _) X).alloc (by simp) X)
    exact ((h.mono (by simp; omega)).below b2).mono b2.size
  replace b2 := below_step b3 b2
  clear x0 f1 hX y r1 b1 s1 sX b3
  go_wp2_with (go_at_call 12; refine held ?_)
  unfold Held
  obtain ⟨X, hX⟩ : ∃ X, X = Obj.cells #[.int .i64 1, .slice (some ⟨w.heap.size, 0, none⟩) 2 2, .slice none 0 0] 30 := ⟨_, rfl⟩
  have f1 : SlF (w2.alloc X).heap.size (w2.alloc X) (some ⟨w2.heap.size, 0, none⟩) 1 1 F1 := by
    rw [hX]
    exact one_field w2 0 1 (some ⟨w.heap.size, 0, none⟩) 2 2 [97, 98] none 0 0 .nil (by decide) (by decide) r2 (by decide) (slF_none _ _)
  have f2 := one_field (w2.alloc X) 0 129 none 0 0 [] (some ⟨w2.heap.size, 0, none⟩) 1 1 F1 (by decide) (by decide) (row8_none _ _) (by decide) f1
  rw [← hX]
  have f3 : SlF ((w2.alloc X).alloc (.cells #[.int .i64 129, .slice none 0 0, .slice (some ⟨w2.heap.size, 0, none⟩) 1 1] 30)).heap.size ((w2.alloc X).alloc (.cells #[.int .i64 129, .slice none 0 0, .slice (some ⟨w2.heap.size, 0, none⟩) 1 1] 30)) (some ⟨w2.heap.size + 1, 0, none⟩) 1 1 F2 := by
    rw [show w2.heap.size + 1 = (w2.alloc X).heap.size from (World.size_alloc ..).symm]; exact f2
  have b4 := below_step b2 (((Below.refl _ w2).alloc (Nat.le_refl _) X).alloc (by simp) (.cells #[.int .i64 129, .slice none 0 0, .slice (some ⟨w2.heap.size, 0, none⟩) 1 1] 30))
  have o1b := ownsRow_same o1 fun q hq => (((Below.refl _ w2).alloc (Nat.le_refl _) X).alloc (by simp) (.cells #[.int .i64 129, .slice none 0 0, .slice (some ⟨w2.heap.size, 0, none⟩) 1 1] 30)).block q (o1.lt q hq).2
  refine (tbytes_any F2 _ _ _ _ f3 (by decide)).mono ?_
  rintro e w3 ⟨v2, rfl, o2, b5⟩
  rw [F2_e]
  rw [F2_out] at o2
  try dsimp only
  have o3 := ownsRow_same o1b fun q hq => b5.block q (o1b.lt q hq).2
  have cv1 := OwnBytes.conv (zs := [1, 2, 0, 0, 0, 97, 98]) o3
  have cv2 := OwnBytes.conv (zs := [129, 7, 0, 0, 0, 1, 2, 0, 0, 0, 97, 98]) o2
  replace b5 := below_step b4 b5
  have q1 := F1_str
  have q2 := F2_str
  clear o1 o1b o2 o3 f1 f2 f3 b4 r2 y0 y1 y2 hX
  go_wp2
  go_ret
  exact ⟨rfl, b5⟩
end Go.Proofs.Ytdlhnipkhlihjaa
