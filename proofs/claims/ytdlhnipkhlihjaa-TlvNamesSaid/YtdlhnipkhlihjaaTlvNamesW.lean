/- The walk of the law TlvNames. -/
import Derived.Test.YtdlhnipkhlihjaaTlvNamesM
import Derived.Test.YtdlhnipkhlihjaaTlvSizeB
import Derived.Test.YtdlhnipkhlihjaaTlvNumM
namespace Go.Proofs.Ytdlhnipkhlihjaa
open Go Go.RowKit
set_option linter.unusedVariables false
set_option linter.unnecessarySimpa false
set_option linter.unusedSimpArgs false
theorem at_make {P : Program} {ops : Array Oper} {rest : List Oper} {o : Oper} {a : Act} {w : World} {Q : Exit → Act → World → Prop} {t : TypeId} {x y : Operand} (ho : o.op = .makeSlice t x y) (h : Held (wpList P ops Q (o :: rest) a w)) : wpList P ops Q (o :: rest) a w := h
theorem num_str : ((strOfNums (numB 258)).toList == [2, 1, 0, 0, 0, 0, 0, 0]) = true := by rw [ByteArray.toList_eq]; decide
theorem made8 (N : Nat) : (madeCells (Value.int .u8 0).cells (N * 1)).toList = (List.replicate N (0 : Int)).map (Value.int .u8) := by
  rw [Nat.mul_one]
  show (madeCells #[Value.int .u8 0] N).toList = _
  rw [toList_madeCells_one, List.map_replicate]
theorem bad_bytes (f : Forest) (hE : tlvE f = 220) (W : World) (a : Option Addr) (len cap : Nat) (h : SlF W.heap.size W a len cap f) (hc : f.cnt ≤ 20000) :
    Calls Try.prog 12 #[.slice a len cap] W fun e W' => ∃ v, e = .returned (.tuple #[v, .int .i64 220]) ∧ Below W.heap.size W W' :=
  (tbytes_any f W a len cap h hc).mono fun e W' h => by
    obtain ⟨v, he, _, hb⟩ := h
    rw [hE] at he
    exact ⟨v, he, hb⟩
theorem bad_read (bs : List Int) (hn : readL 1 bs = none) (W : World) (a : Option Addr) (len cap : Nat) (hr : Row8 W.heap.size W (.slice a len cap) bs) (hb : bs.length ≤ 1048576) :
    Calls Try.prog 21 #[.slice a len cap] W fun e W' => e = .returned (.tuple #[.slice none 0 0, .int .i64 220]) ∧ Below W.heap.size W W' :=
  (tRead_any bs W a len cap hr hb).mono fun e W' h => by
    obtain ⟨hB, ra, rl, rc, E, he, ⟨_, rfl, rfl, rfl, rfl⟩ | ⟨f, hf, _⟩⟩ := h
    · exact ⟨he, hB⟩
    · rw [hn] at hf; cases hf
theorem ok_read (bs : List Int) (f : Forest) (hn : readL 1 bs = some f) (W : World) (a : Option Addr) (len cap : Nat) (hr : Row8 W.heap.size W (.slice a len cap) bs) (hb : bs.length ≤ 1048576) :
    Calls Try.prog 21 #[.slice a len cap] W fun e W' => ∃ ra rl rc, e = .returned (.tuple #[.slice ra rl rc, .int .i64 0]) ∧ SlF W'.heap.size W' ra rl rc f ∧ Below W.heap.size W W' :=
  (tRead_any bs W a len cap hr hb).mono fun e W' h => by
    obtain ⟨hB, ra, rl, rc, E, he, ⟨hn', _⟩ | ⟨f', hf, rfl, hs⟩⟩ := h
    · rw [hn] at hn'; cases hn'
    · rw [hn] at hf
      injection hf with hf
      subst hf
      exact ⟨ra, rl, rc, he, hs, hB⟩
set_option maxRecDepth 100000 in
set_option maxHeartbeats 8000000 in
theorem tlvNames_any (w : World) :
    Calls Try.prog 8 #[] w fun e w' => e = .returned (.bool true) ∧ Below w.heap.size w w' := by
  obtain ⟨i0, hi, hz0, hz1, hz2⟩ := info_parts info_u8
  have B0 := Below.refl w.heap.size w
  go_enter Try.func8, Try.ntmps8
  have r1 : Row8 (w.alloc (.cells #[.int .u8 1, .int .u8 3, .int .u8 0, .int .u8 0, .int .u8 0, .int .u8 97, .int .u8 98] 5)).heap.size (w.alloc (.cells #[.int .u8 1, .int .u8 3, .int .u8 0, .int .u8 0, .int .u8 0, .int .u8 97, .int .u8 98] 5)) (.slice (some ⟨w.heap.size, 0, none⟩) 7 7) [1, 3, 0, 0, 0, 97, 98] := Row8.built w 5 (0, 0) [1, 3, 0, 0, 0, 97, 98] (by decide) (by decide) _ rfl 7 rfl
  have R1 := Lib.hid (bad_read [1, 3, 0, 0, 0, 97, 98] ex1 _ _ _ _ r1 (by decide))
  have C1 := B0.alloc B0.size (.cells #[.int .u8 1, .int .u8 3, .int .u8 0, .int .u8 0, .int .u8 0, .int .u8 97, .int .u8 98] 5)
  clear B0
  clear r1
  go_wp2_with (go_at_call 21; refine held ?_)
  unfold Held
  refine Calls.mono R1 ?_
  rintro e w1 ⟨rfl, b1⟩
  try dsimp only
  have B1 := below_step C1 b1
  clear C1
  clear R1 b1
  have r2 : Row8 (w1.alloc (.cells #[.int .u8 0, .int .u8 0, .int .u8 0, .int .u8 0, .int .u8 0] 5)).heap.size (w1.alloc (.cells #[.int .u8 0, .int .u8 0, .int .u8 0, .int .u8 0, .int .u8 0] 5)) (.slice (some ⟨w1.heap.size, 0, none⟩) 5 5) [0, 0, 0, 0, 0] := Row8.built w1 5 (0, 0) [0, 0, 0, 0, 0] (by decide) (by decide) _ rfl 5 rfl
  have R2 := Lib.hid (bad_read [0, 0, 0, 0, 0] ex2 _ _ _ _ r2 (by decide))
  have C2 := B1.alloc B1.size (.cells #[.int .u8 0, .int .u8 0, .int .u8 0, .int .u8 0, .int .u8 0] 5)
  clear B1
  clear r2
  go_wp2_with (go_at_call 21; refine held ?_)
  unfold Held
  refine Calls.mono R2 ?_
  rintro e w2 ⟨rfl, b2⟩
  try dsimp only
  have B2 := below_step C2 b2
  clear C2
  clear R2 b2
  have R3 := Lib.hid (ok_read [] .nil (readL_nil 1) w2 none 0 0 (row8_none _ _) (by decide))
  go_wp2_with (go_at_call 21; refine held ?_)
  unfold Held
  refine Calls.mono R3 ?_
  rintro e w3 ⟨ra, rl, rc, rfl, ⟨hrl, _⟩, b3⟩
  try dsimp only
  have B3 := below_step B2 b3
  clear B2
  clear R3 b3
  obtain rfl : rl = 0 := hrl.symm
  clear hrl
  have R4 := Lib.hid (number_any 3 258 (by decide) w3)
  go_wp2_with (go_at_call 16; refine held ?_)
  unfold Held
  refine Calls.mono R4 ?_
  rintro e w4 ⟨na, nc, rfl, nr, b4⟩
  try dsimp only
  have B4 := below_step B3 b4
  clear B3
  clear R4 b4
  go_wp2_with ((fail_if_success (unfold Held)); refine at_store (t := 30) rfl ?_)
  unfold Held
  refine wpList_store_row rfl 30 (.tmp 7) (.tmp 44) rfl w4.heap.size #[.int .i64 3, .slice na 8 nc, .slice none 0 0] rfl rfl 30 zT (World.alloc_heap_new _ _) infoT rfl (agg3_one ..) ?_
  rw [World.setRow_alloc_new]
  obtain ⟨w5, hw5⟩ : ∃ V, V = w4.alloc (.cells #[.int .i64 3, .slice na 8 nc, .slice none 0 0] 30) := ⟨_, rfl⟩
  have b5 : Below w4.heap.size w4 w5 := by rw [hw5]; exact (Below.refl _ _).alloc (Nat.le_refl _) _
  have X5 : BoxT w5 w4.heap.size 3 na 8 nc none 0 0 := by rw [hw5]; exact World.alloc_heap_new _ _
  have F5 : Fld w5 3 (numB 258) .nil na 8 nc none 0 0 := ⟨(nr.below b5).mono b5.size, slF_none _ _, by decide, by decide, by decide⟩
  have B5 := below_step B4 b5
  clear B4
  obtain ⟨xb, hxb⟩ : ∃ xb, xb = w4.heap.size := ⟨_, rfl⟩
  rw [← hxb] at X5
  rw [← hw5, ← hxb]
  clear hw5 hxb b5 nr
  obtain ⟨z0, z1, z2⟩ := X5.cells
  have kv := value_any w5 w5.heap.size (Nat.le_refl _) 3 na 8 nc (numB 258) none 0 0 F5.row (by decide)
  have R6 := Lib.hid kv
  clear kv
  go_wp2_with (go_at_call 19; refine held ?_)
  unfold Held
  refine Calls.mono R6 ?_
  rintro e w6 ⟨b6, he⟩
  rw [numB_len, valB_num 258 (by decide), if_pos (by decide), show decide ((3 : Int) < 128 ∧ 8 = 8) = true from rfl] at he
  subst he
  try dsimp only
  have B6 := below_step B5 b6
  clear B5
  have X := X5.below b6
  have F := F5.below b6
  clear R6 b6 X5 F5 z0 z1 z2
  have L0 := Below.refl w6.heap.size w6
  obtain ⟨mb, ms⟩ := one_lit (⟨row8_none _ _, slF_none _ _, by decide, by decide, by decide⟩ : Fld w6 0 [] .nil none 0 0 none 0 0) _ (.inl rfl)
  have M0 := L0.trans (mb.mono L0.size)
  have R7 := Lib.hid (bad_bytes _ ex4 _ _ _ _ ms (by decide))
  have M7 := Lib.hid M0
  clear mb ms L0 M0
  go_wp2_with (go_at_call 12; refine held ?_)
  unfold Held
  refine Calls.mono R7 ?_
  rintro e w7 ⟨v7, rfl, b7⟩
  try dsimp only
  have K7 := Below.trans M7 (b7.mono (Below.size M7))
  have B7 := below_step B6 K7
  clear B6
  clear R7 b7 M7
  replace X := X.below K7
  replace F := F.below K7
  clear K7
  have L0 := Below.refl w7.heap.size w7
  obtain ⟨mb, ms⟩ := one_lit (⟨row8_none _ _, slF_none _ _, by decide, by decide, by decide⟩ : Fld w7 256 [] .nil none 0 0 none 0 0) _ (.inl rfl)
  have M0 := L0.trans (mb.mono L0.size)
  have R8 := Lib.hid (bad_bytes _ ex5 _ _ _ _ ms (by decide))
  have M8 := Lib.hid M0
  clear mb ms L0 M0
  go_wp2_with (go_at_call 12; refine held ?_)
  unfold Held
  refine Calls.mono R8 ?_
  rintro e w8 ⟨v8, rfl, b8⟩
  try dsimp only
  have K8 := Below.trans M8 (b8.mono (Below.size M8))
  have B8 := below_step B7 K8
  clear B7
  clear R8 b8 M8
  replace X := X.below K8
  replace F := F.below K8
  clear K8
  have L0 := Below.refl w8.heap.size w8
  have r8 : Row8 (w8.alloc (.cells #[.int .u8 1] 5)).heap.size (w8.alloc (.cells #[.int .u8 1] 5)) (.slice (some ⟨w8.heap.size, 0, none⟩) 1 1) [1] := Row8.built w8 5 (0, 0) [1] (by decide) (by decide) _ rfl 1 rfl
  replace L0 := L0.alloc L0.size (.cells #[.int .u8 1] 5)
  obtain ⟨mb, ms⟩ := one_lit (⟨r8, slF_none _ _, by decide, by decide, by decide⟩ : Fld (w8.alloc (.cells #[.int .u8 1] 5)) 128 [1] .nil (some ⟨w8.heap.size, 0, none⟩) 1 1 none 0 0) _ (.inl rfl)
  have M0 := L0.trans (mb.mono L0.size)
  rw [show (w8.alloc (.cells #[.int .u8 1] 5)).heap.size = w8.heap.size + 1 from World.size_alloc ..] at ms
  have R9 := Lib.hid (bad_bytes _ ex6 _ _ _ _ ms (by decide))
  have M9 := Lib.hid M0
  clear mb ms L0 M0 r8
  go_wp2_with (go_at_call 12; refine held ?_)
  unfold Held
  refine Calls.mono R9 ?_
  rintro e w9 ⟨v9, rfl, b9⟩
  try dsimp only
  have K9 := Below.trans M9 (b9.mono (Below.size M9))
  have B9 := below_step B8 K9
  clear B8
  clear R9 b9 M9
  replace X := X.below K9
  replace F := F.below K9
  clear K9
  have L0 := Below.refl w9.heap.size w9
  obtain ⟨lb, ls⟩ := one_lit (⟨row8_none _ _, slF_none _ _, by decide, by decide, by decide⟩ : Fld w9 1 [] .nil none 0 0 none 0 0) _ (.inl rfl)
  replace L0 := L0.trans (lb.mono L0.size)
  obtain ⟨mb, ms⟩ := one_lit (⟨row8_none _ _, ls, by decide, by decide, by decide⟩ : Fld (w9.alloc (.cells #[.int .i64 1, .slice none 0 0, .slice none 0 0] 30)) 127 [] (.cons 1 [] .nil .nil) none 0 0 (some ⟨w9.heap.size, 0, none⟩) 1 1) _ (.inl rfl)
  have M0 := L0.trans (mb.mono L0.size)
  rw [show (w9.alloc (.cells #[.int .i64 1, .slice none 0 0, .slice none 0 0] 30)).heap.size = w9.heap.size + 1 from World.size_alloc ..] at ms
  have R10 := Lib.hid (bad_bytes _ ex7 _ _ _ _ ms (by decide))
  have M10 := Lib.hid M0
  clear mb ms L0 M0 lb ls
  go_wp2_with (go_at_call 12; refine held ?_)
  unfold Held
  refine Calls.mono R10 ?_
  rintro e w10 ⟨v10, rfl, b10⟩
  try dsimp only
  have K10 := Below.trans M10 (b10.mono (Below.size M10))
  have B10 := below_step B9 K10
  clear B9
  clear R10 b10 M10
  replace X := X.below K10
  replace F := F.below K10
  clear K10
  have R11 := Lib.hid (deep_any 8 (by decide) (by decide) w10)
  go_wp2_with (go_at_call 26; refine held ?_)
  unfold Held
  refine Calls.mono R11 ?_
  rintro e w11 ⟨x11, rfl, s11, K11⟩
  have B11 := below_step B10 K11
  clear B10
  clear R11
  replace X := X.below K11
  replace F := F.below K11
  clear K11
  have kb := tbytes_any (deepF 7) w11 _ _ _ s11 (by decide)
  rw [ex8.1, ex8.2.1, ex8.2.2.1] at kb
  have R12 := Lib.hid kb
  clear kb s11
  go_wp2_with (go_at_call 12; refine held ?_)
  unfold Held
  refine Calls.mono R12 ?_
  rintro e w12 ⟨vd, rfl, od, K12⟩
  try dsimp only
  have B12 := below_step B11 K12
  clear B11
  obtain ⟨da, dc, rfl, _⟩ := ownsRow_slice od
  clear R12
  replace X := X.below K12
  replace F := F.below K12
  clear K12
  have D : Row8 w12.heap.size w12 (.slice da 40 dc) (deepF 7).layF := ⟨(RowI.of_own od).2, by decide⟩
  clear od
  have R13 := Lib.hid (deep_any 9 (by decide) (by decide) w12)
  go_wp2_with (go_at_call 26; refine held ?_)
  unfold Held
  refine Calls.mono R13 ?_
  rintro e w13 ⟨x13, rfl, s13, K13⟩
  have B13 := below_step B12 K13
  clear B12
  clear R13
  replace X := X.below K13
  replace F := F.below K13
  replace D := (D.below K13).mono K13.size
  clear K13
  have R14 := Lib.hid (bad_bytes (deepF 8) ex9 w13 _ _ _ s13 (by decide))
  clear s13
  go_wp2_with (go_at_call 12; refine held ?_)
  unfold Held
  refine Calls.mono R14 ?_
  rintro e w14 ⟨v14, rfl, K14⟩
  try dsimp only
  have B14 := below_step B13 K14
  clear B13
  clear R14
  replace X := X.below K14
  replace F := F.below K14
  replace D := (D.below K14).mono K14.size
  clear K14
  have R15 := Lib.hid (ok_read _ _ ex8.2.2.2 w14 _ _ _ D (by decide))
  go_wp2_with (go_at_call 21; refine held ?_)
  unfold Held
  refine Calls.mono R15 ?_
  rintro e w15 ⟨sa, sl, sc, rfl, _, K15⟩
  try dsimp only
  have B15 := below_step B14 K15
  clear B14
  clear R15
  replace X := X.below K15
  replace F := F.below K15
  replace D := (D.below K15).mono K15.size
  clear K15
  -- one deeper
  have hl0 := World.ownsRow_lit (base := w15.heap.size) (e := 5) (size := 1) w15 #[.int .u8 128, .int .u8 40, .int .u8 0, .int .u8 0, .int .u8 0] 5 (Nat.le_refl _) (by decide) rfl
  obtain ⟨U, hU⟩ : ∃ U, U = w15.alloc (.cells #[.int .u8 128, .int .u8 40, .int .u8 0, .int .u8 0, .int .u8 0] 5) := ⟨_, rfl⟩
  have bU : Below w15.heap.size w15 U := by rw [hU]; exact (Below.refl _ _).alloc (Nat.le_refl _) _
  rw [← hU] at hl0
  have DU : Row8 w15.heap.size U (.slice da 40 dc) (deepF 7).layF := D.below bU
  have HU := Lib.hid hU
  clear hU
  go_wp2_with (at_builtin; refine held ?_)
  unfold Held
  rw [show w15.alloc (.cells #[.int .u8 128, .int .u8 40, .int .u8 0, .int .u8 0, .int .u8 0] 5) = U from (show U = _ from HU).symm]
  refine wpList_append_row rfl _ _ 25 rfl w15.heap.size 5 i0 Try.underlying25 hi hz0 hz1 hz2 (.slice (some ⟨w15.heap.size, 0, none⟩) 5 5) 5 [128, 40, 0, 0, 0] rfl hl0 da 40 dc w15.heap.size (deepF 7).layF rfl DU.1 (by decide) bU.size ?_
  intro v20 u20 o20 g20 hv20
  have bu : Below w15.heap.size w15 u20 := bU.grown g20 bU.size (fun b h => by simp [Value.ownBlock] at h; omega)
  obtain ⟨ea, ec, rfl, _⟩ := ownsRow_slice o20
  have E20 : Row8 u20.heap.size u20 (.slice ea 45 ec) ([128, 40, 0, 0, 0] ++ (deepF 7).layF) := ⟨(RowI.of_own o20).2, by decide⟩
  have R20 := Lib.hid (bad_read _ ex11 u20 ea 45 ec E20 (by decide))
  replace X := X.below bu
  replace F := F.below bu
  have B20 := below_step B15 bu
  clear hl0 HU DU bU g20 hv20 o20 E20 D B15 bu
  go_wp2_with (go_at_call 21; refine held ?_)
  unfold Held
  refine Calls.mono R20 ?_
  rintro e w20 ⟨rfl, K20⟩
  try dsimp only
  replace X := X.below K20
  replace F := F.below K20
  have B21 := below_step B20 K20
  clear R20 B20 K20
  -- one that is too long
  obtain ⟨N, hN⟩ : ∃ N : Nat, N = 1048572 := ⟨_, rfl⟩
  have HN := Lib.hid hN
  have HNI := Lib.hid (show (1048572 : Int) = (N : Int) by rw [hN]; rfl)
  have e12 := Lib.hid (ex12 (List.replicate N 0) (by rw [List.length_replicate]; exact hN))
  clear hN
  go_wp2_with ((fail_if_success (unfold Held)); refine at_make rfl ?_)
  unfold Held
  refine wpList_make_full w20 rfl (.const (.int .i64 1048572)) (.const (.int .i64 1048572)) 25 rfl w20.heap.size 5 i0 (.int .u8 0) 1 Try.underlying25 hi hz0 hz1 .i64 .i64 1048572 1048572 N rfl rfl HNI HNI (by have hN : N = 1048572 := HN; rw [hz2]; omega) (by have hN : N = 1048572 := HN; simp only [maxLen]; omega) (Nat.le_refl _) ?_
  intro w21 o21 g21
  rw [made8] at o21
  have b21 : Below w20.heap.size w20 w21 := (Below.refl _ _).grown g21 (Nat.le_refl _) (fun b h => by cases h)
  have Z : Row8 w21.heap.size w21 (.slice (some ⟨w20.heap.size, 0, none⟩) N N) (List.replicate N 0) := ⟨(RowI.of_own o21).2, fun z hz => by rw [List.eq_of_mem_replicate hz]; decide⟩
  have ms := one_field w21 0 1 (some ⟨w20.heap.size, 0, none⟩) N N (List.replicate N 0) none 0 0 .nil (by decide) (by decide) Z (by have hN : N = 1048572 := HN; rw [List.length_replicate]; omega) (slF_none _ _)
  have R22 := Lib.hid (tbytesB_any _ _ _ _ _ ms (And.right e12) (And.left e12))
  have K21 := b21.trans (((Below.refl w21.heap.size w21).alloc (Nat.le_refl _) (.cells #[.int .i64 1, .slice (some ⟨w20.heap.size, 0, none⟩) N N, .slice none 0 0] 30)).mono b21.size)
  clear o21 g21 Z ms e12 b21
  go_wp2_with (go_at_call 12; refine held ?_)
  unfold Held
  refine Calls.mono R22 ?_
  rintro e w22 ⟨rfl, b22⟩
  try dsimp only
  have K22 := K21.trans (b22.mono K21.size)
  replace X := X.below K22
  replace F := F.below K22
  have B22 := below_step B21 K22
  clear R22 K21 b22 B21 K22
  have kv := value_any w22 w22.heap.size (Nat.le_refl _) 1 none 0 0 [] none 0 0 (row8_none _ _) (by decide)
  have R23 := Lib.hid kv
  clear kv
  go_wp2_with (go_at_call 19; refine held ?_)
  unfold Held
  refine Calls.mono R23 ?_
  rintro e w23 ⟨K23, he⟩
  rw [if_neg (by decide), show decide ((1 : Int) < 128 ∧ ([] : List Int).length = 8) = false from rfl] at he
  subst he
  try dsimp only
  replace X := X.below K23
  replace F := F.below K23
  have B23 := below_step B22 K23
  clear R23 B22 K23
  go_wp2_with (go_at_call 10; refine held ?_)
  unfold Held
  refine (alive_any w23).mono ?_
  rintro e w24 ⟨rfl, K24⟩
  replace X := X.below K24
  replace F := F.below K24
  have B24 := below_step B23 K24
  obtain ⟨z0, z1, z2⟩ := X.cells
  have cv := convRow (P := Try.prog) F.row.1 25 5 9 Try.underlying25 Try.underlying5 Try.underlying9
  have q1 := num_str
  clear B23 K24 X F
  go_wp2
  go_ret
  exact ⟨rfl, B24⟩
end Go.Proofs.Ytdlhnipkhlihjaa
