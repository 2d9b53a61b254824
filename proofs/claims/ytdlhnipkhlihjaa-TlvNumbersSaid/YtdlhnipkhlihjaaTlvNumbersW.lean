/- The walk of the law TlvNumbers. -/
import Derived.Test.YtdlhnipkhlihjaaTlvNumM
import Derived.Test.YtdlhnipkhlihjaaTlvBackM
import Derived.Test.YtdlhnipkhlihjaaTlvFoundW
import Derived.Test.YtdlhnipkhlihjaaTlvFindsW
import Derived.Test.YtdlhnipkhlihjaaTlvJoinedW
namespace Go.Proofs.Ytdlhnipkhlihjaa
open Go Go.RowKit
attribute [local go_sem] upV_value upV_skip upV_enter
set_option linter.unusedVariables false
set_option linter.unnecessarySimpa false
set_option linter.unusedSimpArgs false
set_option maxRecDepth 100000 in
set_option maxHeartbeats 8000000 in
theorem tlvNumbers_any (w : World) (n m : Nat) (hn : n < 18446744073709551616) (hm : m < 18446744073709551616) (t : Nat) (ht : t ≤ 255) :
    Calls Try.prog 9 #[.int .u64 (n : Int), .int .u64 (m : Int), .int .u8 (t : Int)] w fun e w' => e = .returned (.bool true) ∧ Below w.heap.size w w' := by
  go_enter Try.func9, Try.ntmps9
  go_wp2_with (go_at_call 10; refine held ?_)
  unfold Held
  refine (alive_any w).mono ?_
  rintro e w1 ⟨rfl, b1⟩
  have K1 := Lib.hid (number_any t n hn w1)
  go_wp2_with (go_at_call 16; refine held ?_)
  unfold Held
  refine Calls.mono K1 ?_
  rintro e w2 ⟨a1, c1, rfl, r1, b2⟩
  have K2 := Lib.hid (number_any t m hm w2)
  have hw1 := b1.size
  replace b2 := And.intro (below_step b1 b2) b2
  clear K1
  go_wp2_with (go_at_call 16; refine held ?_)
  unfold Held
  refine Calls.mono K2 ?_
  rintro e w3 ⟨a2, c2, rfl, r2, b3⟩
  have r1' := (r1.below b3).mono b3.size
  have hw2 := b2.1.size
  have b3' := below_step b2.1 b3
  clear K2 r1 b2 b3
  go_wp2_with ((fail_if_success (unfold Held)); refine at_store (t := 30) rfl ?_)
  unfold Held
  obtain ⟨U, hU⟩ : ∃ U, U = (w3.alloc (.cells zT 30)).alloc (.cells zT 30) := ⟨_, rfl⟩
  have hU0 : U.heap[w3.heap.size]? = some (.cells zT 30) := by rw [hU]; exact (Below.heap_alloc _ _ _ (by simp)).trans (World.alloc_heap_new _ _)
  have hU1 : U.heap[w3.heap.size + 1]? = some (.cells zT 30) := by
    rw [hU, show w3.heap.size + 1 = (w3.alloc (.cells zT 30)).heap.size from (World.size_alloc ..).symm]; exact World.alloc_heap_new _ _
  have bU : Below w3.heap.size w3 U := by rw [hU]; exact ((Below.refl _ _).alloc (Nat.le_refl _) _).alloc (by simp) _
  have sU : U.heap.size = w3.heap.size + 2 := by rw [hU]; simp
  refine wpList_store_row rfl 30 (.tmp 8) (.tmp 24) rfl w3.heap.size #[.int .i64 (t : Int), .slice a1 8 c1, .slice none 0 0] rfl rfl 30 zT (by rw [← hU0, hU]; rfl) infoT rfl (agg3_one ..) ?_
  rw [show (w3.alloc (.cells #[.int .i64 0, .slice none 0 0, .slice none 0 0] 30)).alloc (.cells #[.int .i64 0, .slice none 0 0, .slice none 0 0] 30) = U from hU.symm]
  obtain ⟨U2, hU2⟩ : ∃ U2, U2 = U.setRow w3.heap.size #[.int .i64 (t : Int), .slice a1 8 c1, .slice none 0 0] := ⟨_, rfl⟩
  have e8 : U2.heap[w3.heap.size]? = some (.cells #[.int .i64 (t : Int), .slice a1 8 c1, .slice none 0 0] 30) := by rw [hU2]; exact setRow_heap _ _ _ _ _ _ hU0
  have e9 : U2.heap[w3.heap.size + 1]? = some (.cells zT 30) := by rw [hU2]; exact (setRow_other _ _ _ _ (by omega)).trans hU1
  have b8 : Below w3.heap.size w3 U2 := by rw [hU2]; exact below_setRow bU (Nat.le_refl _) _
  have s8 : U2.heap.size = U.heap.size := by rw [hU2]; exact size_setRow _ _ _
  rw [← hU2]
  clear hU hU2 hU0 hU1 bU
  go_wp2_with ((fail_if_success (unfold Held)); refine at_store (t := 30) rfl ?_)
  unfold Held
  refine wpList_store_row rfl 30 (.tmp 9) (.tmp 28) rfl (w3.heap.size + 1) #[.int .i64 (t : Int), .slice a2 8 c2, .slice none 0 0] rfl rfl 30 zT e9 infoT rfl (agg3_one ..) ?_
  obtain ⟨V, hV⟩ : ∃ V, V = U2.setRow (w3.heap.size + 1) #[.int .i64 (t : Int), .slice a2 8 c2, .slice none 0 0] := ⟨_, rfl⟩
  have X8 : BoxT V w3.heap.size (t : Int) a1 8 c1 none 0 0 := by rw [hV]; exact (setRow_other _ _ _ _ (by omega)).trans e8
  have X9 : BoxT V (w3.heap.size + 1) (t : Int) a2 8 c2 none 0 0 := by rw [hV]; exact setRow_heap _ _ _ _ _ _ e9
  have b9 : Below w3.heap.size w3 V := by rw [hV]; exact below_setRow b8 (by omega) _
  have hw3 := b3'.size
  have F8 : Fld V (t : Int) (numB n) .nil a1 8 c1 none 0 0 := ⟨(r1'.below b9).mono b9.size, slF_none _ _, by omega, by omega, by rw [numB_len]; decide⟩
  have F9 : Fld V (t : Int) (numB m) .nil a2 8 c2 none 0 0 := ⟨(r2.below b9).mono b9.size, slF_none _ _, by omega, by omega, by rw [numB_len]; decide⟩
  have B9 := below_step b3' b9
  rw [← hV]
  clear hV e8 e9 b8 s8 sU b9 r1' r2 b3'
  obtain ⟨z0, z1, z2⟩ := X8.cells
  have kv := value_any V V.heap.size (Nat.le_refl _) (t : Int) a1 8 c1 (numB n) none 0 0 F8.row (by rw [numB_len]; decide)
  have KV := Lib.hid kv
  clear kv
  go_wp2_with (go_at_call 19; refine held ?_)
  unfold Held
  refine Calls.mono KV ?_
  rintro e w4 ⟨b4, he⟩
  rw [numB_len, valB_num n hn] at he
  obtain ⟨Vn, hVn⟩ : ∃ x, x = (if (t : Int) < 128 ∧ 8 = 8 then (n : Int) else 0) := ⟨_, rfl⟩
  obtain ⟨Is, hIs⟩ : ∃ x, x = decide ((t : Int) < 128 ∧ 8 = 8) := ⟨_, rfl⟩
  rw [← hVn, ← hIs] at he
  have hT1 : (t : Int) < 128 → Vn = n ∧ Is = true := fun h => by rw [hVn, hIs, if_pos ⟨h, rfl⟩]; exact ⟨rfl, by simp [h]⟩
  have hT2 : ¬ (t : Int) < 128 → Vn = 0 ∧ Is = false := fun h => by rw [hVn, hIs, if_neg (fun h2 => h h2.1)]; exact ⟨rfl, by simp; omega⟩
  have HT := Lib.hid (And.intro hT1 hT2)
  clear hVn hIs hT1 hT2
  subst he
  try dsimp only
  have B4 := below_step B9 b4
  have F8' := F8.below b4
  have F9' := F9.below b4
  have X8' := X8.below b4
  have X9' := X9.below b4
  obtain ⟨z0, z1, z2⟩ := X8'.cells
  obtain ⟨y0, y1, y2⟩ := X9'.cells
  have hB9 := B9.size
  clear KV X8 X9 F8 F9 b4
  obtain ⟨V5, hV5⟩ : ∃ V5, V5 = w4.alloc (.cells #[.int .i64 (t : Int), .slice a1 8 c1, .slice none 0 0, .int .i64 (t : Int), .slice a2 8 c2, .slice none 0 0] 30) := ⟨_, rfl⟩
  have b5 : Below w4.heap.size w4 V5 := by rw [hV5]; exact (Below.refl _ _).alloc (Nat.le_refl _) _
  have s5 : SlF V5.heap.size V5 (some ⟨w4.heap.size, 0, none⟩) 2 2 (two (t : Int) n m) := by
    have g8 := F8'.below b5
    have g9 := F9'.below b5
    have e5 : V5.heap[w4.heap.size]? = some (.cells #[.int .i64 (t : Int), .slice a1 8 c1, .slice none 0 0, .int .i64 (t : Int), .slice a2 8 c2, .slice none 0 0] 30) := by rw [hV5]; exact World.alloc_heap_new _ _
    refine ⟨rfl, .inr ⟨w4.heap.size, 0, rfl, (Array.getElem?_eq_some_iff.1 e5).1, Nat.le_refl _, by decide, ?_⟩⟩
    refine ⟨a1, 8, c1, none, 0, 0, by rw [cell_of_row V5 _ 0 _ _ _ e5]; rfl, by rw [cell_of_row V5 _ 1 _ _ _ e5]; rfl, by rw [cell_of_row V5 _ 2 _ _ _ e5]; rfl, g8.t1, g8.t2, ⟨g8.row, by rw [numB_len]; decide⟩, rfl, .inl rfl, ?_⟩
    exact ⟨a2, 8, c2, none, 0, 0, by rw [cell_of_row V5 _ 3 _ _ _ e5]; rfl, by rw [cell_of_row V5 _ 4 _ _ _ e5]; rfl, by rw [cell_of_row V5 _ 5 _ _ _ e5]; rfl, g9.t1, g9.t2, ⟨g9.row, by rw [numB_len]; decide⟩, rfl, .inl rfl, trivial⟩
  have S5 := Lib.hid s5
  have KB := Lib.hid (tbytes_any (two (t : Int) n m) V5 (some ⟨w4.heap.size, 0, none⟩) 2 2 s5 (by simp [two, Forest.cnt, numB_len]))
  have B5 := below_step B4 b5
  have HV5 := Lib.hid hV5
  clear hV5 s5 b5 X8' X9' F8' F9'
  go_wp2_with (go_at_call 12; refine held ?_)
  unfold Held
  rw [show w4.alloc (.cells #[.int .i64 (t : Int), .slice a1 8 c1, .slice none 0 0, .int .i64 (t : Int), .slice a2 8 c2, .slice none 0 0] 30) = V5 from (show V5 = _ from HV5).symm]
  refine Calls.mono KB ?_
  rintro e w6 ⟨v6, rfl, o6, b6⟩
  try dsimp only
  have hB5 := B5.size
  have B6 := below_step B5 b6
  obtain ⟨hT1, hT2⟩ := (show _ ∧ _ from HT)
  clear KB HV5 HT
  by_cases hv : 1 ≤ t ∧ t < 128
  rotate_left
  · obtain ⟨hE, hO⟩ := two_bad (t : Int) n m (by omega)
    rw [hO] at o6
    rw [hE]
    obtain ⟨va6, vc6, rfl, _⟩ := ownsRow_slice o6
    clear hE hO o6 b6
    by_cases h0 : t = 0
    · subst h0
      clear hT1 hT2 hv ht
      go_wp2
      go_ret
      exact ⟨rfl, B6⟩
    · obtain ⟨rfl, rfl⟩ := hT2 (by omega)
      have t1 : ((t : Int) == 0) = false := by simp; omega
      have t2 : decide ((128 : Int) ≤ (t : Int)) = true := by simp; omega
      have t3 : decide ((t : Int) < 128) = false := by simp; omega
      clear hT1 hT2 hv h0
      go_wp2
      go_ret
      exact ⟨rfl, B6⟩
  obtain ⟨rfl, rfl⟩ := hT1 (by omega)
  obtain ⟨hE, hO, h26, hread⟩ := two_ok (t : Int) n m (by omega) (by omega)
  rw [hO, h26] at o6
  rw [hE]
  have t1 : ((t : Int) == 0) = false := by simp; omega
  have t2 : decide ((128 : Int) ≤ (t : Int)) = false := by simp; omega
  obtain ⟨va6, vc6, rfl, _⟩ := ownsRow_slice o6
  have hby : ∀ z ∈ (two (t : Int) n m).layF, 0 ≤ z ∧ z ≤ 255 := (show SlF V5.heap.size V5 (some ⟨w4.heap.size, 0, none⟩) 2 2 (two (t : Int) n m) from S5).bytes
  have KR := Lib.hid (tRead_any (two (t : Int) n m).layF w6 va6 26 vc6 ⟨(RowI.of_own o6).2, hby⟩ (by omega))
  have HRD := Lib.hid hread
  clear hT1 hT2 hE hO hread hby o6 b6
  go_wp2_with (go_at_call 21; refine held ?_)
  unfold Held
  refine Calls.mono KR ?_
  rintro e w7 ⟨b7, ra, rl, rc, E, rfl, hX⟩
  try dsimp only
  obtain ⟨rfl, hS7⟩ : E = 0 ∧ SlF w7.heap.size w7 ra rl rc (two (t : Int) n m) := by
    rcases hX with ⟨hn', _⟩ | ⟨f', hf', rfl, hs⟩
    · rw [(show readL 1 (two (t : Int) n m).layF = _ from HRD)] at hn'; cases hn'
    · rw [(show readL 1 (two (t : Int) n m).layF = _ from HRD)] at hf'
      injection hf' with hf'
      subst hf'
      exact ⟨rfl, hs⟩
  have hB6 := B6.size
  have B7 := below_step B6 b7
  obtain ⟨hl2, hrow⟩ := hS7
  obtain rfl : rl = 2 := hl2.symm
  obtain ⟨lb, lo, rfl, hlb, hlc, hlm, hrow⟩ : ∃ b off, ra = some ⟨b, off, none⟩ ∧ b < w7.heap.size ∧ 2 ≤ rc ∧ rc ≤ maxLen ∧ RowF w7.heap.size w7 (two (t : Int) n m) b off := by
    rcases hrow with h | h
    · cases h
    · exact h
  obtain ⟨a3, l3, c3, ka3, kl3, kc3, p0, p1, p2, _, _, hr3, hk3, hs3, a4, l4, c4, ka4, kl4, kc4, q0, q1, q2, _, _, hr4, hk4, hs4, _⟩ := hrow
  have RA : ∀ W', Below w7.heap.size w7 W' → SlF W'.heap.size W' (some ⟨lb, lo, none⟩) 1 rc (.cons (t : Int) (numB n) .nil .nil) ∧ SlF W'.heap.size W' (some ⟨lb, lo + 3, none⟩) 1 (rc - 1) (.cons (t : Int) (numB m) .nil .nil) := fun W' hW => by
    have r1 : RowF w7.heap.size w7 (.cons (t : Int) (numB n) .nil .nil) lb lo := ⟨a3, l3, c3, ka3, kl3, kc3, p0, p1, p2, by omega, by omega, hr3, hk3, hs3, trivial⟩
    have r2 : RowF w7.heap.size w7 (.cons (t : Int) (numB m) .nil .nil) lb (lo + 3) := ⟨a4, l4, c4, ka4, kl4, kc4, q0, q1, q2, by omega, by omega, hr4, hk4, hs4, trivial⟩
    exact ⟨SlF.mono ⟨rfl, .inr ⟨lb, lo, rfl, hlb, by omega, hlm, RowF.below hW _ lb lo hlb r1⟩⟩ hW.size, SlF.mono ⟨rfl, .inr ⟨lb, lo + 3, rfl, hlb, by omega, by omega, RowF.below hW _ lb (lo + 3) hlb r2⟩⟩ hW.size⟩
  have hB7 := B7.size
  have KV1 := Lib.hid (value_any w7 w7.heap.size (Nat.le_refl _) (t : Int) a3 l3 c3 (numB n) ka3 kl3 kc3 hr3.1 (by rw [numB_len]; decide))
  have HRA := Lib.hid RA
  have Q7 := Lib.hid (And.intro q0 (And.intro q1 (And.intro q2 hr4)))
  clear KR hX hr3 hk3 hs3 hr4 hk4 hs4 q0 q1 q2 RA b7 S5 HRD
  go_wp2_with (go_at_call 19; refine held ?_)
  unfold Held
  refine Calls.mono KV1 ?_
  rintro e w8 ⟨b8, he⟩
  rw [numB_len, valB_num n hn, if_pos ⟨by omega, rfl⟩, decide_eq_true ⟨by omega, rfl⟩] at he
  subst he
  try dsimp only
  obtain ⟨q0, q1, q2, hr4⟩ := (show _ ∧ _ ∧ _ ∧ _ from Q7)
  have q0' := (b8.cell (p := ⟨lb, lo + 3, none⟩) hlb).trans q0
  have q1' := (b8.cell (p := ⟨lb, lo + 3 + 1, none⟩) hlb).trans q1
  have q2' := (b8.cell (p := ⟨lb, lo + 3 + 2, none⟩) hlb).trans q2
  have hb8 := b8.size
  have B8 := below_step B7 b8
  have KV2 := Lib.hid (value_any w8 w8.heap.size (Nat.le_refl _) (t : Int) a4 l4 c4 (numB m) ka4 kl4 kc4 ((hr4.1.below b8).mono b8.size) (by rw [numB_len]; decide))
  clear KV1 hr4 q0 q1 q2 p0 p1 p2
  go_wp2_with (go_at_call 19; refine held ?_)
  unfold Held
  refine Calls.mono KV2 ?_
  rintro e w9 ⟨b9, he⟩
  rw [numB_len, valB_num m hm, if_pos ⟨by omega, rfl⟩, decide_eq_true ⟨by omega, rfl⟩] at he
  subst he
  try dsimp only
  have hB8 := B8.size
  have B9' := below_step B8 b9
  have b79 := b8.trans (b9.mono b8.size)
  have hsl0 : sliced (some (⟨lb, lo, none⟩ : Addr)) 0 1 rc 3 = .slice (some ⟨lb, lo, none⟩) 1 rc := by
    unfold sliced
    rw [if_neg (by omega)]
    simp [Addr.add_lit]
  have hsl1 : sliced (some (⟨lb, lo, none⟩ : Addr)) 1 2 rc 3 = .slice (some ⟨lb, lo + 3, none⟩) 1 (rc - 1) := by
    unfold sliced
    rw [if_neg (by omega)]
    simp [Addr.add_lit]
  have SA := (show ∀ W', Below w7.heap.size w7 W' → _ from HRA) w9.drew ⟨b79.os, b79.tape, b79.output, b79.size, b79.block⟩
  obtain ⟨S1, S2⟩ := SA
  have KS := Lib.hid (same_any _ _ w9.drew w9.drew.heap.size _ _ _ _ _ _ (Nat.le_refl _) S1 S2)
  have hinj : (Forest.cons (t : Int) (numB n) .nil .nil = .cons (t : Int) (numB m) .nil .nil) ↔ n = m := by
    constructor
    · intro h
      injection h with _ h _ _
      exact numB_inj hn hm h
    · intro h; rw [h]
  have HI := Lib.hid hinj
  clear KV2 hinj S1 S2 q0' q1' q2' b8 b9 HRA Q7
  by_cases hnm : n = m
  · have t8 : ((n : Int) == (m : Int)) = true := by simp; omega
    have HNM := Lib.hid hnm
    clear hnm
    go_wp2_with fail
    refine wp_region_anyV Grows (by kernel_rfl) 29 rfl ?_
    first
      | (refine anyV_val 0 (Grows.pre) rfl (by kernel_rfl) (by kernel_rfl) (by kernel_rfl) (by rfl) (v := ?av1) (fun W hW => ?ay1) (fun K hK => ?ar1); case ay1 => (go_simp; first | done | rfl))
      | refine anyV_skip 0 (Grows.pre) rfl (by kernel_rfl) (by kernel_rfl) (by kernel_rfl) (by rfl) (fun K hK => ?_)
    go_simp
    refine hK _ ?_
    clear hK K
    first
      | (refine anyV_val 1 (Grows.pre) rfl (by kernel_rfl) (by kernel_rfl) (by kernel_rfl) (by rfl) (v := ?av2) (fun W hW => ?ay2) (fun K hK => ?ar2); case ay2 => (go_simp; first | done | rfl))
      | refine anyV_skip 1 (Grows.pre) rfl (by kernel_rfl) (by kernel_rfl) (by kernel_rfl) (by rfl) (fun K hK => ?_)
    go_simp
    refine hK _ ?_
    clear hK K
    first
      | (refine anyV_val 2 (Grows.pre) rfl (by kernel_rfl) (by kernel_rfl) (by kernel_rfl) (by rfl) (v := ?av3) (fun W hW => ?ay3) (fun K hK => ?ar3); case ay3 => (go_simp; first | done | rfl))
      | refine anyV_skip 2 (Grows.pre) rfl (by kernel_rfl) (by kernel_rfl) (by kernel_rfl) (by rfl) (fun K hK => ?_)
    go_simp
    refine hK _ ?_
    clear hK K
    first
      | (refine anyV_val 3 (Grows.pre) rfl (by kernel_rfl) (by kernel_rfl) (by kernel_rfl) (by rfl) (v := ?av4) (fun W hW => ?ay4) (fun K hK => ?ar4); case ay4 => (go_simp; first | done | rfl))
      | refine anyV_skip 3 (Grows.pre) rfl (by kernel_rfl) (by kernel_rfl) (by kernel_rfl) (by rfl) (fun K hK => ?_)
    go_simp
    refine hK _ ?_
    clear hK K
    first
      | (refine anyV_val 4 (Grows.pre) rfl (by kernel_rfl) (by kernel_rfl) (by kernel_rfl) (by rfl) (v := ?av5) (fun W hW => ?ay5) (fun K hK => ?ar5); case ay5 => (go_simp; first | done | rfl))
      | refine anyV_skip 4 (Grows.pre) rfl (by kernel_rfl) (by kernel_rfl) (by kernel_rfl) (by rfl) (fun K hK => ?_)
    go_simp
    refine hK _ ?_
    clear hK K
    first
      | (refine anyV_val 5 (Grows.pre) rfl (by kernel_rfl) (by kernel_rfl) (by kernel_rfl) (by rfl) (v := ?av6) (fun W hW => ?ay6) (fun K hK => ?ar6); case ay6 => (go_simp; first | done | rfl))
      | refine anyV_skip 5 (Grows.pre) rfl (by kernel_rfl) (by kernel_rfl) (by kernel_rfl) (by rfl) (fun K hK => ?_)
    go_simp
    refine hK _ ?_
    clear hK K
    first
      | (refine anyV_val 6 (Grows.pre) rfl (by kernel_rfl) (by kernel_rfl) (by kernel_rfl) (by rfl) (v := ?av7) (fun W hW => ?ay7) (fun K hK => ?ar7); case ay7 => (go_simp; first | done | rfl))
      | refine anyV_skip 6 (Grows.pre) rfl (by kernel_rfl) (by kernel_rfl) (by kernel_rfl) (by rfl) (fun K hK => ?_)
    go_simp
    refine hK _ ?_
    clear hK K
    first
      | (refine anyV_val 7 (Grows.pre) rfl (by kernel_rfl) (by kernel_rfl) (by kernel_rfl) (by rfl) (v := ?av8) (fun W hW => ?ay8) (fun K hK => ?ar8); case ay8 => (go_simp; first | done | rfl))
      | refine anyV_skip 7 (Grows.pre) rfl (by kernel_rfl) (by kernel_rfl) (by kernel_rfl) (by rfl) (fun K hK => ?_)
    go_simp
    refine hK _ ?_
    clear hK K
    first
      | (refine anyV_val 8 (Grows.pre) rfl (by kernel_rfl) (by kernel_rfl) (by kernel_rfl) (by rfl) (v := ?av9) (fun W hW => ?ay9) (fun K hK => ?ar9); case ay9 => (go_simp; first | done | rfl))
      | refine anyV_skip 8 (Grows.pre) rfl (by kernel_rfl) (by kernel_rfl) (by kernel_rfl) (by rfl) (fun K hK => ?_)
    go_simp
    refine hK _ ?_
    clear hK K
    first
      | (refine anyV_val 9 (Grows.pre) rfl (by kernel_rfl) (by kernel_rfl) (by kernel_rfl) (by rfl) (v := ?av10) (fun W hW => ?ay10) (fun K hK => ?ar10); case ay10 => (go_simp; first | done | rfl))
      | refine anyV_skip 9 (Grows.pre) rfl (by kernel_rfl) (by kernel_rfl) (by kernel_rfl) (by rfl) (fun K hK => ?_)
    go_simp
    refine hK _ ?_
    clear hK K
    first
      | (refine anyV_val 10 (Grows.pre) rfl (by kernel_rfl) (by kernel_rfl) (by kernel_rfl) (by rfl) (v := ?av11) (fun W hW => ?ay11) (fun K hK => ?ar11); case ay11 => (go_simp; first | done | rfl))
      | refine anyV_skip 10 (Grows.pre) rfl (by kernel_rfl) (by kernel_rfl) (by kernel_rfl) (by rfl) (fun K hK => ?_)
    go_simp
    refine hK _ ?_
    clear hK K
    first
      | (refine anyV_val 11 (Grows.pre) rfl (by kernel_rfl) (by kernel_rfl) (by kernel_rfl) (by rfl) (v := ?av12) (fun W hW => ?ay12) (fun K hK => ?ar12); case ay12 => (go_simp; first | done | rfl))
      | refine anyV_skip 11 (Grows.pre) rfl (by kernel_rfl) (by kernel_rfl) (by kernel_rfl) (by rfl) (fun K hK => ?_)
    go_simp
    refine hK _ ?_
    clear hK K
    first
      | (refine anyV_val 12 (Grows.pre) rfl (by kernel_rfl) (by kernel_rfl) (by kernel_rfl) (by rfl) (v := ?av13) (fun W hW => ?ay13) (fun K hK => ?ar13); case ay13 => (go_simp; first | done | rfl))
      | refine anyV_skip 12 (Grows.pre) rfl (by kernel_rfl) (by kernel_rfl) (by kernel_rfl) (by rfl) (fun K hK => ?_)
    go_simp
    refine hK _ ?_
    clear hK K
    first
      | (refine anyV_val 13 (Grows.pre) rfl (by kernel_rfl) (by kernel_rfl) (by kernel_rfl) (by rfl) (v := ?av14) (fun W hW => ?ay14) (fun K hK => ?ar14); case ay14 => (go_simp; first | done | rfl))
      | refine anyV_skip 13 (Grows.pre) rfl (by kernel_rfl) (by kernel_rfl) (by kernel_rfl) (by rfl) (fun K hK => ?_)
    go_simp
    refine hK _ ?_
    clear hK K
    first
      | (refine anyV_val 14 (Grows.pre) rfl (by kernel_rfl) (by kernel_rfl) (by kernel_rfl) (by rfl) (v := ?av15) (fun W hW => ?ay15) (fun K hK => ?ar15); case ay15 => (go_simp; first | done | rfl))
      | refine anyV_skip 14 (Grows.pre) rfl (by kernel_rfl) (by kernel_rfl) (by kernel_rfl) (by rfl) (fun K hK => ?_)
    go_simp
    refine hK _ ?_
    clear hK K
    first
      | (refine anyV_val 15 (Grows.pre) rfl (by kernel_rfl) (by kernel_rfl) (by kernel_rfl) (by rfl) (v := ?av16) (fun W hW => ?ay16) (fun K hK => ?ar16); case ay16 => (go_simp; first | done | rfl))
      | refine anyV_skip 15 (Grows.pre) rfl (by kernel_rfl) (by kernel_rfl) (by kernel_rfl) (by rfl) (fun K hK => ?_)
    go_simp
    refine hK _ ?_
    clear hK K
    first
      | (refine anyV_val 16 (Grows.pre) rfl (by kernel_rfl) (by kernel_rfl) (by kernel_rfl) (by rfl) (v := ?av17) (fun W hW => ?ay17) (fun K hK => ?ar17); case ay17 => (go_simp; first | done | rfl))
      | refine anyV_skip 16 (Grows.pre) rfl (by kernel_rfl) (by kernel_rfl) (by kernel_rfl) (by rfl) (fun K hK => ?_)
    go_simp
    refine hK _ ?_
    clear hK K
    first
      | (refine anyV_val 17 (Grows.pre) rfl (by kernel_rfl) (by kernel_rfl) (by kernel_rfl) (by rfl) (v := ?av18) (fun W hW => ?ay18) (fun K hK => ?ar18); case ay18 => (go_simp; first | done | rfl))
      | refine anyV_skip 17 (Grows.pre) rfl (by kernel_rfl) (by kernel_rfl) (by kernel_rfl) (by rfl) (fun K hK => ?_)
    go_simp
    refine hK _ ?_
    clear hK K
    first
      | (refine anyV_val 18 (Grows.pre) rfl (by kernel_rfl) (by kernel_rfl) (by kernel_rfl) (by rfl) (v := ?av19) (fun W hW => ?ay19) (fun K hK => ?ar19); case ay19 => (go_simp; first | done | rfl))
      | refine anyV_skip 18 (Grows.pre) rfl (by kernel_rfl) (by kernel_rfl) (by kernel_rfl) (by rfl) (fun K hK => ?_)
    go_simp
    refine hK _ ?_
    clear hK K
    refine anyV_val 19 (Grows.pre) rfl (by kernel_rfl) (by kernel_rfl) (by kernel_rfl) (by rfl) (v := (.slice (some ⟨lb, lo, none⟩) 1 rc)) (fun W hW => ?ay20) (fun K hK => ?ar20)
    case ay20 => (exact exec_sliceN 3 22 (.tmp 133) none (some (.const (.int .i64 1))) rfl (some ⟨lb, lo, none⟩) 2 rc 0 1 rfl (.inl ⟨rfl, rfl⟩) (.inr ⟨_, rfl, rfl⟩) (by kernel_rfl) (by kernel_rfl) (by decide) (by decide) hlc _ hsl0)
    go_simp
    refine hK _ ?_
    clear hK K
    first
      | (refine anyV_val 20 (Grows.pre) rfl (by kernel_rfl) (by kernel_rfl) (by kernel_rfl) (by rfl) (v := ?av21) (fun W hW => ?ay21) (fun K hK => ?ar21); case ay21 => (go_simp; first | done | rfl))
      | refine anyV_skip 20 (Grows.pre) rfl (by kernel_rfl) (by kernel_rfl) (by kernel_rfl) (by rfl) (fun K hK => ?_)
    go_simp
    refine hK _ ?_
    clear hK K
    refine anyV_val 21 (Grows.pre) rfl (by kernel_rfl) (by kernel_rfl) (by kernel_rfl) (by rfl) (v := (.slice (some ⟨lb, lo + 3, none⟩) 1 (rc - 1))) (fun W hW => ?ay22) (fun K hK => ?ar22)
    case ay22 => (exact exec_sliceN 3 22 (.tmp 135) (some (.const (.int .i64 1))) none rfl (some ⟨lb, lo, none⟩) 2 rc 1 2 rfl (.inr ⟨_, rfl, rfl⟩) (.inl ⟨rfl, rfl⟩) (by kernel_rfl) (by kernel_rfl) (by decide) (by decide) hlc _ hsl1)
    go_simp
    refine hK _ ?_
    clear hK K
    first
      | (refine anyV_val 23 (Grows.pre) rfl (by kernel_rfl) (by kernel_rfl) (by kernel_rfl) (by rfl) (v := ?av23) (fun W hW => ?ay23) (fun K hK => ?ar23); case ay23 => (go_simp; first | done | rfl))
      | refine anyV_skip 23 (Grows.pre) rfl (by kernel_rfl) (by kernel_rfl) (by kernel_rfl) (by rfl) (fun K hK => ?_)
    go_simp
    refine hK _ ?_
    clear hK K
    first
      | (refine anyV_val 24 (Grows.pre) rfl (by kernel_rfl) (by kernel_rfl) (by kernel_rfl) (by rfl) (v := ?av24) (fun W hW => ?ay24) (fun K hK => ?ar24); case ay24 => (go_simp; first | done | rfl))
      | refine anyV_skip 24 (Grows.pre) rfl (by kernel_rfl) (by kernel_rfl) (by kernel_rfl) (by rfl) (fun K hK => ?_)
    go_simp
    refine hK _ ?_
    clear hK K
    first
      | (refine anyV_val 25 (Grows.pre) rfl (by kernel_rfl) (by kernel_rfl) (by kernel_rfl) (by rfl) (v := ?av25) (fun W hW => ?ay25) (fun K hK => ?ar25); case ay25 => (go_simp; first | done | rfl))
      | refine anyV_skip 25 (Grows.pre) rfl (by kernel_rfl) (by kernel_rfl) (by kernel_rfl) (by rfl) (fun K hK => ?_)
    go_simp
    refine hK _ ?_
    clear hK K
    refine anyV_only 22 rfl (by kernel_rfl) (by rfl) (fun K hK => ?_)
    go_simp
    refine Calls.mono KS ?_
    rintro e w10 ⟨rr, rfl, hrr, b10⟩
    obtain rfl : rr = true := hrr.2 ((show _ ↔ n = m from HI).2 HNM)
    have B10 := below_step B9' (below_undrew b10)
    refine ⟨_, rfl, hK _ _ b10 ?_⟩
    clear hrr
    clear hK K
    refine anyV_frame (fun K hK => ?_)
    go_simp
    refine hK _ ?_
    clear hK K
    first
      | (refine anyV_val 26 (Grows.pre) rfl (by kernel_rfl) (by kernel_rfl) (by kernel_rfl) (by rfl) (v := ?av26) (fun W hW => ?ay26) (fun K hK => ?ar26); case ay26 => (go_simp; first | done | rfl))
      | refine anyV_skip 26 (Grows.pre) rfl (by kernel_rfl) (by kernel_rfl) (by kernel_rfl) (by rfl) (fun K hK => ?_)
    go_simp
    refine hK _ ?_
    clear hK K
    first
      | (refine anyV_val 27 (Grows.pre) rfl (by kernel_rfl) (by kernel_rfl) (by kernel_rfl) (by rfl) (v := ?av27) (fun W hW => ?ay27) (fun K hK => ?ar27); case ay27 => (go_simp; first | done | rfl))
      | refine anyV_skip 27 (Grows.pre) rfl (by kernel_rfl) (by kernel_rfl) (by kernel_rfl) (by rfl) (fun K hK => ?_)
    go_simp
    refine hK _ ?_
    clear hK K
    first
      | (refine anyV_val 28 (Grows.pre) rfl (by kernel_rfl) (by kernel_rfl) (by kernel_rfl) (by rfl) (v := ?av28) (fun W hW => ?ay28) (fun K hK => ?ar28); case ay28 => (go_simp; first | done | rfl))
      | refine anyV_skip 28 (Grows.pre) rfl (by kernel_rfl) (by kernel_rfl) (by kernel_rfl) (by rfl) (fun K hK => ?_)
    go_simp
    refine hK _ ?_
    clear hK K
    refine anyV_done (by kernel_rfl) ?_
    go_wp2
    go_ret
    exact ⟨rfl, B10⟩
  · have t8 : ((n : Int) == (m : Int)) = false := by simp; omega
    have HNM := Lib.hid hnm
    clear hnm
    go_wp2_with fail
    refine wp_region_anyV Grows (by kernel_rfl) 29 rfl ?_
    first
      | (refine anyV_val 0 (Grows.pre) rfl (by kernel_rfl) (by kernel_rfl) (by kernel_rfl) (by rfl) (v := ?av29) (fun W hW => ?ay29) (fun K hK => ?ar29); case ay29 => (go_simp; first | done | rfl))
      | refine anyV_skip 0 (Grows.pre) rfl (by kernel_rfl) (by kernel_rfl) (by kernel_rfl) (by rfl) (fun K hK => ?_)
    go_simp
    refine hK _ ?_
    clear hK K
    first
      | (refine anyV_val 1 (Grows.pre) rfl (by kernel_rfl) (by kernel_rfl) (by kernel_rfl) (by rfl) (v := ?av30) (fun W hW => ?ay30) (fun K hK => ?ar30); case ay30 => (go_simp; first | done | rfl))
      | refine anyV_skip 1 (Grows.pre) rfl (by kernel_rfl) (by kernel_rfl) (by kernel_rfl) (by rfl) (fun K hK => ?_)
    go_simp
    refine hK _ ?_
    clear hK K
    first
      | (refine anyV_val 2 (Grows.pre) rfl (by kernel_rfl) (by kernel_rfl) (by kernel_rfl) (by rfl) (v := ?av31) (fun W hW => ?ay31) (fun K hK => ?ar31); case ay31 => (go_simp; first | done | rfl))
      | refine anyV_skip 2 (Grows.pre) rfl (by kernel_rfl) (by kernel_rfl) (by kernel_rfl) (by rfl) (fun K hK => ?_)
    go_simp
    refine hK _ ?_
    clear hK K
    first
      | (refine anyV_val 3 (Grows.pre) rfl (by kernel_rfl) (by kernel_rfl) (by kernel_rfl) (by rfl) (v := ?av32) (fun W hW => ?ay32) (fun K hK => ?ar32); case ay32 => (go_simp; first | done | rfl))
      | refine anyV_skip 3 (Grows.pre) rfl (by kernel_rfl) (by kernel_rfl) (by kernel_rfl) (by rfl) (fun K hK => ?_)
    go_simp
    refine hK _ ?_
    clear hK K
    first
      | (refine anyV_val 4 (Grows.pre) rfl (by kernel_rfl) (by kernel_rfl) (by kernel_rfl) (by rfl) (v := ?av33) (fun W hW => ?ay33) (fun K hK => ?ar33); case ay33 => (go_simp; first | done | rfl))
      | refine anyV_skip 4 (Grows.pre) rfl (by kernel_rfl) (by kernel_rfl) (by kernel_rfl) (by rfl) (fun K hK => ?_)
    go_simp
    refine hK _ ?_
    clear hK K
    first
      | (refine anyV_val 5 (Grows.pre) rfl (by kernel_rfl) (by kernel_rfl) (by kernel_rfl) (by rfl) (v := ?av34) (fun W hW => ?ay34) (fun K hK => ?ar34); case ay34 => (go_simp; first | done | rfl))
      | refine anyV_skip 5 (Grows.pre) rfl (by kernel_rfl) (by kernel_rfl) (by kernel_rfl) (by rfl) (fun K hK => ?_)
    go_simp
    refine hK _ ?_
    clear hK K
    first
      | (refine anyV_val 6 (Grows.pre) rfl (by kernel_rfl) (by kernel_rfl) (by kernel_rfl) (by rfl) (v := ?av35) (fun W hW => ?ay35) (fun K hK => ?ar35); case ay35 => (go_simp; first | done | rfl))
      | refine anyV_skip 6 (Grows.pre) rfl (by kernel_rfl) (by kernel_rfl) (by kernel_rfl) (by rfl) (fun K hK => ?_)
    go_simp
    refine hK _ ?_
    clear hK K
    first
      | (refine anyV_val 7 (Grows.pre) rfl (by kernel_rfl) (by kernel_rfl) (by kernel_rfl) (by rfl) (v := ?av36) (fun W hW => ?ay36) (fun K hK => ?ar36); case ay36 => (go_simp; first | done | rfl))
      | refine anyV_skip 7 (Grows.pre) rfl (by kernel_rfl) (by kernel_rfl) (by kernel_rfl) (by rfl) (fun K hK => ?_)
    go_simp
    refine hK _ ?_
    clear hK K
    first
      | (refine anyV_val 8 (Grows.pre) rfl (by kernel_rfl) (by kernel_rfl) (by kernel_rfl) (by rfl) (v := ?av37) (fun W hW => ?ay37) (fun K hK => ?ar37); case ay37 => (go_simp; first | done | rfl))
      | refine anyV_skip 8 (Grows.pre) rfl (by kernel_rfl) (by kernel_rfl) (by kernel_rfl) (by rfl) (fun K hK => ?_)
    go_simp
    refine hK _ ?_
    clear hK K
    first
      | (refine anyV_val 9 (Grows.pre) rfl (by kernel_rfl) (by kernel_rfl) (by kernel_rfl) (by rfl) (v := ?av38) (fun W hW => ?ay38) (fun K hK => ?ar38); case ay38 => (go_simp; first | done | rfl))
      | refine anyV_skip 9 (Grows.pre) rfl (by kernel_rfl) (by kernel_rfl) (by kernel_rfl) (by rfl) (fun K hK => ?_)
    go_simp
    refine hK _ ?_
    clear hK K
    first
      | (refine anyV_val 10 (Grows.pre) rfl (by kernel_rfl) (by kernel_rfl) (by kernel_rfl) (by rfl) (v := ?av39) (fun W hW => ?ay39) (fun K hK => ?ar39); case ay39 => (go_simp; first | done | rfl))
      | refine anyV_skip 10 (Grows.pre) rfl (by kernel_rfl) (by kernel_rfl) (by kernel_rfl) (by rfl) (fun K hK => ?_)
    go_simp
    refine hK _ ?_
    clear hK K
    first
      | (refine anyV_val 11 (Grows.pre) rfl (by kernel_rfl) (by kernel_rfl) (by kernel_rfl) (by rfl) (v := ?av40) (fun W hW => ?ay40) (fun K hK => ?ar40); case ay40 => (go_simp; first | done | rfl))
      | refine anyV_skip 11 (Grows.pre) rfl (by kernel_rfl) (by kernel_rfl) (by kernel_rfl) (by rfl) (fun K hK => ?_)
    go_simp
    refine hK _ ?_
    clear hK K
    first
      | (refine anyV_val 12 (Grows.pre) rfl (by kernel_rfl) (by kernel_rfl) (by kernel_rfl) (by rfl) (v := ?av41) (fun W hW => ?ay41) (fun K hK => ?ar41); case ay41 => (go_simp; first | done | rfl))
      | refine anyV_skip 12 (Grows.pre) rfl (by kernel_rfl) (by kernel_rfl) (by kernel_rfl) (by rfl) (fun K hK => ?_)
    go_simp
    refine hK _ ?_
    clear hK K
    first
      | (refine anyV_val 13 (Grows.pre) rfl (by kernel_rfl) (by kernel_rfl) (by kernel_rfl) (by rfl) (v := ?av42) (fun W hW => ?ay42) (fun K hK => ?ar42); case ay42 => (go_simp; first | done | rfl))
      | refine anyV_skip 13 (Grows.pre) rfl (by kernel_rfl) (by kernel_rfl) (by kernel_rfl) (by rfl) (fun K hK => ?_)
    go_simp
    refine hK _ ?_
    clear hK K
    first
      | (refine anyV_val 14 (Grows.pre) rfl (by kernel_rfl) (by kernel_rfl) (by kernel_rfl) (by rfl) (v := ?av43) (fun W hW => ?ay43) (fun K hK => ?ar43); case ay43 => (go_simp; first | done | rfl))
      | refine anyV_skip 14 (Grows.pre) rfl (by kernel_rfl) (by kernel_rfl) (by kernel_rfl) (by rfl) (fun K hK => ?_)
    go_simp
    refine hK _ ?_
    clear hK K
    first
      | (refine anyV_val 15 (Grows.pre) rfl (by kernel_rfl) (by kernel_rfl) (by kernel_rfl) (by rfl) (v := ?av44) (fun W hW => ?ay44) (fun K hK => ?ar44); case ay44 => (go_simp; first | done | rfl))
      | refine anyV_skip 15 (Grows.pre) rfl (by kernel_rfl) (by kernel_rfl) (by kernel_rfl) (by rfl) (fun K hK => ?_)
    go_simp
    refine hK _ ?_
    clear hK K
    first
      | (refine anyV_val 16 (Grows.pre) rfl (by kernel_rfl) (by kernel_rfl) (by kernel_rfl) (by rfl) (v := ?av45) (fun W hW => ?ay45) (fun K hK => ?ar45); case ay45 => (go_simp; first | done | rfl))
      | refine anyV_skip 16 (Grows.pre) rfl (by kernel_rfl) (by kernel_rfl) (by kernel_rfl) (by rfl) (fun K hK => ?_)
    go_simp
    refine hK _ ?_
    clear hK K
    first
      | (refine anyV_val 17 (Grows.pre) rfl (by kernel_rfl) (by kernel_rfl) (by kernel_rfl) (by rfl) (v := ?av46) (fun W hW => ?ay46) (fun K hK => ?ar46); case ay46 => (go_simp; first | done | rfl))
      | refine anyV_skip 17 (Grows.pre) rfl (by kernel_rfl) (by kernel_rfl) (by kernel_rfl) (by rfl) (fun K hK => ?_)
    go_simp
    refine hK _ ?_
    clear hK K
    first
      | (refine anyV_val 18 (Grows.pre) rfl (by kernel_rfl) (by kernel_rfl) (by kernel_rfl) (by rfl) (v := ?av47) (fun W hW => ?ay47) (fun K hK => ?ar47); case ay47 => (go_simp; first | done | rfl))
      | refine anyV_skip 18 (Grows.pre) rfl (by kernel_rfl) (by kernel_rfl) (by kernel_rfl) (by rfl) (fun K hK => ?_)
    go_simp
    refine hK _ ?_
    clear hK K
    refine anyV_val 19 (Grows.pre) rfl (by kernel_rfl) (by kernel_rfl) (by kernel_rfl) (by rfl) (v := (.slice (some ⟨lb, lo, none⟩) 1 rc)) (fun W hW => ?ay48) (fun K hK => ?ar48)
    case ay48 => (exact exec_sliceN 3 22 (.tmp 133) none (some (.const (.int .i64 1))) rfl (some ⟨lb, lo, none⟩) 2 rc 0 1 rfl (.inl ⟨rfl, rfl⟩) (.inr ⟨_, rfl, rfl⟩) (by kernel_rfl) (by kernel_rfl) (by decide) (by decide) hlc _ hsl0)
    go_simp
    refine hK _ ?_
    clear hK K
    first
      | (refine anyV_val 20 (Grows.pre) rfl (by kernel_rfl) (by kernel_rfl) (by kernel_rfl) (by rfl) (v := ?av49) (fun W hW => ?ay49) (fun K hK => ?ar49); case ay49 => (go_simp; first | done | rfl))
      | refine anyV_skip 20 (Grows.pre) rfl (by kernel_rfl) (by kernel_rfl) (by kernel_rfl) (by rfl) (fun K hK => ?_)
    go_simp
    refine hK _ ?_
    clear hK K
    refine anyV_val 21 (Grows.pre) rfl (by kernel_rfl) (by kernel_rfl) (by kernel_rfl) (by rfl) (v := (.slice (some ⟨lb, lo + 3, none⟩) 1 (rc - 1))) (fun W hW => ?ay50) (fun K hK => ?ar50)
    case ay50 => (exact exec_sliceN 3 22 (.tmp 135) (some (.const (.int .i64 1))) none rfl (some ⟨lb, lo, none⟩) 2 rc 1 2 rfl (.inr ⟨_, rfl, rfl⟩) (.inl ⟨rfl, rfl⟩) (by kernel_rfl) (by kernel_rfl) (by decide) (by decide) hlc _ hsl1)
    go_simp
    refine hK _ ?_
    clear hK K
    first
      | (refine anyV_val 23 (Grows.pre) rfl (by kernel_rfl) (by kernel_rfl) (by kernel_rfl) (by rfl) (v := ?av51) (fun W hW => ?ay51) (fun K hK => ?ar51); case ay51 => (go_simp; first | done | rfl))
      | refine anyV_skip 23 (Grows.pre) rfl (by kernel_rfl) (by kernel_rfl) (by kernel_rfl) (by rfl) (fun K hK => ?_)
    go_simp
    refine hK _ ?_
    clear hK K
    first
      | (refine anyV_val 24 (Grows.pre) rfl (by kernel_rfl) (by kernel_rfl) (by kernel_rfl) (by rfl) (v := ?av52) (fun W hW => ?ay52) (fun K hK => ?ar52); case ay52 => (go_simp; first | done | rfl))
      | refine anyV_skip 24 (Grows.pre) rfl (by kernel_rfl) (by kernel_rfl) (by kernel_rfl) (by rfl) (fun K hK => ?_)
    go_simp
    refine hK _ ?_
    clear hK K
    first
      | (refine anyV_val 25 (Grows.pre) rfl (by kernel_rfl) (by kernel_rfl) (by kernel_rfl) (by rfl) (v := ?av53) (fun W hW => ?ay53) (fun K hK => ?ar53); case ay53 => (go_simp; first | done | rfl))
      | refine anyV_skip 25 (Grows.pre) rfl (by kernel_rfl) (by kernel_rfl) (by kernel_rfl) (by rfl) (fun K hK => ?_)
    go_simp
    refine hK _ ?_
    clear hK K
    refine anyV_only 22 rfl (by kernel_rfl) (by rfl) (fun K hK => ?_)
    go_simp
    refine Calls.mono KS ?_
    rintro e w10 ⟨rr, rfl, hrr, b10⟩
    have hrf : rr = false := by
      cases rr with
      | false => rfl
      | true => exact absurd ((show _ ↔ n = m from HI).1 (hrr.1 rfl)) HNM
    subst hrf
    have B10 := below_step B9' (below_undrew b10)
    refine ⟨_, rfl, hK _ _ b10 ?_⟩
    clear hrr
    clear hK K
    refine anyV_frame (fun K hK => ?_)
    go_simp
    refine hK _ ?_
    clear hK K
    first
      | (refine anyV_val 26 (Grows.pre) rfl (by kernel_rfl) (by kernel_rfl) (by kernel_rfl) (by rfl) (v := ?av54) (fun W hW => ?ay54) (fun K hK => ?ar54); case ay54 => (go_simp; first | done | rfl))
      | refine anyV_skip 26 (Grows.pre) rfl (by kernel_rfl) (by kernel_rfl) (by kernel_rfl) (by rfl) (fun K hK => ?_)
    go_simp
    refine hK _ ?_
    clear hK K
    first
      | (refine anyV_val 27 (Grows.pre) rfl (by kernel_rfl) (by kernel_rfl) (by kernel_rfl) (by rfl) (v := ?av55) (fun W hW => ?ay55) (fun K hK => ?ar55); case ay55 => (go_simp; first | done | rfl))
      | refine anyV_skip 27 (Grows.pre) rfl (by kernel_rfl) (by kernel_rfl) (by kernel_rfl) (by rfl) (fun K hK => ?_)
    go_simp
    refine hK _ ?_
    clear hK K
    first
      | (refine anyV_val 28 (Grows.pre) rfl (by kernel_rfl) (by kernel_rfl) (by kernel_rfl) (by rfl) (v := ?av56) (fun W hW => ?ay56) (fun K hK => ?ar56); case ay56 => (go_simp; first | done | rfl))
      | refine anyV_skip 28 (Grows.pre) rfl (by kernel_rfl) (by kernel_rfl) (by kernel_rfl) (by rfl) (fun K hK => ?_)
    go_simp
    refine hK _ ?_
    clear hK K
    refine anyV_done (by kernel_rfl) ?_
    go_wp2
    go_ret
    exact ⟨rfl, B10⟩
theorem tlvNumbers_all (w : World) (n m t : Int) (hn : (Lit.int .u64 n).wf = true) (hm : (Lit.int .u64 m).wf = true) (ht : (Lit.int .u8 t).wf = true) :
    Calls Try.prog 9 #[.int .u64 n, .int .u64 m, .int .u8 t] w fun e w' => e = .returned (.bool true) ∧ Below w.heap.size w w' := by
  have bn := bounds_u64 hn
  have bm := bounds_u64 hm
  have bt := bounds_u8 ht
  obtain ⟨n', rfl⟩ : ∃ k : Nat, n = (k : Int) := ⟨n.toNat, by omega⟩
  obtain ⟨m', rfl⟩ : ∃ k : Nat, m = (k : Int) := ⟨m.toNat, by omega⟩
  obtain ⟨t', rfl⟩ : ∃ k : Nat, t = (k : Int) := ⟨t.toNat, by omega⟩
  exact tlvNumbers_any w n' m' (by omega) (by omega) t' (by omega)
end Go.Proofs.Ytdlhnipkhlihjaa
