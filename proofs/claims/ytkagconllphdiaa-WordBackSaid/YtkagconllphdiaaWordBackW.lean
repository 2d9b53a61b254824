/- The walk of the law WordBack. -/
import Derived.Test.YtkagconllphdiaaWordBackMath
import Derived.Test.YtkagconllphdiaaWordBytesL
import Derived.Test.YtkagconllphdiaaWordTextMath
import Derived.Test.YtkagconllphdiaaWordParse
import Derived.Test.YtkagconllphdiaaAnyV
namespace Go.Proofs.Ytkagconllphdiaa
open Go Go.RowKit
attribute [local go_sem] upV_value upV_skip upV_enter
set_option linter.unusedVariables false
set_option linter.unnecessarySimpa false
theorem bytesLL_ok (ls : List Int) (h : ∀ z ∈ ls, 0 ≤ z ∧ z < 4294967296) : ∀ z ∈ bytesLL ls, 0 ≤ z ∧ z ≤ 255 := by
  intro z hz
  obtain ⟨l, hl, hz⟩ := List.mem_flatten.1 hz
  obtain ⟨y, hy, rfl⟩ := List.mem_map.1 hl
  exact bytesL_ok y.toNat (by have := h y hy; omega) z hz
theorem parse_either (s : ByteArray) : (parseE s = 10 ∧ parseA s = 0) ∨ (parseE s = 0 ∧ ∃ x : Nat, parseA s = x ∧ x < 4294967296 ∧ textS x = s) := by
  by_cases h8 : s.size = 8
  · by_cases h : ∃ j, ∃ (h : j < s.size), hexV s.data[j] < 0
    · obtain ⟨j, hj1, hj2⟩ := h
      obtain ⟨h1, h2⟩ := parse_bad s j hj1 hj2
      exact .inl ⟨h2, h1⟩
    · have h' : ∀ j (h : j < s.size), 0 ≤ hexV s.data[j] := fun j hj => Int.not_lt.1 fun hn => h ⟨j, hj, hn⟩
      obtain ⟨h1, h2⟩ := parse_good s h8 h'
      exact .inr ⟨h2, _, h1, accN_lt _, text_acc s h8 h'⟩
  · obtain ⟨h1, h2⟩ := parse_short s h8
    exact .inl ⟨h2, h1⟩
/-- what Words makes of the bytes of words -/
theorem words_back (v : Value) (n : Nat) (ls : List Int) (w : World) (h : w.ownsRow n 5 1 v (4 * ls.length) ((bytesLL ls).map (Value.int .u8))) (hl : ∀ z ∈ ls, 0 ≤ z ∧ z < 4294967296) (hs : ls.length ≤ 400) :
    Calls Try.prog 24 #[v] w (WordsG w ls.length 0 ls) := by
  obtain ⟨h1, h2⟩ := RowI.of_own h
  obtain ⟨a, c, rfl⟩ := h2.slice
  refine (words_in 0 a _ c (bytesLL ls) w ⟨h2, bytesLL_ok ls hl⟩ (by omega)).mono fun e w' hp => ?_
  have := hp.yes (by omega)
  rw [h1, show 4 * ls.length / 4 = ls.length from by omega, words_bytes ls hl] at this
  exact this
theorem text_int (x : Int) (w : World) (h : 0 ≤ x) (h2 : x < 4294967296) : Calls Try.prog 14 #[.int .u32 x] w fun e w' => e = .returned (.string (textS x.toNat)) ∧ Below w.heap.size w w' := by
  obtain ⟨x, rfl⟩ := Int.eq_ofNat_of_zero_le h
  exact text_any x w
theorem bytes_int (x : Int) (w : World) (h : 0 ≤ x) (h2 : x < 4294967296) : Calls Try.prog 27 #[.int .u32 x] w fun e w' => ∃ b, e = .returned (.slice (some ⟨b, 0, none⟩) 4 4) ∧ Below w.heap.size w w' ∧ Row8 w'.heap.size w' (.slice (some ⟨b, 0, none⟩) 4 4) (bytesL x.toNat) := by
  obtain ⟨x, rfl⟩ := Int.eq_ofNat_of_zero_le h
  refine (bytes_any x w (by omega)).mono ?_
  rintro e w' ⟨rfl, rfl⟩
  refine ⟨_, rfl, bytes_below (Below.refl _ _) x, .inr ⟨_, 0, 4, rfl, by simp, Nat.le_refl 4, by decide, cell4_new (w.alloc (bytesO x)) x _ _ (by simp)⟩, bytesL_ok _ (by omega)⟩
theorem read_back (x : Int) (b : Nat) (w : World) (h : 0 ≤ x) (h2 : x < 4294967296) (hr : Row8 w.heap.size w (.slice (some ⟨b, 0, none⟩) 4 4) (bytesL x.toNat)) :
    Calls Try.prog 23 #[.slice (some ⟨b, 0, none⟩) 4 4] w fun e w' => e = .returned (.tuple #[.int .u32 x, .int .i64 0]) ∧ Below w.heap.size w w' := by
  refine (read_any _ 4 4 (bytesL x.toNat) w hr (by show 4 ≤ _; omega)).mono ?_
  rintro e w' ⟨rfl, hb⟩
  obtain ⟨h3, h4⟩ := readV_bytes x.toNat (by omega)
  refine ⟨?_, hb⟩
  rw [h3, h4, show ((x.toNat : Nat) : Int) = x from by omega]
theorem parse_back (x : Int) (w : World) (h : 0 ≤ x) (h2 : x < 4294967296) :
    Calls Try.prog 12 #[.string (textS x.toNat)] w fun e w' => e = .returned (.tuple #[.int .u32 x, .int .i64 0]) ∧ Below w.heap.size w w' := by
  refine (parse_any _ w (by rw [textS_size]; decide)).mono ?_
  rintro e w' ⟨rfl, hb⟩
  obtain ⟨h3, h4⟩ := parse_text x.toNat (by omega)
  refine ⟨?_, hb⟩
  rw [h3, h4, show ((x.toNat : Nat) : Int) = x from by omega]
set_option maxRecDepth 100000 in
set_option maxHeartbeats 4000000 in
theorem wordBack_gen (a0 a1 : Option Addr) (c0 l1 c1 : Nat) (ls zs : List Int) (s : ByteArray) (w : World) (hl : RowI .u32 w.heap.size w (.slice a0 ls.length c0) ls) (hlz : ∀ z ∈ ls, 0 ≤ z ∧ z < 4294967296)
    (hr : Row8 w.heap.size w (.slice a1 l1 c1) zs) (h1 : ls.length ≤ 400) (h2 : l1 ≤ 1600) (h3 : s.size ≤ 100) (q : Nat) (E : Int) (ys : List Int) (hq : ys.length = q) (hys : ∀ z ∈ ys, 0 ≤ z ∧ z < 4294967296) (hyl : ys.length ≤ 400)
    (hw : ∀ W, Below w.heap.size w W → Calls Try.prog 24 #[.slice a1 l1 c1] W (WordsG W q E ys)) (hE : E = 10 ∨ (E = 0 ∧ bytesLL ys = zs))
    (pa pe : Int) (hparse : ∀ W, Calls Try.prog 12 #[.string s] W fun e w' => e = .returned (.tuple #[.int .u32 pa, .int .i64 pe]) ∧ Below W.heap.size W w') (hpe : pe = 10 ∨ (pe = 0 ∧ ∃ x : Nat, pa = x ∧ x < 4294967296 ∧ textS x = s)) :
    Calls Try.prog 10 #[.slice a0 ls.length c0, .slice a1 l1 c1, .string s] w fun e w' => e = .returned (.bool true) ∧ Below w.heap.size w w' := by
  have hs1 : ls.length ≤ 1000000000000 := by omega
  have g1 : ¬ (400 : Int) < (ls.length : Int) := by omega
  have g2 : ¬ (1600 : Int) < (l1 : Int) := by omega
  have g3 : ¬ (100 : Int) < (s.size : Int) := by omega
  have hb := Below.refl w.heap.size w
  have hsz : s.size ≤ maxLen := by simp only [maxLen]; omega
  subst hq
  have HE := Lib.hid hE
  have H1 := Lib.hid h1
  have HP := Lib.hid hpe
  obtain ⟨_, b, off, hopen, hc⟩ := hl.open
  have HC := Lib.hid hc
  clear h2 h3 hE hc hpe
  go_enter Try.func10, Try.ntmps10
  go_wp2_with (first
    | (go_at_call 22; refine (alive_any _).mono ?_; rintro e w1 ⟨rfl, hb1⟩; replace hb := Below.step hb hb1; clear hb1)
    | (go_at_call 29; refine (all_len a0 c0 ls w _ hl hb hlz hs1).mono ?_; rintro e w2 ⟨v2, rfl, hb2, ho2⟩; replace hb := Below.step hb hb2; clear hb2)
    | (go_at_call 24; refine (words_back v2 _ ls _ ho2 hlz H1).mono ?_; rintro e w3 ⟨hb3, b3, c3, rfl, hr3⟩; replace hb := Below.step hb hb3; clear hb3)
    | (go_at_call 26; refine (same_self b3 a0 _ c3 _ c0 ls _ hr3 (hl.below hb |>.mono hb.size) hs1).mono ?_; rintro e w4 ⟨rfl, hb4⟩; replace hb := Below.step hb hb4; clear hb4))
  go_loopw [54] (fun i wr => ∃ k : Nat, k ≤ ls.length ∧ i = .int .i64 k ∧ Below w.heap.size w wr) (fun i _ => ls.length - (intOf i).toNat)
  case atStart => exact ⟨0, Nat.zero_le _, rfl, hb⟩
  case round =>
    clear hb
    obtain ⟨k, hk, rfl, hb⟩ := hrel
    by_cases hlt : k < ls.length
    · obtain ⟨rfl, hbn, _, _⟩ := hopen (by omega)
      have hck0 : w.cell? ⟨b, off + k, none⟩ = some (.int .u32 (ls.getD k 0)) := HC k hlt
      obtain ⟨x0, x1⟩ : 0 ≤ ls.getD k 0 ∧ ls.getD k 0 < 4294967296 := by rw [getD_at _ _ hlt]; exact hlz _ (List.getElem_mem hlt)
      generalize ls.getD k 0 = x at hck0 x0 x1
      have hcw := (hb.cell (p := ⟨b, off + k, none⟩) hbn).trans hck0
      go_wp2_with (first
        | (go_at_call 27; refine (bytes_int x _ x0 x1).mono ?_; rintro e w5 ⟨b5, rfl, hb5, hr5⟩; replace hb := Below.step hb hb5; have hc5 := (hb.cell (p := ⟨b, off + k, none⟩) hbn).trans hck0)
        | (go_at_call 23; refine (read_back x b5 _ x0 x1 hr5).mono ?_; rintro e w6 ⟨rfl, hb6⟩; replace hb := Below.step hb hb6; have hc6 := (hb.cell (p := ⟨b, off + k, none⟩) hbn).trans hck0)
        | (go_at_call 14; refine (text_int x _ x0 x1).mono ?_; rintro e w7 ⟨rfl, hb7⟩; replace hb := Below.step hb hb7; have hc7 := (hb.cell (p := ⟨b, off + k, none⟩) hbn).trans hck0)
        | (go_at_call 12; refine (parse_back x _ x0 x1).mono ?_; rintro e w8 ⟨rfl, hb8⟩; replace hb := Below.step hb hb8; have hc8 := (hb.cell (p := ⟨b, off + k, none⟩) hbn).trans hck0))
      go_roundw
      case rel => exact ⟨k + 1, by omega, by go_num, hb⟩
      case measure => simp [intOf]; omega
    · obtain rfl : k = ls.length := by omega
      clear hopen HC
      go_upto_region 17 with (first
        | (go_at_call 24; refine (hw _ hb).mono ?_; rintro e w9 ⟨hb9, b9, c9, rfl, hr9⟩; replace hb := Below.step hb hb9)
        | (go_at_call 12; refine (hparse _).mono ?_; rintro e w10 ⟨rfl, hb10⟩; replace hb := Below.step hb hb10))
      have hr10 := hr9.below hb10
      have hrd : RowI .u32 w10.drew.heap.size w10.drew _ _ := (hr10.mono hb10.size).below (Below.refl _ w10).drew
      have hbd : Below w.heap.size w w10.drew := hb.drew
      have hwz : w.heap.size ≤ w10.drew.heap.size := hbd.size
      have KA : Hid (∀ W, Grows w10.drew W → (convert 42 9 (.slice a1 l1 c1)).run Try.prog W = .ok (.string (strOfNums zs)) W) := fun W hW =>
        convRow (P := Try.prog) (hr.1.below (hbd.trans (Below.mono hW hwz))) 42 5 9 Try.underlying42 Try.underlying5 Try.underlying9
      clear hw hparse hr9 hr10 hb9 hb10 hk hlt hr hl
      have kA := KA
      rcases (show E = 10 ∨ (E = 0 ∧ bytesLL ys = zs) from HE) with rfl | ⟨rfl, rfl⟩
      · rcases (show pe = 10 ∨ (pe = 0 ∧ ∃ x : Nat, pa = x ∧ x < 4294967296 ∧ textS x = s) from HP) with rfl | ⟨rfl, x, rfl, hx, rfl⟩
        ·
          refine wp_region_anyV Grows (by kernel_rfl) 24 rfl ?_
          first
            | (refine anyV_val 0 (Grows.pre) rfl (by kernel_rfl) (by kernel_rfl) (by kernel_rfl) (by rfl) (v := ?av1) (fun W hW => ?ay1) (fun K hK => ?ar1); case ay1 => (have kz := kA W hW; go_simp; first | done | rfl))
            | refine anyV_skip 0 (Grows.pre) rfl (by kernel_rfl) (by kernel_rfl) (by kernel_rfl) (by rfl) (fun K hK => ?_)
          go_simp
          refine hK _ ?_
          clear hK K
          first
            | (refine anyV_val 1 (Grows.pre) rfl (by kernel_rfl) (by kernel_rfl) (by kernel_rfl) (by rfl) (v := ?av2) (fun W hW => ?ay2) (fun K hK => ?ar2); case ay2 => (have kz := kA W hW; go_simp; first | done | rfl))
            | refine anyV_skip 1 (Grows.pre) rfl (by kernel_rfl) (by kernel_rfl) (by kernel_rfl) (by rfl) (fun K hK => ?_)
          go_simp
          refine hK _ ?_
          clear hK K
          first
            | (refine anyV_val 2 (Grows.pre) rfl (by kernel_rfl) (by kernel_rfl) (by kernel_rfl) (by rfl) (v := ?av3) (fun W hW => ?ay3) (fun K hK => ?ar3); case ay3 => (have kz := kA W hW; go_simp; first | done | rfl))
            | refine anyV_skip 2 (Grows.pre) rfl (by kernel_rfl) (by kernel_rfl) (by kernel_rfl) (by rfl) (fun K hK => ?_)
          go_simp
          refine hK _ ?_
          clear hK K
          first
            | (refine anyV_val 3 (Grows.pre) rfl (by kernel_rfl) (by kernel_rfl) (by kernel_rfl) (by rfl) (v := ?av4) (fun W hW => ?ay4) (fun K hK => ?ar4); case ay4 => (have kz := kA W hW; go_simp; first | done | rfl))
            | refine anyV_skip 3 (Grows.pre) rfl (by kernel_rfl) (by kernel_rfl) (by kernel_rfl) (by rfl) (fun K hK => ?_)
          go_simp
          refine hK _ ?_
          clear hK K
          first
            | (refine anyV_val 4 (Grows.pre) rfl (by kernel_rfl) (by kernel_rfl) (by kernel_rfl) (by rfl) (v := ?av5) (fun W hW => ?ay5) (fun K hK => ?ar5); case ay5 => (have kz := kA W hW; go_simp; first | done | rfl))
            | refine anyV_skip 4 (Grows.pre) rfl (by kernel_rfl) (by kernel_rfl) (by kernel_rfl) (by rfl) (fun K hK => ?_)
          go_simp
          refine hK _ ?_
          clear hK K
          first
            | (refine anyV_val 5 (Grows.pre) rfl (by kernel_rfl) (by kernel_rfl) (by kernel_rfl) (by rfl) (v := ?av6) (fun W hW => ?ay6) (fun K hK => ?ar6); case ay6 => (have kz := kA W hW; go_simp; first | done | rfl))
            | refine anyV_skip 5 (Grows.pre) rfl (by kernel_rfl) (by kernel_rfl) (by kernel_rfl) (by rfl) (fun K hK => ?_)
          go_simp
          refine hK _ ?_
          clear hK K
          first
            | (refine anyV_val 8 (Grows.pre) rfl (by kernel_rfl) (by kernel_rfl) (by kernel_rfl) (by rfl) (v := ?av7) (fun W hW => ?ay7) (fun K hK => ?ar7); case ay7 => (have kz := kA W hW; go_simp; first | done | rfl))
            | refine anyV_skip 8 (Grows.pre) rfl (by kernel_rfl) (by kernel_rfl) (by kernel_rfl) (by rfl) (fun K hK => ?_)
          go_simp
          refine hK _ ?_
          clear hK K
          first
            | (refine anyV_val 9 (Grows.pre) rfl (by kernel_rfl) (by kernel_rfl) (by kernel_rfl) (by rfl) (v := ?av8) (fun W hW => ?ay8) (fun K hK => ?ar8); case ay8 => (have kz := kA W hW; go_simp; first | done | rfl))
            | refine anyV_skip 9 (Grows.pre) rfl (by kernel_rfl) (by kernel_rfl) (by kernel_rfl) (by rfl) (fun K hK => ?_)
          go_simp
          refine hK _ ?_
          clear hK K
          refine anyV_skip 6 (Grows.pre) rfl (by kernel_rfl) (by kernel_rfl) (by kernel_rfl) (by rfl) (fun K hK => ?_)
          go_simp
          refine hK _ ?_
          clear hK K
          first
            | (refine anyV_val 7 (Grows.pre) rfl (by kernel_rfl) (by kernel_rfl) (by kernel_rfl) (by rfl) (v := ?av9) (fun W hW => ?ay9) (fun K hK => ?ar9); case ay9 => (have kz := kA W hW; go_simp; first | done | rfl))
            | refine anyV_skip 7 (Grows.pre) rfl (by kernel_rfl) (by kernel_rfl) (by kernel_rfl) (by rfl) (fun K hK => ?_)
          go_simp
          refine hK _ ?_
          clear hK K
          first
            | (refine anyV_val 10 (Grows.pre) rfl (by kernel_rfl) (by kernel_rfl) (by kernel_rfl) (by rfl) (v := ?av10) (fun W hW => ?ay10) (fun K hK => ?ar10); case ay10 => (have kz := kA W hW; go_simp; first | done | rfl))
            | refine anyV_skip 10 (Grows.pre) rfl (by kernel_rfl) (by kernel_rfl) (by kernel_rfl) (by rfl) (fun K hK => ?_)
          go_simp
          refine hK _ ?_
          clear hK K
          first
            | (refine anyV_val 11 (Grows.pre) rfl (by kernel_rfl) (by kernel_rfl) (by kernel_rfl) (by rfl) (v := ?av11) (fun W hW => ?ay11) (fun K hK => ?ar11); case ay11 => (have kz := kA W hW; go_simp; first | done | rfl))
            | refine anyV_skip 11 (Grows.pre) rfl (by kernel_rfl) (by kernel_rfl) (by kernel_rfl) (by rfl) (fun K hK => ?_)
          go_simp
          refine hK _ ?_
          clear hK K
          first
            | (refine anyV_val 12 (Grows.pre) rfl (by kernel_rfl) (by kernel_rfl) (by kernel_rfl) (by rfl) (v := ?av12) (fun W hW => ?ay12) (fun K hK => ?ar12); case ay12 => (have kz := kA W hW; go_simp; first | done | rfl))
            | refine anyV_skip 12 (Grows.pre) rfl (by kernel_rfl) (by kernel_rfl) (by kernel_rfl) (by rfl) (fun K hK => ?_)
          go_simp
          refine hK _ ?_
          clear hK K
          first
            | (refine anyV_val 13 (Grows.pre) rfl (by kernel_rfl) (by kernel_rfl) (by kernel_rfl) (by rfl) (v := ?av13) (fun W hW => ?ay13) (fun K hK => ?ar13); case ay13 => (have kz := kA W hW; go_simp; first | done | rfl))
            | refine anyV_skip 13 (Grows.pre) rfl (by kernel_rfl) (by kernel_rfl) (by kernel_rfl) (by rfl) (fun K hK => ?_)
          go_simp
          refine hK _ ?_
          clear hK K
          first
            | (refine anyV_val 14 (Grows.pre) rfl (by kernel_rfl) (by kernel_rfl) (by kernel_rfl) (by rfl) (v := ?av14) (fun W hW => ?ay14) (fun K hK => ?ar14); case ay14 => (have kz := kA W hW; go_simp; first | done | rfl))
            | refine anyV_skip 14 (Grows.pre) rfl (by kernel_rfl) (by kernel_rfl) (by kernel_rfl) (by rfl) (fun K hK => ?_)
          go_simp
          refine hK _ ?_
          clear hK K
          first
            | (refine anyV_val 15 (Grows.pre) rfl (by kernel_rfl) (by kernel_rfl) (by kernel_rfl) (by rfl) (v := ?av15) (fun W hW => ?ay15) (fun K hK => ?ar15); case ay15 => (have kz := kA W hW; go_simp; first | done | rfl))
            | refine anyV_skip 15 (Grows.pre) rfl (by kernel_rfl) (by kernel_rfl) (by kernel_rfl) (by rfl) (fun K hK => ?_)
          go_simp
          refine hK _ ?_
          clear hK K
          first
            | (refine anyV_val 16 (Grows.pre) rfl (by kernel_rfl) (by kernel_rfl) (by kernel_rfl) (by rfl) (v := ?av16) (fun W hW => ?ay16) (fun K hK => ?ar16); case ay16 => (have kz := kA W hW; go_simp; first | done | rfl))
            | refine anyV_skip 16 (Grows.pre) rfl (by kernel_rfl) (by kernel_rfl) (by kernel_rfl) (by rfl) (fun K hK => ?_)
          go_simp
          refine hK _ ?_
          clear hK K
          first
            | (refine anyV_val 17 (Grows.pre) rfl (by kernel_rfl) (by kernel_rfl) (by kernel_rfl) (by rfl) (v := ?av17) (fun W hW => ?ay17) (fun K hK => ?ar17); case ay17 => (have kz := kA W hW; go_simp; first | done | rfl))
            | refine anyV_skip 17 (Grows.pre) rfl (by kernel_rfl) (by kernel_rfl) (by kernel_rfl) (by rfl) (fun K hK => ?_)
          go_simp
          refine hK _ ?_
          clear hK K
          first
            | (refine anyV_val 19 (Grows.pre) rfl (by kernel_rfl) (by kernel_rfl) (by kernel_rfl) (by rfl) (v := ?av18) (fun W hW => ?ay18) (fun K hK => ?ar18); case ay18 => (have kz := kA W hW; go_simp; first | done | rfl))
            | refine anyV_skip 19 (Grows.pre) rfl (by kernel_rfl) (by kernel_rfl) (by kernel_rfl) (by rfl) (fun K hK => ?_)
          go_simp
          refine hK _ ?_
          clear hK K
          refine anyV_skip 18 (Grows.pre) rfl (by kernel_rfl) (by kernel_rfl) (by kernel_rfl) (by rfl) (fun K hK => ?_)
          go_simp
          refine hK _ ?_
          clear hK K
          first
            | (refine anyV_val 20 (Grows.pre) rfl (by kernel_rfl) (by kernel_rfl) (by kernel_rfl) (by rfl) (v := ?av19) (fun W hW => ?ay19) (fun K hK => ?ar19); case ay19 => (have kz := kA W hW; go_simp; first | done | rfl))
            | refine anyV_skip 20 (Grows.pre) rfl (by kernel_rfl) (by kernel_rfl) (by kernel_rfl) (by rfl) (fun K hK => ?_)
          go_simp
          refine hK _ ?_
          clear hK K
          first
            | (refine anyV_val 21 (Grows.pre) rfl (by kernel_rfl) (by kernel_rfl) (by kernel_rfl) (by rfl) (v := ?av20) (fun W hW => ?ay20) (fun K hK => ?ar20); case ay20 => (have kz := kA W hW; go_simp; first | done | rfl))
            | refine anyV_skip 21 (Grows.pre) rfl (by kernel_rfl) (by kernel_rfl) (by kernel_rfl) (by rfl) (fun K hK => ?_)
          go_simp
          refine hK _ ?_
          clear hK K
          first
            | (refine anyV_val 22 (Grows.pre) rfl (by kernel_rfl) (by kernel_rfl) (by kernel_rfl) (by rfl) (v := ?av21) (fun W hW => ?ay21) (fun K hK => ?ar21); case ay21 => (have kz := kA W hW; go_simp; first | done | rfl))
            | refine anyV_skip 22 (Grows.pre) rfl (by kernel_rfl) (by kernel_rfl) (by kernel_rfl) (by rfl) (fun K hK => ?_)
          go_simp
          refine hK _ ?_
          clear hK K
          first
            | (refine anyV_val 23 (Grows.pre) rfl (by kernel_rfl) (by kernel_rfl) (by kernel_rfl) (by rfl) (v := ?av22) (fun W hW => ?ay22) (fun K hK => ?ar22); case ay22 => (have kz := kA W hW; go_simp; first | done | rfl))
            | refine anyV_skip 23 (Grows.pre) rfl (by kernel_rfl) (by kernel_rfl) (by kernel_rfl) (by rfl) (fun K hK => ?_)
          go_simp
          refine hK _ ?_
          clear hK K
          refine anyV_done (by kernel_rfl) ?_
          go_wp2_with fail
          go_ret
          exact ⟨by first | rfl | simp, hbd⟩
        ·
          refine wp_region_anyV Grows (by kernel_rfl) 24 rfl ?_
          first
            | (refine anyV_val 0 (Grows.pre) rfl (by kernel_rfl) (by kernel_rfl) (by kernel_rfl) (by rfl) (v := ?av23) (fun W hW => ?ay23) (fun K hK => ?ar23); case ay23 => (have kz := kA W hW; go_simp; first | done | rfl))
            | refine anyV_skip 0 (Grows.pre) rfl (by kernel_rfl) (by kernel_rfl) (by kernel_rfl) (by rfl) (fun K hK => ?_)
          go_simp
          refine hK _ ?_
          clear hK K
          first
            | (refine anyV_val 1 (Grows.pre) rfl (by kernel_rfl) (by kernel_rfl) (by kernel_rfl) (by rfl) (v := ?av24) (fun W hW => ?ay24) (fun K hK => ?ar24); case ay24 => (have kz := kA W hW; go_simp; first | done | rfl))
            | refine anyV_skip 1 (Grows.pre) rfl (by kernel_rfl) (by kernel_rfl) (by kernel_rfl) (by rfl) (fun K hK => ?_)
          go_simp
          refine hK _ ?_
          clear hK K
          first
            | (refine anyV_val 2 (Grows.pre) rfl (by kernel_rfl) (by kernel_rfl) (by kernel_rfl) (by rfl) (v := ?av25) (fun W hW => ?ay25) (fun K hK => ?ar25); case ay25 => (have kz := kA W hW; go_simp; first | done | rfl))
            | refine anyV_skip 2 (Grows.pre) rfl (by kernel_rfl) (by kernel_rfl) (by kernel_rfl) (by rfl) (fun K hK => ?_)
          go_simp
          refine hK _ ?_
          clear hK K
          first
            | (refine anyV_val 3 (Grows.pre) rfl (by kernel_rfl) (by kernel_rfl) (by kernel_rfl) (by rfl) (v := ?av26) (fun W hW => ?ay26) (fun K hK => ?ar26); case ay26 => (have kz := kA W hW; go_simp; first | done | rfl))
            | refine anyV_skip 3 (Grows.pre) rfl (by kernel_rfl) (by kernel_rfl) (by kernel_rfl) (by rfl) (fun K hK => ?_)
          go_simp
          refine hK _ ?_
          clear hK K
          first
            | (refine anyV_val 4 (Grows.pre) rfl (by kernel_rfl) (by kernel_rfl) (by kernel_rfl) (by rfl) (v := ?av27) (fun W hW => ?ay27) (fun K hK => ?ar27); case ay27 => (have kz := kA W hW; go_simp; first | done | rfl))
            | refine anyV_skip 4 (Grows.pre) rfl (by kernel_rfl) (by kernel_rfl) (by kernel_rfl) (by rfl) (fun K hK => ?_)
          go_simp
          refine hK _ ?_
          clear hK K
          first
            | (refine anyV_val 5 (Grows.pre) rfl (by kernel_rfl) (by kernel_rfl) (by kernel_rfl) (by rfl) (v := ?av28) (fun W hW => ?ay28) (fun K hK => ?ar28); case ay28 => (have kz := kA W hW; go_simp; first | done | rfl))
            | refine anyV_skip 5 (Grows.pre) rfl (by kernel_rfl) (by kernel_rfl) (by kernel_rfl) (by rfl) (fun K hK => ?_)
          go_simp
          refine hK _ ?_
          clear hK K
          first
            | (refine anyV_val 8 (Grows.pre) rfl (by kernel_rfl) (by kernel_rfl) (by kernel_rfl) (by rfl) (v := ?av29) (fun W hW => ?ay29) (fun K hK => ?ar29); case ay29 => (have kz := kA W hW; go_simp; first | done | rfl))
            | refine anyV_skip 8 (Grows.pre) rfl (by kernel_rfl) (by kernel_rfl) (by kernel_rfl) (by rfl) (fun K hK => ?_)
          go_simp
          refine hK _ ?_
          clear hK K
          first
            | (refine anyV_val 9 (Grows.pre) rfl (by kernel_rfl) (by kernel_rfl) (by kernel_rfl) (by rfl) (v := ?av30) (fun W hW => ?ay30) (fun K hK => ?ar30); case ay30 => (have kz := kA W hW; go_simp; first | done | rfl))
            | refine anyV_skip 9 (Grows.pre) rfl (by kernel_rfl) (by kernel_rfl) (by kernel_rfl) (by rfl) (fun K hK => ?_)
          go_simp
          refine hK _ ?_
          clear hK K
          refine anyV_skip 6 (Grows.pre) rfl (by kernel_rfl) (by kernel_rfl) (by kernel_rfl) (by rfl) (fun K hK => ?_)
          go_simp
          refine hK _ ?_
          clear hK K
          first
            | (refine anyV_val 7 (Grows.pre) rfl (by kernel_rfl) (by kernel_rfl) (by kernel_rfl) (by rfl) (v := ?av31) (fun W hW => ?ay31) (fun K hK => ?ar31); case ay31 => (have kz := kA W hW; go_simp; first | done | rfl))
            | refine anyV_skip 7 (Grows.pre) rfl (by kernel_rfl) (by kernel_rfl) (by kernel_rfl) (by rfl) (fun K hK => ?_)
          go_simp
          refine hK _ ?_
          clear hK K
          first
            | (refine anyV_val 10 (Grows.pre) rfl (by kernel_rfl) (by kernel_rfl) (by kernel_rfl) (by rfl) (v := ?av32) (fun W hW => ?ay32) (fun K hK => ?ar32); case ay32 => (have kz := kA W hW; go_simp; first | done | rfl))
            | refine anyV_skip 10 (Grows.pre) rfl (by kernel_rfl) (by kernel_rfl) (by kernel_rfl) (by rfl) (fun K hK => ?_)
          go_simp
          refine hK _ ?_
          clear hK K
          first
            | (refine anyV_val 11 (Grows.pre) rfl (by kernel_rfl) (by kernel_rfl) (by kernel_rfl) (by rfl) (v := ?av33) (fun W hW => ?ay33) (fun K hK => ?ar33); case ay33 => (have kz := kA W hW; go_simp; first | done | rfl))
            | refine anyV_skip 11 (Grows.pre) rfl (by kernel_rfl) (by kernel_rfl) (by kernel_rfl) (by rfl) (fun K hK => ?_)
          go_simp
          refine hK _ ?_
          clear hK K
          first
            | (refine anyV_val 12 (Grows.pre) rfl (by kernel_rfl) (by kernel_rfl) (by kernel_rfl) (by rfl) (v := ?av34) (fun W hW => ?ay34) (fun K hK => ?ar34); case ay34 => (have kz := kA W hW; go_simp; first | done | rfl))
            | refine anyV_skip 12 (Grows.pre) rfl (by kernel_rfl) (by kernel_rfl) (by kernel_rfl) (by rfl) (fun K hK => ?_)
          go_simp
          refine hK _ ?_
          clear hK K
          first
            | (refine anyV_val 13 (Grows.pre) rfl (by kernel_rfl) (by kernel_rfl) (by kernel_rfl) (by rfl) (v := ?av35) (fun W hW => ?ay35) (fun K hK => ?ar35); case ay35 => (have kz := kA W hW; go_simp; first | done | rfl))
            | refine anyV_skip 13 (Grows.pre) rfl (by kernel_rfl) (by kernel_rfl) (by kernel_rfl) (by rfl) (fun K hK => ?_)
          go_simp
          refine hK _ ?_
          clear hK K
          first
            | (refine anyV_val 14 (Grows.pre) rfl (by kernel_rfl) (by kernel_rfl) (by kernel_rfl) (by rfl) (v := ?av36) (fun W hW => ?ay36) (fun K hK => ?ar36); case ay36 => (have kz := kA W hW; go_simp; first | done | rfl))
            | refine anyV_skip 14 (Grows.pre) rfl (by kernel_rfl) (by kernel_rfl) (by kernel_rfl) (by rfl) (fun K hK => ?_)
          go_simp
          refine hK _ ?_
          clear hK K
          first
            | (refine anyV_val 15 (Grows.pre) rfl (by kernel_rfl) (by kernel_rfl) (by kernel_rfl) (by rfl) (v := ?av37) (fun W hW => ?ay37) (fun K hK => ?ar37); case ay37 => (have kz := kA W hW; go_simp; first | done | rfl))
            | refine anyV_skip 15 (Grows.pre) rfl (by kernel_rfl) (by kernel_rfl) (by kernel_rfl) (by rfl) (fun K hK => ?_)
          go_simp
          refine hK _ ?_
          clear hK K
          first
            | (refine anyV_val 16 (Grows.pre) rfl (by kernel_rfl) (by kernel_rfl) (by kernel_rfl) (by rfl) (v := ?av38) (fun W hW => ?ay38) (fun K hK => ?ar38); case ay38 => (have kz := kA W hW; go_simp; first | done | rfl))
            | refine anyV_skip 16 (Grows.pre) rfl (by kernel_rfl) (by kernel_rfl) (by kernel_rfl) (by rfl) (fun K hK => ?_)
          go_simp
          refine hK _ ?_
          clear hK K
          first
            | (refine anyV_val 17 (Grows.pre) rfl (by kernel_rfl) (by kernel_rfl) (by kernel_rfl) (by rfl) (v := ?av39) (fun W hW => ?ay39) (fun K hK => ?ar39); case ay39 => (have kz := kA W hW; go_simp; first | done | rfl))
            | refine anyV_skip 17 (Grows.pre) rfl (by kernel_rfl) (by kernel_rfl) (by kernel_rfl) (by rfl) (fun K hK => ?_)
          go_simp
          refine hK _ ?_
          clear hK K
          first
            | (refine anyV_val 19 (Grows.pre) rfl (by kernel_rfl) (by kernel_rfl) (by kernel_rfl) (by rfl) (v := ?av40) (fun W hW => ?ay40) (fun K hK => ?ar40); case ay40 => (have kz := kA W hW; go_simp; first | done | rfl))
            | refine anyV_skip 19 (Grows.pre) rfl (by kernel_rfl) (by kernel_rfl) (by kernel_rfl) (by rfl) (fun K hK => ?_)
          go_simp
          refine hK _ ?_
          clear hK K
          refine anyV_only 18 rfl (by kernel_rfl) (by rfl) (fun K hK => ?_)
          go_simp
          refine (text_any x _).mono ?_
          rintro e w12 ⟨rfl, hb12⟩
          refine ⟨_, rfl, hK _ _ hb12 ?_⟩
          clear hK K
          refine anyV_frame (fun K hK => ?_)
          go_simp
          refine hK _ ?_
          clear hK K
          first
            | (refine anyV_val 20 (Grows.pre) rfl (by kernel_rfl) (by kernel_rfl) (by kernel_rfl) (by rfl) (v := ?av41) (fun W hW => ?ay41) (fun K hK => ?ar41); case ay41 => (go_simp; first | done | rfl))
            | refine anyV_skip 20 (Grows.pre) rfl (by kernel_rfl) (by kernel_rfl) (by kernel_rfl) (by rfl) (fun K hK => ?_)
          go_simp
          refine hK _ ?_
          clear hK K
          first
            | (refine anyV_val 21 (Grows.pre) rfl (by kernel_rfl) (by kernel_rfl) (by kernel_rfl) (by rfl) (v := ?av42) (fun W hW => ?ay42) (fun K hK => ?ar42); case ay42 => (go_simp; first | done | rfl))
            | refine anyV_skip 21 (Grows.pre) rfl (by kernel_rfl) (by kernel_rfl) (by kernel_rfl) (by rfl) (fun K hK => ?_)
          go_simp
          refine hK _ ?_
          clear hK K
          first
            | (refine anyV_val 22 (Grows.pre) rfl (by kernel_rfl) (by kernel_rfl) (by kernel_rfl) (by rfl) (v := ?av43) (fun W hW => ?ay43) (fun K hK => ?ar43); case ay43 => (go_simp; first | done | rfl))
            | refine anyV_skip 22 (Grows.pre) rfl (by kernel_rfl) (by kernel_rfl) (by kernel_rfl) (by rfl) (fun K hK => ?_)
          go_simp
          refine hK _ ?_
          clear hK K
          first
            | (refine anyV_val 23 (Grows.pre) rfl (by kernel_rfl) (by kernel_rfl) (by kernel_rfl) (by rfl) (v := ?av44) (fun W hW => ?ay44) (fun K hK => ?ar44); case ay44 => (go_simp; first | done | rfl))
            | refine anyV_skip 23 (Grows.pre) rfl (by kernel_rfl) (by kernel_rfl) (by kernel_rfl) (by rfl) (fun K hK => ?_)
          go_simp
          refine hK _ ?_
          clear hK K
          refine anyV_done (by kernel_rfl) ?_
          go_wp2_with fail
          go_ret
          exact ⟨by first | rfl | simp, hbd.trans (Below.mono hb12 hwz)⟩
      · rcases (show pe = 10 ∨ (pe = 0 ∧ ∃ x : Nat, pa = x ∧ x < 4294967296 ∧ textS x = s) from HP) with rfl | ⟨rfl, x, rfl, hx, rfl⟩
        ·
          refine wp_region_anyV Grows (by kernel_rfl) 24 rfl ?_
          first
            | (refine anyV_val 0 (Grows.pre) rfl (by kernel_rfl) (by kernel_rfl) (by kernel_rfl) (by rfl) (v := ?av45) (fun W hW => ?ay45) (fun K hK => ?ar45); case ay45 => (have kz := kA W hW; go_simp; first | done | rfl))
            | refine anyV_skip 0 (Grows.pre) rfl (by kernel_rfl) (by kernel_rfl) (by kernel_rfl) (by rfl) (fun K hK => ?_)
          go_simp
          refine hK _ ?_
          clear hK K
          first
            | (refine anyV_val 1 (Grows.pre) rfl (by kernel_rfl) (by kernel_rfl) (by kernel_rfl) (by rfl) (v := ?av46) (fun W hW => ?ay46) (fun K hK => ?ar46); case ay46 => (have kz := kA W hW; go_simp; first | done | rfl))
            | refine anyV_skip 1 (Grows.pre) rfl (by kernel_rfl) (by kernel_rfl) (by kernel_rfl) (by rfl) (fun K hK => ?_)
          go_simp
          refine hK _ ?_
          clear hK K
          first
            | (refine anyV_val 2 (Grows.pre) rfl (by kernel_rfl) (by kernel_rfl) (by kernel_rfl) (by rfl) (v := ?av47) (fun W hW => ?ay47) (fun K hK => ?ar47); case ay47 => (have kz := kA W hW; go_simp; first | done | rfl))
            | refine anyV_skip 2 (Grows.pre) rfl (by kernel_rfl) (by kernel_rfl) (by kernel_rfl) (by rfl) (fun K hK => ?_)
          go_simp
          refine hK _ ?_
          clear hK K
          first
            | (refine anyV_val 3 (Grows.pre) rfl (by kernel_rfl) (by kernel_rfl) (by kernel_rfl) (by rfl) (v := ?av48) (fun W hW => ?ay48) (fun K hK => ?ar48); case ay48 => (have kz := kA W hW; go_simp; first | done | rfl))
            | refine anyV_skip 3 (Grows.pre) rfl (by kernel_rfl) (by kernel_rfl) (by kernel_rfl) (by rfl) (fun K hK => ?_)
          go_simp
          refine hK _ ?_
          clear hK K
          first
            | (refine anyV_val 4 (Grows.pre) rfl (by kernel_rfl) (by kernel_rfl) (by kernel_rfl) (by rfl) (v := ?av49) (fun W hW => ?ay49) (fun K hK => ?ar49); case ay49 => (have kz := kA W hW; go_simp; first | done | rfl))
            | refine anyV_skip 4 (Grows.pre) rfl (by kernel_rfl) (by kernel_rfl) (by kernel_rfl) (by rfl) (fun K hK => ?_)
          go_simp
          refine hK _ ?_
          clear hK K
          first
            | (refine anyV_val 5 (Grows.pre) rfl (by kernel_rfl) (by kernel_rfl) (by kernel_rfl) (by rfl) (v := ?av50) (fun W hW => ?ay50) (fun K hK => ?ar50); case ay50 => (have kz := kA W hW; go_simp; first | done | rfl))
            | refine anyV_skip 5 (Grows.pre) rfl (by kernel_rfl) (by kernel_rfl) (by kernel_rfl) (by rfl) (fun K hK => ?_)
          go_simp
          refine hK _ ?_
          clear hK K
          first
            | (refine anyV_val 8 (Grows.pre) rfl (by kernel_rfl) (by kernel_rfl) (by kernel_rfl) (by rfl) (v := ?av51) (fun W hW => ?ay51) (fun K hK => ?ar51); case ay51 => (have kz := kA W hW; go_simp; first | done | rfl))
            | refine anyV_skip 8 (Grows.pre) rfl (by kernel_rfl) (by kernel_rfl) (by kernel_rfl) (by rfl) (fun K hK => ?_)
          go_simp
          refine hK _ ?_
          clear hK K
          first
            | (refine anyV_val 9 (Grows.pre) rfl (by kernel_rfl) (by kernel_rfl) (by kernel_rfl) (by rfl) (v := ?av52) (fun W hW => ?ay52) (fun K hK => ?ar52); case ay52 => (have kz := kA W hW; go_simp; first | done | rfl))
            | refine anyV_skip 9 (Grows.pre) rfl (by kernel_rfl) (by kernel_rfl) (by kernel_rfl) (by rfl) (fun K hK => ?_)
          go_simp
          refine hK _ ?_
          clear hK K
          refine anyV_only 6 rfl (by kernel_rfl) (by rfl) (fun K hK => ?_)
          go_simp
          refine (all_len b9 c9 ys _ _ hrd (Below.refl _ _) hys (by omega)).mono ?_
          rintro e w11 ⟨v11, rfl, hb11, ho11⟩
          have cv : ∀ W, Grows w11 W → (convert 42 9 v11).run Try.prog W = .ok (.string (strOfNums (bytesLL ys))) W := fun W hW => convAll ho11 hW
          refine ⟨_, rfl, hK _ _ hb11 ?_⟩
          clear hK K
          refine anyV_frame (fun K hK => ?_)
          go_simp
          refine hK _ ?_
          clear hK K
          first
            | (refine anyV_val 7 (Grows.pre) rfl (by kernel_rfl) (by kernel_rfl) (by kernel_rfl) (by rfl) (v := ?av53) (fun W hW => ?ay53) (fun K hK => ?ar53); case ay53 => (have kz := kA W (Grows.pre.trans hb11 hW); go_simp; first | done | rfl))
            | refine anyV_skip 7 (Grows.pre) rfl (by kernel_rfl) (by kernel_rfl) (by kernel_rfl) (by rfl) (fun K hK => ?_)
          go_simp
          refine hK _ ?_
          clear hK K
          first
            | (refine anyV_val 10 (Grows.pre) rfl (by kernel_rfl) (by kernel_rfl) (by kernel_rfl) (by rfl) (v := ?av54) (fun W hW => ?ay54) (fun K hK => ?ar54); case ay54 => (have kz := kA W (Grows.pre.trans hb11 hW); go_simp; first | done | rfl))
            | refine anyV_skip 10 (Grows.pre) rfl (by kernel_rfl) (by kernel_rfl) (by kernel_rfl) (by rfl) (fun K hK => ?_)
          go_simp
          refine hK _ ?_
          clear hK K
          first
            | (refine anyV_val 11 (Grows.pre) rfl (by kernel_rfl) (by kernel_rfl) (by kernel_rfl) (by rfl) (v := ?av55) (fun W hW => ?ay55) (fun K hK => ?ar55); case ay55 => (have kz := kA W (Grows.pre.trans hb11 hW); go_simp; first | done | rfl))
            | refine anyV_skip 11 (Grows.pre) rfl (by kernel_rfl) (by kernel_rfl) (by kernel_rfl) (by rfl) (fun K hK => ?_)
          go_simp
          refine hK _ ?_
          clear hK K
          first
            | (refine anyV_val 12 (Grows.pre) rfl (by kernel_rfl) (by kernel_rfl) (by kernel_rfl) (by rfl) (v := ?av56) (fun W hW => ?ay56) (fun K hK => ?ar56); case ay56 => (have kz := kA W (Grows.pre.trans hb11 hW); go_simp; first | done | rfl))
            | refine anyV_skip 12 (Grows.pre) rfl (by kernel_rfl) (by kernel_rfl) (by kernel_rfl) (by rfl) (fun K hK => ?_)
          go_simp
          refine hK _ ?_
          clear hK K
          first
            | (refine anyV_val 13 (Grows.pre) rfl (by kernel_rfl) (by kernel_rfl) (by kernel_rfl) (by rfl) (v := ?av57) (fun W hW => ?ay57) (fun K hK => ?ar57); case ay57 => (have kz := kA W (Grows.pre.trans hb11 hW); go_simp; first | done | rfl))
            | refine anyV_skip 13 (Grows.pre) rfl (by kernel_rfl) (by kernel_rfl) (by kernel_rfl) (by rfl) (fun K hK => ?_)
          go_simp
          refine hK _ ?_
          clear hK K
          first
            | (refine anyV_val 14 (Grows.pre) rfl (by kernel_rfl) (by kernel_rfl) (by kernel_rfl) (by rfl) (v := ?av58) (fun W hW => ?ay58) (fun K hK => ?ar58); case ay58 => (have kz := kA W (Grows.pre.trans hb11 hW); go_simp; first | done | rfl))
            | refine anyV_skip 14 (Grows.pre) rfl (by kernel_rfl) (by kernel_rfl) (by kernel_rfl) (by rfl) (fun K hK => ?_)
          go_simp
          refine hK _ ?_
          clear hK K
          first
            | (refine anyV_val 15 (Grows.pre) rfl (by kernel_rfl) (by kernel_rfl) (by kernel_rfl) (by rfl) (v := ?av59) (fun W hW => ?ay59) (fun K hK => ?ar59); case ay59 => (have kz := kA W (Grows.pre.trans hb11 hW); go_simp; first | done | rfl))
            | refine anyV_skip 15 (Grows.pre) rfl (by kernel_rfl) (by kernel_rfl) (by kernel_rfl) (by rfl) (fun K hK => ?_)
          go_simp
          refine hK _ ?_
          clear hK K
          first
            | (refine anyV_val 16 (Grows.pre) rfl (by kernel_rfl) (by kernel_rfl) (by kernel_rfl) (by rfl) (v := ?av60) (fun W hW => ?ay60) (fun K hK => ?ar60); case ay60 => (have kz := kA W (Grows.pre.trans hb11 hW); go_simp; first | done | rfl))
            | refine anyV_skip 16 (Grows.pre) rfl (by kernel_rfl) (by kernel_rfl) (by kernel_rfl) (by rfl) (fun K hK => ?_)
          go_simp
          refine hK _ ?_
          clear hK K
          first
            | (refine anyV_val 17 (Grows.pre) rfl (by kernel_rfl) (by kernel_rfl) (by kernel_rfl) (by rfl) (v := ?av61) (fun W hW => ?ay61) (fun K hK => ?ar61); case ay61 => (have kz := kA W (Grows.pre.trans hb11 hW); go_simp; first | done | rfl))
            | refine anyV_skip 17 (Grows.pre) rfl (by kernel_rfl) (by kernel_rfl) (by kernel_rfl) (by rfl) (fun K hK => ?_)
          go_simp
          refine hK _ ?_
          clear hK K
          first
            | (refine anyV_val 19 (Grows.pre) rfl (by kernel_rfl) (by kernel_rfl) (by kernel_rfl) (by rfl) (v := ?av62) (fun W hW => ?ay62) (fun K hK => ?ar62); case ay62 => (have kz := kA W (Grows.pre.trans hb11 hW); go_simp; first | done | rfl))
            | refine anyV_skip 19 (Grows.pre) rfl (by kernel_rfl) (by kernel_rfl) (by kernel_rfl) (by rfl) (fun K hK => ?_)
          go_simp
          refine hK _ ?_
          clear hK K
          refine anyV_skip 18 (Grows.pre) rfl (by kernel_rfl) (by kernel_rfl) (by kernel_rfl) (by rfl) (fun K hK => ?_)
          go_simp
          refine hK _ ?_
          clear hK K
          first
            | (refine anyV_val 20 (Grows.pre) rfl (by kernel_rfl) (by kernel_rfl) (by kernel_rfl) (by rfl) (v := ?av63) (fun W hW => ?ay63) (fun K hK => ?ar63); case ay63 => (have kz := kA W (Grows.pre.trans hb11 hW); go_simp; first | done | rfl))
            | refine anyV_skip 20 (Grows.pre) rfl (by kernel_rfl) (by kernel_rfl) (by kernel_rfl) (by rfl) (fun K hK => ?_)
          go_simp
          refine hK _ ?_
          clear hK K
          first
            | (refine anyV_val 21 (Grows.pre) rfl (by kernel_rfl) (by kernel_rfl) (by kernel_rfl) (by rfl) (v := ?av64) (fun W hW => ?ay64) (fun K hK => ?ar64); case ay64 => (have kz := kA W (Grows.pre.trans hb11 hW); go_simp; first | done | rfl))
            | refine anyV_skip 21 (Grows.pre) rfl (by kernel_rfl) (by kernel_rfl) (by kernel_rfl) (by rfl) (fun K hK => ?_)
          go_simp
          refine hK _ ?_
          clear hK K
          first
            | (refine anyV_val 22 (Grows.pre) rfl (by kernel_rfl) (by kernel_rfl) (by kernel_rfl) (by rfl) (v := ?av65) (fun W hW => ?ay65) (fun K hK => ?ar65); case ay65 => (have kz := kA W (Grows.pre.trans hb11 hW); go_simp; first | done | rfl))
            | refine anyV_skip 22 (Grows.pre) rfl (by kernel_rfl) (by kernel_rfl) (by kernel_rfl) (by rfl) (fun K hK => ?_)
          go_simp
          refine hK _ ?_
          clear hK K
          first
            | (refine anyV_val 23 (Grows.pre) rfl (by kernel_rfl) (by kernel_rfl) (by kernel_rfl) (by rfl) (v := ?av66) (fun W hW => ?ay66) (fun K hK => ?ar66); case ay66 => (have kz := kA W (Grows.pre.trans hb11 hW); go_simp; first | done | rfl))
            | refine anyV_skip 23 (Grows.pre) rfl (by kernel_rfl) (by kernel_rfl) (by kernel_rfl) (by rfl) (fun K hK => ?_)
          go_simp
          refine hK _ ?_
          clear hK K
          refine anyV_done (by kernel_rfl) ?_
          go_wp2_with fail
          go_ret
          exact ⟨by first | rfl | simp, hbd.trans (Below.mono hb11 hwz)⟩
        ·
          refine wp_region_anyV Grows (by kernel_rfl) 24 rfl ?_
          first
            | (refine anyV_val 0 (Grows.pre) rfl (by kernel_rfl) (by kernel_rfl) (by kernel_rfl) (by rfl) (v := ?av67) (fun W hW => ?ay67) (fun K hK => ?ar67); case ay67 => (have kz := kA W hW; go_simp; first | done | rfl))
            | refine anyV_skip 0 (Grows.pre) rfl (by kernel_rfl) (by kernel_rfl) (by kernel_rfl) (by rfl) (fun K hK => ?_)
          go_simp
          refine hK _ ?_
          clear hK K
          first
            | (refine anyV_val 1 (Grows.pre) rfl (by kernel_rfl) (by kernel_rfl) (by kernel_rfl) (by rfl) (v := ?av68) (fun W hW => ?ay68) (fun K hK => ?ar68); case ay68 => (have kz := kA W hW; go_simp; first | done | rfl))
            | refine anyV_skip 1 (Grows.pre) rfl (by kernel_rfl) (by kernel_rfl) (by kernel_rfl) (by rfl) (fun K hK => ?_)
          go_simp
          refine hK _ ?_
          clear hK K
          first
            | (refine anyV_val 2 (Grows.pre) rfl (by kernel_rfl) (by kernel_rfl) (by kernel_rfl) (by rfl) (v := ?av69) (fun W hW => ?ay69) (fun K hK => ?ar69); case ay69 => (have kz := kA W hW; go_simp; first | done | rfl))
            | refine anyV_skip 2 (Grows.pre) rfl (by kernel_rfl) (by kernel_rfl) (by kernel_rfl) (by rfl) (fun K hK => ?_)
          go_simp
          refine hK _ ?_
          clear hK K
          first
            | (refine anyV_val 3 (Grows.pre) rfl (by kernel_rfl) (by kernel_rfl) (by kernel_rfl) (by rfl) (v := ?av70) (fun W hW => ?ay70) (fun K hK => ?ar70); case ay70 => (have kz := kA W hW; go_simp; first | done | rfl))
            | refine anyV_skip 3 (Grows.pre) rfl (by kernel_rfl) (by kernel_rfl) (by kernel_rfl) (by rfl) (fun K hK => ?_)
          go_simp
          refine hK _ ?_
          clear hK K
          first
            | (refine anyV_val 4 (Grows.pre) rfl (by kernel_rfl) (by kernel_rfl) (by kernel_rfl) (by rfl) (v := ?av71) (fun W hW => ?ay71) (fun K hK => ?ar71); case ay71 => (have kz := kA W hW; go_simp; first | done | rfl))
            | refine anyV_skip 4 (Grows.pre) rfl (by kernel_rfl) (by kernel_rfl) (by kernel_rfl) (by rfl) (fun K hK => ?_)
          go_simp
          refine hK _ ?_
          clear hK K
          first
            | (refine anyV_val 5 (Grows.pre) rfl (by kernel_rfl) (by kernel_rfl) (by kernel_rfl) (by rfl) (v := ?av72) (fun W hW => ?ay72) (fun K hK => ?ar72); case ay72 => (have kz := kA W hW; go_simp; first | done | rfl))
            | refine anyV_skip 5 (Grows.pre) rfl (by kernel_rfl) (by kernel_rfl) (by kernel_rfl) (by rfl) (fun K hK => ?_)
          go_simp
          refine hK _ ?_
          clear hK K
          first
            | (refine anyV_val 8 (Grows.pre) rfl (by kernel_rfl) (by kernel_rfl) (by kernel_rfl) (by rfl) (v := ?av73) (fun W hW => ?ay73) (fun K hK => ?ar73); case ay73 => (have kz := kA W hW; go_simp; first | done | rfl))
            | refine anyV_skip 8 (Grows.pre) rfl (by kernel_rfl) (by kernel_rfl) (by kernel_rfl) (by rfl) (fun K hK => ?_)
          go_simp
          refine hK _ ?_
          clear hK K
          first
            | (refine anyV_val 9 (Grows.pre) rfl (by kernel_rfl) (by kernel_rfl) (by kernel_rfl) (by rfl) (v := ?av74) (fun W hW => ?ay74) (fun K hK => ?ar74); case ay74 => (have kz := kA W hW; go_simp; first | done | rfl))
            | refine anyV_skip 9 (Grows.pre) rfl (by kernel_rfl) (by kernel_rfl) (by kernel_rfl) (by rfl) (fun K hK => ?_)
          go_simp
          refine hK _ ?_
          clear hK K
          refine anyV_only 6 rfl (by kernel_rfl) (by rfl) (fun K hK => ?_)
          go_simp
          refine (all_len b9 c9 ys _ _ hrd (Below.refl _ _) hys (by omega)).mono ?_
          rintro e w11 ⟨v11, rfl, hb11, ho11⟩
          have cv : ∀ W, Grows w11 W → (convert 42 9 v11).run Try.prog W = .ok (.string (strOfNums (bytesLL ys))) W := fun W hW => convAll ho11 hW
          refine ⟨_, rfl, hK _ _ hb11 ?_⟩
          clear hK K
          refine anyV_frame (fun K hK => ?_)
          go_simp
          refine hK _ ?_
          clear hK K
          first
            | (refine anyV_val 7 (Grows.pre) rfl (by kernel_rfl) (by kernel_rfl) (by kernel_rfl) (by rfl) (v := ?av75) (fun W hW => ?ay75) (fun K hK => ?ar75); case ay75 => (have kz := kA W (Grows.pre.trans hb11 hW); go_simp; first | done | rfl))
            | refine anyV_skip 7 (Grows.pre) rfl (by kernel_rfl) (by kernel_rfl) (by kernel_rfl) (by rfl) (fun K hK => ?_)
          go_simp
          refine hK _ ?_
          clear hK K
          first
            | (refine anyV_val 10 (Grows.pre) rfl (by kernel_rfl) (by kernel_rfl) (by kernel_rfl) (by rfl) (v := ?av76) (fun W hW => ?ay76) (fun K hK => ?ar76); case ay76 => (have kz := kA W (Grows.pre.trans hb11 hW); go_simp; first | done | rfl))
            | refine anyV_skip 10 (Grows.pre) rfl (by kernel_rfl) (by kernel_rfl) (by kernel_rfl) (by rfl) (fun K hK => ?_)
          go_simp
          refine hK _ ?_
          clear hK K
          first
            | (refine anyV_val 11 (Grows.pre) rfl (by kernel_rfl) (by kernel_rfl) (by kernel_rfl) (by rfl) (v := ?av77) (fun W hW => ?ay77) (fun K hK => ?ar77); case ay77 => (have kz := kA W (Grows.pre.trans hb11 hW); go_simp; first | done | rfl))
            | refine anyV_skip 11 (Grows.pre) rfl (by kernel_rfl) (by kernel_rfl) (by kernel_rfl) (by rfl) (fun K hK => ?_)
          go_simp
          refine hK _ ?_
          clear hK K
          first
            | (refine anyV_val 12 (Grows.pre) rfl (by kernel_rfl) (by kernel_rfl) (by kernel_rfl) (by rfl) (v := ?av78) (fun W hW => ?ay78) (fun K hK => ?ar78); case ay78 => (have kz := kA W (Grows.pre.trans hb11 hW); go_simp; first | done | rfl))
            | refine anyV_skip 12 (Grows.pre) rfl (by kernel_rfl) (by kernel_rfl) (by kernel_rfl) (by rfl) (fun K hK => ?_)
          go_simp
          refine hK _ ?_
          clear hK K
          first
            | (refine anyV_val 13 (Grows.pre) rfl (by kernel_rfl) (by kernel_rfl) (by kernel_rfl) (by rfl) (v := ?av79) (fun W hW => ?ay79) (fun K hK => ?ar79); case ay79 => (have kz := kA W (Grows.pre.trans hb11 hW); go_simp; first | done | rfl))
            | refine anyV_skip 13 (Grows.pre) rfl (by kernel_rfl) (by kernel_rfl) (by kernel_rfl) (by rfl) (fun K hK => ?_)
          go_simp
          refine hK _ ?_
          clear hK K
          first
            | (refine anyV_val 14 (Grows.pre) rfl (by kernel_rfl) (by kernel_rfl) (by kernel_rfl) (by rfl) (v := ?av80) (fun W hW => ?ay80) (fun K hK => ?ar80); case ay80 => (have kz := kA W (Grows.pre.trans hb11 hW); go_simp; first | done | rfl))
            | refine anyV_skip 14 (Grows.pre) rfl (by kernel_rfl) (by kernel_rfl) (by kernel_rfl) (by rfl) (fun K hK => ?_)
          go_simp
          refine hK _ ?_
          clear hK K
          first
            | (refine anyV_val 15 (Grows.pre) rfl (by kernel_rfl) (by kernel_rfl) (by kernel_rfl) (by rfl) (v := ?av81) (fun W hW => ?ay81) (fun K hK => ?ar81); case ay81 => (have kz := kA W (Grows.pre.trans hb11 hW); go_simp; first | done | rfl))
            | refine anyV_skip 15 (Grows.pre) rfl (by kernel_rfl) (by kernel_rfl) (by kernel_rfl) (by rfl) (fun K hK => ?_)
          go_simp
          refine hK _ ?_
          clear hK K
          first
            | (refine anyV_val 16 (Grows.pre) rfl (by kernel_rfl) (by kernel_rfl) (by kernel_rfl) (by rfl) (v := ?av82) (fun W hW => ?ay82) (fun K hK => ?ar82); case ay82 => (have kz := kA W (Grows.pre.trans hb11 hW); go_simp; first | done | rfl))
            | refine anyV_skip 16 (Grows.pre) rfl (by kernel_rfl) (by kernel_rfl) (by kernel_rfl) (by rfl) (fun K hK => ?_)
          go_simp
          refine hK _ ?_
          clear hK K
          first
            | (refine anyV_val 17 (Grows.pre) rfl (by kernel_rfl) (by kernel_rfl) (by kernel_rfl) (by rfl) (v := ?av83) (fun W hW => ?ay83) (fun K hK => ?ar83); case ay83 => (have kz := kA W (Grows.pre.trans hb11 hW); go_simp; first | done | rfl))
            | refine anyV_skip 17 (Grows.pre) rfl (by kernel_rfl) (by kernel_rfl) (by kernel_rfl) (by rfl) (fun K hK => ?_)
          go_simp
          refine hK _ ?_
          clear hK K
          first
            | (refine anyV_val 19 (Grows.pre) rfl (by kernel_rfl) (by kernel_rfl) (by kernel_rfl) (by rfl) (v := ?av84) (fun W hW => ?ay84) (fun K hK => ?ar84); case ay84 => (have kz := kA W (Grows.pre.trans hb11 hW); go_simp; first | done | rfl))
            | refine anyV_skip 19 (Grows.pre) rfl (by kernel_rfl) (by kernel_rfl) (by kernel_rfl) (by rfl) (fun K hK => ?_)
          go_simp
          refine hK _ ?_
          clear hK K
          refine anyV_only 18 rfl (by kernel_rfl) (by rfl) (fun K hK => ?_)
          go_simp
          refine (text_any x _).mono ?_
          rintro e w12 ⟨rfl, hb12⟩
          refine ⟨_, rfl, hK _ _ hb12 ?_⟩
          clear hK K
          refine anyV_frame (fun K hK => ?_)
          go_simp
          refine hK _ ?_
          clear hK K
          first
            | (refine anyV_val 20 (Grows.pre) rfl (by kernel_rfl) (by kernel_rfl) (by kernel_rfl) (by rfl) (v := ?av85) (fun W hW => ?ay85) (fun K hK => ?ar85); case ay85 => (go_simp; first | done | rfl))
            | refine anyV_skip 20 (Grows.pre) rfl (by kernel_rfl) (by kernel_rfl) (by kernel_rfl) (by rfl) (fun K hK => ?_)
          go_simp
          refine hK _ ?_
          clear hK K
          first
            | (refine anyV_val 21 (Grows.pre) rfl (by kernel_rfl) (by kernel_rfl) (by kernel_rfl) (by rfl) (v := ?av86) (fun W hW => ?ay86) (fun K hK => ?ar86); case ay86 => (go_simp; first | done | rfl))
            | refine anyV_skip 21 (Grows.pre) rfl (by kernel_rfl) (by kernel_rfl) (by kernel_rfl) (by rfl) (fun K hK => ?_)
          go_simp
          refine hK _ ?_
          clear hK K
          first
            | (refine anyV_val 22 (Grows.pre) rfl (by kernel_rfl) (by kernel_rfl) (by kernel_rfl) (by rfl) (v := ?av87) (fun W hW => ?ay87) (fun K hK => ?ar87); case ay87 => (go_simp; first | done | rfl))
            | refine anyV_skip 22 (Grows.pre) rfl (by kernel_rfl) (by kernel_rfl) (by kernel_rfl) (by rfl) (fun K hK => ?_)
          go_simp
          refine hK _ ?_
          clear hK K
          first
            | (refine anyV_val 23 (Grows.pre) rfl (by kernel_rfl) (by kernel_rfl) (by kernel_rfl) (by rfl) (v := ?av88) (fun W hW => ?ay88) (fun K hK => ?ar88); case ay88 => (go_simp; first | done | rfl))
            | refine anyV_skip 23 (Grows.pre) rfl (by kernel_rfl) (by kernel_rfl) (by kernel_rfl) (by rfl) (fun K hK => ?_)
          go_simp
          refine hK _ ?_
          clear hK K
          refine anyV_done (by kernel_rfl) ?_
          go_wp2_with fail
          go_ret
          exact ⟨by first | rfl | simp, (hbd.trans (Below.mono hb11 hwz)).trans (Below.mono hb12 (Nat.le_trans hwz hb11.size))⟩
theorem wordBack_any (w : World) (a0 : Option Addr) (l0 c0 : Nat) (z0 : List Int) (a1 : Option Addr) (l1 c1 : Nat) (z1 : List Int) (s : ByteArray) (h1 : IsRow .u32 w a0 l0 c0 z0) (h2 : IsRow .u8 w a1 l1 c1 z1) (hs : s.size ≤ maxLen) :
    Calls Try.prog 10 #[.slice a0 l0 c0, .slice a1 l1 c1, .string s] w fun e w' => e = .returned (.bool true) ∧ Below w.heap.size w w' := by
  obtain ⟨e1, r1, k1⟩ := h1.row
  have r2 := h2.row8
  have e2 := h2.row.1
  have hb := Below.refl w.heap.size w
  by_cases g : l0 ≤ 400 ∧ l1 ≤ 1600 ∧ s.size ≤ 100
  · obtain ⟨g1, g2, g3⟩ := g
    have hl : RowI .u32 w.heap.size w (.slice a0 (z0.take l0).length c0) (z0.take l0) := by rw [e1]; exact r1
    have hlz : ∀ z ∈ z0.take l0, 0 ≤ z ∧ z < 4294967296 := fun z hz => by have := bounds_u32 (k1 z hz); omega
    have hs2 : (z1.take l1).length ≤ 140737488350000 := by omega
    have hrow : ∀ W, Below w.heap.size w W → Row8 W.heap.size W (.slice a1 l1 c1) (z1.take l1) := fun W hW => r2.below hW |>.mono hW.size
    rw [← e1]
    by_cases h4 : (z1.take l1).length % 4 = 0
    · exact wordBack_gen a0 a1 c0 l1 c1 _ (z1.take l1) s w hl hlz r2 (by omega) g2 g3 ((z1.take l1).length / 4) 0 (wordsV (z1.take l1) ((z1.take l1).length / 4)) (wordsV_length _ _) (wordsV_ok _ r2.2 _) (by rw [wordsV_length]; omega)
        (fun W hW => (words_in 0 a1 l1 c1 _ W (hrow W hW) hs2).mono fun _ _ h => h.yes h4) (.inr ⟨rfl, bytes_words _ _ (by omega) r2.2⟩) (parseA s) (parseE s) (fun W => parse_any s W hs)
        ((parse_either s).imp And.left id)
    · exact wordBack_gen a0 a1 c0 l1 c1 _ (z1.take l1) s w hl hlz r2 (by omega) g2 g3 0 10 [] rfl (by simp) (by simp)
        (fun W hW => (words_in 0 a1 l1 c1 _ W (hrow W hW) hs2).mono fun _ _ h => h.no h4) (.inl rfl) (parseA s) (parseE s) (fun W => parse_any s W hs)
        ((parse_either s).imp And.left id)
  · by_cases g1 : (400 : Int) < (l0 : Int)
    · clear g
      go_enter Try.func10, Try.ntmps10
      go_wp2_with (go_at_call 22; refine (alive_any _).mono ?_; rintro e w1 ⟨rfl, hb1⟩; replace hb := Below.step hb hb1; clear hb1)
      go_ret
      exact ⟨rfl, hb⟩
    · by_cases g2 : (1600 : Int) < (l1 : Int)
      · clear g
        go_enter Try.func10, Try.ntmps10
        go_wp2_with (go_at_call 22; refine (alive_any _).mono ?_; rintro e w1 ⟨rfl, hb1⟩; replace hb := Below.step hb hb1; clear hb1)
        go_ret
        exact ⟨rfl, hb⟩
      · have g3 : (100 : Int) < (s.size : Int) := by omega
        clear g
        go_enter Try.func10, Try.ntmps10
        go_wp2_with (go_at_call 22; refine (alive_any _).mono ?_; rintro e w1 ⟨rfl, hb1⟩; replace hb := Below.step hb hb1; clear hb1)
        go_ret
        exact ⟨rfl, hb⟩
end Go.Proofs.Ytkagconllphdiaa
