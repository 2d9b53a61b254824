/- The walk of the law WordBytes. -/
import Derived.Test.YtkagconllphdiaaWordRead
import Derived.Deep.RegionWith
import Derived.Deep.Cut
import Derived.Deep.CutRange
namespace Go.Proofs.Ytkagconllphdiaa
open Go Go.RowKit
set_option linter.unusedVariables false
set_option linter.unnecessarySimpa false
/-- the bytes of the document's Bytes, where they lie -/
def rbytesO (x : Nat) : Obj := .cells #[.int .u8 ((x : Int) % 256), .int .u8 ((x : Int) / 256 % 256), .int .u8 ((x : Int) / 65536 % 256), .int .u8 ((x : Int) / 16777216)] 5
theorem bytesL_ok (x : Nat) (h : x < 4294967296) : ∀ z ∈ bytesL x, 0 ≤ z ∧ z ≤ 255 := by
  intro z hz; simp [bytesL] at hz; rcases hz with rfl | rfl | rfl | rfl <;> omega
theorem conv_at (W : World) (b : Nat) (x : Nat) (h : ∀ i, i < 4 → W.cell? ⟨b, 0 + i, none⟩ = some (.int .u8 ((bytesL x).getD i 0))) :
    (convert 42 9 (.slice (some ⟨b, 0, none⟩) 4 4)).run Try.prog W = .ok (.string (strOfNums (bytesL x))) W :=
  run_convert_bytes_arg W 42 5 Try.underlying42 Try.underlying5 b 0 4 4 (bytesL x) rfl h 9 Try.underlying9
theorem cell4_new (W : World) (x : Nat) (e : TypeId) (b : Nat) (hb : W.heap.size = b) : ∀ i, i < 4 → (W.alloc (.cells #[.int .u8 ((x : Int) % 256), .int .u8 ((x : Int) / 256 % 256), .int .u8 ((x : Int) / 65536 % 256), .int .u8 ((x : Int) / 16777216)] e)).cell? ⟨b, 0 + i, none⟩ = some (.int .u8 ((bytesL x).getD i 0)) := by
  subst hb; exact four_cells W e _ _ _ _
theorem cell4_old {W : World} {b : Nat} {x : Nat} (h : ∀ i, i < 4 → W.cell? ⟨b, 0 + i, none⟩ = some (.int .u8 ((bytesL x).getD i 0))) (o : Obj) : ∀ i, i < 4 → (W.alloc o).cell? ⟨b, 0 + i, none⟩ = some (.int .u8 ((bytesL x).getD i 0)) := fun i hi =>
  ((Below.refl W.heap.size W).alloc (Nat.le_refl _) o).cell (p := ⟨b, 0 + i, none⟩) (World.block_lt_of_cell? W _ (h i hi)) |>.trans (h i hi)
theorem rbytes_any (x : Nat) (w : World) (hx : x < 4294967296) :
    Calls Try.prog 28 #[.int .u32 x] w fun e w' => e = .returned (.slice (some ⟨w.heap.size, 0, none⟩) 4 4) ∧ w' = w.alloc (rbytesO x) := refbytes_any x w hx
/-- bytes of words, as a string -/
theorem convAll {w W : World} {v : Value} {n : Nat} {zs : List Int} (h : w.ownsRow n 5 1 v (4 * zs.length) ((bytesLL zs).map (Value.int .u8))) (hb : Below w.heap.size w W) :
    (convert 42 9 v).run Try.prog W = .ok (.string (strOfNums (bytesLL zs))) W :=
  convRow ((RowI.of_own h).2.below hb) 42 5 9 Try.underlying42 Try.underlying5 Try.underlying9
theorem wordsV_ok (zs : List Int) (hz : ∀ z ∈ zs, 0 ≤ z ∧ z ≤ 255) (k : Nat) : ∀ z ∈ wordsV zs k, 0 ≤ z ∧ z < 4294967296 := by
  intro z h
  obtain ⟨i, _, rfl⟩ := List.mem_map.1 h
  have := leW_lt zs hz (4 * i) 4
  omega
/-- words of bytes, or none, behind their number -/
def WordsG (w : World) (q : Nat) (E : Int) (ys : List Int) (e : Ending) (w' : World) : Prop :=
  Below w.heap.size w w' ∧ ∃ b c, e = .returned (.tuple #[.slice b q c, .int .i64 E]) ∧ RowI .u32 w'.heap.size w' (.slice b q c) ys
theorem WordsPost.yes {w : World} {zs : List Int} {e : Ending} {w' : World} (h4 : zs.length % 4 = 0) (h : WordsPost w zs e w') : WordsG w (zs.length / 4) 0 (wordsV zs (zs.length / 4)) e w' := by
  obtain ⟨hb, ⟨_, v, rfl, ho, _⟩ | h⟩ := h
  · obtain ⟨hl, hr⟩ := RowI.of_own ho
    obtain ⟨b, c, rfl⟩ := hr.slice
    rw [hl] at hr ⊢
    exact ⟨hb, b, c, rfl, hr⟩
  · exact absurd h4 h.1
theorem WordsPost.no {w : World} {zs : List Int} {e : Ending} {w' : World} (h4 : ¬ zs.length % 4 = 0) (h : WordsPost w zs e w') : WordsG w 0 10 [] e w' := by
  obtain ⟨hb, h | ⟨_, rfl⟩⟩ := h
  · exact absurd h.1 h4
  · exact ⟨hb, none, 0, rfl, .inl ⟨_, _, rfl, rfl⟩⟩
theorem same_self (a c : Option Addr) (len cap len2 cap2 : Nat) (xs : List Int) (w : World) (hr : RowI .u32 w.heap.size w (.slice a len cap) xs) (hr2 : RowI .u32 w.heap.size w (.slice c len2 cap2) xs) (hs1 : xs.length ≤ 1000000000000) :
    Calls Try.prog 26 #[.slice a len cap, .slice c len2 cap2] w fun e w' => e = .returned (.bool true) ∧ Below w.heap.size w w' :=
  (same_any a c len cap len2 cap2 xs xs w hr hr2 hs1).mono fun e w' h => ⟨by rw [h.1]; simp, h.2⟩
theorem all_len (a : Option Addr) (cap : Nat) (zs : List Int) (w W : World) (hr : RowI .u32 w.heap.size w (.slice a zs.length cap) zs) (hb : Below w.heap.size w W) (hz : ∀ z ∈ zs, 0 ≤ z ∧ z < 4294967296) (hsm : zs.length ≤ 1000000000000) :
    Calls Try.prog 29 #[.slice a zs.length cap] W fun e w' => ∃ v, e = .returned v ∧ Below W.heap.size W w' ∧ w'.ownsRow W.heap.size 5 1 v (4 * zs.length) ((bytesLL zs).map (Value.int .u8)) :=
  all_any a _ cap zs W (hr.below hb |>.mono hb.size) hz hsm
theorem refall_len (a : Option Addr) (cap : Nat) (zs : List Int) (w W : World) (hr : RowI .u32 w.heap.size w (.slice a zs.length cap) zs) (hb : Below w.heap.size w W) (hz : ∀ z ∈ zs, 0 ≤ z ∧ z < 4294967296) (hsm : zs.length ≤ 1000000000000) :
    Calls Try.prog 30 #[.slice a zs.length cap] W fun e w' => ∃ v, e = .returned v ∧ Below W.heap.size W w' ∧ w'.ownsRow W.heap.size 5 1 v (4 * zs.length) ((bytesLL zs).map (Value.int .u8)) :=
  refall_any a _ cap zs W (hr.below hb |>.mono hb.size) hz hsm
theorem facts4 (x : Nat) (w4 : World) :
    (convert 42 9 (.slice (some ⟨w4.heap.size + 1, 0, none⟩) 4 4)).run Try.prog ((w4.alloc (bytesO x)).alloc (bytesO x)) = .ok (.string (strOfNums (bytesL x))) ((w4.alloc (bytesO x)).alloc (bytesO x)) ∧
    (convert 42 9 (.slice (some ⟨w4.heap.size + 1, 0, none⟩) 4 4)).run Try.prog (((w4.alloc (bytesO x)).alloc (bytesO x)).alloc (rbytesO x)) = .ok (.string (strOfNums (bytesL x))) (((w4.alloc (bytesO x)).alloc (bytesO x)).alloc (rbytesO x)) ∧
    (convert 42 9 (.slice (some ⟨w4.heap.size + 1 + 1, 0, none⟩) 4 4)).run Try.prog (((w4.alloc (bytesO x)).alloc (bytesO x)).alloc (rbytesO x)) = .ok (.string (strOfNums (bytesL x))) (((w4.alloc (bytesO x)).alloc (bytesO x)).alloc (rbytesO x)) :=
  ⟨conv_at _ _ x (cell4_new (w4.alloc (bytesO x)) x _ _ (by simp)), conv_at _ _ x (cell4_old (cell4_new (w4.alloc (bytesO x)) x _ _ (by simp)) _), conv_at _ _ x (cell4_new ((w4.alloc (bytesO x)).alloc (bytesO x)) x _ _ (by simp))⟩
theorem below4 {n : Nat} {w w4 : World} (x : Nat) (hn : n ≤ w4.heap.size) (h : Below n w w4) : Below n w (((w4.alloc (bytesO x)).alloc (bytesO x)).alloc (rbytesO x)) := ((h.alloc hn _).alloc (by simp; omega) _).alloc (by simp; omega) _
set_option maxRecDepth 100000 in
set_option maxHeartbeats 8000000 in
theorem wordBytes_gen (x : Nat) (a1 a2 : Option Addr) (cap1 len2 cap2 : Nat) (ls zs : List Int) (w : World) (hx : x < 4294967296) (hl : RowI .u32 w.heap.size w (.slice a1 ls.length cap1) ls) (hlz : ∀ z ∈ ls, 0 ≤ z ∧ z < 4294967296)
    (hr : Row8 w.heap.size w (.slice a2 len2 cap2) zs) (h1 : ls.length ≤ 400) (h2 : len2 ≤ 1600) (hs2 : zs.length ≤ 140737488350000) (q : Nat) (E : Int) (ys : List Int) (hq : ys.length = q) (hsm3 : ys.length ≤ 1000000000000)
    (hw : ∀ W, Below w.heap.size w W → Calls Try.prog 24 #[.slice a2 len2 cap2] W (WordsG W q E ys)) (hf : ∀ W, Below w.heap.size w W → Calls Try.prog 25 #[.slice a2 len2 cap2] W (WordsG W q E ys))
    (rv re : Int) (hrv : readV zs = rv) (hre : readE zs = re) (hfin : (E = 0 ∧ q = 1 ∧ rv = ys.getD 0 0 ∧ re = 0) ∨ (E = 10 ∧ rv = 0 ∧ re = 10) ∨ (E = 0 ∧ ((q : Int) != 1) = true ∧ rv = 0 ∧ re = 10)) :
    Calls Try.prog 9 #[.int .u32 x, .slice a1 ls.length cap1, .slice a2 len2 cap2] w fun e w' => e = .returned (.bool true) ∧ Below w.heap.size w w' := by
  have hs1 : ls.length ≤ 1000000000000 := by omega
  have g1 : ¬ (400 : Int) < (ls.length : Int) := by omega
  have g2 : ¬ (1600 : Int) < (len2 : Int) := by omega
  have hb := Below.refl w.heap.size w
  have hread : ∀ W, Below w.heap.size w W → Calls Try.prog 23 #[.slice a2 len2 cap2] W fun e w' => e = .returned (.tuple #[.int .u32 rv, .int .i64 re]) ∧ Below W.heap.size W w' := fun W hW => by
    rw [← hrv, ← hre]; exact read_any a2 len2 cap2 zs W (hr.below hW |>.mono hW.size) hs2
  have HQ := Lib.hid hq
  have HF := Lib.hid hfin
  clear hq hfin hrv hre hs2 h1 h2
  go_enter Try.func9, Try.ntmps9
  go_upto_region 6 with (first
    | (go_at_call 23; refine (hread _ hb).mono ?_; rintro e w1 ⟨rfl, hb1⟩; replace hb := Below.step hb hb1; clear hb1)
    | (go_at_call 24; refine (hw _ hb).mono ?_; rintro e w2 ⟨hb2, b2, c2, rfl, hr2⟩; replace hb := Below.step hb hb2)
    | (go_at_call 25; refine (hf _ hb).mono ?_; rintro e w3 ⟨hb3, b3, c3, rfl, hr3⟩; replace hb := Below.step hb hb3))
  have hr2d : RowI .u32 w3.drew.heap.size w3.drew _ _ := (hr2.below hb3 |>.mono hb3.size).below (Below.refl _ w3).drew
  have hr3d : RowI .u32 w3.drew.heap.size w3.drew _ _ := hr3.below (Below.refl _ w3).drew
  clear hread hw hf hb2 hb3 hr2 g1 g2
  go_cut [62] from 36 to 62 (fun s wx => s = .bool false ∧ Below w3.heap.size w3 wx)
  case first =>
    clear hr3 hr HF
    go_region_with (first
      | (go_at_call 26; refine (same_self b2 b3 _ c2 _ c3 _ _ hr2d hr3d hsm3).mono ?_; rintro e w4 ⟨rfl, hb4d⟩; have hb4 : Below w3.heap.size w3 w4 := (Below.refl _ w3).drew.trans hb4d; obtain ⟨k1, k2, k3⟩ := facts4 x w4; have hb5 := below4 x hb4.size hb4; have hb6 := below4 x (Nat.le_trans hb.size hb4.size) (Below.step hb hb4))
      | (go_at_call 27; refine (bytes_any x _ hx).mono ?_; rintro e w5 ⟨rfl, rfl⟩)
      | (go_at_call 28; refine (rbytes_any x _ hx).mono ?_; rintro e w6 ⟨rfl, rfl⟩)
      | (go_at_call 29; refine (all_len a1 cap1 ls w _ hl hb6 hlz hs1).mono ?_; rintro e w7 ⟨v7, rfl, hb7, ho7⟩; have k7 := convAll ho7 (Below.refl _ _); have hb8 := Below.step hb6 hb7; have hb9 := Below.step hb5 hb7)
      | (go_at_call 30; refine (refall_len a1 cap1 ls w _ hl hb8 hlz hs1).mono ?_; rintro e w8 ⟨v8, rfl, hb10, ho8⟩; have k8 := convAll ho8 (Below.refl _ _); have k9 := convAll ho7 hb10; have hb11 := Below.step hb9 hb10))
    all_goals (go_wp2_with fail; go_meet; exact ⟨rfl, hb11⟩)
  case rest =>
    obtain ⟨rfl, hbc⟩ := hcut
    have hbe := Below.step hb hbc
    have hrc := hr3.below hbc
    have hq : ys.length = q := HQ
    clear hr3 hr2d hr3d
    rcases (show (E = 0 ∧ q = 1 ∧ rv = ys.getD 0 0 ∧ re = 0) ∨ (E = 10 ∧ rv = 0 ∧ re = 10) ∨ (E = 0 ∧ ((q : Int) != 1) = true ∧ rv = 0 ∧ re = 10) from HF) with ⟨rfl, rfl, rfl, rfl⟩ | ⟨rfl, rfl, rfl⟩ | ⟨rfl, hq1, rfl, rfl⟩
    · obtain ⟨_, b, off, hopen, hc⟩ := hrc.open
      obtain ⟨rfl, _⟩ := hopen (by omega)
      have c0 := hc 0 (by omega)
      simp only [Nat.add_zero] at c0
      clear hc hopen hrc hq
      go_wp2
      go_ret
      exact ⟨by simp, hbe⟩
    · clear hrc hq
      go_wp2
      go_ret
      exact ⟨by simp, hbe⟩
    · clear hrc hq
      go_wp2
      go_ret
      exact ⟨by simp, hbe⟩
end Go.Proofs.Ytkagconllphdiaa
