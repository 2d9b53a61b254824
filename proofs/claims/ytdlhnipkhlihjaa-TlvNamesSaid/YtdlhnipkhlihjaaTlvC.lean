/- The walk of tlv.Check, tlv.lay and tlv.Bytes. -/
import Derived.Test.YtdlhnipkhlihjaaTlvB
import Derived.Test.YtdlhnipkhlihjaaSplit
import Derived.Test.YtdlhnipkhlihjaaBuilt
import Derived.Test.YtdlhnipkhlihjaaAppendRow
import Derived.Maps.AppendAt
namespace Go.Proofs.Ytdlhnipkhlihjaa
open Go Go.RowKit
set_option linter.unusedVariables false
set_option linter.unnecessarySimpa false
theorem size_any (f : Forest) : SizeOK f := Forest.all SizeOK size_step f
def tlvE (f : Forest) : Int := if f.sizeL 1 0 < 0 then 220 else 0
set_option maxHeartbeats 1000000 in
theorem check_any (f : Forest) (W : World) (a : Option Addr) (len cap : Nat) (h : SlF W.heap.size W a len cap f) (hc : f.cnt ≤ 20000) :
    Calls Try.prog 24 #[.slice a len cap] W fun e W' => e = .returned (.int .i64 (tlvE f)) ∧ Below W.heap.size W W' := by
  have ks := size_any f W a len cap 1 h (by decide) hc
  unfold tlvE
  obtain ⟨S, hS⟩ : ∃ S, S = f.sizeL 1 0 := ⟨_, rfl⟩
  rw [← hS] at ks ⊢
  clear hS
  go_enter Try.func24, Try.ntmps24
  go_wp2_with (go_at_call 38; refine held ?_)
  unfold Held
  refine ks.mono ?_
  rintro e w1 ⟨rfl, b1⟩
  by_cases h0 : S < 0
  · have t1 : decide (S < 0) = true := by simpa using h0
    go_wp2
    go_ret
    exact ⟨rfl, b1⟩
  · have t1 : decide (S < 0) = false := by simpa using h0
    go_wp2
    go_ret
    exact ⟨rfl, b1⟩
def LayOK (f : Forest) : Prop := ∀ (W : World) (a : Option Addr) (len cap : Nat), SlF W.heap.size W a len cap f → f.cnt ≤ 20000 →
  Calls Try.prog 27 #[.slice none 0 0, .slice a len cap] W fun e W' => ∃ v, e = .returned v ∧ W'.ownsRow W.heap.size 5 1 v f.layF.length (f.layF.map (Value.int .u8)) ∧ Below W.heap.size W W'
theorem one_new8 (W : World) (x : Int) : ∀ j u, [Value.int .u8 x][j]? = some u → (W.alloc (.cells #[.int .u8 x] 5)).cell? ((⟨W.heap.size, 0, none⟩ : Addr).add j) = some u := cell_one_new _ _ _
theorem bytesL_len (x : Nat) (h : x < 4294967296) : bytesL x = [(x : Int) % 256, (x : Int) / 256 % 256, (x : Int) / 65536 % 256, (x : Int) / 16777216 % 256] := by
  unfold bytesL
  rw [show (x : Int) / 16777216 % 256 = (x : Int) / 16777216 by omega]
theorem bytesL_byte (x : Nat) (h : x < 4294967296) : ∀ z ∈ bytesL x, 0 ≤ z ∧ z ≤ 255 := by
  intro z hz
  simp only [bytesL, List.mem_cons, List.not_mem_nil, or_false] at hz
  omega
set_option maxRecDepth 100000 in
set_option maxHeartbeats 8000000 in
theorem lay_step (f : Forest) (hk : f.AllKids LayOK) : LayOK f := by
  intro W a len cap h hcnt
  obtain ⟨i0, hi, hz0, hz1, hz2⟩ := info_parts info_u8
  have hs := h.small
  obtain ⟨hl, hc⟩ := h
  go_enter Try.func27, Try.ntmps27
  go_wp2
  go_loopw [0, 6, 7, 10] (fun out _ _ i wr => ∃ (i' : Nat) (G : Forest) (P : List Int), i = .int .i64 (i' : Int) ∧ i' + G.length = len ∧ G.cnt ≤ 20000 ∧ P.length + 5 * G.cnt ≤ 100000 ∧ Hid (P ++ G.layF = f.layF) ∧ G.AllKids LayOK ∧ (∀ b off, a = some ⟨b, off, none⟩ → 0 < len → b < W.heap.size ∧ RowF W.heap.size W G b (off + i' * 3)) ∧ wr.ownsRow W.heap.size 5 1 out P.length (P.map (Value.int .u8)) ∧ Below W.heap.size W wr) (fun _ _ _ i _ => len - (intOf i).toNat)
  case atStart =>
    refine ⟨0, f, [], rfl, by omega, hcnt, by simp; omega, rfl, hk, fun b off ha hlen => ?_, World.ownsRow_nil _ _ _ _, Below.refl _ _⟩
    rcases hc with h0 | ⟨b', off', ha', hb', _, _, hrow⟩
    · omega
    · rw [ha] at ha'; injection ha' with ha'; injection ha' with e1 e2
      subst e1 e2
      exact ⟨hb', by simpa using hrow⟩
  case round =>
    obtain ⟨i, G, P, rfl, hiG, hcG, hPG, hV, hkG, hrow, hown, hb0⟩ := hrel
    by_cases hlt : i < len
    rotate_left
    · have t1 : decide ((i : Int) < (len : Int)) = false := by simp; omega
      have hG : G = .nil := by
        cases G with
        | nil => rfl
        | cons t bs k r => simp [Forest.length] at hiG; omega
      subst hG
      have hP : P = f.layF := by rw [← (show P ++ Forest.nil.layF = f.layF from hV), Forest.layF, List.append_nil]
      rw [hP] at hown
      clear hV hrow hP
      go_wp2
      go_ret
      exact ⟨_, rfl, hown, hb0⟩
    have t1 : decide ((i : Int) < (len : Int)) = true := by simp; omega
    obtain h0 | ⟨b, off, rfl, hbn, hlc, hcm, _⟩ := hc
    · omega
    obtain ⟨_, hrow2⟩ := hrow b off rfl (by omega)
    obtain ⟨t, bs, k, r, ba, blen, bcap, ka, kl, kc, rfl, c0, c1, c2, ht1, ht2, ⟨hb, hbl⟩, hkids, hr⟩ := (RowF.below hb0 G b _ hbn hrow2).open (by omega)
    have hr' : RowF W.heap.size W r b (off + i * 3 + 3) := by
      obtain ⟨_, _, _, _, _, _, _, _, _, _, _, _, _, _, h⟩ := hrow2
      exact h
    have hbe := hb.1.open.1
    obtain ⟨hkG1, hkG2⟩ := hkG
    have hlw := hb0.size
    have hL : (Forest.cons t bs k r).length = r.length + 1 := rfl
    have hC : (Forest.cons t bs k r).cnt = 1 + bs.length + k.cnt + r.cnt := rfl
    have hlk := Forest.layF_le k
    have HR := Lib.hid hr'
    obtain ⟨X, hX⟩ : ∃ X, X = Obj.cells #[.int .i64 t, .slice ba blen bcap, .slice ka kl kc] 30 := ⟨_, rfl⟩
    have bx : Below W.heap.size W (wr.alloc X) := hb0.alloc hlw _
    have hownx := hown.alloc X
    have hownx0 := fun q hq => (hown.lt q hq).2
    have hownx0 := fun q hq => (hown.lt q hq).2
    have hownx0 := fun q hq => (hown.lt q hq).2
    have hownx0 := fun q hq => (hown.lt q hq).2
    have x0 : (wr.alloc X).cell? ⟨wr.heap.size, 0, none⟩ = some (.int .i64 t) := by rw [hX, World.cell?_alloc_mark]; rfl
    have hVL : P ++ (([t % 256] ++ bytesL ((if 128 ≤ t then k.layF else bs).length) ++ (if 128 ≤ t then k.layF else bs)) ++ r.layF) = f.layF := by
      rw [← (show P ++ (Forest.cons t bs k r).layF = f.layF from hV), Forest.layF, bytesL_len _ (by split <;> omega)]
    have hsx : (wr.alloc X).heap.size = wr.heap.size + 1 := by simp
    clear hr hr' hrow hrow2 hV hown
    by_cases hn : 128 ≤ t
    · have t2 : decide ((128 : Int) ≤ t) = true := by simpa using hn
      rw [if_pos hn] at hVL
      have HVL := Lib.hid hVL
      have kk := hkG1 (wr.alloc X) ka kl kc ((hkids.below ((Below.refl _ wr).alloc hlw _)).mono (by simp; omega)) (by omega)
      have kx : (wr.alloc X).cell? ⟨wr.heap.size, 0, none⟩ = some (.int .i64 t) := x0
      clear hVL
      go_wp2_with (go_at_call 27; refine held ?_)
      unfold Held
      rw [← hX]
      refine kk.mono ?_
      rintro e w2 ⟨v7, rfl, o7, b7⟩
      obtain ⟨va, vc, rfl, hva⟩ := ownsRow_slice o7
      have hvr := (RowI.of_own o7).2
      have hvb : ∀ q, blockOf (.slice va k.layF.length vc) q → wr.heap.size + 1 ≤ q := fun q hq => by
        rcases hva with h0 | ⟨g', rfl, hg'⟩
        · cases va with
          | none => exact hq.elim
          | some x => have := hq.1; omega
        · have h2 := (o7.lt g' hg').1
          have h3 : q = g' := hq.2
          omega
      have own2 := ownsRow_same hownx fun q hq => b7.block q (hownx.lt q hq).2
      have bel2 : Below W.heap.size W w2 := bx.trans (b7.mono (by omega))
      have y0 := cell_same (p := ⟨wr.heap.size, 0, none⟩) (b7.block wr.heap.size (by omega)) x0
      have hownw := fun q hq => (hownx0 q hq)
      have b7s := b7.size
      clear kk kx o7 b7 x0
      have nb0 : ∀ q, blockOf (.slice va k.layF.length vc) q → u0.ownBlock ≠ some q := (fun q hq e => by have h1 := hvb q hq; have h2 := hownw q e; omega)
      have hn1 := Lib.hid (one_new8 (w2) (t % 256))
      have hsw := bel2.size
      go_wp2_with (at_builtin; refine held ?_)
      unfold Held
      try skip
      refine wpList_append_own_at _ rfl _ _ 25 rfl W.heap.size 5 i0 (.int .u8 0) 1 1 Try.underlying25 hi hz0 hz1 hz2 rfl (by decide) _ P.length _ (by rfl) (own2.alloc _) ⟨(w2).heap.size, 0, none⟩ 1 1 [.int .u8 (t % 256)] (by rfl) rfl hn1 (by simp [Value.oneCell']) (by simp only [maxLen]; omega) (by omega) (by simp; omega) ?_
      intro v1 u1 o1 g1 _ hv1
      have d1 : Below W.heap.size W u1 := (bel2.alloc hsw (.cells #[.int .u8 (t % 256)] 5)).grown g1 (by simp; omega) (fun q hq => (own2.lt q hq).1)
      have r1 : RowI .u8 (w2).heap.size u1 (.slice va k.layF.length vc) k.layF := hvr.same fun q hq => (g1.block q (by have := hvr.lt q hq; simp; omega) (fun e => nb0 q hq e.symm)).trans (Below.heap_alloc _ _ _ (hvr.lt q hq))
      have s1 := d1.size
      have s1' : (w2).heap.size ≤ u1.heap.size := by have := g1.size; simp at this; omega
      clear hn1
      go_wp2_with (go_at_call 39; refine held ?_)
      unfold Held
      refine (bytes_any (k.layF.length) u1 (by omega)).mono ?_
      rintro e u2 ⟨rfl, hu2⟩
      have bq : Below u1.heap.size u1 u2 := by rw [hu2]; exact ((Below.refl _ u1).alloc (Nat.le_refl _) _).alloc (by simp) _
      have hrB : Row8 u2.heap.size u2 (.slice (some ⟨u1.heap.size + 1, 0, none⟩) 4 4) (bytesL (k.layF.length)) := by
        have := Row8.built (u1.alloc (bytesO (k.layF.length))) 75 (0, 0) (bytesL (k.layF.length)) (bytesL_byte _ (by omega)) (by simp [bytesL, maxLen]) _ rfl 4 rfl
        rw [hu2, show u1.heap.size + 1 = (u1.alloc (bytesO (k.layF.length))).heap.size from (World.size_alloc ..).symm]; exact this
      have o2 := ownsRow_same o1 fun q hq => bq.block q (o1.lt q hq).2
      have d2 : Below W.heap.size W u2 := d1.trans (bq.mono s1)
      have r2 : RowI .u8 (w2).heap.size u2 (.slice va k.layF.length vc) k.layF := r1.same fun q hq => bq.block q (by have := r1.lt q hq; omega)
      have s2 := d2.size
      have bqs := bq.size
      clear hu2
      go_wp2_with (at_builtin; refine held ?_)
      unfold Held
      refine wpList_append_row rfl _ _ 25 rfl W.heap.size 5 i0 Try.underlying25 hi hz0 hz1 hz2 v1 (P.length + 1) (P ++ [t % 256]) rfl (by rw [List.map_append]; exact o2) _ 4 4 u2.heap.size (bytesL (k.layF.length)) rfl hrB.1 (by omega) s2 ?_
      intro v2 u3 o3 g3 hv3
      have d3 : Below W.heap.size W u3 := d2.grown g3 s2 (fun q hq => (o2.lt q hq).1)
      have nb1 : ∀ q, blockOf (.slice va k.layF.length vc) q → v1.ownBlock ≠ some q := fun q hq e => by
        have h1 := hvb q hq
        have h2 := hvr.lt q hq
        rcases hv1 with h3 | h3
        · rw [h3] at e; have h4 := hownw q e; omega
        · rw [h3] at e; injection e with e; simp at e; omega
      have r3 : RowI .u8 (w2).heap.size u3 (.slice va k.layF.length vc) k.layF := r2.same fun q hq => g3.block q (by have := r2.lt q hq; omega) (fun e => nb1 q hq e.symm)
      have s3 := d3.size
      clear hrB o2 bq
      go_wp2_with (at_builtin; refine held ?_)
      unfold Held
      refine wpList_append_row rfl _ _ 25 rfl W.heap.size 5 i0 Try.underlying25 hi hz0 hz1 hz2 v2 (P.length + 1 + 4) ((P ++ [t % 256]) ++ bytesL (k.layF.length)) rfl o3 va k.layF.length vc (w2).heap.size k.layF rfl r3 (by omega) s3 ?_
      intro v3 u4 o4 g4 hv4
      have d4 : Below W.heap.size W u4 := d3.grown g4 s3 (fun q hq => (o3.lt q hq).1)
      have hPl : (((P ++ [t % 256]) ++ bytesL (k.layF.length)) ++ k.layF).length = P.length + 1 + 4 + k.layF.length := by
        rw [List.length_append, List.length_append, List.length_append]; rfl
      have hVf : (((P ++ [t % 256]) ++ bytesL (k.layF.length)) ++ k.layF) ++ r.layF = f.layF := by
        rw [← HVL]; simp only [List.append_assoc]
      have HVF := Lib.hid hVf
      have HPL := Lib.hid hPl
      clear o3 g4 hv4 g3 hv3 hVf hPl
      go_wp2
      go_roundw
      case rel =>
        have hPl : (((P ++ [t % 256]) ++ bytesL (k.layF.length)) ++ k.layF).length = P.length + 1 + 4 + k.layF.length := HPL
        refine ⟨i + 1, r, ((P ++ [t % 256]) ++ bytesL (k.layF.length)) ++ k.layF, by go_num, by omega, by omega, by omega, HVF, hkG2, fun b' off' ha hlen => ?_, by rw [hPl]; exact o4, d4⟩
        injection ha with ha; injection ha with q1 q2; subst q1 q2
        refine ⟨hbn, ?_⟩
        rw [show off + (i + 1) * 3 = off + i * 3 + 3 by omega]; exact HR
      case measure => simp [intOf]; omega
    · have t2 : decide ((128 : Int) ≤ t) = false := by simp; omega
      rw [if_neg hn] at hVL
      rw [hbe] at hVL
      have HVL := Lib.hid hVL
      have hvr : RowI .u8 (wr.alloc X).heap.size (wr.alloc X) (.slice ba blen bcap) bs := (hb.1.below ((Below.refl _ wr).alloc hlw X)).mono (by simp; omega)
      clear hVL
      have nb0 : ∀ q, blockOf (.slice ba blen bcap) q → u0.ownBlock ≠ some q := (fun q hq e => by have h1 := hb.1.lt q hq; have h2 := (hownx.lt q e).1; omega)
      have hn1 := Lib.hid (one_new8 (wr.alloc X) (t % 256))
      have hsw := bx.size
      go_wp2_with (at_builtin; refine held ?_)
      unfold Held
      rw [← hX, ← hsx]
      refine wpList_append_own_at _ rfl _ _ 25 rfl W.heap.size 5 i0 (.int .u8 0) 1 1 Try.underlying25 hi hz0 hz1 hz2 rfl (by decide) _ P.length _ (by rfl) (hownx.alloc _) ⟨(wr.alloc X).heap.size, 0, none⟩ 1 1 [.int .u8 (t % 256)] (by rfl) rfl hn1 (by simp [Value.oneCell']) (by simp only [maxLen]; omega) (by omega) (by simp; omega) ?_
      intro v1 u1 o1 g1 _ hv1
      have d1 : Below W.heap.size W u1 := (bx.alloc hsw (.cells #[.int .u8 (t % 256)] 5)).grown g1 (by simp; omega) (fun q hq => (hownx.lt q hq).1)
      have r1 : RowI .u8 (wr.alloc X).heap.size u1 (.slice ba blen bcap) bs := hvr.same fun q hq => (g1.block q (by have := hvr.lt q hq; simp; omega) (fun e => nb0 q hq e.symm)).trans (Below.heap_alloc _ _ _ (hvr.lt q hq))
      have s1 := d1.size
      have s1' : (wr.alloc X).heap.size ≤ u1.heap.size := by have := g1.size; simp at this; omega
      clear hn1
      go_wp2_with (go_at_call 39; refine held ?_)
      unfold Held
      refine (bytes_any (blen) u1 (by omega)).mono ?_
      rintro e u2 ⟨rfl, hu2⟩
      have bq : Below u1.heap.size u1 u2 := by rw [hu2]; exact ((Below.refl _ u1).alloc (Nat.le_refl _) _).alloc (by simp) _
      have hrB : Row8 u2.heap.size u2 (.slice (some ⟨u1.heap.size + 1, 0, none⟩) 4 4) (bytesL (blen)) := by
        have := Row8.built (u1.alloc (bytesO (blen))) 75 (0, 0) (bytesL (blen)) (bytesL_byte _ (by omega)) (by simp [bytesL, maxLen]) _ rfl 4 rfl
        rw [hu2, show u1.heap.size + 1 = (u1.alloc (bytesO (blen))).heap.size from (World.size_alloc ..).symm]; exact this
      have o2 := ownsRow_same o1 fun q hq => bq.block q (o1.lt q hq).2
      have d2 : Below W.heap.size W u2 := d1.trans (bq.mono s1)
      have r2 : RowI .u8 (wr.alloc X).heap.size u2 (.slice ba blen bcap) bs := r1.same fun q hq => bq.block q (by have := r1.lt q hq; omega)
      have s2 := d2.size
      have bqs := bq.size
      clear hu2
      go_wp2_with (at_builtin; refine held ?_)
      unfold Held
      refine wpList_append_row rfl _ _ 25 rfl W.heap.size 5 i0 Try.underlying25 hi hz0 hz1 hz2 v1 (P.length + 1) (P ++ [t % 256]) rfl (by rw [List.map_append]; exact o2) _ 4 4 u2.heap.size (bytesL (blen)) rfl hrB.1 (by omega) s2 ?_
      intro v2 u3 o3 g3 hv3
      have d3 : Below W.heap.size W u3 := d2.grown g3 s2 (fun q hq => (o2.lt q hq).1)
      have nb1 : ∀ q, blockOf (.slice ba blen bcap) q → v1.ownBlock ≠ some q := fun q hq e => by
        have h1 := hb.1.lt q hq
        have h2 := (o1.lt q e).1
        omega
      have r3 : RowI .u8 (wr.alloc X).heap.size u3 (.slice ba blen bcap) bs := r2.same fun q hq => g3.block q (by have := r2.lt q hq; omega) (fun e => nb1 q hq e.symm)
      have s3 := d3.size
      clear hrB o2 bq
      go_wp2_with (at_builtin; refine held ?_)
      unfold Held
      refine wpList_append_row rfl _ _ 25 rfl W.heap.size 5 i0 Try.underlying25 hi hz0 hz1 hz2 v2 (P.length + 1 + 4) ((P ++ [t % 256]) ++ bytesL (blen)) rfl o3 ba blen bcap (wr.alloc X).heap.size bs rfl r3 (by omega) s3 ?_
      intro v3 u4 o4 g4 hv4
      have d4 : Below W.heap.size W u4 := d3.grown g4 s3 (fun q hq => (o3.lt q hq).1)
      have hPl : (((P ++ [t % 256]) ++ bytesL (blen)) ++ bs).length = P.length + 1 + 4 + blen := by
        rw [List.length_append, List.length_append, List.length_append, hbe]; rfl
      have hVf : (((P ++ [t % 256]) ++ bytesL (blen)) ++ bs) ++ r.layF = f.layF := by
        rw [← HVL]; simp only [List.append_assoc]
      have HVF := Lib.hid hVf
      have HPL := Lib.hid hPl
      clear o3 g4 hv4 g3 hv3 hVf hPl
      go_wp2
      go_roundw
      case rel =>
        have hPl : (((P ++ [t % 256]) ++ bytesL (blen)) ++ bs).length = P.length + 1 + 4 + blen := HPL
        refine ⟨i + 1, r, ((P ++ [t % 256]) ++ bytesL (blen)) ++ bs, by go_num, by omega, by omega, by omega, HVF, hkG2, fun b' off' ha hlen => ?_, by rw [hPl]; exact o4, d4⟩
        injection ha with ha; injection ha with q1 q2; subst q1 q2
        refine ⟨hbn, ?_⟩
        rw [show off + (i + 1) * 3 = off + i * 3 + 3 by omega]; exact HR
      case measure => simp [intOf]; omega
theorem lay_any (f : Forest) : LayOK f := Forest.all LayOK lay_step f
end Go.Proofs.Ytdlhnipkhlihjaa
