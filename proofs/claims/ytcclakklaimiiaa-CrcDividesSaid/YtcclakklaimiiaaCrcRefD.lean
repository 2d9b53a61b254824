/- The walk of the document's Bytes, Seal and Open. -/
import Derived.Test.YtcclakklaimiiaaCrcRefC
import Derived.Test.YtcclakklaimiiaaCrcTurnM
import Derived.Lib.Bytes
namespace Go.Proofs.Ytcclakklaimiiaa
open Go Go.RowKit
set_option linter.unusedVariables false
set_option linter.unnecessarySimpa false
theorem str_inj : ∀ (X Y : List Int), (∀ z ∈ X, 0 ≤ z ∧ z ≤ 255) → (∀ z ∈ Y, 0 ≤ z ∧ z ≤ 255) → (X.map fun n => UInt8.ofNat n.toNat) = (Y.map fun n => UInt8.ofNat n.toNat) → X = Y
  | [], [], _, _, _ => rfl
  | [], y :: Y, _, _, h => by simp at h
  | x :: X, [], _, _, h => by simp at h
  | x :: X, y :: Y, hX, hY, h => by
    simp only [List.map_cons, List.cons.injEq] at h
    have hx := hX x (List.mem_cons_self ..)
    have hy := hY y (List.mem_cons_self ..)
    have e : x = y := by
      have h1 := congrArg UInt8.toNat h.1
      simp only [UInt8.toNat_ofNat'] at h1
      omega
    rw [e, str_inj X Y (fun z hz => hX z (List.mem_cons_of_mem _ hz)) (fun z hz => hY z (List.mem_cons_of_mem _ hz)) h.2]
theorem str_list (X : List Int) : (strOfNums X).toList = X.map fun n => UInt8.ofNat n.toNat := by
  rw [ByteArray.toList_eq]; rfl
theorem str_ne {X Y : List Int} (hX : ∀ z ∈ X, 0 ≤ z ∧ z ≤ 255) (hY : ∀ z ∈ Y, 0 ≤ z ∧ z ≤ 255) (h : ¬ X = Y) : ((strOfNums X).toList == (strOfNums Y).toList) = false := by
  rw [str_list, str_list, beq_eq_false_iff_ne]
  exact fun e => h (str_inj X Y hX hY e)
set_option maxHeartbeats 1000000 in
theorem rbytes_any (x : Nat) (w : World) (hx : x < 4294967296) :
    Calls Try.prog 33 #[.int .u32 x] w fun e w' => e = .returned (.slice (some ⟨w.heap.size, 0, none⟩) 4 4) ∧ w' = w.alloc (.cells #[.int .u8 ((x : Int) % 256), .int .u8 ((x : Int) / 256 % 256), .int .u8 ((x : Int) / 65536 % 256), .int .u8 ((x : Int) / 16777216)] 5) := by
  go_enter Try.func33, Try.ntmps33
  go_wp2
  go_ret
  exact ⟨rfl, rfl⟩
set_option maxHeartbeats 2000000 in
theorem rseal_any (a : Option Addr) (len cap : Nat) (zs : List Int) (w : World) (hr : Row8 w.heap.size w (.slice a len cap) zs) (hsm : zs.length ≤ 10000) :
    Calls Try.prog 20 #[.slice a len cap] w fun e w' => ∃ v, e = .returned v ∧ w'.ownsRow w.heap.size 5 1 v (len + 4) ((zs ++ bytesL (sumL zs)).map (Value.int .u8)) ∧ Below w.heap.size w w' := by
  obtain ⟨i0, hi, hz0, hz1, hz2⟩ := info_parts info_u8
  have e1 := hr.1.open.1
  have xl := sumL_lt zs hr.2
  have km := rmore_any 0 a len cap zs w (by decide) hr hsm
  rw [show moreN 0 (zs.map Int.toNat) = sumL zs from rfl] at km
  obtain ⟨V, hV⟩ : ∃ V, V = sumL zs := ⟨_, rfl⟩
  rw [← hV] at km xl ⊢
  have hzV := bytesL_byte V xl
  clear hV
  go_enter Try.func20, Try.ntmps20
  go_wp2_with (go_at_call 18; refine held ?_)
  unfold Held
  refine km.mono ?_
  rintro e w1 ⟨rfl, b1⟩
  go_wp2_with (go_at_call 33; refine held ?_)
  unfold Held
  refine (rbytes_any V w1 xl).mono ?_
  rintro e u2 ⟨rfl, hu2⟩
  have bq : Below w1.heap.size w1 u2 := by rw [hu2]; exact (Below.refl _ w1).alloc (Nat.le_refl _) _
  have hrB : Row8 u2.heap.size u2 (.slice (some ⟨w1.heap.size, 0, none⟩) 4 4) (bytesL V) := by
    have := Row8.built w1 5 (0, 0) (bytesL V) hzV (by simp [bytesL, maxLen]) _ rfl 4 rfl
    rw [hu2]; exact this
  have b2 := below_step b1 bq
  have s2 := b2.size
  clear hu2 bq b1 km
  go_wp2_with (at_builtin; refine held ?_)
  unfold Held
  refine wpList_append_row rfl _ _ 28 rfl w.heap.size 5 i0 Try.underlying28 hi hz0 hz1 hz2 (.slice none 0 0) 0 [] rfl (World.ownsRow_nil _ _ _ _) a len cap w.heap.size zs rfl (hr.1.below b2) (by omega) b2.size ?_
  intro v1 u3 o3 hg1 hv1
  rw [Nat.zero_add, List.nil_append] at o3
  have b3 : Below w.heap.size w u3 := b2.grown hg1 b2.size (fun b h => by simp [Value.ownBlock] at h)
  have hrB3 : Row8 u2.heap.size u3 (.slice (some ⟨w1.heap.size, 0, none⟩) 4 4) (bytesL V) := hrB.same fun b hb => hg1.block b (hrB.lt b hb) (by simp [Value.ownBlock])
  clear hg1 hv1 hrB b2
  go_wp2_with (at_builtin; refine held ?_)
  unfold Held
  refine wpList_append_row rfl _ _ 28 rfl w.heap.size 5 i0 Try.underlying28 hi hz0 hz1 hz2 v1 len zs rfl o3 _ 4 4 u2.heap.size (bytesL V) rfl hrB3.1 (by omega) b3.size ?_
  intro v2 u4 o4 hg2 hv2
  have b4 : Below w.heap.size w u4 := b3.grown hg2 b3.size (fun b h => (o3.lt b h).1)
  clear hg2 hv2 o3 b3 hrB3
  go_wp2
  go_ret
  exact ⟨_, rfl, o4, b4⟩
theorem opens_eq (zs : List Int) (N : Nat) (hz : ∀ z ∈ zs, 0 ≤ z ∧ z ≤ 255) (h : zs.length = N + 4) : opens zs ↔ zs.take N ++ bytesL (sumL (zs.take N)) = zs := by
  have e : zs.length - 4 = N := by omega
  have hs := sumL_lt (zs.take N) (fun z hz' => hz z (List.mem_of_mem_take hz'))
  unfold opens
  rw [e]
  constructor
  · rintro ⟨_, h1⟩
    have hw := wbytes_le (zs := zs.drop N) (by rw [List.length_drop]; omega) (fun z h => hz z (List.mem_of_mem_drop h))
    have h2 : bytesL (sumL (zs.take N)) = zs.drop N := by
      rw [← h1]
      have h3 := hw.1
      rw [← bytesL_nat] at h3
      refine (str_inj _ _ (fun z h => hz z (List.mem_of_mem_drop h)) (bytesL_byte _ hw.2) ?_).symm
      have h4 := congrArg (List.map UInt8.ofNat) h3
      rw [List.map_map, List.map_map] at h4
      exact h4
    rw [h2, List.take_append_drop]
  · intro h1
    refine ⟨by omega, ?_⟩
    have h2 : zs.drop N = bytesL (sumL (zs.take N)) := by
      have h3 := congrArg (List.drop N) h1
      rw [← h3, List.drop_append_of_le_length (by rw [List.length_take]; omega), List.drop_of_length_le (by rw [List.length_take]; omega), List.nil_append]
    rw [h2, leW_bytes _ hs]
set_option maxHeartbeats 2000000 in
theorem ropen_any (a : Option Addr) (len cap : Nat) (zs : List Int) (w : World) (hr : Row8 w.heap.size w (.slice a len cap) zs) (hsm : zs.length ≤ 10000) :
    Calls Try.prog 17 #[.slice a len cap] w fun e w' => Below w.heap.size w w' ∧
      ((opens zs ∧ ∃ q c, e = .returned (.tuple #[.slice q (len - 4) c, .int .i64 0]) ∧ Row8 w.heap.size w' (.slice q (len - 4) c) (zs.take (len - 4))) ∨ (¬ opens zs ∧ e = .returned (.tuple #[.slice none 0 0, .int .i64 230]))) := by
  have e1 := hr.1.open.1
  have hcap := hr.1.cap
  by_cases h4 : 4 ≤ len
  rotate_left
  · have t1 : decide ((len : Int) < 4) = true := by simp; omega
    go_enter Try.func17, Try.ntmps17
    go_wp2
    go_ret2
    exact ⟨Below.refl _ _, .inr ⟨fun h => h4 (by have := h.1; omega), rfl⟩⟩
  have t1 : decide ((len : Int) < 4) = false := by simp; omega
  obtain ⟨N, hN⟩ : ∃ N, N = len - 4 := ⟨_, rfl⟩
  have hO := opens_eq zs N hr.2 (by omega)
  rw [← hN]
  have hn4 : (len : Int) - 4 = (N : Int) := by omega
  obtain ⟨s2, _⟩ := hr.sub 0 N (Nat.zero_le _) (by omega)
  rw [List.drop_zero] at s2
  obtain ⟨_, b, off, hopen, _⟩ := hr.1.open
  obtain ⟨rfl, hbl, _, hcm⟩ := hopen (by omega)
  clear hopen
  have g2 : sliced (some ⟨b, off, none⟩) 0 N cap 1 = .slice (some ⟨b, off, none⟩) N cap := by
    unfold sliced
    rw [if_neg (by omega)]
    simp [Addr.add_lit]
  rw [g2] at s2
  clear g2
  have hlN : (zs.take N).length = N := by rw [List.length_take]; omega
  have ks := rseal_any (some ⟨b, off, none⟩) N cap (zs.take N) w s2 (by omega)
  have hzN : ∀ z ∈ zs.take N, 0 ≤ z ∧ z ≤ 255 := s2.2
  have hzc : ∀ z ∈ zs.take N ++ bytesL (sumL (zs.take N)), 0 ≤ z ∧ z ≤ 255 := all_app hzN (bytesL_byte _ (sumL_lt _ hzN))
  have hcl : (zs.take N ++ bytesL (sumL (zs.take N))).length = N + 4 := by rw [List.length_append, hlN]; rfl
  obtain ⟨cs, hcs⟩ : ∃ cs, cs = zs.take N ++ bytesL (sumL (zs.take N)) := ⟨_, rfl⟩
  rw [← hcs] at ks hO hzc hcl
  have HO := Lib.hid hO
  have H2 := Lib.hid s2
  have hz := hr.2
  have hll : len ≤ 10000 := by omega
  have hcc : cap ≤ 9223372036854775807 := by simp only [maxLen] at hcm; omega
  have hNl : N ≤ len := by omega
  have hcN : ¬ cap = N := by omega
  have HR := Lib.hid hr
  clear hO s2 hcs hN hlN e1 hcm hr hsm
  go_enter Try.func17, Try.ntmps17
  go_wp2_with (go_at_call 20; refine held ?_)
  unfold Held
  refine ks.mono ?_
  rintro e w1 ⟨v, rfl, o1, b1⟩
  rw [← hcl] at o1
  have cv1 := OwnBytes.conv o1
  have hr : Row8 w.heap.size w (.slice (some ⟨b, off, none⟩) len cap) zs := HR
  have cv2 := convRow (P := Try.prog) (hr.1.below b1) 28 5 9 Try.underlying28 Try.underlying5 Try.underlying9
  clear ks o1 hr hcl
  by_cases hq : cs = zs
  · subst hq
    go_wp2
    go_ret2
    exact ⟨b1, .inl ⟨(show opens cs ↔ True from HO).2 trivial, _, _, rfl, (show Row8 w.heap.size w _ _ from H2).below b1⟩⟩
  · have hne := str_ne hzc hz hq
    have HQ := Lib.hid hq
    clear hq
    go_wp2
    go_ret2
    exact ⟨b1, .inr ⟨fun h => HQ ((show opens zs ↔ cs = zs from HO).1 h), rfl⟩⟩
end Go.Proofs.Ytcclakklaimiiaa
