/- Own texts of this seat, one behind the other (part 9 of 9). -/
import Derived.Test.YtejcandhijdnhaaGreatMN08

/- The walk of image.Same of zombies. -/
namespace Go.Proofs.YtejcandhijdnhaaGreat
open Go Go.RowKit
set_option linter.unusedVariables false
set_option linter.unnecessarySimpa false
set_option linter.unusedSimpArgs false
set_option maxHeartbeats 1000000 in
theorem equalInt (a b : Option Addr) (c d : Nat) (W : World) :
    Calls Tryz.prog 48 #[.slice a 0 c, .slice b 0 d] W fun e W' => e = .returned (.bool true) ∧ W' = W := by
  go_enter Tryz.func48, Tryz.ntmps48
  go_wp2
  go_loopw [4, 13] (fun _ i wr => i = .int .i64 0 ∧ wr = W) (fun _ _ _ => 0)
  case atStart => exact ⟨rfl, rfl⟩
  case round =>
    obtain ⟨rfl, rfl⟩ := hrel
    go_wp2
    go_ret
    exact ⟨rfl, rfl⟩
set_option maxHeartbeats 1000000 in
theorem equalMapped (a b : Option Addr) (c d : Nat) (W : World) :
    Calls Tryz.prog 49 #[.slice a 0 c, .slice b 0 d] W fun e W' => e = .returned (.bool true) ∧ W' = W := by
  go_enter Tryz.func49, Tryz.ntmps49
  go_wp2
  go_loopw [4, 13] (fun _ i wr => i = .int .i64 0 ∧ wr = W) (fun _ _ _ => 0)
  case atStart => exact ⟨rfl, rfl⟩
  case round =>
    obtain ⟨rfl, rfl⟩ := hrel
    go_wp2
    go_ret
    exact ⟨rfl, rfl⟩
set_option maxHeartbeats 1000000 in
theorem equalStr (a b : Option Addr) (c d : Nat) (W : World) :
    Calls Tryz.prog 52 #[.slice a 0 c, .slice b 0 d] W fun e W' => e = .returned (.bool true) ∧ W' = W := by
  go_enter Tryz.func52, Tryz.ntmps52
  go_wp2
  go_loopw [4, 13] (fun _ i wr => i = .int .i64 0 ∧ wr = W) (fun _ _ _ => 0)
  case atStart => exact ⟨rfl, rfl⟩
  case round =>
    obtain ⟨rfl, rfl⟩ := hrel
    go_wp2
    go_ret
    exact ⟨rfl, rfl⟩
set_option maxHeartbeats 1000000 in
theorem equalFile (a b : Option Addr) (c d : Nat) (W : World) :
    Calls Tryz.prog 53 #[.slice a 0 c, .slice b 0 d] W fun e W' => e = .returned (.bool true) ∧ W' = W := by
  go_enter Tryz.func53, Tryz.ntmps53
  go_wp2
  go_loopw [4, 13] (fun _ i wr => i = .int .i64 0 ∧ wr = W) (fun _ _ _ => 0)
  case atStart => exact ⟨rfl, rfl⟩
  case round =>
    obtain ⟨rfl, rfl⟩ := hrel
    go_wp2
    go_ret
    exact ⟨rfl, rfl⟩
set_option maxHeartbeats 1000000 in
theorem equalWaiter (a b : Option Addr) (c d : Nat) (W : World) :
    Calls Tryz.prog 54 #[.slice a 0 c, .slice b 0 d] W fun e W' => e = .returned (.bool true) ∧ W' = W := by
  go_enter Tryz.func54, Tryz.ntmps54
  go_wp2
  go_loopw [4, 13] (fun _ i wr => i = .int .i64 0 ∧ wr = W) (fun _ _ _ => 0)
  case atStart => exact ⟨rfl, rfl⟩
  case round =>
    obtain ⟨rfl, rfl⟩ := hrel
    go_wp2
    go_ret
    exact ⟨rfl, rfl⟩
set_option maxHeartbeats 1000000 in
theorem equalPipes (a b : Option Addr) (c d : Nat) (f : Value) (W : World) :
    Calls Tryz.prog 50 #[.slice a 0 c, .slice b 0 d, f] W fun e W' => e = .returned (.bool true) ∧ W' = W := by
  go_enter Tryz.func50, Tryz.ntmps50
  go_wp2
  go_loopw [6, 17] (fun _ i wr => i = .int .i64 0 ∧ wr = W) (fun _ _ _ => 0)
  case atStart => exact ⟨rfl, rfl⟩
  case round =>
    obtain ⟨rfl, rfl⟩ := hrel
    go_wp2
    go_ret
    exact ⟨rfl, rfl⟩
set_option maxRecDepth 100000 in
set_option maxHeartbeats 8000000 in
theorem same1_any (W : World) :
    Calls Tryz.prog 47 #[.agg (procC 2 7 0), .agg (procC 2 7 0)] W fun e W' => e = .returned (.bool true) ∧ Below W.heap.size W W' := by
  obtain ⟨X, hX⟩ : ∃ X, X = procC 2 7 0 := ⟨_, rfl⟩
  rw [← hX]
  go_enter Tryz.func47, Tryz.ntmps47
  go_upto_region 1 with fail
  generalize hV : World.alloc _ _ = V
  have hV2 : V = (W.alloc (.cells (procC 2 7 0) 54)).alloc (.cells (procC 2 7 0) 54) := hV.symm
  clear hV
  have bV : Below W.heap.size W V := by rw [hV2]; exact ((Below.refl _ _).alloc (Nat.le_refl _) _).alloc (by simp) _
  have e : V.heap[W.heap.size]? = some (.cells (procC 2 7 0) 54) := by
    rw [hV2, ((Below.refl _ _).alloc (Nat.le_refl _) _ : Below _ _ _).block _ (by simp)]; exact World.alloc_heap_new _ _
  have f : V.heap[W.heap.size + 1]? = some (.cells (procC 2 7 0) 54) := by
    rw [hV2]; have := World.alloc_heap_new (W.alloc (Obj.cells (procC 2 7 0) 54)) (Obj.cells (procC 2 7 0) 54); simpa using this
  clear hV2 hX
  have c0 : V.cell? ⟨W.heap.size, 0, none⟩ = some (.int .i64 2) := by rw [cell_of_row V _ 0 _ _ _ e]; rfl
  have c1 : V.cell? ⟨W.heap.size, 1, none⟩ = some (.int .i64 1) := by rw [cell_of_row V _ 1 _ _ _ e]; rfl
  have c2 : V.cell? ⟨W.heap.size, 2, none⟩ = some (.int .i64 2) := by rw [cell_of_row V _ 2 _ _ _ e]; rfl
  have c3 : V.cell? ⟨W.heap.size, 3, none⟩ = some (.int .u32 7) := by rw [cell_of_row V _ 3 _ _ _ e]; rfl
  have c45 : V.cell? ⟨W.heap.size, 45, none⟩ = some (.int .i64 0) := by rw [cell_of_row V _ 45 _ _ _ e]; rfl
  have c46 : V.cell? ⟨W.heap.size, 46, none⟩ = some (.int .i64 0) := by rw [cell_of_row V _ 46 _ _ _ e]; rfl
  have c47 : V.cell? ⟨W.heap.size, 47, none⟩ = some (.int .i64 0) := by rw [cell_of_row V _ 47 _ _ _ e]; rfl
  have c48 : V.cell? ⟨W.heap.size, 48, none⟩ = some (.int .i64 0) := by rw [cell_of_row V _ 48 _ _ _ e]; rfl
  have c49 : V.cell? ⟨W.heap.size, 49, none⟩ = some (.int .i64 0) := by rw [cell_of_row V _ 49 _ _ _ e]; rfl
  have c50 : V.cell? ⟨W.heap.size, 50, none⟩ = some (.int .u32 0) := by rw [cell_of_row V _ 50 _ _ _ e]; rfl
  have c51 : V.cell? ⟨W.heap.size, 51, none⟩ = some (.slice none 0 0) := by rw [cell_of_row V _ 51 _ _ _ e]; rfl
  have c52 : V.cell? ⟨W.heap.size, 52, none⟩ = some (.int .u32 0) := by rw [cell_of_row V _ 52 _ _ _ e]; rfl
  have c53 : V.cell? ⟨W.heap.size, 53, none⟩ = some (.int .i64 0) := by rw [cell_of_row V _ 53 _ _ _ e]; rfl
  have c54 : V.cell? ⟨W.heap.size, 54, none⟩ = some (.slice none 0 0) := by rw [cell_of_row V _ 54 _ _ _ e]; rfl
  have d0 : V.cell? ⟨W.heap.size + 1, 0, none⟩ = some (.int .i64 2) := by rw [cell_of_row V _ 0 _ _ _ f]; rfl
  have d1 : V.cell? ⟨W.heap.size + 1, 1, none⟩ = some (.int .i64 1) := by rw [cell_of_row V _ 1 _ _ _ f]; rfl
  have d2 : V.cell? ⟨W.heap.size + 1, 2, none⟩ = some (.int .i64 2) := by rw [cell_of_row V _ 2 _ _ _ f]; rfl
  have d3 : V.cell? ⟨W.heap.size + 1, 3, none⟩ = some (.int .u32 7) := by rw [cell_of_row V _ 3 _ _ _ f]; rfl
  have d45 : V.cell? ⟨W.heap.size + 1, 45, none⟩ = some (.int .i64 0) := by rw [cell_of_row V _ 45 _ _ _ f]; rfl
  have d46 : V.cell? ⟨W.heap.size + 1, 46, none⟩ = some (.int .i64 0) := by rw [cell_of_row V _ 46 _ _ _ f]; rfl
  have d47 : V.cell? ⟨W.heap.size + 1, 47, none⟩ = some (.int .i64 0) := by rw [cell_of_row V _ 47 _ _ _ f]; rfl
  have d48 : V.cell? ⟨W.heap.size + 1, 48, none⟩ = some (.int .i64 0) := by rw [cell_of_row V _ 48 _ _ _ f]; rfl
  have d49 : V.cell? ⟨W.heap.size + 1, 49, none⟩ = some (.int .i64 0) := by rw [cell_of_row V _ 49 _ _ _ f]; rfl
  have d50 : V.cell? ⟨W.heap.size + 1, 50, none⟩ = some (.int .u32 0) := by rw [cell_of_row V _ 50 _ _ _ f]; rfl
  have d51 : V.cell? ⟨W.heap.size + 1, 51, none⟩ = some (.slice none 0 0) := by rw [cell_of_row V _ 51 _ _ _ f]; rfl
  have d52 : V.cell? ⟨W.heap.size + 1, 52, none⟩ = some (.int .u32 0) := by rw [cell_of_row V _ 52 _ _ _ f]; rfl
  have d53 : V.cell? ⟨W.heap.size + 1, 53, none⟩ = some (.int .i64 0) := by rw [cell_of_row V _ 53 _ _ _ f]; rfl
  have d54 : V.cell? ⟨W.heap.size + 1, 54, none⟩ = some (.slice none 0 0) := by rw [cell_of_row V _ 54 _ _ _ f]; rfl
  go_step
  simp only [List.append]
  go_wp2_with first
    | (go_at_call 48; refine (equalInt _ _ _ _ _).mono ?_; rintro e' w' ⟨rfl, rfl⟩)
    | (go_at_call 49; refine (equalMapped _ _ _ _ _).mono ?_; rintro e' w' ⟨rfl, rfl⟩)
    | (refine wpList_load_part (by rfl) 45 (.tmp 32) rfl W.heap.size 4 rfl _ cpuC _ e rfl _ Tryz.underlying45 rfl infoCpu ?_)
    | (refine wpList_load_part (by rfl) 45 (.tmp 34) rfl (W.heap.size + 1) 4 rfl _ cpuC _ f rfl _ Tryz.underlying45 rfl infoCpu ?_)
    | (refine wpList_load_part (by rfl) 45 (.tmp 39) rfl W.heap.size 15 rfl _ cpuC _ e rfl _ Tryz.underlying45 rfl infoCpu ?_)
    | (refine wpList_load_part (by rfl) 45 (.tmp 41) rfl (W.heap.size + 1) 15 rfl _ cpuC _ f rfl _ Tryz.underlying45 rfl infoCpu ?_)
    | (refine wpList_load_part (by rfl) 48 (.tmp 46) rfl W.heap.size 26 rfl _ sigC _ e rfl _ Tryz.underlying48 rfl infoSig ?_)
    | (refine wpList_load_part (by rfl) 48 (.tmp 48) rfl (W.heap.size + 1) 26 rfl _ sigC _ f rfl _ Tryz.underlying48 rfl infoSig ?_)
    | (refine wpList_eq (by rfl) .eql 45 _ (.tmp 33) (.tmp 35) rfl _ (run_eqGuard_agg _ _ _ _ _ _ _ guardT1) (eqCpu _) ?_)
    | (refine wpList_eq (by rfl) .eql 45 _ (.tmp 40) (.tmp 42) rfl _ (run_eqGuard_agg _ _ _ _ _ _ _ guardT1) (eqCpu _) ?_)
    | (refine wpList_eq (by rfl) .eql 48 _ (.tmp 47) (.tmp 49) rfl _ (run_eqGuard_agg _ _ _ _ _ _ _ guardT2) (eqSig _) ?_)
  go_ret
  exact ⟨rfl, bV⟩
end Go.Proofs.YtejcandhijdnhaaGreat

/- The walk of image.Same of images of one zombie. -/
namespace Go.Proofs.YtejcandhijdnhaaGreat
open Go Go.RowKit
set_option linter.unusedVariables false
set_option linter.unnecessarySimpa false
set_option linter.unusedSimpArgs false
set_option maxRecDepth 100000 in
set_option maxHeartbeats 4000000 in
theorem equalProcs (W : World) (x y c1 c2 : Nat) (hx : ZomAt W x (procC 2 7 0)) (hy : ZomAt W y (procC 2 7 0)) :
    Calls Tryz.prog 46 #[.slice (some ⟨x, 0, none⟩) 1 c1, .slice (some ⟨y, 0, none⟩) 1 c2, .func (.func 47) #[] #[]] W fun e W' => e = .returned (.bool true) ∧ Below W.heap.size W W' := by
  have hip := infoProc2 2 7 0
  have hp1 := proc_one 2 7 0
  have hps : procZ.size = (procC 2 7 0).size := rfl
  have kk := fun V => same1_any V
  obtain ⟨X, hX⟩ : ∃ X, X = procC 2 7 0 := ⟨_, rfl⟩
  rw [← hX] at hx hy hip hp1 hps kk
  clear hX
  go_enter Tryz.func46, Tryz.ntmps46
  go_wp2
  go_loopw [7, 8, 9, 17] (fun _ _ _ i wr => ∃ k : Nat, i = .int .i64 (k : Int) ∧ (k = 0 ∨ k = 1) ∧ Below W.heap.size W wr) (fun _ _ _ i _ => 1 - (intOf i).toNat)
  case atStart => exact ⟨0, rfl, .inl rfl, Below.refl _ _⟩
  case round =>
    obtain ⟨k, rfl, hk, hb⟩ := hrel
    rcases hk with rfl | rfl
    rotate_left
    · go_wp2
      go_ret
      exact ⟨rfl, hb⟩
    · have ex := hx.below hb hx.1
      have ey := hy.below hb hy.1
      have hs := hb.size
      go_wp2_with first
        | (refine wpList_load_zom (by rfl) 54 (.tmp 20) rfl x rfl X ex _ Tryz.underlying54 rfl hip ?_)
        | ((fail_if_success (unfold Held)); refine at_store (t := 54) rfl ?_)
      unfold Held
      generalize hA : wr.alloc _ = A
      have hA2 : A = wr.alloc (Obj.cells procZ 54) := hA.symm
      clear hA
      have pq : A.heap[wr.heap.size]? = some (.cells procZ 54) := by rw [hA2]; exact World.alloc_heap_new _ _
      have bA : Below wr.heap.size wr A := by rw [hA2]; exact (Below.refl _ _).alloc (Nat.le_refl _) _
      have sA : A.heap.size = wr.heap.size + 1 := by rw [hA2]; simp
      clear hA2
      refine wpList_store_row rfl 54 (.tmp 8) (.tmp 21) rfl wr.heap.size X rfl rfl 54 procZ pq hip hps hp1 ?_
      obtain ⟨V3, hV3⟩ : ∃ V3, V3 = A.setRow wr.heap.size X := ⟨_, rfl⟩
      have e3 : V3.heap[wr.heap.size]? = some (.cells X 54) := by rw [hV3]; exact setRow_heap _ _ _ _ _ _ pq
      have b3 : Below wr.heap.size wr V3 := by rw [hV3]; exact below_setRow bA (by omega) _
      have s3 : V3.heap.size = wr.heap.size + 1 := by rw [hV3, size_setRow]; exact sA
      rw [← hV3]
      clear hV3 pq bA sA
      have ey3 := ey.below b3 ey.1
      go_wp2_with first
        | (refine wpList_load_zom (by rfl) 54 (.tmp 24) rfl y rfl X ey3 _ Tryz.underlying54 rfl hip ?_)
        | ((fail_if_success (unfold Held)); refine at_store (t := 54) rfl ?_)
      unfold Held
      generalize hB : V3.alloc _ = B
      have hB2 : B = V3.alloc (Obj.cells procZ 54) := hB.symm
      clear hB
      have pq : B.heap[wr.heap.size + 1]? = some (.cells procZ 54) := by rw [hB2, ← s3]; exact World.alloc_heap_new _ _
      have bB : Below V3.heap.size V3 B := by rw [hB2]; exact (Below.refl _ _).alloc (Nat.le_refl _) _
      clear hB2
      refine wpList_store_row rfl 54 (.tmp 9) (.tmp 25) rfl (wr.heap.size + 1) X rfl rfl 54 procZ pq hip hps hp1 ?_
      obtain ⟨V5, hV5⟩ : ∃ V5, V5 = B.setRow (wr.heap.size + 1) X := ⟨_, rfl⟩
      have e5 : V5.heap[wr.heap.size + 1]? = some (.cells X 54) := by rw [hV5]; exact setRow_heap _ _ _ _ _ _ pq
      have b5 : Below V3.heap.size V3 V5 := by rw [hV5]; exact below_setRow bB (by omega) _
      rw [← hV5]
      clear hV5 pq bB
      have e3' := ((b5.block _ (by omega)).trans e3)
      have z8 : ZomAt V5 wr.heap.size X := ZomAt.of_row e3'
      have z9 : ZomAt V5 (wr.heap.size + 1) X := ZomAt.of_row e5
      have b6 := hb.trans ((b3.trans (b5.mono b3.size)).mono hs)
      clear e3 e5 e3' b3 b5 ex ey ey3
      go_wp2_with first
        | (refine wpList_load_zom (by rfl) 54 (.tmp 8) rfl wr.heap.size rfl X z8 _ Tryz.underlying54 rfl hip ?_)
        | (refine wpList_load_zom (by rfl) 54 (.tmp 9) rfl (wr.heap.size + 1) rfl X z9 _ Tryz.underlying54 rfl hip ?_)
        | (go_at_call 47; refine held ?_)
      unfold Held
      refine (kk V5).mono ?_
      rintro e' w' ⟨rfl, b7⟩
      have b8 := b6.trans (b7.mono b6.size)
      clear kk z8 z9
      go_wp2
      go_roundw
      case rel => exact ⟨1, by go_num, .inr rfl, b8⟩
      case measure => simp [intOf]
set_option maxHeartbeats 1000000 in
theorem equalStrNe (a b : Option Addr) (c d : Nat) (W : World) :
    Calls Tryz.prog 52 #[.slice a 1 c, .slice b 0 d] W fun e W' => e = .returned (.bool false) ∧ W' = W := by
  go_enter Tryz.func52, Tryz.ntmps52
  go_wp2
  go_ret
  exact ⟨rfl, rfl⟩
set_option maxRecDepth 100000 in
set_option maxHeartbeats 4000000 in
theorem same_zombies (W : World) (x y c1 c2 : Nat) (hx : ZomAt W x (procC 2 7 0)) (hy : ZomAt W y (procC 2 7 0)) :
    Calls Tryz.prog 13 #[.agg #[.slice (some ⟨x, 0, none⟩) 1 c1, .slice none 0 0, .slice none 0 0, .slice none 0 0, .slice none 0 0], imgV y c2] W fun e W' => e = .returned (.bool true) ∧ Below W.heap.size W W' := by
  have kp := fun (V : World) (hV : Below W.heap.size W V) => equalProcs V x y c1 c2 (hx.below hV hx.1) (hy.below hV hy.1)
  have KP := Lib.hid kp
  clear kp
  go_enter Tryz.func13, Tryz.ntmps13
  go_upto_region 1 with fail
  generalize hV : World.alloc _ _ = V
  have hV2 : V = (W.alloc (.cells #[.slice (some ⟨x, 0, none⟩) 1 c1, .slice none 0 0, .slice none 0 0, .slice none 0 0, .slice none 0 0] 29)).alloc (.cells (imC y c2) 29) := hV.symm
  clear hV
  have bV : Below W.heap.size W V := by rw [hV2]; exact ((Below.refl _ _).alloc (Nat.le_refl _) _).alloc (by simp) _
  have e : V.heap[W.heap.size]? = some (.cells #[.slice (some ⟨x, 0, none⟩) 1 c1, .slice none 0 0, .slice none 0 0, .slice none 0 0, .slice none 0 0] 29) := by
    rw [hV2, ((Below.refl _ _).alloc (Nat.le_refl _) _ : Below _ _ _).block _ (by simp)]; exact World.alloc_heap_new _ _
  have f : V.heap[W.heap.size + 1]? = some (.cells (imC y c2) 29) := by
    rw [hV2]; have := World.alloc_heap_new (W.alloc (.cells #[.slice (some ⟨x, 0, none⟩) 1 c1, .slice none 0 0, .slice none 0 0, .slice none 0 0, .slice none 0 0] 29)) (Obj.cells (imC y c2) 29); simpa using this
  have sV : V.heap.size = W.heap.size + 2 := by rw [hV2]; simp
  clear hV2
  have c0 : V.cell? ⟨W.heap.size, 0, none⟩ = some (.slice (some ⟨x, 0, none⟩) 1 c1) := by rw [cell_of_row V _ 0 _ _ _ e]; rfl
  have d0 : V.cell? ⟨W.heap.size + 1, 0, none⟩ = some (.slice (some ⟨y, 0, none⟩) 1 c2) := by rw [cell_of_row V _ 0 _ _ _ f]; rfl
  go_wp2_with (go_at_call 46; refine held ?_)
  unfold Held
  refine ((show ∀ V, Below W.heap.size W V → _ from KP) _ bV).mono ?_
  rintro e' w1 ⟨rfl, b1⟩
  replace e := (b1.block _ (by omega)).trans e
  replace f := (b1.block _ (by omega)).trans f
  have b3 := bV.trans (b1.mono bV.size)
  clear KP b1 bV c0 d0 sV
  have g1 : w1.cell? ⟨W.heap.size, 1, none⟩ = some (.slice none 0 0) := by rw [cell_of_row w1 _ 1 _ _ _ e]; rfl
  have g2 : w1.cell? ⟨W.heap.size, 2, none⟩ = some (.slice none 0 0) := by rw [cell_of_row w1 _ 2 _ _ _ e]; rfl
  have g3 : w1.cell? ⟨W.heap.size, 3, none⟩ = some (.slice none 0 0) := by rw [cell_of_row w1 _ 3 _ _ _ e]; rfl
  have g4 : w1.cell? ⟨W.heap.size, 4, none⟩ = some (.slice none 0 0) := by rw [cell_of_row w1 _ 4 _ _ _ e]; rfl
  have h1 : w1.cell? ⟨W.heap.size + 1, 1, none⟩ = some (.slice none 0 0) := by rw [cell_of_row w1 _ 1 _ _ _ f]; rfl
  have h2 : w1.cell? ⟨W.heap.size + 1, 2, none⟩ = some (.slice none 0 0) := by rw [cell_of_row w1 _ 2 _ _ _ f]; rfl
  have h3 : w1.cell? ⟨W.heap.size + 1, 3, none⟩ = some (.slice none 0 0) := by rw [cell_of_row w1 _ 3 _ _ _ f]; rfl
  have h4 : w1.cell? ⟨W.heap.size + 1, 4, none⟩ = some (.slice none 0 0) := by rw [cell_of_row w1 _ 4 _ _ _ f]; rfl
  clear e f
  go_wp2_with first
    | (go_at_call 50; refine (equalPipes _ _ _ _ _ _).mono ?_; rintro e' w' ⟨rfl, rfl⟩)
    | (go_at_call 52; refine (equalStr _ _ _ _ _).mono ?_; rintro e' w' ⟨rfl, rfl⟩)
    | (go_at_call 53; refine (equalFile _ _ _ _ _).mono ?_; rintro e' w' ⟨rfl, rfl⟩)
    | (go_at_call 54; refine (equalWaiter _ _ _ _ _).mono ?_; rintro e' w' ⟨rfl, rfl⟩)
  go_ret
  exact ⟨rfl, b3⟩
set_option maxRecDepth 100000 in
set_option maxHeartbeats 4000000 in
theorem same_short (W : World) (x y c1 c2 s : Nat) (hx : ZomAt W x (procC 2 7 0)) (hy : ZomAt W y (procC 2 7 0)) :
    Calls Tryz.prog 13 #[.agg #[.slice (some ⟨x, 0, none⟩) 1 c1, .slice (some ⟨s, 0, none⟩) 1 1, .slice none 0 0, .slice none 0 0, .slice none 0 0], imgV y c2] W fun e W' => e = .returned (.bool false) ∧ Below W.heap.size W W' := by
  have kp := fun (V : World) (hV : Below W.heap.size W V) => equalProcs V x y c1 c2 (hx.below hV hx.1) (hy.below hV hy.1)
  have KP := Lib.hid kp
  clear kp
  go_enter Tryz.func13, Tryz.ntmps13
  go_upto_region 1 with fail
  generalize hV : World.alloc _ _ = V
  have hV2 : V = (W.alloc (.cells #[.slice (some ⟨x, 0, none⟩) 1 c1, .slice (some ⟨s, 0, none⟩) 1 1, .slice none 0 0, .slice none 0 0, .slice none 0 0] 29)).alloc (.cells (imC y c2) 29) := hV.symm
  clear hV
  have bV : Below W.heap.size W V := by rw [hV2]; exact ((Below.refl _ _).alloc (Nat.le_refl _) _).alloc (by simp) _
  have e : V.heap[W.heap.size]? = some (.cells #[.slice (some ⟨x, 0, none⟩) 1 c1, .slice (some ⟨s, 0, none⟩) 1 1, .slice none 0 0, .slice none 0 0, .slice none 0 0] 29) := by
    rw [hV2, ((Below.refl _ _).alloc (Nat.le_refl _) _ : Below _ _ _).block _ (by simp)]; exact World.alloc_heap_new _ _
  have f : V.heap[W.heap.size + 1]? = some (.cells (imC y c2) 29) := by
    rw [hV2]; have := World.alloc_heap_new (W.alloc (.cells #[.slice (some ⟨x, 0, none⟩) 1 c1, .slice (some ⟨s, 0, none⟩) 1 1, .slice none 0 0, .slice none 0 0, .slice none 0 0] 29)) (Obj.cells (imC y c2) 29); simpa using this
  have sV : V.heap.size = W.heap.size + 2 := by rw [hV2]; simp
  clear hV2
  have c0 : V.cell? ⟨W.heap.size, 0, none⟩ = some (.slice (some ⟨x, 0, none⟩) 1 c1) := by rw [cell_of_row V _ 0 _ _ _ e]; rfl
  have d0 : V.cell? ⟨W.heap.size + 1, 0, none⟩ = some (.slice (some ⟨y, 0, none⟩) 1 c2) := by rw [cell_of_row V _ 0 _ _ _ f]; rfl
  go_wp2_with (go_at_call 46; refine held ?_)
  unfold Held
  refine ((show ∀ V, Below W.heap.size W V → _ from KP) _ bV).mono ?_
  rintro e' w1 ⟨rfl, b1⟩
  replace e := (b1.block _ (by omega)).trans e
  replace f := (b1.block _ (by omega)).trans f
  have b3 := bV.trans (b1.mono bV.size)
  clear KP b1 bV c0 d0 sV
  have g1 : w1.cell? ⟨W.heap.size, 1, none⟩ = some (.slice (some ⟨s, 0, none⟩) 1 1) := by rw [cell_of_row w1 _ 1 _ _ _ e]; rfl
  have g2 : w1.cell? ⟨W.heap.size, 2, none⟩ = some (.slice none 0 0) := by rw [cell_of_row w1 _ 2 _ _ _ e]; rfl
  have g3 : w1.cell? ⟨W.heap.size, 3, none⟩ = some (.slice none 0 0) := by rw [cell_of_row w1 _ 3 _ _ _ e]; rfl
  have g4 : w1.cell? ⟨W.heap.size, 4, none⟩ = some (.slice none 0 0) := by rw [cell_of_row w1 _ 4 _ _ _ e]; rfl
  have h1 : w1.cell? ⟨W.heap.size + 1, 1, none⟩ = some (.slice none 0 0) := by rw [cell_of_row w1 _ 1 _ _ _ f]; rfl
  have h2 : w1.cell? ⟨W.heap.size + 1, 2, none⟩ = some (.slice none 0 0) := by rw [cell_of_row w1 _ 2 _ _ _ f]; rfl
  have h3 : w1.cell? ⟨W.heap.size + 1, 3, none⟩ = some (.slice none 0 0) := by rw [cell_of_row w1 _ 3 _ _ _ f]; rfl
  have h4 : w1.cell? ⟨W.heap.size + 1, 4, none⟩ = some (.slice none 0 0) := by rw [cell_of_row w1 _ 4 _ _ _ f]; rfl
  clear e f
  go_wp2_with first
    | (go_at_call 50; refine (equalPipes _ _ _ _ _ _).mono ?_; rintro e' w' ⟨rfl, rfl⟩)
    | (go_at_call 52; refine (equalStrNe _ _ _ _ _).mono ?_; rintro e' w' ⟨rfl, rfl⟩)
  go_ret
  exact ⟨rfl, b3⟩
end Go.Proofs.YtejcandhijdnhaaGreat

/- The walk of alive. -/
namespace Go.Proofs.YtejcandhijdnhaaGreat
open Go Go.RowKit
attribute [local go_sem] upV_value upV_skip upV_enter
set_option linter.unusedVariables false
set_option linter.unnecessarySimpa false
set_option linter.unusedSimpArgs false
def b13 : ByteArray := ByteArray.mk #[1, 8, 0, 0, 0, 1, 0, 0, 0, 0, 0, 0, 0]
theorem zom_str : strOfNums (zomB.take 13) = b13 := by
  have : zomB.take 13 = [1, 8, 0, 0, 0, 1, 0, 0, 0, 0, 0, 0, 0] := by unfold zomB; rw [outB_img]; rfl
  rw [this]; rfl
theorem b13_eq : (b13.toList == ([1, 8, 0, 0, 0, 1, 0, 0, 0, 0, 0, 0, 0] : List UInt8)) = true := by
  rw [show b13 = ByteArray.mk (#[1, 8, 0, 0, 0, 1, 0, 0, 0, 0, 0, 0, 0] : Array UInt8) from rfl]
  kernel_rfl
theorem row_take13 {n : Nat} {W : World} {g cap : Nat} (h : Row8 n W (.slice (some ⟨g, 0, none⟩) 74 cap) zomB) : (13 : Int) ≤ (cap : Int) ∧ cap ≤ maxLen ∧ Row8 n W (.slice (some ⟨g, 0, none⟩) 13 cap) (zomB.take 13) := by
  have hl : (zomB.take 13).length = 13 := by rw [List.length_take, zomB_len]; rfl
  obtain ⟨h1 | ⟨b, off, cap2, h1, h2, h3, h4, h5⟩, h6⟩ := h
  · obtain ⟨a, c, h1, _⟩ := h1; injection h1 with _ h1 _; cases h1
  · injection h1 with e1 e2 e3
    injection e1 with e1
    injection e1 with e1 e4 _
    subst e1 e3 e4
    rw [zomB_len] at h3
    refine ⟨by omega, h4, .inr ⟨g, 0, cap, by rw [hl], h2, by omega, h4, fun j hj => ?_⟩, fun z hz => h6 z (List.mem_of_mem_take hz)⟩
    rw [hl] at hj
    rw [h5 j (by rw [zomB_len]; omega), List.getD_eq_getElem?_getD, List.getD_eq_getElem?_getD, List.getElem?_take, if_pos hj]
theorem size_zombie (W : World) (x cp : Nat) (hx : ZomAt W x (procC 2 7 0)) :
    Calls Tryz.prog 12 #[imgV x cp] W fun e W' => e = .returned (.int .i64 74) ∧ Below W.heap.size W W' := by
  have h := size_of W (imC x cp) rfl 74 fun V hV => (bytes_zombie V x cp (hx.below hV hx.1)).mono fun e W' ⟨a, c, he, _, hb⟩ => ⟨⟨a, c, 0, he⟩, hb⟩
  exact h
set_option maxRecDepth 100000 in
set_option maxHeartbeats 8000000 in
theorem alive_any (W : World) :
    Calls Tryz.prog 11 #[] W fun e W' => e = .returned (.bool true) ∧ Below W.heap.size W W' := by
  go_enter Tryz.func11, Tryz.ntmps11
  go_wp2_with (go_at_call 9; refine held ?_)
  unfold Held
  refine (zombie_any W).mono ?_
  rintro e w1 ⟨x1, rfl, h1, hs1, b1⟩
  have kb := bytes_zombie w1 x1 1 (ZomAt.of_row h1)
  clear h1
  go_wp2_with (go_at_call 21; refine held ?_)
  unfold Held
  refine kb.mono ?_
  rintro e w2 ⟨a2, c2, rfl, o2, b2⟩
  have B2 := below_step b1 b2
  obtain ⟨g, c, e2⟩ := ownsRow_formI o2 (by decide)
  injection e2 with e2 _ e3
  subst e2 e3
  have zb : ∀ z ∈ zomB, 0 ≤ z ∧ z ≤ 255 := by
    unfold zomB; rw [outB_img]; decide
  have r2 : Row8 w2.heap.size w2 (.slice (some ⟨g, 0, none⟩) 74 c2) zomB := own_row8 o2 zb _ _ fun b hb => ⟨rfl, (o2.lt b hb).2⟩
  clear kb b1 b2 o2 hs1
  go_wp2_with (go_at_call 5; refine held ?_)
  unfold Held
  refine (read_zombie w2 _ _ r2).mono ?_
  rintro e w3 ⟨x3, c3, rfl, z3, b3⟩
  have B3 := below_step B2 b3
  have r3 : Row8 w3.heap.size w3 (.slice (some ⟨g, 0, none⟩) 74 c2) zomB := (r2.below b3).mono b3.size
  clear r2 b3 B2
  try dsimp only
  go_wp2_with ((fail_if_success (unfold Held)); refine at_store (t := 29) rfl ?_)
  unfold Held
  refine wpList_store_row rfl 29 (.tmp 3) (.tmp 13) rfl w3.heap.size (imC x3 c3) rfl rfl 29 imz (World.alloc_heap_new _ _) infoImg rfl (imC_one _ _) ?_
  rw [World.setRow_alloc_new]
  obtain ⟨V, hV⟩ : ∃ V, V = w3.alloc (.cells (imC x3 c3) 29) := ⟨_, rfl⟩
  have bV : Below w3.heap.size w3 V := by rw [hV]; exact (Below.refl _ _).alloc (Nat.le_refl _) _
  have eV : V.heap[w3.heap.size]? = some (.cells (imC x3 c3) 29) := by rw [hV]; exact World.alloc_heap_new _ _
  have lV : w3.heap.size < V.heap.size := (Array.getElem?_eq_some_iff.1 eV).1
  rw [← hV]
  have BV := below_step B3 bV
  have z4 := z3.below bV z3.1
  have r4 : Row8 V.heap.size V (.slice (some ⟨g, 0, none⟩) 74 c2) zomB := (r3.below bV).mono bV.size
  obtain ⟨hc1, hc2, r13⟩ := row_take13 r4
  obtain ⟨bx, hbx⟩ : ∃ bx, bx = w3.heap.size := ⟨_, rfl⟩
  rw [← hbx] at eV lV ⊢
  clear hV bV z3 r3 B3 hbx
  have HX := Lib.hid (show ∀ W', Grows V.drew W' → W'.cell? ⟨bx, 0, none⟩ = some (.slice (some ⟨x3, 0, none⟩) 1 c3) ∧ W'.cell? ⟨bx, 1, none⟩ = some (.slice none 0 0) ∧ W'.cell? ⟨bx, 2, none⟩ = some (.slice none 0 0) ∧ W'.cell? ⟨bx, 3, none⟩ = some (.slice none 0 0) ∧ W'.cell? ⟨bx, 4, none⟩ = some (.slice none 0 0) ∧
      (convert 22 9 (.slice (some ⟨g, 0, none⟩) 13 c2)).run Tryz.prog W' = .ok (.string b13) W' from fun W' hW => by
    have hW2 : Below V.heap.size V W' := below_undrew hW
    have e2 := (hW2.block _ lV).trans eV
    refine ⟨?_, ?_, ?_, ?_, ?_, ?_⟩
    · rw [cell_of_row W' _ 0 _ _ _ e2]; rfl
    · rw [cell_of_row W' _ 1 _ _ _ e2]; rfl
    · rw [cell_of_row W' _ 2 _ _ _ e2]; rfl
    · rw [cell_of_row W' _ 3 _ _ _ e2]; rfl
    · rw [cell_of_row W' _ 4 _ _ _ e2]; rfl
    · rw [← zom_str]
      exact convRow (P := Tryz.prog) (r13.below hW2).1 22 5 9 Tryz.underlying22 Tryz.underlying5 Tryz.underlying9)
  have hG : Grows V.drew V.drew := Grows.pre.refl _
  have Z4 := Lib.hid (show ∀ W', Grows V.drew W' → ZomAt W' x3 (procC 2 7 0) from fun W' hW => z4.below (below_undrew hW) z4.1)
  have hb13 := b13_eq
  clear eV r4 r13 z4
  go_wp2_with fail
  refine wp_region_anyV Grows (by kernel_rfl) 28 rfl ?_
  first
    | (refine anyV_val 0 (Grows.pre) rfl (by kernel_rfl) (by kernel_rfl) (by kernel_rfl) (by rfl) (v := ?av1) (fun W hW => ?ay1) (fun K hK => ?ar1); case ay1 => (obtain ⟨q0, q1, q2, q3, q4, q5⟩ := (show ∀ W', Grows V.drew W' → _ from HX) W (Grows.pre.trans hG hW); go_simp; first | done | rfl))
    | refine anyV_skip 0 (Grows.pre) rfl (by kernel_rfl) (by kernel_rfl) (by kernel_rfl) (by rfl) (fun K hK => ?_)
  go_simp
  refine hK _ ?_
  clear hK K
  first
    | (refine anyV_val 1 (Grows.pre) rfl (by kernel_rfl) (by kernel_rfl) (by kernel_rfl) (by rfl) (v := ?av2) (fun W hW => ?ay2) (fun K hK => ?ar2); case ay2 => (obtain ⟨q0, q1, q2, q3, q4, q5⟩ := (show ∀ W', Grows V.drew W' → _ from HX) W (Grows.pre.trans hG hW); go_simp; first | done | rfl))
    | refine anyV_skip 1 (Grows.pre) rfl (by kernel_rfl) (by kernel_rfl) (by kernel_rfl) (by rfl) (fun K hK => ?_)
  go_simp
  refine hK _ ?_
  clear hK K
  first
    | (refine anyV_val 2 (Grows.pre) rfl (by kernel_rfl) (by kernel_rfl) (by kernel_rfl) (by rfl) (v := ?av3) (fun W hW => ?ay3) (fun K hK => ?ar3); case ay3 => (obtain ⟨q0, q1, q2, q3, q4, q5⟩ := (show ∀ W', Grows V.drew W' → _ from HX) W (Grows.pre.trans hG hW); go_simp; first | done | rfl))
    | refine anyV_skip 2 (Grows.pre) rfl (by kernel_rfl) (by kernel_rfl) (by kernel_rfl) (by rfl) (fun K hK => ?_)
  go_simp
  refine hK _ ?_
  clear hK K
  first
    | (refine anyV_val 3 (Grows.pre) rfl (by kernel_rfl) (by kernel_rfl) (by kernel_rfl) (by rfl) (v := ?av4) (fun W hW => ?ay4) (fun K hK => ?ar4); case ay4 => (obtain ⟨q0, q1, q2, q3, q4, q5⟩ := (show ∀ W', Grows V.drew W' → _ from HX) W (Grows.pre.trans hG hW); go_simp; first | done | rfl))
    | refine anyV_skip 3 (Grows.pre) rfl (by kernel_rfl) (by kernel_rfl) (by kernel_rfl) (by rfl) (fun K hK => ?_)
  go_simp
  refine hK _ ?_
  clear hK K
  first
    | (refine anyV_val 4 (Grows.pre) rfl (by kernel_rfl) (by kernel_rfl) (by kernel_rfl) (by rfl) (v := ?av5) (fun W hW => ?ay5) (fun K hK => ?ar5); case ay5 => (obtain ⟨q0, q1, q2, q3, q4, q5⟩ := (show ∀ W', Grows V.drew W' → _ from HX) W (Grows.pre.trans hG hW); go_simp; first | done | rfl))
    | refine anyV_skip 4 (Grows.pre) rfl (by kernel_rfl) (by kernel_rfl) (by kernel_rfl) (by rfl) (fun K hK => ?_)
  go_simp
  refine hK _ ?_
  clear hK K
  first
    | (refine anyV_val 5 (Grows.pre) rfl (by kernel_rfl) (by kernel_rfl) (by kernel_rfl) (by rfl) (v := ?av6) (fun W hW => ?ay6) (fun K hK => ?ar6); case ay6 => (obtain ⟨q0, q1, q2, q3, q4, q5⟩ := (show ∀ W', Grows V.drew W' → _ from HX) W (Grows.pre.trans hG hW); go_simp; first | done | rfl))
    | refine anyV_skip 5 (Grows.pre) rfl (by kernel_rfl) (by kernel_rfl) (by kernel_rfl) (by rfl) (fun K hK => ?_)
  go_simp
  refine hK _ ?_
  clear hK K
  first
    | (refine anyV_val 6 (Grows.pre) rfl (by kernel_rfl) (by kernel_rfl) (by kernel_rfl) (by rfl) (v := ?av7) (fun W hW => ?ay7) (fun K hK => ?ar7); case ay7 => (obtain ⟨q0, q1, q2, q3, q4, q5⟩ := (show ∀ W', Grows V.drew W' → _ from HX) W (Grows.pre.trans hG hW); go_simp; first | done | rfl))
    | refine anyV_skip 6 (Grows.pre) rfl (by kernel_rfl) (by kernel_rfl) (by kernel_rfl) (by rfl) (fun K hK => ?_)
  go_simp
  refine hK _ ?_
  clear hK K
  first
    | (refine anyV_val 7 (Grows.pre) rfl (by kernel_rfl) (by kernel_rfl) (by kernel_rfl) (by rfl) (v := ?av8) (fun W hW => ?ay8) (fun K hK => ?ar8); case ay8 => (obtain ⟨q0, q1, q2, q3, q4, q5⟩ := (show ∀ W', Grows V.drew W' → _ from HX) W (Grows.pre.trans hG hW); go_simp; first | done | rfl))
    | refine anyV_skip 7 (Grows.pre) rfl (by kernel_rfl) (by kernel_rfl) (by kernel_rfl) (by rfl) (fun K hK => ?_)
  go_simp
  refine hK _ ?_
  clear hK K
  refine anyV_only 8 rfl (by kernel_rfl) (by rfl) (fun K hK => ?_)
  go_simp
  refine (zombie_any _).mono ?_
  rintro e w5 ⟨x5, rfl, h5, hs5, b5⟩
  replace hG := Grows.pre.trans hG b5
  have z5 := ZomAt.of_row h5
  clear h5
  refine ⟨_, rfl, hK _ _ b5 ?_⟩
  clear hK K
  refine anyV_frame (fun K hK => ?_)
  go_simp
  refine hK _ ?_
  clear hK K
  refine anyV_only 9 rfl (by kernel_rfl) (by rfl) (fun K hK => ?_)
  go_simp
  refine (size_zombie _ _ _ z5).mono ?_
  rintro e w6 ⟨rfl, b6⟩
  replace hG := Grows.pre.trans hG b6
  clear z5
  refine ⟨_, rfl, hK _ _ b6 ?_⟩
  clear hK K
  refine anyV_frame (fun K hK => ?_)
  go_simp
  refine hK _ ?_
  clear hK K
  first
    | (refine anyV_val 10 (Grows.pre) rfl (by kernel_rfl) (by kernel_rfl) (by kernel_rfl) (by rfl) (v := ?av9) (fun W hW => ?ay9) (fun K hK => ?ar9); case ay9 => (obtain ⟨q0, q1, q2, q3, q4, q5⟩ := (show ∀ W', Grows V.drew W' → _ from HX) W (Grows.pre.trans hG hW); go_simp; first | done | rfl))
    | refine anyV_skip 10 (Grows.pre) rfl (by kernel_rfl) (by kernel_rfl) (by kernel_rfl) (by rfl) (fun K hK => ?_)
  go_simp
  refine hK _ ?_
  clear hK K
  first
    | (refine anyV_val 11 (Grows.pre) rfl (by kernel_rfl) (by kernel_rfl) (by kernel_rfl) (by rfl) (v := ?av10) (fun W hW => ?ay10) (fun K hK => ?ar10); case ay10 => (obtain ⟨q0, q1, q2, q3, q4, q5⟩ := (show ∀ W', Grows V.drew W' → _ from HX) W (Grows.pre.trans hG hW); go_simp; first | done | rfl))
    | refine anyV_skip 11 (Grows.pre) rfl (by kernel_rfl) (by kernel_rfl) (by kernel_rfl) (by rfl) (fun K hK => ?_)
  go_simp
  refine hK _ ?_
  clear hK K
  first
    | (refine anyV_val 12 (Grows.pre) rfl (by kernel_rfl) (by kernel_rfl) (by kernel_rfl) (by rfl) (v := ?av11) (fun W hW => ?ay11) (fun K hK => ?ar11); case ay11 => (obtain ⟨q0, q1, q2, q3, q4, q5⟩ := (show ∀ W', Grows V.drew W' → _ from HX) W (Grows.pre.trans hG hW); go_simp; first | done | rfl))
    | refine anyV_skip 12 (Grows.pre) rfl (by kernel_rfl) (by kernel_rfl) (by kernel_rfl) (by rfl) (fun K hK => ?_)
  go_simp
  refine hK _ ?_
  clear hK K
  first
    | (refine anyV_val 13 (Grows.pre) rfl (by kernel_rfl) (by kernel_rfl) (by kernel_rfl) (by rfl) (v := ?av12) (fun W hW => ?ay12) (fun K hK => ?ar12); case ay12 => (obtain ⟨q0, q1, q2, q3, q4, q5⟩ := (show ∀ W', Grows V.drew W' → _ from HX) W (Grows.pre.trans hG hW); go_simp; first | done | rfl))
    | refine anyV_skip 13 (Grows.pre) rfl (by kernel_rfl) (by kernel_rfl) (by kernel_rfl) (by rfl) (fun K hK => ?_)
  go_simp
  refine hK _ ?_
  clear hK K
  first
    | (refine anyV_val 14 (Grows.pre) rfl (by kernel_rfl) (by kernel_rfl) (by kernel_rfl) (by rfl) (v := ?av13) (fun W hW => ?ay13) (fun K hK => ?ar13); case ay13 => (obtain ⟨q0, q1, q2, q3, q4, q5⟩ := (show ∀ W', Grows V.drew W' → _ from HX) W (Grows.pre.trans hG hW); go_simp; first | done | rfl))
    | refine anyV_skip 14 (Grows.pre) rfl (by kernel_rfl) (by kernel_rfl) (by kernel_rfl) (by rfl) (fun K hK => ?_)
  go_simp
  refine hK _ ?_
  clear hK K
  first
    | (refine anyV_val 15 (Grows.pre) rfl (by kernel_rfl) (by kernel_rfl) (by kernel_rfl) (by rfl) (v := ?av14) (fun W hW => ?ay14) (fun K hK => ?ar14); case ay14 => (obtain ⟨q0, q1, q2, q3, q4, q5⟩ := (show ∀ W', Grows V.drew W' → _ from HX) W (Grows.pre.trans hG hW); go_simp; first | done | rfl))
    | refine anyV_skip 15 (Grows.pre) rfl (by kernel_rfl) (by kernel_rfl) (by kernel_rfl) (by rfl) (fun K hK => ?_)
  go_simp
  refine hK _ ?_
  clear hK K
  first
    | (refine anyV_val 16 (Grows.pre) rfl (by kernel_rfl) (by kernel_rfl) (by kernel_rfl) (by rfl) (v := ?av15) (fun W hW => ?ay15) (fun K hK => ?ar15); case ay15 => (obtain ⟨q0, q1, q2, q3, q4, q5⟩ := (show ∀ W', Grows V.drew W' → _ from HX) W (Grows.pre.trans hG hW); go_simp; first | done | rfl))
    | refine anyV_skip 16 (Grows.pre) rfl (by kernel_rfl) (by kernel_rfl) (by kernel_rfl) (by rfl) (fun K hK => ?_)
  go_simp
  refine hK _ ?_
  clear hK K
  first
    | (refine anyV_val 17 (Grows.pre) rfl (by kernel_rfl) (by kernel_rfl) (by kernel_rfl) (by rfl) (v := ?av16) (fun W hW => ?ay16) (fun K hK => ?ar16); case ay16 => (obtain ⟨q0, q1, q2, q3, q4, q5⟩ := (show ∀ W', Grows V.drew W' → _ from HX) W (Grows.pre.trans hG hW); go_simp; first | done | rfl))
    | refine anyV_skip 17 (Grows.pre) rfl (by kernel_rfl) (by kernel_rfl) (by kernel_rfl) (by rfl) (fun K hK => ?_)
  go_simp
  refine hK _ ?_
  clear hK K
  first
    | (refine anyV_val 18 (Grows.pre) rfl (by kernel_rfl) (by kernel_rfl) (by kernel_rfl) (by rfl) (v := ?av17) (fun W hW => ?ay17) (fun K hK => ?ar17); case ay17 => (obtain ⟨q0, q1, q2, q3, q4, q5⟩ := (show ∀ W', Grows V.drew W' → _ from HX) W (Grows.pre.trans hG hW); go_simp; first | done | rfl))
    | refine anyV_skip 18 (Grows.pre) rfl (by kernel_rfl) (by kernel_rfl) (by kernel_rfl) (by rfl) (fun K hK => ?_)
  go_simp
  refine hK _ ?_
  clear hK K
  first
    | (refine anyV_val 19 (Grows.pre) rfl (by kernel_rfl) (by kernel_rfl) (by kernel_rfl) (by rfl) (v := ?av18) (fun W hW => ?ay18) (fun K hK => ?ar18); case ay18 => (obtain ⟨q0, q1, q2, q3, q4, q5⟩ := (show ∀ W', Grows V.drew W' → _ from HX) W (Grows.pre.trans hG hW); go_simp; first | done | rfl))
    | refine anyV_skip 19 (Grows.pre) rfl (by kernel_rfl) (by kernel_rfl) (by kernel_rfl) (by rfl) (fun K hK => ?_)
  go_simp
  refine hK _ ?_
  clear hK K
  first
    | (refine anyV_val 20 (Grows.pre) rfl (by kernel_rfl) (by kernel_rfl) (by kernel_rfl) (by rfl) (v := ?av19) (fun W hW => ?ay19) (fun K hK => ?ar19); case ay19 => (obtain ⟨q0, q1, q2, q3, q4, q5⟩ := (show ∀ W', Grows V.drew W' → _ from HX) W (Grows.pre.trans hG hW); go_simp; first | done | rfl))
    | refine anyV_skip 20 (Grows.pre) rfl (by kernel_rfl) (by kernel_rfl) (by kernel_rfl) (by rfl) (fun K hK => ?_)
  go_simp
  refine hK _ ?_
  clear hK K
  first
    | (refine anyV_val 21 (Grows.pre) rfl (by kernel_rfl) (by kernel_rfl) (by kernel_rfl) (by rfl) (v := ?av20) (fun W hW => ?ay20) (fun K hK => ?ar20); case ay20 => (obtain ⟨q0, q1, q2, q3, q4, q5⟩ := (show ∀ W', Grows V.drew W' → _ from HX) W (Grows.pre.trans hG hW); go_simp; first | done | rfl))
    | refine anyV_skip 21 (Grows.pre) rfl (by kernel_rfl) (by kernel_rfl) (by kernel_rfl) (by rfl) (fun K hK => ?_)
  go_simp
  refine hK _ ?_
  clear hK K
  first
    | (refine anyV_val 22 (Grows.pre) rfl (by kernel_rfl) (by kernel_rfl) (by kernel_rfl) (by rfl) (v := ?av21) (fun W hW => ?ay21) (fun K hK => ?ar21); case ay21 => (obtain ⟨q0, q1, q2, q3, q4, q5⟩ := (show ∀ W', Grows V.drew W' → _ from HX) W (Grows.pre.trans hG hW); go_simp; first | done | rfl))
    | refine anyV_skip 22 (Grows.pre) rfl (by kernel_rfl) (by kernel_rfl) (by kernel_rfl) (by rfl) (fun K hK => ?_)
  go_simp
  refine hK _ ?_
  clear hK K
  first
    | (refine anyV_val 23 (Grows.pre) rfl (by kernel_rfl) (by kernel_rfl) (by kernel_rfl) (by rfl) (v := ?av22) (fun W hW => ?ay22) (fun K hK => ?ar22); case ay22 => (obtain ⟨q0, q1, q2, q3, q4, q5⟩ := (show ∀ W', Grows V.drew W' → _ from HX) W (Grows.pre.trans hG hW); go_simp; first | done | rfl))
    | refine anyV_skip 23 (Grows.pre) rfl (by kernel_rfl) (by kernel_rfl) (by kernel_rfl) (by rfl) (fun K hK => ?_)
  go_simp
  refine hK _ ?_
  clear hK K
  refine anyV_only 24 rfl (by kernel_rfl) (by rfl) (fun K hK => ?_)
  go_simp
  refine (zombie_any _).mono ?_
  rintro e w7 ⟨x7, rfl, h7, hs7, b7⟩
  replace hG := Grows.pre.trans hG b7
  have z7 := ZomAt.of_row h7
  clear h7
  refine ⟨_, rfl, hK _ _ b7 ?_⟩
  clear hK K
  refine anyV_frame (fun K hK => ?_)
  go_simp
  refine hK _ ?_
  clear hK K
  refine anyV_only 25 rfl (by kernel_rfl) (by rfl) (fun K hK => ?_)
  go_simp
  refine (same_zombies _ x3 x7 c3 1 ((show ∀ W', Grows V.drew W' → _ from Z4) _ hG) z7).mono ?_
  rintro e w8 ⟨rfl, b8⟩
  replace hG := Grows.pre.trans hG b8
  refine ⟨_, rfl, hK _ _ b8 ?_⟩
  clear hK K
  refine anyV_frame (fun K hK => ?_)
  go_simp
  refine hK _ ?_
  clear hK K
  first
    | (refine anyV_val 26 (Grows.pre) rfl (by kernel_rfl) (by kernel_rfl) (by kernel_rfl) (by rfl) (v := ?av23) (fun W hW => ?ay23) (fun K hK => ?ar23); case ay23 => (obtain ⟨q0, q1, q2, q3, q4, q5⟩ := (show ∀ W', Grows V.drew W' → _ from HX) W (Grows.pre.trans hG hW); go_simp; first | done | rfl))
    | refine anyV_skip 26 (Grows.pre) rfl (by kernel_rfl) (by kernel_rfl) (by kernel_rfl) (by rfl) (fun K hK => ?_)
  go_simp
  refine hK _ ?_
  clear hK K
  first
    | (refine anyV_val 27 (Grows.pre) rfl (by kernel_rfl) (by kernel_rfl) (by kernel_rfl) (by rfl) (v := ?av24) (fun W hW => ?ay24) (fun K hK => ?ar24); case ay24 => (obtain ⟨q0, q1, q2, q3, q4, q5⟩ := (show ∀ W', Grows V.drew W' → _ from HX) W (Grows.pre.trans hG hW); go_simp; first | done | rfl))
    | refine anyV_skip 27 (Grows.pre) rfl (by kernel_rfl) (by kernel_rfl) (by kernel_rfl) (by rfl) (fun K hK => ?_)
  go_simp
  refine hK _ ?_
  clear hK K
  refine anyV_done (by kernel_rfl) ?_
  have B8 := below_step BV (below_undrew hG)
  clear HX Z4 hG
  go_wp2
  go_ret
  exact ⟨rfl, B8⟩
end Go.Proofs.YtejcandhijdnhaaGreat

/- The walk of ImageNames. -/
namespace Go.Proofs.YtejcandhijdnhaaGreat
open Go Go.RowKit
attribute [local go_sem] upV_value upV_skip upV_enter
set_option linter.unusedVariables false
set_option linter.unnecessarySimpa false
set_option linter.unusedSimpArgs false
theorem seal_len (zs : List Int) : (zs ++ bytesL (sumL zs)).length = zs.length + 4 := by simp [bytesL]
theorem at_loadL {P : Program} {ops : Array Oper} {rest : List Oper} {o : Oper} {a : Act} {w : World} {Q : Exit → Act → World → Prop} {t : TypeId} {x : Operand} (ho : o.op = .load t x) (h : Held (wpList P ops Q (o :: rest) a w)) : wpList P ops Q (o :: rest) a w := h
theorem seal_bytes (zs : List Int) (hz : ∀ z ∈ zs, 0 ≤ z ∧ z ≤ 255) : ∀ z ∈ zs ++ bytesL (sumL zs), 0 ≤ z ∧ z ≤ 255 := by
  intro z h
  have := sumL_lt zs hz
  rcases List.mem_append.1 h with h | h
  · exact hz z h
  · unfold bytesL at h
    simp only [List.mem_cons, List.not_mem_nil, or_false] at h
    rcases h with rfl | rfl | rfl | rfl <;> omega
/-- a row's cell, written anew -/
theorem zom_set {W : World} {x : Nat} {X : Array Value} {fr : Nat × Nat} (h : W.heap[x]? = some (.cells X 54 (0, 0))) (i : Nat) (v : Value) : (W.setCell ⟨x, i, none⟩ v).heap[x]? = some (.cells (X.setIfInBounds i v) 54 (0, 0)) := heap_setCell_same _ _ _ _ _ _ h
set_option maxRecDepth 100000 in
set_option maxHeartbeats 8000000 in
theorem imageNames_any (W : World) :
    Calls Tryz.prog 4 #[] W fun e W' => e = .returned (.bool true) ∧ Below W.heap.size W W' := by
  go_enter Tryz.func4, Tryz.ntmps4
  have r0 : Row8 W.heap.size W (.slice none 0 0) [] := row8_none _ _
  go_wp2_with (go_at_call 5; refine held ?_)
  unfold Held
  refine (read_sum W none 0 0 [] r0 (by decide) (fun h => absurd h.1 (by decide))).mono ?_
  rintro e w1 ⟨rfl, b1⟩
  clear r0
  try dsimp only
  go_wp2_with ((fail_if_success (unfold Held)); refine at_store (t := 29) rfl ?_)
  unfold Held
  refine wpList_store_row rfl 29 (.tmp 1) (.tmp 16) rfl w1.heap.size imz rfl rfl 29 imz (World.alloc_heap_new _ _) infoImg rfl imz_one ?_
  rw [World.setRow_alloc_new]
  have B1 := b1.alloc b1.size (.cells imz 29)
  generalize w1.alloc (.cells imz 29) = v1 at B1 ⊢
  clear b1
  -- one byte, sealed
  have r1 := Row8.built v1 5 (0, 0) [1] (by decide) (by decide) _ rfl 1 rfl
  have C1 := B1.alloc B1.size (.cells ([1].map (Value.int .u8)).toArray 5)
  have k1 := seal_any (some ⟨v1.heap.size, 0, none⟩) 1 1 [1] _ r1 (by decide)
  clear r1 B1
  go_wp2_with (go_at_call 8; refine held ?_)
  unfold Held
  refine k1.mono ?_
  rintro e w2 ⟨v, rfl, o2, b2⟩
  obtain ⟨a2, c2, rfl, _⟩ := ownsRow_slice o2
  have r2 : Row8 w2.heap.size w2 (.slice a2 5 c2) ([1] ++ bytesL (sumL [1])) := own_row8 o2 (seal_bytes _ (by decide)) _ _ fun b hb => ⟨rfl, (o2.lt b hb).2⟩
  have B2 := below_step C1 b2
  have k2 := read_tlv w2 a2 5 c2 _ r2 (by rw [seal_len]; decide) (opens_sealed _ (by decide)) (by rw [show List.take (5 - 4) ([1] ++ bytesL (sumL [1])) = [1] from rfl]; exact read_one)
  clear k1 o2 b2 r2 C1
  go_wp2_with (go_at_call 5; refine held ?_)
  unfold Held
  refine k2.mono ?_
  rintro e w3 ⟨rfl, b3⟩
  have B3 := below_step B2 b3
  clear k2 b3 B2
  try dsimp only
  go_wp2_with ((fail_if_success (unfold Held)); refine at_store (t := 29) rfl ?_)
  unfold Held
  refine wpList_store_row rfl 29 (.tmp 3) (.tmp 22) rfl w3.heap.size imz rfl rfl 29 imz (World.alloc_heap_new _ _) infoImg rfl imz_one ?_
  rw [World.setRow_alloc_new]
  have B4 := B3.alloc B3.size (.cells imz 29)
  generalize w3.alloc (.cells imz 29) = v3 at B4 ⊢
  clear B3
  -- nothing, sealed
  have k3 := seal_any none 0 0 [] v3 (row8_none _ _) (by decide)
  go_wp2_with (go_at_call 8; refine held ?_)
  unfold Held
  refine k3.mono ?_
  rintro e w4 ⟨v, rfl, o4, b4⟩
  obtain ⟨a4, c4, rfl, _⟩ := ownsRow_slice o4
  have r4 : Row8 w4.heap.size w4 (.slice a4 4 c4) ([] ++ bytesL (sumL [])) := own_row8 o4 (seal_bytes _ (by decide)) _ _ fun b hb => ⟨rfl, (o4.lt b hb).2⟩
  have B5 := below_step B4 b4
  have k4 := read_empty w4 a4 4 c4 _ r4 (by rw [seal_len]; decide) (opens_sealed _ (by decide)) (by rw [show List.take (4 - 4) ([] ++ bytesL (sumL [])) = [] from rfl]; exact readL_nil 1)
  clear k3 o4 b4 r4 B4
  go_wp2_with (go_at_call 5; refine held ?_)
  unfold Held
  refine k4.mono ?_
  rintro e w5 ⟨rfl, b5⟩
  have B6 := below_step B5 b5
  clear k4 b5 B5
  try dsimp only
  go_wp2_with ((fail_if_success (unfold Held)); refine at_store (t := 29) rfl ?_)
  unfold Held
  refine wpList_store_row rfl 29 (.tmp 5) (.tmp 27) rfl w5.heap.size imz rfl rfl 29 imz (World.alloc_heap_new _ _) infoImg rfl imz_one ?_
  rw [World.setRow_alloc_new]
  have B7 := B6.alloc B6.size (.cells imz 29)
  generalize w5.alloc (.cells imz 29) = v5 at B7 ⊢
  clear B6
  -- a zombie with an object that is too short
  go_wp2_with (go_at_call 9; refine held ?_)
  unfold Held
  refine (zombie_any v5).mono ?_
  rintro e w6 ⟨x, rfl, hx, hxs, b6⟩
  have B8 := below_step B7 b6
  clear B7 b6 hxs
  go_wp2_with ((fail_if_success (unfold Held)); refine at_store (t := 29) rfl ?_)
  unfold Held
  refine wpList_store_row rfl 29 (.tmp 7) (.tmp 29) rfl w6.heap.size (imC x 1) rfl rfl 29 imz (World.alloc_heap_new _ _) infoImg rfl (imC_one _ _) ?_
  rw [World.setRow_alloc_new]
  obtain ⟨v6, hv6⟩ : ∃ V, V = w6.alloc (.cells (imC x 1) 29) := ⟨_, rfl⟩
  have b6 : Below w6.heap.size w6 v6 := by rw [hv6]; exact (Below.refl _ _).alloc (Nat.le_refl _) _
  have e6 : v6.heap[w6.heap.size]? = some (.cells (imC x 1) 29) := by rw [hv6]; exact World.alloc_heap_new _ _
  have l6 : w6.heap.size < v6.heap.size := (Array.getElem?_eq_some_iff.1 e6).1
  have x6 := (b6.block x (Array.getElem?_eq_some_iff.1 hx).1).trans hx
  have hxX : x < w6.heap.size := (Array.getElem?_eq_some_iff.1 hx).1
  have B9 := below_step B8 b6
  have hbW := B8.size
  rw [← hv6]
  obtain ⟨bx, hbx⟩ : ∃ bx, bx = w6.heap.size := ⟨_, rfl⟩
  rw [← hbx] at e6 l6 hxX hbW ⊢
  clear hv6 hbx b6 B8 hx
  have cc6 : v6.cell? ⟨bx, 1, none⟩ = some (.slice none 0 0) := by rw [cell_of_row v6 _ 1 _ _ _ e6]; rfl
  have ff6 := frozen_of_row v6 bx 1 _ _ e6
  go_wp2_with ((fail_if_success (unfold Held)); refine at_loadL (t := 29) rfl ?_)
  unfold Held
  obtain ⟨sx, hsx⟩ : ∃ sx, sx = v6.heap.size := ⟨_, rfl⟩
  obtain ⟨I7, hI7⟩ : ∃ I : Array Value, I = #[.slice (some ⟨x, 0, none⟩) 1 1, .slice (some ⟨sx, 0, none⟩) 1 1, .slice none 0 0, .slice none 0 0, .slice none 0 0] := ⟨_, rfl⟩
  generalize hv7 : World.alloc _ _ = v7
  have g7 : v7 = (v6.setCell ⟨bx, 1, none⟩ (.slice (some ⟨v6.heap.size, 0, none⟩) 1 1)).alloc (.cells #[.string (ByteArray.mk #[115, 104, 111, 114, 116])] 9) := hv7.symm
  clear hv7
  have s7 : (v6.setCell ⟨bx, 1, none⟩ (.slice (some ⟨v6.heap.size, 0, none⟩) 1 1)).heap.size = sx := by show (v6.heap.modify _ _).size = _; rw [Array.size_modify, hsx]
  have e7 : v7.heap[bx]? = some (.cells I7 29) := by
    rw [g7, Below.heap_alloc _ _ _ (by rw [s7]; omega), heap_setCell_same _ _ _ _ _ _ e6, hI7, ← hsx]; rfl
  have y7 : v7.heap[sx]? = some (.cells #[.string (ByteArray.mk #[115, 104, 111, 114, 116])] 9) := by rw [g7, ← s7]; exact World.alloc_heap_new _ _
  have x7 : v7.heap[x]? = some (.cells (procC 2 7 0) 54) := by
    rw [g7, Below.heap_alloc _ _ _ (by rw [s7]; omega), Below.heap_setCell _ _ _ _ (by intro h; simp only at h; omega)]; exact x6
  have B10 : Below W.heap.size W v7 := by rw [g7]; exact (B9.setCell (p := ⟨bx, 1, none⟩) hbW _).alloc (by rw [s7, hsx]; exact B9.size) _
  clear g7 s7 e6 x6 cc6 ff6 B9 hsx
  have kc := check_short process_zombie v7 x sx 1 (ZomAt.of_row x7) y7
  rw [← hI7] at kc
  have hI5 : (Tryz.prog.info? 29).map (·.size) = some I7.size := by rw [hI7]; exact infoImg
  have HI7 := Lib.hid hI7
  clear hI7 y7
  refine wpList_load_part (by rfl) 29 (.tmp 7) rfl bx 0 rfl I7 I7 _ e7 (by rw [List.drop_zero, List.take_of_length_le (by simp)]) _ Tryz.underlying29 rfl hI5 ?_
  go_wp2_with (go_at_call 10; refine held ?_)
  unfold Held
  refine kc.mono ?_
  rintro e w7 ⟨rfl, b7⟩
  have lb7 : bx < v7.heap.size := (Array.getElem?_eq_some_iff.1 e7).1
  replace e7 := (b7.block _ lb7).trans e7
  replace x7 := (b7.block _ (by omega)).trans x7
  have B8 := below_step B10 b7
  have lw7 : bx < w7.heap.size := (Array.getElem?_eq_some_iff.1 e7).1
  clear kc b7 B10 lb7 l6
  go_wp2_with (go_at_call 9; refine held ?_)
  unfold Held
  refine (zombie_any w7).mono ?_
  rintro e u8 ⟨y, rfl, hy, hsy, b8⟩
  have C8 := below_step B8 b8
  replace e7 := (b8.block _ (by omega)).trans e7
  replace x7 := (b8.block _ (by omega)).trans x7
  have m8 := b8.size
  clear b8
  go_wp2_with ((fail_if_success (unfold Held)); refine at_store (t := 29) rfl ?_)
  unfold Held
  refine wpList_store_row rfl 29 (.tmp 9) (.tmp 34) rfl u8.heap.size (imC y 1) rfl rfl 29 imz (World.alloc_heap_new _ _) infoImg rfl (imC_one _ _) ?_
  rw [World.setRow_alloc_new]
  obtain ⟨v8, hv8⟩ : ∃ V, V = u8.alloc (.cells (imC y 1) 29) := ⟨_, rfl⟩
  have b9 : Below u8.heap.size u8 v8 := by rw [hv8]; exact (Below.refl _ _).alloc (Nat.le_refl _) _
  have fy : v8.heap[u8.heap.size]? = some (.cells (imC y 1) 29) := by rw [hv8]; exact World.alloc_heap_new _ _
  rw [← hv8]
  clear hv8
  obtain ⟨oy, hoy⟩ : ∃ b, b = u8.heap.size := ⟨_, rfl⟩
  have ly : y < oy := by rw [hoy]; exact (Array.getElem?_eq_some_iff.1 hy).1
  have lyb : w7.heap.size ≤ oy := by omega
  replace hy := (b9.block y (by omega)).trans hy
  replace e7 := (b9.block _ (by omega)).trans e7
  replace x7 := (b9.block _ (by omega)).trans x7
  have D8 := below_step C8 b9
  have qy := B8.size
  rw [← hoy] at fy ⊢
  have ny : W.heap.size ≤ y := by omega
  clear b9 hoy C8 B8 m8 qy
  have lv8 : oy < v8.heap.size := (Array.getElem?_eq_some_iff.1 fy).1
  have cc : v8.cell? ⟨oy, 0, none⟩ = some (.slice (some ⟨y, 0, none⟩) 1 1) := by rw [cell_of_row v8 _ 0 _ _ _ fy]; rfl
  have cw : v8.cell? ⟨y, 45, none⟩ = some (.int .i64 0) := by rw [cell_of_row v8 _ 45 _ _ _ hy]; rfl
  have ff := frozen_of_row v8 y 45 _ _ hy
  go_wp2_with ((fail_if_success (unfold Held)); refine at_loadL (t := 29) rfl ?_)
  unfold Held
  obtain ⟨x8, hx8⟩ : ∃ V, V = v8.setCell ⟨y, 45, none⟩ (.int .i64 1) := ⟨_, rfl⟩
  rw [← hx8]
  have kB : ∀ b, b ≠ y → x8.heap[b]? = v8.heap[b]? := fun b hb => by rw [hx8]; exact Below.heap_setCell _ _ _ _ hb
  replace hy : x8.heap[y]? = some (.cells (procC 2 7 1) 54) := by rw [hx8, heap_setCell_same _ _ _ _ _ _ hy]; rfl
  replace fy := (kB oy (by omega)).trans fy
  replace e7 := (kB bx (by omega)).trans e7
  replace x7 := (kB x (by omega)).trans x7
  have E8 : Below W.heap.size W x8 := by rw [hx8]; exact D8.setCell (p := ⟨y, 45, none⟩) ny _
  have sz : x8.heap.size = v8.heap.size := by rw [hx8]; show (v8.heap.modify _ _).size = _; rw [Array.size_modify]
  clear kB hx8 cc cw ff D8
  have kc := check_one 2 7 1 false process_waits x8 y 1 (ZomAt.of_row hy) 240 (.inr ⟨rfl, rfl⟩)
  refine wpList_load_part (by rfl) 29 (.tmp 9) rfl oy 0 rfl (imC y 1) (imC y 1) _ fy (by rfl) _ Tryz.underlying29 rfl infoImg ?_
  go_wp2_with (go_at_call 10; refine held ?_)
  unfold Held
  refine kc.mono ?_
  rintro e w8 ⟨rfl, b10⟩
  replace hy := (b10.block _ (by omega)).trans hy
  replace fy := (b10.block _ (by omega)).trans fy
  replace e7 := (b10.block _ (by omega)).trans e7
  replace x7 := (b10.block _ (by omega)).trans x7
  have B9 := below_step E8 b10
  have lw8 : oy < w8.heap.size := (Array.getElem?_eq_some_iff.1 fy).1
  clear kc b10 E8 sz lv8
  go_wp2_with (go_at_call 9; refine held ?_)
  unfold Held
  refine (zombie_any w8).mono ?_
  rintro e u9 ⟨z, rfl, hz, hsz, b8⟩
  have C9 := below_step B9 b8
  replace e7 := (b8.block _ (by omega)).trans e7
  replace x7 := (b8.block _ (by omega)).trans x7
  replace hy := (b8.block _ (by omega)).trans hy
  replace fy := (b8.block _ (by omega)).trans fy
  have m8 := b8.size
  clear b8
  go_wp2_with ((fail_if_success (unfold Held)); refine at_store (t := 29) rfl ?_)
  unfold Held
  refine wpList_store_row rfl 29 (.tmp 11) (.tmp 41) rfl u9.heap.size (imC z 1) rfl rfl 29 imz (World.alloc_heap_new _ _) infoImg rfl (imC_one _ _) ?_
  rw [World.setRow_alloc_new]
  obtain ⟨v9, hv9⟩ : ∃ V, V = u9.alloc (.cells (imC z 1) 29) := ⟨_, rfl⟩
  have b9 : Below u9.heap.size u9 v9 := by rw [hv9]; exact (Below.refl _ _).alloc (Nat.le_refl _) _
  have fz : v9.heap[u9.heap.size]? = some (.cells (imC z 1) 29) := by rw [hv9]; exact World.alloc_heap_new _ _
  rw [← hv9]
  clear hv9
  obtain ⟨oz, hoz⟩ : ∃ b, b = u9.heap.size := ⟨_, rfl⟩
  have lz : z < oz := by rw [hoz]; exact (Array.getElem?_eq_some_iff.1 hz).1
  have lzb : w8.heap.size ≤ oz := by omega
  replace hz := (b9.block z (by omega)).trans hz
  replace e7 := (b9.block _ (by omega)).trans e7
  replace x7 := (b9.block _ (by omega)).trans x7
  replace hy := (b9.block _ (by omega)).trans hy
  replace fy := (b9.block _ (by omega)).trans fy
  have D9 := below_step C9 b9
  have qz := B9.size
  rw [← hoz] at fz ⊢
  have nz : W.heap.size ≤ z := by omega
  clear b9 hoz C9 B9 m8 qz
  have lv9 : oz < v9.heap.size := (Array.getElem?_eq_some_iff.1 fz).1
  have cc : v9.cell? ⟨oz, 0, none⟩ = some (.slice (some ⟨z, 0, none⟩) 1 1) := by rw [cell_of_row v9 _ 0 _ _ _ fz]; rfl
  have cw : v9.cell? ⟨z, 2, none⟩ = some (.int .i64 2) := by rw [cell_of_row v9 _ 2 _ _ _ hz]; rfl
  have ff := frozen_of_row v9 z 2 _ _ hz
  go_wp2_with ((fail_if_success (unfold Held)); refine at_loadL (t := 29) rfl ?_)
  unfold Held
  obtain ⟨x9, hx9⟩ : ∃ V, V = v9.setCell ⟨z, 2, none⟩ (.int .i64 1) := ⟨_, rfl⟩
  rw [← hx9]
  have kB : ∀ b, b ≠ z → x9.heap[b]? = v9.heap[b]? := fun b hb => by rw [hx9]; exact Below.heap_setCell _ _ _ _ hb
  replace hz : x9.heap[z]? = some (.cells (procC 1 7 0) 54) := by rw [hx9, heap_setCell_same _ _ _ _ _ _ hz]; rfl
  replace fz := (kB oz (by omega)).trans fz
  replace e7 := (kB bx (by omega)).trans e7
  replace x7 := (kB x (by omega)).trans x7
  replace hy := (kB y (by omega)).trans hy
  replace fy := (kB oy (by omega)).trans fy
  have E9 : Below W.heap.size W x9 := by rw [hx9]; exact D9.setCell (p := ⟨z, 2, none⟩) nz _
  have sz : x9.heap.size = v9.heap.size := by rw [hx9]; show (v9.heap.modify _ _).size = _; rw [Array.size_modify]
  clear kB hx9 cc cw ff D9
  have kc := check_one 1 7 0 false process_live x9 z 1 (ZomAt.of_row hz) 240 (.inr ⟨rfl, rfl⟩)
  refine wpList_load_part (by rfl) 29 (.tmp 11) rfl oz 0 rfl (imC z 1) (imC z 1) _ fz (by rfl) _ Tryz.underlying29 rfl infoImg ?_
  go_wp2_with (go_at_call 10; refine held ?_)
  unfold Held
  refine kc.mono ?_
  rintro e w9 ⟨rfl, b10⟩
  replace hz := (b10.block _ (by omega)).trans hz
  replace fz := (b10.block _ (by omega)).trans fz
  replace e7 := (b10.block _ (by omega)).trans e7
  replace x7 := (b10.block _ (by omega)).trans x7
  replace hy := (b10.block _ (by omega)).trans hy
  replace fy := (b10.block _ (by omega)).trans fy
  have B10 := below_step E9 b10
  have lw9 : oz < w9.heap.size := (Array.getElem?_eq_some_iff.1 fz).1
  clear kc b10 E9 sz lv9
  go_wp2_with (go_at_call 10; refine held ?_)
  unfold Held
  refine (check_empty w9).mono ?_
  rintro e V ⟨rfl, b11⟩
  replace e7 := (b11.block _ (by omega)).trans e7
  replace x7 := (b11.block _ (by omega)).trans x7
  replace hy := (b11.block _ (by omega)).trans hy
  replace fy := (b11.block _ (by omega)).trans fy
  have BV := below_step B10 b11
  have lV := b11.size
  clear b11 B10 hz fz
  have HX := Lib.hid (show ∀ W', Grows V.drew W' → (W'.cell? ⟨bx, 0, none⟩ = some (.slice (some ⟨x, 0, none⟩) 1 1) ∧ W'.cell? ⟨bx, 1, none⟩ = some (.slice (some ⟨sx, 0, none⟩) 1 1) ∧ W'.cell? ⟨bx, 2, none⟩ = some (.slice none 0 0) ∧ W'.cell? ⟨bx, 3, none⟩ = some (.slice none 0 0) ∧ W'.cell? ⟨bx, 4, none⟩ = some (.slice none 0 0)) ∧
      (W'.cell? ⟨oy, 0, none⟩ = some (.slice (some ⟨y, 0, none⟩) 1 1) ∧ W'.cell? ⟨oy, 1, none⟩ = some (.slice none 0 0) ∧ W'.cell? ⟨oy, 2, none⟩ = some (.slice none 0 0) ∧ W'.cell? ⟨oy, 3, none⟩ = some (.slice none 0 0) ∧ W'.cell? ⟨oy, 4, none⟩ = some (.slice none 0 0)) from fun W' hW => by
    have hW2 : Below V.heap.size V W' := below_undrew hW
    have e2 := (hW2.block _ (by omega)).trans e7
    have e3 := (hW2.block _ (by omega)).trans fy
    rw [show I7 = _ from HI7] at e2
    refine ⟨⟨?_, ?_, ?_, ?_, ?_⟩, ⟨?_, ?_, ?_, ?_, ?_⟩⟩
    · rw [cell_of_row W' _ 0 _ _ _ e2]; rfl
    · rw [cell_of_row W' _ 1 _ _ _ e2]; rfl
    · rw [cell_of_row W' _ 2 _ _ _ e2]; rfl
    · rw [cell_of_row W' _ 3 _ _ _ e2]; rfl
    · rw [cell_of_row W' _ 4 _ _ _ e2]; rfl
    · rw [cell_of_row W' _ 0 _ _ _ e3]; rfl
    · rw [cell_of_row W' _ 1 _ _ _ e3]; rfl
    · rw [cell_of_row W' _ 2 _ _ _ e3]; rfl
    · rw [cell_of_row W' _ 3 _ _ _ e3]; rfl
    · rw [cell_of_row W' _ 4 _ _ _ e3]; rfl)
  have hG : Grows V.drew V.drew := Grows.pre.refl _
  have ZX := Lib.hid (show ∀ W', Grows V.drew W' → ZomAt W' x (procC 2 7 0) ∧ ZomAt W' y (procC 2 7 1) from fun W' hW => ⟨(ZomAt.of_row x7).below (show Below V.heap.size V W' from below_undrew hW) (by omega), (ZomAt.of_row hy).below (show Below V.heap.size V W' from below_undrew hW) (by omega)⟩)
  clear e7 x7 hy fy HI7 hI5
  go_wp2_with fail
  refine wp_region_anyV Grows (by kernel_rfl) 49 rfl ?_
  refine anyV_only 0 rfl (by kernel_rfl) (by rfl) (fun K hK => ?_)
  go_simp
  refine (alive_any _).mono ?_
  rintro e w10 ⟨rfl, b5⟩
  replace hG := Grows.pre.trans hG b5
  refine ⟨_, rfl, hK _ _ b5 ?_⟩
  clear hK K
  refine anyV_frame (fun K hK => ?_)
  go_simp
  refine hK _ ?_
  clear hK K
  first
    | (refine anyV_val 1 (Grows.pre) rfl (by kernel_rfl) (by kernel_rfl) (by kernel_rfl) (by rfl) (v := ?av1) (fun W hW => ?ay1) (fun K hK => ?ar1); case ay1 => (obtain ⟨⟨q0, q1, q2, q3, q4⟩, p0, p1, p2, p3, p4⟩ := (show ∀ W', Grows V.drew W' → _ from HX) W (Grows.pre.trans hG hW); go_simp; first | done | rfl))
    | refine anyV_skip 1 (Grows.pre) rfl (by kernel_rfl) (by kernel_rfl) (by kernel_rfl) (by rfl) (fun K hK => ?_)
  go_simp
  refine hK _ ?_
  clear hK K
  first
    | (refine anyV_val 2 (Grows.pre) rfl (by kernel_rfl) (by kernel_rfl) (by kernel_rfl) (by rfl) (v := ?av2) (fun W hW => ?ay2) (fun K hK => ?ar2); case ay2 => (obtain ⟨⟨q0, q1, q2, q3, q4⟩, p0, p1, p2, p3, p4⟩ := (show ∀ W', Grows V.drew W' → _ from HX) W (Grows.pre.trans hG hW); go_simp; first | done | rfl))
    | refine anyV_skip 2 (Grows.pre) rfl (by kernel_rfl) (by kernel_rfl) (by kernel_rfl) (by rfl) (fun K hK => ?_)
  go_simp
  refine hK _ ?_
  clear hK K
  first
    | (refine anyV_val 3 (Grows.pre) rfl (by kernel_rfl) (by kernel_rfl) (by kernel_rfl) (by rfl) (v := ?av3) (fun W hW => ?ay3) (fun K hK => ?ar3); case ay3 => (obtain ⟨⟨q0, q1, q2, q3, q4⟩, p0, p1, p2, p3, p4⟩ := (show ∀ W', Grows V.drew W' → _ from HX) W (Grows.pre.trans hG hW); go_simp; first | done | rfl))
    | refine anyV_skip 3 (Grows.pre) rfl (by kernel_rfl) (by kernel_rfl) (by kernel_rfl) (by rfl) (fun K hK => ?_)
  go_simp
  refine hK _ ?_
  clear hK K
  first
    | (refine anyV_val 4 (Grows.pre) rfl (by kernel_rfl) (by kernel_rfl) (by kernel_rfl) (by rfl) (v := ?av4) (fun W hW => ?ay4) (fun K hK => ?ar4); case ay4 => (obtain ⟨⟨q0, q1, q2, q3, q4⟩, p0, p1, p2, p3, p4⟩ := (show ∀ W', Grows V.drew W' → _ from HX) W (Grows.pre.trans hG hW); go_simp; first | done | rfl))
    | refine anyV_skip 4 (Grows.pre) rfl (by kernel_rfl) (by kernel_rfl) (by kernel_rfl) (by rfl) (fun K hK => ?_)
  go_simp
  refine hK _ ?_
  clear hK K
  first
    | (refine anyV_val 5 (Grows.pre) rfl (by kernel_rfl) (by kernel_rfl) (by kernel_rfl) (by rfl) (v := ?av5) (fun W hW => ?ay5) (fun K hK => ?ar5); case ay5 => (obtain ⟨⟨q0, q1, q2, q3, q4⟩, p0, p1, p2, p3, p4⟩ := (show ∀ W', Grows V.drew W' → _ from HX) W (Grows.pre.trans hG hW); go_simp; first | done | rfl))
    | refine anyV_skip 5 (Grows.pre) rfl (by kernel_rfl) (by kernel_rfl) (by kernel_rfl) (by rfl) (fun K hK => ?_)
  go_simp
  refine hK _ ?_
  clear hK K
  first
    | (refine anyV_val 6 (Grows.pre) rfl (by kernel_rfl) (by kernel_rfl) (by kernel_rfl) (by rfl) (v := ?av6) (fun W hW => ?ay6) (fun K hK => ?ar6); case ay6 => (obtain ⟨⟨q0, q1, q2, q3, q4⟩, p0, p1, p2, p3, p4⟩ := (show ∀ W', Grows V.drew W' → _ from HX) W (Grows.pre.trans hG hW); go_simp; first | done | rfl))
    | refine anyV_skip 6 (Grows.pre) rfl (by kernel_rfl) (by kernel_rfl) (by kernel_rfl) (by rfl) (fun K hK => ?_)
  go_simp
  refine hK _ ?_
  clear hK K
  first
    | (refine anyV_val 7 (Grows.pre) rfl (by kernel_rfl) (by kernel_rfl) (by kernel_rfl) (by rfl) (v := ?av7) (fun W hW => ?ay7) (fun K hK => ?ar7); case ay7 => (obtain ⟨⟨q0, q1, q2, q3, q4⟩, p0, p1, p2, p3, p4⟩ := (show ∀ W', Grows V.drew W' → _ from HX) W (Grows.pre.trans hG hW); go_simp; first | done | rfl))
    | refine anyV_skip 7 (Grows.pre) rfl (by kernel_rfl) (by kernel_rfl) (by kernel_rfl) (by rfl) (fun K hK => ?_)
  go_simp
  refine hK _ ?_
  clear hK K
  first
    | (refine anyV_val 8 (Grows.pre) rfl (by kernel_rfl) (by kernel_rfl) (by kernel_rfl) (by rfl) (v := ?av8) (fun W hW => ?ay8) (fun K hK => ?ar8); case ay8 => (obtain ⟨⟨q0, q1, q2, q3, q4⟩, p0, p1, p2, p3, p4⟩ := (show ∀ W', Grows V.drew W' → _ from HX) W (Grows.pre.trans hG hW); go_simp; first | done | rfl))
    | refine anyV_skip 8 (Grows.pre) rfl (by kernel_rfl) (by kernel_rfl) (by kernel_rfl) (by rfl) (fun K hK => ?_)
  go_simp
  refine hK _ ?_
  clear hK K
  first
    | (refine anyV_val 9 (Grows.pre) rfl (by kernel_rfl) (by kernel_rfl) (by kernel_rfl) (by rfl) (v := ?av9) (fun W hW => ?ay9) (fun K hK => ?ar9); case ay9 => (obtain ⟨⟨q0, q1, q2, q3, q4⟩, p0, p1, p2, p3, p4⟩ := (show ∀ W', Grows V.drew W' → _ from HX) W (Grows.pre.trans hG hW); go_simp; first | done | rfl))
    | refine anyV_skip 9 (Grows.pre) rfl (by kernel_rfl) (by kernel_rfl) (by kernel_rfl) (by rfl) (fun K hK => ?_)
  go_simp
  refine hK _ ?_
  clear hK K
  first
    | (refine anyV_val 10 (Grows.pre) rfl (by kernel_rfl) (by kernel_rfl) (by kernel_rfl) (by rfl) (v := ?av10) (fun W hW => ?ay10) (fun K hK => ?ar10); case ay10 => (obtain ⟨⟨q0, q1, q2, q3, q4⟩, p0, p1, p2, p3, p4⟩ := (show ∀ W', Grows V.drew W' → _ from HX) W (Grows.pre.trans hG hW); go_simp; first | done | rfl))
    | refine anyV_skip 10 (Grows.pre) rfl (by kernel_rfl) (by kernel_rfl) (by kernel_rfl) (by rfl) (fun K hK => ?_)
  go_simp
  refine hK _ ?_
  clear hK K
  first
    | (refine anyV_val 11 (Grows.pre) rfl (by kernel_rfl) (by kernel_rfl) (by kernel_rfl) (by rfl) (v := ?av11) (fun W hW => ?ay11) (fun K hK => ?ar11); case ay11 => (obtain ⟨⟨q0, q1, q2, q3, q4⟩, p0, p1, p2, p3, p4⟩ := (show ∀ W', Grows V.drew W' → _ from HX) W (Grows.pre.trans hG hW); go_simp; first | done | rfl))
    | refine anyV_skip 11 (Grows.pre) rfl (by kernel_rfl) (by kernel_rfl) (by kernel_rfl) (by rfl) (fun K hK => ?_)
  go_simp
  refine hK _ ?_
  clear hK K
  first
    | (refine anyV_val 12 (Grows.pre) rfl (by kernel_rfl) (by kernel_rfl) (by kernel_rfl) (by rfl) (v := ?av12) (fun W hW => ?ay12) (fun K hK => ?ar12); case ay12 => (obtain ⟨⟨q0, q1, q2, q3, q4⟩, p0, p1, p2, p3, p4⟩ := (show ∀ W', Grows V.drew W' → _ from HX) W (Grows.pre.trans hG hW); go_simp; first | done | rfl))
    | refine anyV_skip 12 (Grows.pre) rfl (by kernel_rfl) (by kernel_rfl) (by kernel_rfl) (by rfl) (fun K hK => ?_)
  go_simp
  refine hK _ ?_
  clear hK K
  first
    | (refine anyV_val 13 (Grows.pre) rfl (by kernel_rfl) (by kernel_rfl) (by kernel_rfl) (by rfl) (v := ?av13) (fun W hW => ?ay13) (fun K hK => ?ar13); case ay13 => (obtain ⟨⟨q0, q1, q2, q3, q4⟩, p0, p1, p2, p3, p4⟩ := (show ∀ W', Grows V.drew W' → _ from HX) W (Grows.pre.trans hG hW); go_simp; first | done | rfl))
    | refine anyV_skip 13 (Grows.pre) rfl (by kernel_rfl) (by kernel_rfl) (by kernel_rfl) (by rfl) (fun K hK => ?_)
  go_simp
  refine hK _ ?_
  clear hK K
  first
    | (refine anyV_val 14 (Grows.pre) rfl (by kernel_rfl) (by kernel_rfl) (by kernel_rfl) (by rfl) (v := ?av14) (fun W hW => ?ay14) (fun K hK => ?ar14); case ay14 => (obtain ⟨⟨q0, q1, q2, q3, q4⟩, p0, p1, p2, p3, p4⟩ := (show ∀ W', Grows V.drew W' → _ from HX) W (Grows.pre.trans hG hW); go_simp; first | done | rfl))
    | refine anyV_skip 14 (Grows.pre) rfl (by kernel_rfl) (by kernel_rfl) (by kernel_rfl) (by rfl) (fun K hK => ?_)
  go_simp
  refine hK _ ?_
  clear hK K
  first
    | (refine anyV_val 15 (Grows.pre) rfl (by kernel_rfl) (by kernel_rfl) (by kernel_rfl) (by rfl) (v := ?av15) (fun W hW => ?ay15) (fun K hK => ?ar15); case ay15 => (obtain ⟨⟨q0, q1, q2, q3, q4⟩, p0, p1, p2, p3, p4⟩ := (show ∀ W', Grows V.drew W' → _ from HX) W (Grows.pre.trans hG hW); go_simp; first | done | rfl))
    | refine anyV_skip 15 (Grows.pre) rfl (by kernel_rfl) (by kernel_rfl) (by kernel_rfl) (by rfl) (fun K hK => ?_)
  go_simp
  refine hK _ ?_
  clear hK K
  first
    | (refine anyV_val 16 (Grows.pre) rfl (by kernel_rfl) (by kernel_rfl) (by kernel_rfl) (by rfl) (v := ?av16) (fun W hW => ?ay16) (fun K hK => ?ar16); case ay16 => (obtain ⟨⟨q0, q1, q2, q3, q4⟩, p0, p1, p2, p3, p4⟩ := (show ∀ W', Grows V.drew W' → _ from HX) W (Grows.pre.trans hG hW); go_simp; first | done | rfl))
    | refine anyV_skip 16 (Grows.pre) rfl (by kernel_rfl) (by kernel_rfl) (by kernel_rfl) (by rfl) (fun K hK => ?_)
  go_simp
  refine hK _ ?_
  clear hK K
  first
    | (refine anyV_val 17 (Grows.pre) rfl (by kernel_rfl) (by kernel_rfl) (by kernel_rfl) (by rfl) (v := ?av17) (fun W hW => ?ay17) (fun K hK => ?ar17); case ay17 => (obtain ⟨⟨q0, q1, q2, q3, q4⟩, p0, p1, p2, p3, p4⟩ := (show ∀ W', Grows V.drew W' → _ from HX) W (Grows.pre.trans hG hW); go_simp; first | done | rfl))
    | refine anyV_skip 17 (Grows.pre) rfl (by kernel_rfl) (by kernel_rfl) (by kernel_rfl) (by rfl) (fun K hK => ?_)
  go_simp
  refine hK _ ?_
  clear hK K
  first
    | (refine anyV_val 18 (Grows.pre) rfl (by kernel_rfl) (by kernel_rfl) (by kernel_rfl) (by rfl) (v := ?av18) (fun W hW => ?ay18) (fun K hK => ?ar18); case ay18 => (obtain ⟨⟨q0, q1, q2, q3, q4⟩, p0, p1, p2, p3, p4⟩ := (show ∀ W', Grows V.drew W' → _ from HX) W (Grows.pre.trans hG hW); go_simp; first | done | rfl))
    | refine anyV_skip 18 (Grows.pre) rfl (by kernel_rfl) (by kernel_rfl) (by kernel_rfl) (by rfl) (fun K hK => ?_)
  go_simp
  refine hK _ ?_
  clear hK K
  first
    | (refine anyV_val 19 (Grows.pre) rfl (by kernel_rfl) (by kernel_rfl) (by kernel_rfl) (by rfl) (v := ?av19) (fun W hW => ?ay19) (fun K hK => ?ar19); case ay19 => (obtain ⟨⟨q0, q1, q2, q3, q4⟩, p0, p1, p2, p3, p4⟩ := (show ∀ W', Grows V.drew W' → _ from HX) W (Grows.pre.trans hG hW); go_simp; first | done | rfl))
    | refine anyV_skip 19 (Grows.pre) rfl (by kernel_rfl) (by kernel_rfl) (by kernel_rfl) (by rfl) (fun K hK => ?_)
  go_simp
  refine hK _ ?_
  clear hK K
  first
    | (refine anyV_val 20 (Grows.pre) rfl (by kernel_rfl) (by kernel_rfl) (by kernel_rfl) (by rfl) (v := ?av20) (fun W hW => ?ay20) (fun K hK => ?ar20); case ay20 => (obtain ⟨⟨q0, q1, q2, q3, q4⟩, p0, p1, p2, p3, p4⟩ := (show ∀ W', Grows V.drew W' → _ from HX) W (Grows.pre.trans hG hW); go_simp; first | done | rfl))
    | refine anyV_skip 20 (Grows.pre) rfl (by kernel_rfl) (by kernel_rfl) (by kernel_rfl) (by rfl) (fun K hK => ?_)
  go_simp
  refine hK _ ?_
  clear hK K
  first
    | (refine anyV_val 21 (Grows.pre) rfl (by kernel_rfl) (by kernel_rfl) (by kernel_rfl) (by rfl) (v := ?av21) (fun W hW => ?ay21) (fun K hK => ?ar21); case ay21 => (obtain ⟨⟨q0, q1, q2, q3, q4⟩, p0, p1, p2, p3, p4⟩ := (show ∀ W', Grows V.drew W' → _ from HX) W (Grows.pre.trans hG hW); go_simp; first | done | rfl))
    | refine anyV_skip 21 (Grows.pre) rfl (by kernel_rfl) (by kernel_rfl) (by kernel_rfl) (by rfl) (fun K hK => ?_)
  go_simp
  refine hK _ ?_
  clear hK K
  first
    | (refine anyV_val 22 (Grows.pre) rfl (by kernel_rfl) (by kernel_rfl) (by kernel_rfl) (by rfl) (v := ?av22) (fun W hW => ?ay22) (fun K hK => ?ar22); case ay22 => (obtain ⟨⟨q0, q1, q2, q3, q4⟩, p0, p1, p2, p3, p4⟩ := (show ∀ W', Grows V.drew W' → _ from HX) W (Grows.pre.trans hG hW); go_simp; first | done | rfl))
    | refine anyV_skip 22 (Grows.pre) rfl (by kernel_rfl) (by kernel_rfl) (by kernel_rfl) (by rfl) (fun K hK => ?_)
  go_simp
  refine hK _ ?_
  clear hK K
  first
    | (refine anyV_val 23 (Grows.pre) rfl (by kernel_rfl) (by kernel_rfl) (by kernel_rfl) (by rfl) (v := ?av23) (fun W hW => ?ay23) (fun K hK => ?ar23); case ay23 => (obtain ⟨⟨q0, q1, q2, q3, q4⟩, p0, p1, p2, p3, p4⟩ := (show ∀ W', Grows V.drew W' → _ from HX) W (Grows.pre.trans hG hW); go_simp; first | done | rfl))
    | refine anyV_skip 23 (Grows.pre) rfl (by kernel_rfl) (by kernel_rfl) (by kernel_rfl) (by rfl) (fun K hK => ?_)
  go_simp
  refine hK _ ?_
  clear hK K
  first
    | (refine anyV_val 24 (Grows.pre) rfl (by kernel_rfl) (by kernel_rfl) (by kernel_rfl) (by rfl) (v := ?av24) (fun W hW => ?ay24) (fun K hK => ?ar24); case ay24 => (obtain ⟨⟨q0, q1, q2, q3, q4⟩, p0, p1, p2, p3, p4⟩ := (show ∀ W', Grows V.drew W' → _ from HX) W (Grows.pre.trans hG hW); go_simp; first | done | rfl))
    | refine anyV_skip 24 (Grows.pre) rfl (by kernel_rfl) (by kernel_rfl) (by kernel_rfl) (by rfl) (fun K hK => ?_)
  go_simp
  refine hK _ ?_
  clear hK K
  first
    | (refine anyV_val 25 (Grows.pre) rfl (by kernel_rfl) (by kernel_rfl) (by kernel_rfl) (by rfl) (v := ?av25) (fun W hW => ?ay25) (fun K hK => ?ar25); case ay25 => (obtain ⟨⟨q0, q1, q2, q3, q4⟩, p0, p1, p2, p3, p4⟩ := (show ∀ W', Grows V.drew W' → _ from HX) W (Grows.pre.trans hG hW); go_simp; first | done | rfl))
    | refine anyV_skip 25 (Grows.pre) rfl (by kernel_rfl) (by kernel_rfl) (by kernel_rfl) (by rfl) (fun K hK => ?_)
  go_simp
  refine hK _ ?_
  clear hK K
  first
    | (refine anyV_val 26 (Grows.pre) rfl (by kernel_rfl) (by kernel_rfl) (by kernel_rfl) (by rfl) (v := ?av26) (fun W hW => ?ay26) (fun K hK => ?ar26); case ay26 => (obtain ⟨⟨q0, q1, q2, q3, q4⟩, p0, p1, p2, p3, p4⟩ := (show ∀ W', Grows V.drew W' → _ from HX) W (Grows.pre.trans hG hW); go_simp; first | done | rfl))
    | refine anyV_skip 26 (Grows.pre) rfl (by kernel_rfl) (by kernel_rfl) (by kernel_rfl) (by rfl) (fun K hK => ?_)
  go_simp
  refine hK _ ?_
  clear hK K
  first
    | (refine anyV_val 27 (Grows.pre) rfl (by kernel_rfl) (by kernel_rfl) (by kernel_rfl) (by rfl) (v := ?av27) (fun W hW => ?ay27) (fun K hK => ?ar27); case ay27 => (obtain ⟨⟨q0, q1, q2, q3, q4⟩, p0, p1, p2, p3, p4⟩ := (show ∀ W', Grows V.drew W' → _ from HX) W (Grows.pre.trans hG hW); go_simp; first | done | rfl))
    | refine anyV_skip 27 (Grows.pre) rfl (by kernel_rfl) (by kernel_rfl) (by kernel_rfl) (by rfl) (fun K hK => ?_)
  go_simp
  refine hK _ ?_
  clear hK K
  first
    | (refine anyV_val 28 (Grows.pre) rfl (by kernel_rfl) (by kernel_rfl) (by kernel_rfl) (by rfl) (v := ?av28) (fun W hW => ?ay28) (fun K hK => ?ar28); case ay28 => (obtain ⟨⟨q0, q1, q2, q3, q4⟩, p0, p1, p2, p3, p4⟩ := (show ∀ W', Grows V.drew W' → _ from HX) W (Grows.pre.trans hG hW); go_simp; first | done | rfl))
    | refine anyV_skip 28 (Grows.pre) rfl (by kernel_rfl) (by kernel_rfl) (by kernel_rfl) (by rfl) (fun K hK => ?_)
  go_simp
  refine hK _ ?_
  clear hK K
  first
    | (refine anyV_val 29 (Grows.pre) rfl (by kernel_rfl) (by kernel_rfl) (by kernel_rfl) (by rfl) (v := ?av29) (fun W hW => ?ay29) (fun K hK => ?ar29); case ay29 => (obtain ⟨⟨q0, q1, q2, q3, q4⟩, p0, p1, p2, p3, p4⟩ := (show ∀ W', Grows V.drew W' → _ from HX) W (Grows.pre.trans hG hW); go_simp; first | done | rfl))
    | refine anyV_skip 29 (Grows.pre) rfl (by kernel_rfl) (by kernel_rfl) (by kernel_rfl) (by rfl) (fun K hK => ?_)
  go_simp
  refine hK _ ?_
  clear hK K
  first
    | (refine anyV_val 30 (Grows.pre) rfl (by kernel_rfl) (by kernel_rfl) (by kernel_rfl) (by rfl) (v := ?av30) (fun W hW => ?ay30) (fun K hK => ?ar30); case ay30 => (obtain ⟨⟨q0, q1, q2, q3, q4⟩, p0, p1, p2, p3, p4⟩ := (show ∀ W', Grows V.drew W' → _ from HX) W (Grows.pre.trans hG hW); go_simp; first | done | rfl))
    | refine anyV_skip 30 (Grows.pre) rfl (by kernel_rfl) (by kernel_rfl) (by kernel_rfl) (by rfl) (fun K hK => ?_)
  go_simp
  refine hK _ ?_
  clear hK K
  first
    | (refine anyV_val 31 (Grows.pre) rfl (by kernel_rfl) (by kernel_rfl) (by kernel_rfl) (by rfl) (v := ?av31) (fun W hW => ?ay31) (fun K hK => ?ar31); case ay31 => (obtain ⟨⟨q0, q1, q2, q3, q4⟩, p0, p1, p2, p3, p4⟩ := (show ∀ W', Grows V.drew W' → _ from HX) W (Grows.pre.trans hG hW); go_simp; first | done | rfl))
    | refine anyV_skip 31 (Grows.pre) rfl (by kernel_rfl) (by kernel_rfl) (by kernel_rfl) (by rfl) (fun K hK => ?_)
  go_simp
  refine hK _ ?_
  clear hK K
  first
    | (refine anyV_val 32 (Grows.pre) rfl (by kernel_rfl) (by kernel_rfl) (by kernel_rfl) (by rfl) (v := ?av32) (fun W hW => ?ay32) (fun K hK => ?ar32); case ay32 => (obtain ⟨⟨q0, q1, q2, q3, q4⟩, p0, p1, p2, p3, p4⟩ := (show ∀ W', Grows V.drew W' → _ from HX) W (Grows.pre.trans hG hW); go_simp; first | done | rfl))
    | refine anyV_skip 32 (Grows.pre) rfl (by kernel_rfl) (by kernel_rfl) (by kernel_rfl) (by rfl) (fun K hK => ?_)
  go_simp
  refine hK _ ?_
  clear hK K
  first
    | (refine anyV_val 33 (Grows.pre) rfl (by kernel_rfl) (by kernel_rfl) (by kernel_rfl) (by rfl) (v := ?av33) (fun W hW => ?ay33) (fun K hK => ?ar33); case ay33 => (obtain ⟨⟨q0, q1, q2, q3, q4⟩, p0, p1, p2, p3, p4⟩ := (show ∀ W', Grows V.drew W' → _ from HX) W (Grows.pre.trans hG hW); go_simp; first | done | rfl))
    | refine anyV_skip 33 (Grows.pre) rfl (by kernel_rfl) (by kernel_rfl) (by kernel_rfl) (by rfl) (fun K hK => ?_)
  go_simp
  refine hK _ ?_
  clear hK K
  first
    | (refine anyV_val 34 (Grows.pre) rfl (by kernel_rfl) (by kernel_rfl) (by kernel_rfl) (by rfl) (v := ?av34) (fun W hW => ?ay34) (fun K hK => ?ar34); case ay34 => (obtain ⟨⟨q0, q1, q2, q3, q4⟩, p0, p1, p2, p3, p4⟩ := (show ∀ W', Grows V.drew W' → _ from HX) W (Grows.pre.trans hG hW); go_simp; first | done | rfl))
    | refine anyV_skip 34 (Grows.pre) rfl (by kernel_rfl) (by kernel_rfl) (by kernel_rfl) (by rfl) (fun K hK => ?_)
  go_simp
  refine hK _ ?_
  clear hK K
  first
    | (refine anyV_val 35 (Grows.pre) rfl (by kernel_rfl) (by kernel_rfl) (by kernel_rfl) (by rfl) (v := ?av35) (fun W hW => ?ay35) (fun K hK => ?ar35); case ay35 => (obtain ⟨⟨q0, q1, q2, q3, q4⟩, p0, p1, p2, p3, p4⟩ := (show ∀ W', Grows V.drew W' → _ from HX) W (Grows.pre.trans hG hW); go_simp; first | done | rfl))
    | refine anyV_skip 35 (Grows.pre) rfl (by kernel_rfl) (by kernel_rfl) (by kernel_rfl) (by rfl) (fun K hK => ?_)
  go_simp
  refine hK _ ?_
  clear hK K
  first
    | (refine anyV_val 36 (Grows.pre) rfl (by kernel_rfl) (by kernel_rfl) (by kernel_rfl) (by rfl) (v := ?av36) (fun W hW => ?ay36) (fun K hK => ?ar36); case ay36 => (obtain ⟨⟨q0, q1, q2, q3, q4⟩, p0, p1, p2, p3, p4⟩ := (show ∀ W', Grows V.drew W' → _ from HX) W (Grows.pre.trans hG hW); go_simp; first | done | rfl))
    | refine anyV_skip 36 (Grows.pre) rfl (by kernel_rfl) (by kernel_rfl) (by kernel_rfl) (by rfl) (fun K hK => ?_)
  go_simp
  refine hK _ ?_
  clear hK K
  first
    | (refine anyV_val 37 (Grows.pre) rfl (by kernel_rfl) (by kernel_rfl) (by kernel_rfl) (by rfl) (v := ?av37) (fun W hW => ?ay37) (fun K hK => ?ar37); case ay37 => (obtain ⟨⟨q0, q1, q2, q3, q4⟩, p0, p1, p2, p3, p4⟩ := (show ∀ W', Grows V.drew W' → _ from HX) W (Grows.pre.trans hG hW); go_simp; first | done | rfl))
    | refine anyV_skip 37 (Grows.pre) rfl (by kernel_rfl) (by kernel_rfl) (by kernel_rfl) (by rfl) (fun K hK => ?_)
  go_simp
  refine hK _ ?_
  clear hK K
  first
    | (refine anyV_val 38 (Grows.pre) rfl (by kernel_rfl) (by kernel_rfl) (by kernel_rfl) (by rfl) (v := ?av38) (fun W hW => ?ay38) (fun K hK => ?ar38); case ay38 => (obtain ⟨⟨q0, q1, q2, q3, q4⟩, p0, p1, p2, p3, p4⟩ := (show ∀ W', Grows V.drew W' → _ from HX) W (Grows.pre.trans hG hW); go_simp; first | done | rfl))
    | refine anyV_skip 38 (Grows.pre) rfl (by kernel_rfl) (by kernel_rfl) (by kernel_rfl) (by rfl) (fun K hK => ?_)
  go_simp
  refine hK _ ?_
  clear hK K
  refine anyV_only 39 rfl (by kernel_rfl) (by rfl) (fun K hK => ?_)
  go_simp
  refine (size_of _ (imC y 1) rfl 0 (fun U hU => (bytes_bad U (imC y 1) rfl (fun T hT => check_one 2 7 1 false process_waits T y 1 (((show ∀ W', Grows V.drew W' → _ from ZX) _ (Grows.pre.trans hG (hU.trans (hT.mono hU.size)))).2) 240 (.inr ⟨rfl, rfl⟩))).mono fun e W' ⟨h1, h2⟩ => ⟨⟨_, _, _, h1⟩, h2⟩)).mono ?_
  rintro e w11 ⟨rfl, b6⟩
  replace hG := Grows.pre.trans hG b6
  refine ⟨_, rfl, hK _ _ b6 ?_⟩
  clear hK K
  refine anyV_frame (fun K hK => ?_)
  go_simp
  refine hK _ ?_
  clear hK K
  first
    | (refine anyV_val 40 (Grows.pre) rfl (by kernel_rfl) (by kernel_rfl) (by kernel_rfl) (by rfl) (v := ?av39) (fun W hW => ?ay39) (fun K hK => ?ar39); case ay39 => (obtain ⟨⟨q0, q1, q2, q3, q4⟩, p0, p1, p2, p3, p4⟩ := (show ∀ W', Grows V.drew W' → _ from HX) W (Grows.pre.trans hG hW); go_simp; first | done | rfl))
    | refine anyV_skip 40 (Grows.pre) rfl (by kernel_rfl) (by kernel_rfl) (by kernel_rfl) (by rfl) (fun K hK => ?_)
  go_simp
  refine hK _ ?_
  clear hK K
  first
    | (refine anyV_val 41 (Grows.pre) rfl (by kernel_rfl) (by kernel_rfl) (by kernel_rfl) (by rfl) (v := ?av40) (fun W hW => ?ay40) (fun K hK => ?ar40); case ay40 => (obtain ⟨⟨q0, q1, q2, q3, q4⟩, p0, p1, p2, p3, p4⟩ := (show ∀ W', Grows V.drew W' → _ from HX) W (Grows.pre.trans hG hW); go_simp; first | done | rfl))
    | refine anyV_skip 41 (Grows.pre) rfl (by kernel_rfl) (by kernel_rfl) (by kernel_rfl) (by rfl) (fun K hK => ?_)
  go_simp
  refine hK _ ?_
  clear hK K
  first
    | (refine anyV_val 42 (Grows.pre) rfl (by kernel_rfl) (by kernel_rfl) (by kernel_rfl) (by rfl) (v := ?av41) (fun W hW => ?ay41) (fun K hK => ?ar41); case ay41 => (obtain ⟨⟨q0, q1, q2, q3, q4⟩, p0, p1, p2, p3, p4⟩ := (show ∀ W', Grows V.drew W' → _ from HX) W (Grows.pre.trans hG hW); go_simp; first | done | rfl))
    | refine anyV_skip 42 (Grows.pre) rfl (by kernel_rfl) (by kernel_rfl) (by kernel_rfl) (by rfl) (fun K hK => ?_)
  go_simp
  refine hK _ ?_
  clear hK K
  first
    | (refine anyV_val 43 (Grows.pre) rfl (by kernel_rfl) (by kernel_rfl) (by kernel_rfl) (by rfl) (v := ?av42) (fun W hW => ?ay42) (fun K hK => ?ar42); case ay42 => (obtain ⟨⟨q0, q1, q2, q3, q4⟩, p0, p1, p2, p3, p4⟩ := (show ∀ W', Grows V.drew W' → _ from HX) W (Grows.pre.trans hG hW); go_simp; first | done | rfl))
    | refine anyV_skip 43 (Grows.pre) rfl (by kernel_rfl) (by kernel_rfl) (by kernel_rfl) (by rfl) (fun K hK => ?_)
  go_simp
  refine hK _ ?_
  clear hK K
  refine anyV_only 44 rfl (by kernel_rfl) (by rfl) (fun K hK => ?_)
  go_simp
  refine (zombie_any _).mono ?_
  rintro e w12 ⟨x12, rfl, h12, hs12, b7⟩
  replace hG := Grows.pre.trans hG b7
  have z12 := ZomAt.of_row h12
  clear h12
  refine ⟨_, rfl, hK _ _ b7 ?_⟩
  clear hK K
  refine anyV_frame (fun K hK => ?_)
  go_simp
  refine hK _ ?_
  clear hK K
  refine anyV_only 45 rfl (by kernel_rfl) (by rfl) (fun K hK => ?_)
  go_simp
  refine (same_short _ x x12 1 1 sx ((show ∀ W', Grows V.drew W' → _ from ZX) _ hG).1 z12).mono ?_
  rintro e w13 ⟨rfl, b8⟩
  replace hG := Grows.pre.trans hG b8
  refine ⟨_, rfl, hK _ _ b8 ?_⟩
  clear hK K
  refine anyV_frame (fun K hK => ?_)
  go_simp
  refine hK _ ?_
  clear hK K
  first
    | (refine anyV_val 46 (Grows.pre) rfl (by kernel_rfl) (by kernel_rfl) (by kernel_rfl) (by rfl) (v := ?av43) (fun W hW => ?ay43) (fun K hK => ?ar43); case ay43 => (obtain ⟨⟨q0, q1, q2, q3, q4⟩, p0, p1, p2, p3, p4⟩ := (show ∀ W', Grows V.drew W' → _ from HX) W (Grows.pre.trans hG hW); go_simp; first | done | rfl))
    | refine anyV_skip 46 (Grows.pre) rfl (by kernel_rfl) (by kernel_rfl) (by kernel_rfl) (by rfl) (fun K hK => ?_)
  go_simp
  refine hK _ ?_
  clear hK K
  first
    | (refine anyV_val 47 (Grows.pre) rfl (by kernel_rfl) (by kernel_rfl) (by kernel_rfl) (by rfl) (v := ?av44) (fun W hW => ?ay44) (fun K hK => ?ar44); case ay44 => (obtain ⟨⟨q0, q1, q2, q3, q4⟩, p0, p1, p2, p3, p4⟩ := (show ∀ W', Grows V.drew W' → _ from HX) W (Grows.pre.trans hG hW); go_simp; first | done | rfl))
    | refine anyV_skip 47 (Grows.pre) rfl (by kernel_rfl) (by kernel_rfl) (by kernel_rfl) (by rfl) (fun K hK => ?_)
  go_simp
  refine hK _ ?_
  clear hK K
  first
    | (refine anyV_val 48 (Grows.pre) rfl (by kernel_rfl) (by kernel_rfl) (by kernel_rfl) (by rfl) (v := ?av45) (fun W hW => ?ay45) (fun K hK => ?ar45); case ay45 => (obtain ⟨⟨q0, q1, q2, q3, q4⟩, p0, p1, p2, p3, p4⟩ := (show ∀ W', Grows V.drew W' → _ from HX) W (Grows.pre.trans hG hW); go_simp; first | done | rfl))
    | refine anyV_skip 48 (Grows.pre) rfl (by kernel_rfl) (by kernel_rfl) (by kernel_rfl) (by rfl) (fun K hK => ?_)
  go_simp
  refine hK _ ?_
  clear hK K
  refine anyV_done (by kernel_rfl) ?_
  have BZ := below_step BV (below_undrew hG)
  clear HX ZX hG
  go_wp2
  go_ret
  exact ⟨rfl, BZ⟩
end Go.Proofs.YtejcandhijdnhaaGreat
