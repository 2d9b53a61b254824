/- Own texts of this seat, one behind the other (part 8 of 9). -/
import Derived.Test.YtejcandhijdnhaaGreatMN07
import Derived.Deep.WholeRow
import Derived.BigFrameIn
import Derived.BigRegionIn
import Derived.Lib.Walk
import Derived.LoopIn
import Derived.LoopNIn
import Derived.Maps.OwnIn
import Derived.OwnWalkIn
import Derived.RangeFuncBox
import Derived.RangeFuncLeaves
import Derived.TacticsInMore

/- The walk of image.readProcess of a zombie. -/
namespace Go.Proofs.YtejcandhijdnhaaGreat
open Go Go.RowKit
set_option linter.unusedVariables false
set_option linter.unnecessarySimpa false
set_option linter.unusedSimpArgs false
set_option maxHeartbeats 1000000 in
theorem value1_any (f : Forest) (hcnt : f.cnt ≤ 20000) (B : Nat) (a : Option Addr) (len cap : Nat) (W : World) (hc : W.cell? ⟨B, 0, none⟩ = some (.slice a len cap)) (h : SlF W.heap.size W a len cap f) (tag : Int) (ht : tag < 128) (bs : List Int) (k : Forest) (v : Nat) (hv : v < 9223372036854775808)
    (hf : findF f tag 0 = some (bs, k)) (h8 : bs.length = 8) (hb : valB bs = (v : Int)) :
    Calls Tryz.prog 61 #[.int .i64 tag, .pointer (some ⟨B, 0, none⟩)] W fun e W' => e = .returned (.int .i64 (v : Int)) ∧ Below W.heap.size W W' := by
  have kf := find_any f W W.heap.size (Nat.le_refl _) a len cap h hcnt tag 0 (by decide) (by decide)
  rw [hf] at kf
  clear hf h
  go_enter Tryz.func61, Tryz.ntmps61
  go_wp2_with (go_at_call 17; refine held ?_)
  unfold Held
  refine Calls.mono kf ?_
  rintro e w1 ⟨b1, a1, l1, c1, ka, kl, kc, rfl, F1⟩
  go_wp2_with ((fail_if_success (unfold Held)); refine at_store (t := 66) rfl ?_)
  unfold Held
  refine wpList_store_row rfl 66 (.tmp 4) (.tmp 12) rfl w1.heap.size #[.int .i64 tag, .slice a1 l1 c1, .slice ka kl kc] rfl rfl 66 zT (World.alloc_heap_new _ _) infoT rfl (agg3_one ..) ?_
  rw [World.setRow_alloc_new]
  obtain ⟨V, hV⟩ : ∃ V, V = w1.alloc (.cells #[.int .i64 tag, .slice a1 l1 c1, .slice ka kl kc] 66) := ⟨_, rfl⟩
  have e5 : V.heap[w1.heap.size]? = some (.cells #[.int .i64 tag, .slice a1 l1 c1, .slice ka kl kc] 66) := by rw [hV]; exact World.alloc_heap_new _ _
  have bV : Below w1.heap.size w1 V := by rw [hV]; exact (Below.refl _ _).alloc (Nat.le_refl _) _
  rw [← hV]
  have q0 : V.cell? ⟨w1.heap.size, 0, none⟩ = some (.int .i64 tag) := by rw [cell_of_row V _ 0 _ _ _ e5]; rfl
  have q1 : V.cell? ⟨w1.heap.size, 1, none⟩ = some (.slice a1 l1 c1) := by rw [cell_of_row V _ 1 _ _ _ e5]; rfl
  have q2 : V.cell? ⟨w1.heap.size, 2, none⟩ = some (.slice ka kl kc) := by rw [cell_of_row V _ 2 _ _ _ e5]; rfl
  have B2 := b1.trans (bV.mono b1.size)
  have kv := value_any V V.heap.size (Nat.le_refl _) tag a1 l1 c1 bs ka kl kc ((F1.below bV).row) (by omega)
  unfold ValPost at kv
  rw [h8, hb, if_pos ⟨ht, rfl⟩] at kv
  clear hV e5 bV b1 F1 kf hc
  go_wp2_with (go_at_call 18; refine held ?_)
  unfold Held
  refine Calls.mono kv ?_
  rintro e w2 ⟨b2, rfl⟩
  have B3 := B2.trans (b2.mono B2.size)
  clear kv b2 q0 q1 q2
  go_wp2
  go_ret
  exact ⟨rfl, B3⟩
set_option maxRecDepth 100000 in
set_option maxHeartbeats 4000000 in
theorem readProcess_zombie (W : World) (a : Option Addr) (c : Nat) (h : SlF W.heap.size W a 4 c kidsF) :
    Calls Tryz.prog 20 #[.slice a 4 c] W fun e W' => e = .returned (.agg (procC 2 7 0)) ∧ Below W.heap.size W W' := by
  have hip := infoProc2 2 7 0
  have hp1 := proc_one 2 7 0
  have hps : procZ.size = (procC 2 7 0).size := rfl
  have kv := fun (V : World) (hV : Below W.heap.size W V) (B : Nat) (hc : V.cell? ⟨B, 0, none⟩ = some (.slice a 4 c)) (tag : Int) (ht : tag < 128) (bs : List Int) (k : Forest) (v : Nat) (hv : v < 9223372036854775808)
    (hf : findF kidsF tag 0 = some (bs, k)) (h8 : bs.length = 8) (hb : valB bs = (v : Int)) => value1_any kidsF (by decide) B a 4 c V hc ((h.below hV).mono hV.size) tag ht bs k v hv hf h8 hb
  have KV := Lib.hid kv
  clear h kv
  go_enter Tryz.func20, Tryz.ntmps20
  go_upto_region 2 with fail
  generalize hV : World.alloc _ _ = V
  have hV2 : V = (W.alloc (.cells #[.slice a 4 c] 59)).alloc (.cells procZ 54) := hV.symm
  clear hV
  have bV : Below W.heap.size W V := by rw [hV2]; exact ((Below.refl _ _).alloc (Nat.le_refl _) _).alloc (by simp) _
  have eL : V.heap[W.heap.size]? = some (.cells #[.slice a 4 c] 59) := by
    rw [hV2, ((Below.refl _ _).alloc (Nat.le_refl _) _ : Below _ _ _).block _ (by simp)]; exact World.alloc_heap_new _ _
  have eR : V.heap[W.heap.size + 1]? = some (.cells procZ 54) := by
    rw [hV2]; have := World.alloc_heap_new (W.alloc (.cells #[.slice a 4 c] 59)) (Obj.cells procZ 54); simpa using this
  have sV : V.heap.size = W.heap.size + 2 := by rw [hV2]; simp
  clear hV2
  go_wp2_with (go_at_call 61; refine held ?_)
  unfold Held
  refine Calls.mono ((show ∀ (V : World), Below W.heap.size W V → _ from KV) V bV W.heap.size (by rw [cell_of_row V _ 0 _ _ _ eL]; rfl) 7 (by decide) (numB 2) .nil 2 (by decide) (by rfl) (by rw [numB_len]) (by decide)) ?_
  rintro e' w0 ⟨rfl, b0⟩
  replace eL := (b0.block _ (by omega)).trans eL
  replace eR := (b0.block _ (by omega)).trans eR
  replace sV : W.heap.size + 2 ≤ w0.heap.size := by have := b0.size; omega
  replace bV := bV.trans (b0.mono bV.size)
  clear b0
  go_wp2_with (go_at_call 61; refine held ?_)
  unfold Held
  refine Calls.mono ((show ∀ (V : World), Below W.heap.size W V → _ from KV) w0 bV W.heap.size (by rw [cell_of_row w0 _ 0 _ _ _ eL]; rfl) 8 (by decide) (numB 1) .nil 1 (by decide) (by rfl) (by rw [numB_len]) (by decide)) ?_
  rintro e' w1 ⟨rfl, b1⟩
  replace eL := (b1.block _ (by omega)).trans eL
  replace eR := (b1.block _ (by omega)).trans eR
  replace sV : W.heap.size + 2 ≤ w1.heap.size := by have := b1.size; omega
  replace bV := bV.trans (b1.mono bV.size)
  clear b1
  go_wp2_with (go_at_call 61; refine held ?_)
  unfold Held
  refine Calls.mono ((show ∀ (V : World), Below W.heap.size W V → _ from KV) w1 bV W.heap.size (by rw [cell_of_row w1 _ 0 _ _ _ eL]; rfl) 9 (by decide) (numB 2) .nil 2 (by decide) (by rfl) (by rw [numB_len]) (by decide)) ?_
  rintro e' w2 ⟨rfl, b2⟩
  replace eL := (b2.block _ (by omega)).trans eL
  replace eR := (b2.block _ (by omega)).trans eR
  replace sV : W.heap.size + 2 ≤ w2.heap.size := by have := b2.size; omega
  replace bV := bV.trans (b2.mono bV.size)
  clear b2
  go_wp2_with (go_at_call 61; refine held ?_)
  unfold Held
  refine Calls.mono ((show ∀ (V : World), Below W.heap.size W V → _ from KV) w2 bV W.heap.size (by rw [cell_of_row w2 _ 0 _ _ _ eL]; rfl) 10 (by decide) (numB 7) .nil 7 (by decide) (by rfl) (by rw [numB_len]) (by decide)) ?_
  rintro e' w3 ⟨rfl, b3⟩
  replace eL := (b3.block _ (by omega)).trans eL
  replace eR := (b3.block _ (by omega)).trans eR
  replace sV : W.heap.size + 2 ≤ w3.heap.size := by have := b3.size; omega
  replace bV := bV.trans (b3.mono bV.size)
  clear b3
  clear KV
  go_wp2_with ((fail_if_success (unfold Held)); refine at_store (t := 54) rfl ?_)
  unfold Held
  generalize hA : World.alloc w3 _ = A
  have hA2 : A = w3.alloc (Obj.cells procZ 54) := hA.symm
  clear hA
  have pq : A.heap[w3.heap.size]? = some (.cells procZ 54) := by rw [hA2]; exact World.alloc_heap_new _ _
  have bA : Below w3.heap.size w3 A := by rw [hA2]; exact (Below.refl _ _).alloc (Nat.le_refl _) _
  clear hA2
  refine wpList_store_row rfl 54 (.tmp 4) (.tmp 24) rfl w3.heap.size (procC 2 7 0) rfl rfl 54 procZ pq hip hps hp1 ?_
  obtain ⟨V5, hV5⟩ : ∃ V5, V5 = A.setRow w3.heap.size (procC 2 7 0) := ⟨_, rfl⟩
  have e5 : V5.heap[w3.heap.size]? = some (.cells (procC 2 7 0) 54) := by rw [hV5]; exact setRow_heap _ _ _ _ _ _ pq
  have b5 : Below w3.heap.size w3 V5 := by rw [hV5]; exact below_setRow bA (Nat.le_refl _) _
  rw [← hV5]
  clear hV5 pq bA eL
  have eR5 := (b5.block _ (by omega)).trans eR
  have z5 : ZomAt V5 w3.heap.size (procC 2 7 0) := ZomAt.of_row e5
  have q2 : V5.cell? ⟨w3.heap.size, 2, none⟩ = some (.int .i64 2) := by rw [cell_of_row V5 _ 2 _ _ _ e5]; rfl
  have B5 := bV.trans (b5.mono bV.size)
  clear eR e5 b5
  obtain ⟨X, hX⟩ : ∃ X, X = procC 2 7 0 := ⟨_, rfl⟩
  rw [← hX] at z5 hip hps hp1
  have HX := Lib.hid hX
  clear hX
  go_wp2_with first
    | (refine wpList_load_zom (by rfl) 54 (.tmp 4) rfl w3.heap.size rfl X z5 _ Tryz.underlying54 rfl hip ?_)
    | ((fail_if_success (unfold Held)); refine at_store (t := 54) rfl ?_)
  unfold Held
  refine wpList_store_row rfl 54 (.tmp 2) (.tmp 28) rfl (W.heap.size + 1) X rfl rfl 54 procZ eR5 hip hps hp1 ?_
  obtain ⟨V6, hV6⟩ : ∃ V6, V6 = V5.setRow (W.heap.size + 1) X := ⟨_, rfl⟩
  have e6 : V6.heap[W.heap.size + 1]? = some (.cells X 54) := by rw [hV6]; exact setRow_heap _ _ _ _ _ _ eR5
  have b6 : Below W.heap.size W V6 := by rw [hV6]; exact below_setRow B5 (by omega) _
  rw [← hV6]
  clear hV6 eR5 z5 q2 B5
  go_wp2
  refine bodyPost_ret (results_cell_row rfl _ _ (W.heap.size + 1) 54 X (0, 0) _ rfl e6 Tryz.underlying54 rfl hip) rfl ?_
  exact ⟨by rw [show X = procC 2 7 0 from HX], b6⟩
end Go.Proofs.YtejcandhijdnhaaGreat

/- The walk of image.each's iterator, over fields whose bytes are none. -/
namespace Go.Proofs.YtejcandhijdnhaaGreat
open Go Go.RowKit
attribute [local go_sem] Oper.semAt_some
set_option linter.unusedVariables false
set_option linter.unnecessarySimpa false
set_option linter.unusedSimpArgs false
section
variable {F : Fence} {nF : Nat} {P : Program} {ops : Array Oper} {Q : Exit → Act → World → Prop} {a : Act} {w : World} {rest : List Oper} {o : Oper}
theorem wpListIn_load_at (hgd : o.guard = none) (ty : TypeId) (x : Operand) (ho : o.op = .load ty x)
    (g off : Nat) (hx : a.eval x = .pointer (some ⟨g, off, none⟩)) (cs : List Value) (d : TypeDesc) (hc : ∀ j v, cs[j]? = some v → w.cell? ⟨g, off + j, none⟩ = some v)
    (hu : P.underlying ty = some d) (hd : (match d with | .struct _ | .array _ _ => true | _ => false) = true) (hi : (P.info? ty).map (·.size) = some cs.length)
    (h : wpListIn F nF P ops Q rest (a.put o.dst (.agg cs.toArray)) w) : wpListIn F nF P ops Q (o :: rest) a w := by
  refine wpListIn_plain hgd fun K hK => ?_
  unfold Oper.wpIn
  refine ⟨by simp [Oper.about, ho], ?_⟩
  rw [Oper.semAt_plain F _ _ (by rw [ho]; intro c hc'; cases hc')]
  simp only [execOp, ho, hx, Instr.loadAt, Instr.sureAddr, Sem.run_bind, Sem.run_pure, Result.andThen_ok, run_loadVar_at w g off ty cs d hc hu hd hi]
  exact hK _ _ h
theorem at_loadIn {t : TypeId} {x : Operand} (ho : o.op = .load t x) (h : Held (wpListIn F nF P ops Q (o :: rest) a w)) : wpListIn F nF P ops Q (o :: rest) a w := h
end
/-- a field as it lies in memory -/
structure Fe where
  t : Int
  a : Option Addr
  l : Nat
  c : Nat
  ka : Option Addr
  kl : Nat
  kc : Nat
def Fe.cells (x : Fe) : List Value := [.int .i64 x.t, .slice x.a x.l x.c, .slice x.ka x.kl x.kc]
def Fe.enc (x : Fe) : Array Value := #[.agg x.cells.toArray, .slice none 0 0]
/-- the fields of a tag, up to the j-th -/
def hitsTo (tag : Int) (fs : List Fe) (j : Nat) : List Fe := (fs.take j).filter (fun x => x.t == tag)
def hits (tag : Int) (fs : List Fe) : List Fe := fs.filter (fun x => x.t == tag)
theorem hitsTo_all (tag : Int) (fs : List Fe) : hitsTo tag fs fs.length = hits tag fs := by unfold hitsTo hits; rw [List.take_of_length_le (Nat.le_refl _)]
theorem hitsTo_succ (tag : Int) (fs : List Fe) (j : Nat) (h : j < fs.length) : hitsTo tag fs (j + 1) = hitsTo tag fs j ++ (if fs[j].t = tag then [fs[j]] else []) := by
  unfold hitsTo
  rw [List.take_succ_eq_append_getElem h, List.filter_append]
  by_cases e : fs[j].t = tag <;> simp [e]
theorem hitsTo_at (tag : Int) (fs : List Fe) (j : Nat) (h : j < fs.length) (ht : fs[j].t = tag) : ∃ hl : (hitsTo tag fs j).length < (hits tag fs).length, (hits tag fs)[(hitsTo tag fs j).length] = fs[j] := by
  have e : hits tag fs = hitsTo tag fs j ++ ([fs[j]] ++ (fs.drop (j + 1)).filter (fun x => x.t == tag)) := by
    unfold hits hitsTo
    conv => lhs; rw [← List.take_append_drop j fs]
    rw [List.filter_append, List.drop_eq_getElem_cons h, List.filter_cons_of_pos (by simpa using ht)]
    rfl
  have hl : (hitsTo tag fs j).length < (hits tag fs).length := by rw [e]; simp
  refine ⟨hl, ?_⟩
  have : (hits tag fs)[(hitsTo tag fs j).length]? = some fs[j] := by
    rw [e, List.getElem?_append_right (Nat.le_refl _), Nat.sub_self]; rfl
  rw [List.getElem?_eq_getElem hl] at this
  injection this
/-- fields in a row -/
def FesAt (W : World) (n : Nat) (a : Option Addr) (fs : List Fe) : Prop := fs = [] ∨ ∃ b off, a = some ⟨b, off, none⟩ ∧ b < n ∧ ∀ i (h : i < fs.length), ∀ j v, fs[i].cells[j]? = some v → W.cell? ⟨b, off + i * 3 + j, none⟩ = some v
/-- the marks that ranges have left -/
def mark (D : Nat) : Deferred := { target := .collected D, args := #[] }
def Marks (B : Nat) (S : Nat → Prop) (W : World) : List Deferred → Prop
  | [] => True
  | d :: ds => (∃ D, d = mark D ∧ B ≤ D ∧ ¬ S D ∧ W.heap[D]? = some (.deferred (some [])) ∧ mark D ∉ ds) ∧ Marks B S W ds
theorem Marks.keep {B : Nat} {S S' : Nat → Prop} {W W' : World} : ∀ (ds : List Deferred), Marks B S W ds → (∀ D, mark D ∈ ds → B ≤ D → ¬ S D → D < W.heap.size → ¬ S' D ∧ W'.heap[D]? = W.heap[D]?) → Marks B S' W' ds
  | [], _, _ => trivial
  | d :: ds, ⟨⟨D, e, h1, h2, h3, h4⟩, hm⟩, hk => by
    obtain ⟨k1, k2⟩ := hk D (by rw [e]; exact List.mem_cons_self ..) h1 h2 (Array.getElem?_eq_some_iff.1 h3).1
    exact ⟨⟨D, e, h1, k1, k2.trans h3, h4⟩, Marks.keep ds hm fun D2 q => hk D2 (List.mem_cons_of_mem _ q)⟩
theorem Marks.lt {B : Nat} {S : Nat → Prop} {W : World} {D : Nat} : ∀ (ds : List Deferred), Marks B S W ds → mark D ∈ ds → D < W.heap.size
  | d :: ds, ⟨⟨D2, e, _, _, h3, _⟩, hm⟩, h => by
    rcases List.mem_cons.1 h with h | h
    · rw [e] at h
      unfold mark at h
      injection h with h _
      injection h with h
      rw [h]; exact (Array.getElem?_eq_some_iff.1 h3).1
    · exact Marks.lt ds hm h
theorem mark_inj {D D2 : Nat} (h : mark D = mark D2) : D = D2 := by unfold mark at h; injection h with h _; injection h
theorem leaves_marks {F : Fence} {n : Nat} {P : Program} {fn : Func} {tmps : Array Value} {R : Ending → World → Prop} {B : Nat} {S : Nat → Prop}
    (hb : ∀ W, (∀ W', SameOn (fun b => b < B ∨ S b) W W' → R (.returned (.tuple #[])) W') → LeavesInM F n P fn tmps R [] .returning W) :
    ∀ (ds : List Deferred) (W : World), Marks B S W ds → (∀ W', SameOn (fun b => b < B ∨ S b) W W' → R (.returned (.tuple #[])) W') → LeavesInM F n P fn tmps R ds .returning W
  | [], W, _, hR => hb W hR
  | d :: ds, W, ⟨⟨D, e, h1, h2, h3, h4⟩, hm⟩, hR => by
    have hs : SameOn (fun b => b < B ∨ S b) W (W.putObj D (.deferred none)) := SameOn.putObj _ _ _ (fun h => h.elim (fun h => by omega) h2)
    refine ⟨by simp, .inl ⟨D, W.putObj D (.deferred none), by rw [e]; rfl, run_takeDeferred h3, ?_⟩⟩
    refine leaves_marks hb ds _ (hm.keep ds fun D2 q _ k2 _ => ⟨k2, World.putObj_heap_other (fun e2 => h4 (by rw [← e2]; exact q))⟩) fun W' h => hR W' (hs.trans h)
set_option maxRecDepth 100000 in
set_option maxHeartbeats 4000000 in
theorem each1_iter (B1 B2 : Nat) (a : Option Addr) (cap : Nat) (tag : Int) (fs : List Fe) (w : World) (h1 : B1 < w.heap.size) (h2 : B2 < w.heap.size) (c1 : w.cell? ⟨B1, 0, none⟩ = some (.slice a fs.length cap)) (c2 : w.cell? ⟨B2, 0, none⟩ = some (.int .i64 tag))
    (hf : FesAt w w.heap.size a fs) (hsm : fs.length ≤ 1000000) (he : ∀ i (h : i < fs.length), fs[i].t = tag → fs[i].l = 0) :
    Iter Tryz.prog 57 #[.pointer (some ⟨B1, 0, none⟩), .pointer (some ⟨B2, 0, none⟩)] Fe.enc (fun b => b = B1 ∨ b = B2 ∨ blockOf (.slice a fs.length cap) b) (hits tag fs) w := by
  intro l J Jx S0 W hW hJ hJx hlt hX hY h0
  have C1 : W.cell? ⟨B1, 0, none⟩ = some (.slice a fs.length cap) := (hW.cell (p := ⟨B1, 0, none⟩) h1).trans c1
  have C2 : W.cell? ⟨B2, 0, none⟩ = some (.int .i64 tag) := (hW.cell (p := ⟨B2, 0, none⟩) h2).trans c2
  have hWs := hW.size
  have x1 : ¬ S0 B1 := hX _ (.inl rfl)
  have x2 : ¬ S0 B2 := hX _ (.inr (.inl rfl))
  refine (callsIn_wide (n := 101)).1 ?_
  refine callsIn_of_wp_marks Tryz.func57 rfl trivial ?_ rfl
  simp only [Tryz.ntmps57, List.size_toArray, List.length_cons, List.length_nil, Nat.reduceAdd, Nat.reduceSub, Array.replicate_succ, Array.replicate_zero, List.push_toArray, List.append_toArray, List.nil_append, List.cons_append]
  refine wideScope ?_
  gi_wp2
  refine wpIn_label ?_
  gi_wp2
  refine wpIn_loop (fun a' w' => ∃ (u5 u6 u7 u8 u9 u10 u13 u14 u15 u16 u17 u18 u19 u20 u21 u22 u23 u24 u25 u26 u27 u28 u29 u30 u31 u32 u33 u34 u35 u36 u37 u38 u39 u40 u41 u42 u43 u44 u45 u46 u47 u48 u49 : Value) (dd : List Deferred), (∃ (j : Nat) (S : Nat → Prop), u13 = .int .i64 (j : Int) ∧ j ≤ fs.length ∧ J (hitsTo tag fs j).length S w' ∧ Wr S0 S W w' ∧ Marks W.heap.size S w' dd) ∧ a' = { tmps := #[.func (.yield l) #[] #[], .pointer (some ⟨B1, 0, none⟩), .pointer (some ⟨B2, 0, none⟩), undef, undef, u5, u6, u7, u8, u9, u10, .slice a fs.length cap, .int .i64 (fs.length : Int), u13, u14, u15, u16, u17, u18, u19, u20, u21, u22, u23, u24, u25, u26, u27, u28, u29, u30, u31, u32, u33, u34, u35, u36, u37, u38, u39, u40, u41, u42, u43, u44, u45, u46, u47, u48, u49], defers := dd })
    (fun a' _ => fs.length - (intOf (a'.tmps.getD 13 undef)).toNat) ?_ ?_
  · refine ⟨_, _, _, _, _, _, _, _, _, _, _, _, _, _, _, _, _, _, _, _, _, _, _, _, _, _, _, _, _, _, _, _, _, _, _, _, _, _, _, _, _, _, _, [], ?_, rfl⟩
    exact ⟨0, S0, rfl, Nat.zero_le _, h0, Wr.refl _ _, trivial⟩
  · rintro _ wr ⟨u5, u6, u7, u8, u9, u10, u13, u14, u15, u16, u17, u18, u19, u20, u21, u22, u23, u24, u25, u26, u27, u28, u29, u30, u31, u32, u33, u34, u35, u36, u37, u38, u39, u40, u41, u42, u43, u44, u45, u46, u47, u48, u49, dd, ⟨j, S, rfl, hj, hJs, hw, hmk⟩, rfl⟩
    by_cases hlj : j < fs.length
    · have t1 : decide ((j : Int) < ((fs.length : Nat) : Int)) = true := by simp; omega
      have hws := hw.size
      obtain ⟨fb, fo, rfl, hfb, hfc⟩ : ∃ b off, a = some ⟨b, off, none⟩ ∧ b < w.heap.size ∧ ∀ i (h : i < fs.length), ∀ j v, fs[i].cells[j]? = some v → w.cell? ⟨b, off + i * 3 + j, none⟩ = some v := by
        rcases hf with h | h
        · rw [h] at hlj; exact absurd hlj (by simp)
        · exact h
      have xf : ¬ S0 fb := hX _ (.inr (.inr ⟨by omega, rfl⟩))
      have hcs : ∀ q v, fs[j].cells[q]? = some v → wr.cell? ⟨fb, fo + j * 3 + q, none⟩ = some v := fun q v hq =>
        cell_same (p := ⟨fb, fo + j * 3 + q, none⟩) ((hw.block fb (by omega) xf).trans (hW.block fb hfb)) (hfc j hlj q v hq)
      have hc2 : wr.cell? ⟨B2, 0, none⟩ = some (.int .i64 tag) := cell_same (hw.block B2 (by omega) x2) C2
      obtain ⟨X, hX'⟩ : ∃ X, X = fs[j] := ⟨_, rfl⟩
      have htk := hitsTo_succ tag fs j hlj
      have hat := fun hn => hitsTo_at tag fs j hlj hn
      have hel := he j hlj
      rw [← hX'] at hcs htk hat hel
      have HC := Lib.hid hcs
      clear hX' hcs
      gi_wp2_with ((fail_if_success (unfold Held)); refine at_loadIn (t := 66) rfl ?_)
      unfold Held
      refine wpListIn_load_at rfl 66 (.tmp 15) rfl fb (fo + j * 3) rfl X.cells _ HC Tryz.underlying66 rfl infoT ?_
      gi_wp2_with ((fail_if_success (unfold Held)); refine at_storeIn (t := 66) rfl ?_)
      unfold Held
      refine wpListIn_store_row rfl 66 (.tmp 5) (.tmp 16) rfl wr.heap.size X.cells.toArray rfl rfl 66 zT (World.alloc_heap_new _ _) infoT rfl (agg3_one ..) ?_
      rw [World.setRow_alloc_new]
      obtain ⟨O, hO⟩ : ∃ O, O = Obj.cells X.cells.toArray 66 := ⟨_, rfl⟩
      obtain ⟨V, hV⟩ : ∃ V, V = wr.alloc O := ⟨_, rfl⟩
      have sS : SameOn (fun b => b < wr.heap.size) wr V := by rw [hV]; exact ⟨rfl, rfl, rfl, by simp, fun b hb => Below.heap_alloc _ _ _ hb⟩
      have hSl : ∀ b, S b → b < wr.heap.size := fun b h => hlt _ _ _ hJs b h
      have hJz := hJ _ _ _ V hJs (sS.mono fun b hb => hb.elim (fun h => by omega) (hSl b))
      have hwz : Wr S0 S W V := by rw [hV]; exact hw.alloc O
      have hmz : Marks W.heap.size S V dd := hmk.keep dd fun D _ _ q2 q3 => ⟨q2, sS.block D q3⟩
      have e5 : V.heap[wr.heap.size]? = some O := by rw [hV]; exact World.alloc_heap_new _ _
      have sz : V.heap.size = wr.heap.size + 1 := by rw [hV]; simp
      rw [hO] at e5
      have k0 : V.cell? ⟨wr.heap.size, 0, none⟩ = some (.int .i64 X.t) := by rw [cell_of_row V _ 0 _ _ _ e5]; rfl
      have hc2 : V.cell? ⟨B2, 0, none⟩ = some (.int .i64 tag) := cell_same (sS.block B2 (by show B2 < _; omega)) hc2
      rw [← hO, ← hV]
      have n5 : ¬ S wr.heap.size := fun h => by have := hSl _ h; omega
      obtain ⟨Z, hZ⟩ : ∃ Z, Z = wr.heap.size := ⟨_, rfl⟩
      rw [← hZ] at e5 k0 n5 sz hws ⊢
      clear hO hV hJs hw hmk HC sS hSl hZ
      by_cases hn : X.t = tag
      rotate_left
      · have t2 : (X.t != tag) = true := by simpa using hn
        rw [if_neg hn, List.append_nil] at htk
        have HT := Lib.hid htk
        clear hn htk hat hel
        gi_wp2
        refine ⟨⟨_, _, _, _, _, _, _, _, _, _, _, _, _, _, _, _, _, _, _, _, _, _, _, _, _, _, _, _, _, _, _, _, _, _, _, _, _, _, _, _, _, _, _, dd, ⟨j + 1, S, rfl, by omega, ?_, hwz, hmz⟩, rfl⟩, ?_⟩
        · rw [show hitsTo tag fs (j + 1) = hitsTo tag fs j from HT]; exact hJz
        · simp [intOf]; omega
      · have t2 : (X.t != tag) = false := by simpa using hn
        rw [if_pos hn] at htk
        obtain ⟨g1, g2⟩ := hat hn
        have hl0 := hel hn
        have hlen : (hitsTo tag fs (j + 1)).length = (hitsTo tag fs j).length + 1 := by rw [htk]; simp
        obtain ⟨c, hc⟩ : ∃ c, c = (hitsTo tag fs j).length := ⟨_, rfl⟩
        rw [← hc] at hJz hlen
        have hY2 := fun (S : Nat → Prop) (W1 : World) (h : J c S W1) => hY _ g1 S W1 (by rw [← hc]; exact h)
        rw [g2, ← hc] at hY2
        have hc3 : c + 1 ≤ (hits tag fs).length := by rw [hc]; exact g1
        have HL := Lib.hid hlen
        have k1 : V.cell? ⟨Z, 1, none⟩ = some (.slice X.a 0 X.c) := by rw [cell_of_row V _ 1 _ _ _ e5, ← hl0]; rfl
        clear g2 g1 htk hlen hat hn hel hc
        have hch : Fence.wide.fn 58 := trivial
        gi_wp2_with (gi_at_call 58; refine (chunk_in Fence.wide _ trivial rfl _ _ _ _).mono ?_; rintro e w' ⟨rfl, rfl⟩)
        clear hch
        obtain ⟨W3, hW3⟩ : ∃ W3, W3 = ((V.alloc (Obj.cells #[.slice none 0 0] 78)).alloc (Obj.cells #[.slice X.a 0 X.c] 22)).alloc (Obj.cells #[.int .i64 4] 3) := ⟨_, rfl⟩
        have s3 : W3.heap.size = Z + 4 := by rw [hW3]; simp; omega
        have b3 : Below V.heap.size V W3 := by rw [hW3]; exact (((Below.refl _ _).alloc (Nat.le_refl _) _).alloc (by simp) _).alloc (by simp; omega) _
        have f6 : W3.heap[Z + 1]? = some (.cells #[.slice none 0 0] 78) := by
          rw [hW3, ← sz]
          exact ((((Below.refl _ _).alloc (Nat.le_refl _) _).alloc (by simp) _ : Below _ (V.alloc (Obj.cells #[.slice none 0 0] 78)) _).block V.heap.size (by simp)).trans (World.alloc_heap_new _ _)
        have cB : W3.cell? ⟨Z + 1 + 1, 0, none⟩ = some (.slice X.a 0 X.c) := by
          rw [hW3]
          refine (((Below.refl _ _).alloc (Nat.le_refl _) _).cell (p := ⟨Z + 1 + 1, 0, none⟩) (by simp; omega)).trans ?_
          have := World.cell?_alloc_mark (V.alloc (.cells #[.slice none 0 0] 78)) #[.slice X.a 0 X.c] 22 (0, 0) 0
          simpa [sz] using this
        have cN : W3.cell? ⟨Z + 1 + 1 + 1, 0, none⟩ = some (.int .i64 4) := by
          rw [hW3]
          have := World.cell?_alloc_mark ((V.alloc (.cells #[.slice none 0 0] 78)).alloc (.cells #[.slice X.a 0 X.c] 22)) #[.int .i64 4] 3 (0, 0) 0
          simpa [sz] using this
        rw [← hW3]
        clear hW3
        have hSl : ∀ b, S b → b < V.heap.size := fun b h => hlt _ _ _ hJz b h
        have hr3 : Row8 W3.heap.size W3 (.slice X.a 0 X.c) [] := ⟨.inl ⟨_, _, rfl, rfl⟩, by simp⟩
        refine range_law (gf := 87) rfl (enters_of Tryz.func87 (by kernel_rfl) rfl)
          (chunk1_iter (Z + 1 + 1) (Z + 1 + 1 + 1) _ [] W3 (by omega) (by omega) cB cN hr3 (by simp)) (fun _ => rfl)
          (fun _ S' A => S' = S ∧ SameOn (fun b => b < W3.heap.size ∨ S b) W3 A)
          (fun _ _ _ _ => False) S ?hX ?hI ?hIx ?hlt ?h0
          (fun k => { tmps := #[.func (.yield l) #[] #[], .pointer (some ⟨B1, 0, none⟩), .pointer (some ⟨B2, 0, none⟩), undef, undef, .pointer (some ⟨Z, 0, none⟩), .pointer (some ⟨Z + 1, 0, none⟩), chunk (.slice X.a 0 X.c) k, u8, u9, u10, .slice (some ⟨fb, fo, none⟩) fs.length cap, .int .i64 (fs.length : Int), .int .i64 (j : Int), .bool true, .pointer (some ⟨fb, fo + j * 3, none⟩), .agg X.cells.toArray, .pointer (some ⟨Z, 0, none⟩), .int .i64 X.t, .int .i64 tag, .bool false, .pointer (some ⟨Z, 1, none⟩), .slice X.a 0 X.c, .func (.func 87) #[] #[.pointer (some ⟨Z + 1 + 1, 0, none⟩), .pointer (some ⟨Z + 1 + 1 + 1, 0, none⟩)], chunk (.slice X.a 0 X.c) k, u25, u26, u27, u28, u29, u30, u31, u32, u33, u34, u35, u36, u37, u38, u39, u40, u41, u42, u43, u44, u45, u46, u47, u48, u49], defers := [] }) ?assign ?body ?done ?stop
        case hX =>
          rintro b (rfl | rfl | hb)
          · exact ⟨by omega, fun h => by have := hSl _ h; omega⟩
          · exact ⟨by omega, fun h => by have := hSl _ h; omega⟩
          · exact absurd hb (by cases X.a <;> simp [blockOf])
        case hI =>
          rintro k S' A A' ⟨rfl, hj⟩ hs
          exact ⟨rfl, hj.trans hs⟩
        case hIx =>
          rintro c k S A A' hf _
          exact hf
        case hlt =>
          rintro k S' A ⟨rfl, hj⟩ b hb
          have := hj.size
          have := hSl b hb
          omega
        case h0 => exact ⟨rfl, SameOn.refl _ _⟩
        case assign =>
          intro l' k A K hK
          gi_wp2
          exact hK
        case body =>
          rintro l' k hk
          exact absurd hk (by simp)
        case stop =>
          rintro D c' k S' A hD hS hk hf
          exact hf.elim
        case done =>
          rintro D S' A hD hS ⟨rfl, hA⟩ hK
          try dsimp only
          have hJA : J c S' A := hJ _ _ _ A hJz ⟨hA.os.trans b3.os, hA.tape.trans b3.tape, hA.output.trans b3.output, Nat.le_trans b3.size hA.size, fun b hb => by
            have hb2 : b < V.heap.size := hb.elim (fun h => by omega) (hSl b)
            exact (hA.block b (.inl (by omega))).trans (b3.block b hb2)⟩
          have wA : Wr S0 S' W A := (hwz.trans (Wr.of_below b3)).trans ⟨hA.os, hA.tape, hA.output, hA.size, fun b hb _ => hA.block b (.inl hb), fun b h => .inl h⟩
          have e5A : A.heap[Z]? = some (.cells X.cells.toArray 66) := (hA.block Z (.inl (by omega))).trans ((b3.block Z (by omega)).trans e5)
          have f6A := (hA.block (Z + 1) (.inl (by omega))).trans f6
          have mA : Marks W.heap.size S' A (mark D :: dd) := by
            refine ⟨⟨D, rfl, by omega, hS, hK, fun h => ?_⟩, hmz.keep dd fun D2 _ _ q2 q3 => ⟨q2, (hA.block D2 (.inl (by omega))).trans (b3.block D2 q3)⟩⟩
            have := Marks.lt dd hmz h
            omega
          have q0 : A.cell? ⟨Z, 0, none⟩ = some (.int .i64 X.t) := by rw [cell_of_row A _ 0 _ _ _ e5A]; rfl
          have q1 : A.cell? ⟨Z, 1, none⟩ = some (.slice X.a X.l X.c) := by rw [cell_of_row A _ 1 _ _ _ e5A]; rfl
          have q2 : A.cell? ⟨Z, 2, none⟩ = some (.slice X.ka X.kl X.kc) := by rw [cell_of_row A _ 2 _ _ _ e5A]; rfl
          have q6 : A.cell? ⟨Z + 1, 0, none⟩ = some (.slice none 0 0) := by rw [cell_of_row A _ 0 _ _ _ f6A]; rfl
          obtain ⟨fn, tmps, assign, body, hy, hR⟩ := hY2 S' A hJA
          unfold Fe.enc Fe.cells at hy
          rw [hl0] at hy
          have hDA := (Array.getElem?_eq_some_iff.1 hK).1
          clear e5 k0 k1 hc2 e5A f6A hJz hwz hmz cB cN f6 hJA hY2 b3 hA
          gi_wp2
          refine hR.mono ?_
          rintro e W4 (⟨rfl, S4, hJ4, hw4⟩ | ⟨rfl, S4, hJx4, hw4⟩)
          · have w4 := wA.trans hw4
            have m4 : Marks W.heap.size S4 W4 (mark D :: dd) := mA.keep _ fun D2 q q1 q2 q3 => ⟨fun h => (hw4.new _ h).elim q2 (fun h => by omega), hw4.block D2 q3 q2⟩
            clear hy hR q0 q1 q2 q6
            gi_wp2
            refine ⟨⟨_, _, _, _, _, _, _, _, _, _, _, _, _, _, _, _, _, _, _, _, _, _, _, _, _, _, _, _, _, _, _, _, _, _, _, _, _, _, _, _, _, _, _, mark D :: dd, ⟨j + 1, S4, rfl, by omega, ?_, w4, m4⟩, rfl⟩, ?_⟩
            · rw [show (hitsTo tag fs (j + 1)).length = c + 1 from HL]; exact hJ4
            · simp [intOf]; omega
          · have m4 : Marks W.heap.size S4 W4 (mark D :: dd) := mA.keep _ fun D2 q q1 q2 q3 => ⟨fun h => (hw4.new _ h).elim q2 (fun h => by omega), hw4.block D2 q3 q2⟩
            clear hy hR q0 q1 q2 q6
            gi_wp2
            simp only [Exit.noGoto]
            refine leaves_marks (B := W.heap.size) (S := S4) (fun W5 hR => ⟨_, results_none rfl _ _ _, hR W5 (SameOn.refl _ _)⟩) (mark D :: dd) W4 m4 fun W5 h => ?_
            exact ⟨⟨_, rfl⟩, .inr ⟨c + 1, S4, hc3, hJx _ _ _ _ hJx4 h⟩⟩
    · have t1 : decide ((j : Int) < ((fs.length : Nat) : Int)) = false := by simp; omega
      obtain rfl : j = fs.length := by omega
      gi_wp2
      simp only [Exit.noGoto]
      refine leaves_marks (B := W.heap.size) (S := S) (fun W5 hR => ⟨_, results_none rfl _ _ _, hR W5 (SameOn.refl _ _)⟩) dd wr hmk fun W5 h => ?_
      exact ⟨⟨_, rfl⟩, .inl ⟨S, by rw [← hitsTo_all]; exact hJ _ _ _ _ hJs h⟩⟩
set_option maxHeartbeats 1000000 in
theorem each_in (F : Fence) (n : Nat) (hF : F.fn 16) (hro : F.round = none) (a : Option Addr) (len cap : Nat) (tag : Int) (w : World) :
    CallsIn F n Tryz.prog 16 #[.slice a len cap, .int .i64 tag] w fun e w' =>
      e = .returned (.func (.func 57) #[] #[.pointer (some ⟨w.heap.size, 0, none⟩), .pointer (some ⟨w.heap.size + 1, 0, none⟩)]) ∧
      w' = (w.alloc (.cells #[.slice a len cap] 59)).alloc (.cells #[.int .i64 tag] 3) := by
  refine callsIn_of_wp Tryz.func16 rfl hF ?_ hro
  simp only [Tryz.ntmps16, List.size_toArray, List.length_cons, List.length_nil, Nat.reduceAdd, Nat.reduceSub, Array.replicate_succ, Array.replicate_zero, List.push_toArray, List.append_toArray, List.nil_append, List.cons_append]
  gi_wp2
  go_ret
  exact ⟨by simp, rfl⟩
end Go.Proofs.YtejcandhijdnhaaGreat

/- A range over a function whose rounds' variable is a block of its own. -/
namespace Go.Proofs.YtejcandhijdnhaaGreat
open Go Go.RowKit
set_option linter.unusedVariables false
variable {P : Program} {n : Nat}
/-- THE LOOP, OUT OF ITS BODY, where each round's variable is a block of its own -/
theorem range_lawA {α : Type} {g : Operand} {ps : Array Tmp} {assign body : Code} {Q : Exit → Act → World → Prop} {a : Act} {w : World}
    {gf : Nat} {lb : Array Value} (hg : a.eval g = .func (.func gf) #[] lb) (eg : ∀ args w, (callFunc gf args).run P w = .ok (.enter gf args) w)
    {encs : α → Array Value} {X : Nat → Prop} {xs : List α} (hseq : Iter P gf lb encs X xs w) (hps : ∀ x, (encs x).size = ps.size)
    (I : Nat → (Nat → Prop) → World → Prop) (Ix : Code → Nat → (Nat → Prop) → World → Prop) (S0 : Nat → Prop)
    (hX : ∀ b, X b → b < w.heap.size ∧ ¬ S0 b) (hI : Stable w.heap.size I) (hIx : ∀ c, Stable w.heap.size (Ix c)) (hlt : ∀ k S W, I k S W → ∀ b, S b → b < W.heap.size) (h0 : I 0 S0 w)
    (Af : α → Nat → World → Prop) (hAf : ∀ x m W W', W'.heap[m]? = W.heap[m]? → Af x m W → Af x m W') (a₁ : α → Nat → Act)
    (hassign : ∀ (l k : Nat) (h : k < xs.length) (W : World) (K : Act → World → Prop), (∀ W1, Below W.heap.size W W1 → W.heap.size < W1.heap.size → Af xs[k] W.heap.size W1 → K (a₁ xs[k] W.heap.size) W1) →
      assign.wpIn (Fence.wide.inRound l) 100 P (Exit.then K (fun _ _ _ => False)) { tmps := (ps.zip (encs xs[k])).foldl (fun t (p, v) => t.setIfInBounds p v) a.tmps, defers := [] } W)
    (hbody : ∀ (l k : Nat) (h : k < xs.length) (S : Nat → Prop) (W : World) (m : Nat), I k S W → w.heap.size ≤ m → m < W.heap.size → ¬ S m → Af xs[k] m W →
      body.wpIn (Fence.wide.inRound l) 100 P (RoundPost I Ix k S W) (a₁ xs[k] m) W)
    (hdone : ∀ (D : Nat) (S : Nat → Prop) (W : World), w.heap.size ≤ D → ¬ S D → I xs.length S W → W.heap[D]? = some (.deferred (some [])) →
      Q .normal { a with defers := { target := .collected D, args := #[] } :: a.defers } W)
    (hstop : ∀ (D : Nat) (c : Code) (k : Nat) (S : Nat → Prop) (W : World), w.heap.size ≤ D → ¬ S D → k ≤ xs.length → Ix c k S W → W.heap[D]? = some (.deferred (some [])) →
      c.wpIn Fence.wide n P Q { a with defers := { target := .collected D, args := #[] } :: a.defers } W) :
    (Code.rangeFunc g ps assign body).wpIn Fence.wide n P Q a w := by
  refine wpIn_rangeFunc fun fn hfn => ?_
  obtain ⟨rec, hrec⟩ : ∃ rec : LoopState → Option Code → Loop, rec = fun st pe => { state := st, pending := pe, fn, tmps := a.tmps, params := ps, assign, body, defers := w.heap.size } := ⟨_, rfl⟩
  obtain ⟨V, hV⟩ : ∃ V, V = (w.alloc (.deferred (some []))).alloc (.loop (rec .ready none)) := ⟨_, rfl⟩
  have sV : V.heap.size = w.heap.size + 2 := by rw [hV]; simp
  have lV : V.heap[w.heap.size + 1]? = some (.loop (rec .ready none)) := by
    have := World.alloc_heap_new (w.alloc (.deferred (some []))) (.loop (rec .ready none))
    rw [World.size_alloc] at this; rw [hV]; exact this
  have dV : V.heap[w.heap.size]? = some (.deferred (some [])) := by
    rw [hV]; exact (Below.heap_alloc _ _ _ (by simp)).trans (World.alloc_heap_new w _)
  have bV : Below w.heap.size w V := by rw [hV]; exact ((Below.refl _ w).alloc (Nat.le_refl _) _).alloc (by simp) _
  have s0 : ∀ b, S0 b → b < w.heap.size := hlt _ _ _ h0
  have iV : I 0 S0 V := hI _ _ _ _ h0 ((SameOn.of_below bV).mono fun b hb => hb.elim id (s0 b))
  refine ⟨w.heap.size + 1, [{ target := .collected w.heap.size, args := #[] }], V, { target := .fn (.func gf) lb, args := #[.func (.yield (w.heap.size + 1)) #[] #[]] }, V, gf,
    #[.func (.yield (w.heap.size + 1)) #[] #[]] ++ lb, V, ?_, ?_, fun _ _ => trivial, ?_, fun h => by simp [Fence.wide] at h, callsIn_wide.2 ?_⟩
  · rw [hV, hrec]; exact run_enterLoop_outer _ _ _ _ _
  · simp only [resolve, hg]; simp [go_sem]
  · simp [invoke, go_sem, eg]
  clear hV
  -- the rounds' blocks, with the loop's own two
  obtain ⟨T, hT⟩ : ∃ T : (Nat → Prop) → Nat → Prop, T = fun S b => S b ∨ b = w.heap.size ∨ b = w.heap.size + 1 := ⟨_, rfl⟩
  have T1 : ∀ S b, T S b ↔ (S b ∨ b = w.heap.size ∨ b = w.heap.size + 1) := fun S b => by rw [hT]
  clear hT
  refine (hseq (w.heap.size + 1)
    (fun k S W => ∃ Sc, S = T Sc ∧ I k Sc W ∧ ¬ Sc w.heap.size ∧ ¬ Sc (w.heap.size + 1) ∧ W.heap[w.heap.size + 1]? = some (.loop (rec .ready none)) ∧ W.heap[w.heap.size]? = some (.deferred (some [])))
    (fun k S W => ∃ Sc c, S = T Sc ∧ Ix c k Sc W ∧ ¬ Sc w.heap.size ∧ ¬ Sc (w.heap.size + 1) ∧ W.heap[w.heap.size + 1]? = some (.loop (rec .done (some c))) ∧ W.heap[w.heap.size]? = some (.deferred (some [])))
    (T S0) V bV ?_ ?_ ?_ ?_ ?_ ⟨S0, rfl, iV, fun h => by have := s0 _ h; omega, fun h => by have := s0 _ h; omega, lV, dV⟩).mono ?_
  · rintro k S A A' ⟨Sc, rfl, hi, n1, n2, hl, hd⟩ hs
    exact ⟨Sc, rfl, hI _ _ _ _ hi (hs.mono fun b hb => hb.elim (fun h => .inl (by omega)) (fun h => .inr ((T1 _ _).2 (.inl h)))), n1, n2, (hs.block _ (.inl (by omega))).trans hl, (hs.block _ (.inl (by omega))).trans hd⟩
  · rintro k S A A' ⟨Sc, c, rfl, hi, n1, n2, hl, hd⟩ hs
    exact ⟨Sc, c, rfl, hIx c _ _ _ _ hi (hs.mono fun b hb => hb.elim (fun h => .inl (by omega)) (fun h => .inr ((T1 _ _).2 (.inl h)))), n1, n2, (hs.block _ (.inl (by omega))).trans hl, (hs.block _ (.inl (by omega))).trans hd⟩
  · rintro k S A ⟨Sc, rfl, hi, n1, n2, hl, hd⟩ b hb
    rcases (T1 _ _).1 hb with h | h | h
    · exact hlt _ _ _ hi b h
    · rw [h]; exact (Array.getElem?_eq_some_iff.1 hd).1
    · rw [h]; exact (Array.getElem?_eq_some_iff.1 hl).1
  · intro b hb h
    obtain ⟨h1, h2⟩ := hX b hb
    rcases (T1 _ _).1 h with h3 | h3 | h3
    · exact h2 h3
    · omega
    · omega
  · -- one round
    rintro k hk S W0 ⟨Sc, rfl, hi0, n1, n2, hl0, hd0⟩
    have hy := run_yield (P := P) (args := encs xs[k]) hl0 (by rw [hrec]; exact hps _)
    rw [hrec] at hy
    refine ⟨fn, _, assign, body, hy, roundIn_of_wpIn hfn (hassign _ k hk W0 _ fun W bA sA hAA => ?_)⟩
    clear hy
    have hlt0 : w.heap.size + 1 < W0.heap.size := (Array.getElem?_eq_some_iff.1 hl0).1
    have hl := (bA.block _ hlt0).trans hl0
    have hd := (bA.block _ (by omega)).trans hd0
    have hi : I k Sc W := hI _ _ _ _ hi0 ((SameOn.of_below bA).mono fun b hb => hb.elim (fun h => by omega) (hlt _ _ _ hi0 b))
    have nS : ¬ Sc W0.heap.size := fun h => by have := hlt _ _ _ hi0 _ h; omega
    have wr0 : Wr (T Sc) (T Sc) W0 W := Wr.of_below bA
    have hlt2 : w.heap.size + 1 < W.heap.size := (Array.getElem?_eq_some_iff.1 hl).1
    refine ⟨_, run_beginRound hl (by rw [hrec]), ?_⟩
    obtain ⟨W3, h3⟩ : ∃ W3, W3 = W.putObj (w.heap.size + 1) (.loop { rec .ready none with state := .busy }) := ⟨_, rfl⟩
    have hl3 : W3.heap[w.heap.size + 1]? = some (.loop { rec .ready none with state := .busy }) := by rw [h3]; exact World.putObj_heap_same hlt2
    have hd3 : W3.heap[w.heap.size]? = some (.deferred (some [])) := by rw [h3]; exact (World.putObj_heap_other (by omega)).trans hd
    have hi3 : I k Sc W3 := hI _ _ _ _ hi (by rw [h3]; exact SameOn.putObj _ _ _ (fun h => h.elim (fun h => by omega) n2))
    have hA3 : Af xs[k] W0.heap.size W3 := hAf _ _ _ _ (by rw [h3]; exact World.putObj_heap_other (by omega)) hAA
    have sz3 : W3.heap.size = W.heap.size := by rw [h3]; simp
    have wr3 : Wr (T Sc) (T Sc) W0 W3 := by
      refine wr0.trans ?_
      rw [h3]
      exact ⟨rfl, rfl, rfl, by simp, fun b _ hs => World.putObj_heap_other (fun e => hs ((T1 _ _).2 (.inr (.inr e)))), fun b h => .inl h⟩
    rw [← h3]
    clear h3
    have after : ∀ (jump : Option Code) (Sc' : Nat → Prop) (W4 : World), Wr Sc Sc' W3 W4 →
        ∃ W5, W5 = W4.putObj (w.heap.size + 1) (.loop (rec (if jump.isNone then .ready else .done) jump)) ∧ (Instr.endRound (w.heap.size + 1) jump).run P W4 = .ok (.bool jump.isNone) W5 ∧
        ¬ Sc' w.heap.size ∧ ¬ Sc' (w.heap.size + 1) ∧
        W5.heap[w.heap.size + 1]? = some (.loop (rec (if jump.isNone then .ready else .done) jump)) ∧ W5.heap[w.heap.size]? = some (.deferred (some [])) ∧ Wr (T Sc) (T Sc') W0 W5 := fun jump Sc' W4 hw => by
      have s3 := wr3.size
      have hl4 := (hw.block _ (by omega) n2).trans hl3
      have hd4 := (hw.block _ (by omega) n1).trans hd3
      have m1 : ¬ Sc' w.heap.size := fun h => (hw.new _ h).elim n1 (fun h => by omega)
      have m2 : ¬ Sc' (w.heap.size + 1) := fun h => (hw.new _ h).elim n2 (fun h => by omega)
      have hr := run_endRound (P := P) jump hl4
      have hlt4 := (Array.getElem?_eq_some_iff.1 hl4).1
      rw [hrec] at hr ⊢
      refine ⟨_, rfl, hr, m1, m2, World.putObj_heap_same hlt4, (World.putObj_heap_other (by omega)).trans hd4, ?_⟩
      have w34 : Wr (T Sc) (T Sc') W3 W4 := ⟨hw.os, hw.tape, hw.output, hw.size, fun b hb hs => hw.block b hb (fun h => hs ((T1 _ _).2 (.inl h))),
        fun b hb => ((T1 _ _).1 hb).elim (fun h => (hw.new b h).elim (fun h => .inl ((T1 _ _).2 (.inl h))) .inr) (fun h => .inl ((T1 _ _).2 (.inr h)))⟩
      refine (wr3.trans w34).trans ⟨rfl, rfl, rfl, by simp, fun b _ hs => World.putObj_heap_other (fun e => hs ((T1 _ _).2 (.inr (.inr e)))), fun b h => .inl h⟩
    have leaves : ∀ (c : Code) (Sc' : Nat → Prop) (W4 : World), Ix c (k + 1) Sc' W4 → Wr Sc Sc' W3 W4 → ∃ v W5, (Instr.endRound (w.heap.size + 1) (some c)).run P W4 = .ok v W5 ∧
        (Ending.returned v = .returned (.bool false) ∧ ∃ S', (∃ Sc c, S' = T Sc ∧ Ix c (k + 1) Sc W5 ∧ ¬ Sc w.heap.size ∧ ¬ Sc (w.heap.size + 1) ∧ W5.heap[w.heap.size + 1]? = some (.loop (rec .done (some c))) ∧ W5.heap[w.heap.size]? = some (.deferred (some []))) ∧ Wr (T Sc) S' W0 W5) :=
      fun c Sc' W4 hi4 hw => by
        obtain ⟨W5, e5, hr, m1, m2, hl5, hd5, hw5⟩ := after (some c) Sc' W4 hw
        exact ⟨_, W5, hr, rfl, T Sc', ⟨Sc', c, rfl, hIx c _ _ _ _ hi4 (by rw [e5]; exact SameOn.putObj _ _ _ (fun h => h.elim (fun h => by omega) m2)), m1, m2, hl5, hd5⟩, hw5⟩
    refine wpIn_mono (hbody _ k hk Sc W3 W0.heap.size hi3 (by omega) (by omega) nS hA3) fun e a4 W4 hp => ?_
    cases e with
    | normal =>
      obtain ⟨Sc', hi4, hw⟩ := hp
      obtain ⟨W5, e5, hr, m1, m2, hl5, hd5, hw5⟩ := after none Sc' W4 hw
      exact ⟨_, W5, hr, .inl ⟨rfl, T Sc', ⟨Sc', rfl, hI _ _ _ _ hi4 (by rw [e5]; exact SameOn.putObj _ _ _ (fun h => h.elim (fun h => by omega) m2)), m1, m2, hl5, hd5⟩, hw5⟩⟩
    | ret =>
      obtain ⟨Sc', hi4, hw⟩ := hp
      obtain ⟨v, W5, hr, h⟩ := leaves .ret Sc' W4 hi4 hw
      exact ⟨v, W5, hr, .inr h⟩
    | exit id =>
      obtain ⟨Sc', hi4, hw⟩ := hp
      obtain ⟨v, W5, hr, h⟩ := leaves (.exit id) Sc' W4 hi4 hw
      exact ⟨v, W5, hr, .inr h⟩
    | goto t =>
      obtain ⟨Sc', hi4, hw⟩ := hp
      obtain ⟨v, W5, hr, h⟩ := leaves (.goto t) Sc' W4 hi4 hw
      exact ⟨v, W5, hr, .inr h⟩
    | panic ch => exact hp.elim
    | outgrown => exact hp.elim
  · -- behind the iterator
    rintro e W2 ⟨⟨v, rfl⟩, (⟨S', Sc, rfl, hi, n1, n2, hl, hd⟩ | ⟨k, S', hk, Sc, c, rfl, hi, n1, n2, hl, hd⟩)⟩
    · have he := run_endLoop (P := P) hl (by rw [hrec]; simp)
      have hp : (rec .ready none).pending = none := by rw [hrec]
      rw [hp] at he
      exact ⟨none, _, he, hdone _ Sc _ (Nat.le_refl _) n1 (hI _ _ _ _ hi (SameOn.putObj _ _ _ (fun h => h.elim (fun h => by omega) n2))) ((World.putObj_heap_other (by omega)).trans hd)⟩
    · have he := run_endLoop (P := P) hl (by rw [hrec]; simp)
      have hp : (rec .done (some c)).pending = some c := by rw [hrec]
      rw [hp] at he
      exact ⟨some c, _, he, hstop _ c k Sc _ (Nat.le_refl _) n1 hk (hIx c _ _ _ _ hi (SameOn.putObj _ _ _ (fun h => h.elim (fun h => by omega) n2))) ((World.putObj_heap_other (by omega)).trans hd)⟩
end Go.Proofs.YtejcandhijdnhaaGreat

/- The walk of image.Read: what is refused. -/
namespace Go.Proofs.YtejcandhijdnhaaGreat
open Go Go.RowKit
attribute [local go_sem] Oper.semAt_some upV_value upV_skip upV_enter
set_option linter.unusedVariables false
set_option linter.unnecessarySimpa false
set_option linter.unusedSimpArgs false
theorem leW_bytes (x : Nat) (h : x < 4294967296) : leW (bytesL x) 0 4 = x := by
  unfold bytesL
  simp [leW]
  omega
theorem opens_sealed (zs : List Int) (hz : ∀ z ∈ zs, 0 ≤ z ∧ z ≤ 255) : opens (zs ++ bytesL (sumL zs)) := by
  have e : (zs ++ bytesL (sumL zs)).length - 4 = zs.length := by simp [bytesL]
  unfold opens
  rw [e, List.drop_left, List.take_left, leW_bytes _ (sumL_lt zs hz)]
  exact ⟨by simp [bytesL], rfl⟩
theorem take_sealed (zs : List Int) : (zs ++ bytesL (sumL zs)).take ((zs ++ bytesL (sumL zs)).length - 4) = zs := by
  have e : (zs ++ bytesL (sumL zs)).length - 4 = zs.length := by simp [bytesL]
  rw [e, List.take_left]
def imz : Array Value := #[.slice none 0 0, .slice none 0 0, .slice none 0 0, .slice none 0 0, .slice none 0 0]
theorem imz_one : imz.all (·.oneCell') = true := by unfold imz; simp [Value.oneCell']
theorem read_one : readL 1 [1] = none := readL_short 1 [1] (by decide) (by decide)
theorem read_img : readL 1 (outB imgF) = some imgF := by rw [outB_img]; rfl
set_option maxRecDepth 100000 in
set_option maxHeartbeats 1000000 in
theorem read_sum (W : World) (a : Option Addr) (len cap : Nat) (zs : List Int) (hr : Row8 W.heap.size W (.slice a len cap) zs) (hsm : zs.length ≤ 1000000) (ho : ¬ opens zs) :
    Calls Tryz.prog 5 #[.slice a len cap] W fun e W' => e = .returned (.tuple #[img0, .int .i64 230]) ∧ Below W.heap.size W W' := by
  have kc := fun (V : World) (hV : Below W.heap.size W V) => open_any a len cap zs V ((hr.below hV).mono hV.size) (by omega)
  have KC := Lib.hid kc
  clear hr kc
  go_enter Tryz.func5, Tryz.ntmps5
  go_upto_region 1 with fail
  generalize hV : World.alloc _ _ = V
  have bV : Below W.heap.size W V := by rw [← hV]; exact (Below.refl _ _).alloc (Nat.le_refl _) _
  have e : V.heap[W.heap.size]? = some (.cells imz 29) := by rw [← hV]; exact World.alloc_heap_new _ _
  have sV : W.heap.size < V.heap.size := (Array.getElem?_eq_some_iff.1 e).1
  clear hV
  go_wp2_with (go_at_call 14; refine held ?_)
  unfold Held
  refine Calls.mono ((show ∀ (V : World), Below W.heap.size W V → _ from KC) V bV) ?_
  rintro e' w1 ⟨b1, (⟨h, _⟩ | ⟨_, rfl⟩)⟩
  · exact absurd h ho
  replace e := (b1.block _ sV).trans e
  replace bV := bV.trans (b1.mono bV.size)
  clear KC b1 sV
  go_wp2_with ((fail_if_success (unfold Held)); refine at_store (t := 29) rfl ?_)
  unfold Held
  refine wpList_store_row rfl 29 (.tmp 2) (.tmp 36) rfl W.heap.size imz rfl rfl 29 imz e infoImg rfl imz_one ?_
  obtain ⟨V6, hV6⟩ : ∃ V6, V6 = w1.setRow W.heap.size imz := ⟨_, rfl⟩
  have e6 : V6.heap[W.heap.size]? = some (.cells imz 29) := by rw [hV6]; exact setRow_heap _ _ _ _ _ _ e
  have b6 : Below W.heap.size W V6 := by rw [hV6]; exact below_setRow bV (Nat.le_refl _) _
  rw [← hV6]
  clear hV6 e bV
  go_wp2
  refine bodyPost_ret (results_cellK rfl _ _ _ W.heap.size 29 imz (0, 0) _ rfl e6 Tryz.underlying29 infoImg) rfl ?_
  exact ⟨rfl, b6⟩
set_option maxRecDepth 100000 in
set_option maxHeartbeats 1000000 in
theorem read_tlv (W : World) (a : Option Addr) (len cap : Nat) (zs : List Int) (hr : Row8 W.heap.size W (.slice a len cap) zs) (hsm : zs.length ≤ 1000000) (ho : opens zs) (hn : readL 1 (zs.take (len - 4)) = none) :
    Calls Tryz.prog 5 #[.slice a len cap] W fun e W' => e = .returned (.tuple #[img0, .int .i64 220]) ∧ Below W.heap.size W W' := by
  have kc := fun (V : World) (hV : Below W.heap.size W V) => open_any a len cap zs V ((hr.below hV).mono hV.size) (by omega)
  have hl := hr.1.open.1
  have hby : ∀ z ∈ zs.take (len - 4), 0 ≤ z ∧ z ≤ 255 := fun z hz => hr.2 z (List.mem_of_mem_take hz)
  have hlt : (zs.take (len - 4)).length = len - 4 := by rw [List.length_take]; omega
  obtain ⟨ys, hys⟩ : ∃ ys, ys = zs.take (len - 4) := ⟨_, rfl⟩
  rw [← hys] at kc hby hn hlt
  have KC := Lib.hid kc
  clear hr kc hys
  go_enter Tryz.func5, Tryz.ntmps5
  go_upto_region 1 with fail
  generalize hV : World.alloc _ _ = V
  have bV : Below W.heap.size W V := by rw [← hV]; exact (Below.refl _ _).alloc (Nat.le_refl _) _
  have e : V.heap[W.heap.size]? = some (.cells imz 29) := by rw [← hV]; exact World.alloc_heap_new _ _
  have sV : W.heap.size < V.heap.size := (Array.getElem?_eq_some_iff.1 e).1
  clear hV
  go_wp2_with (go_at_call 14; refine held ?_)
  unfold Held
  refine Calls.mono ((show ∀ (V : World), Below W.heap.size W V → _ from KC) V bV) ?_
  rintro e' w1 ⟨b1, (⟨_, v, rfl, o1⟩ | ⟨h, _⟩)⟩
  rotate_left
  · exact absurd ho h
  obtain ⟨a1, c1, rfl, _⟩ := ownsRow_slice o1
  have r1 : Row8 w1.heap.size w1 (.slice a1 (len - 4) c1) ys := own_row8 (by rw [hlt] at *; exact o1) hby _ _ fun b hb => ⟨rfl, (o1.lt b hb).2⟩
  have kt := tRead_any ys w1 a1 (len - 4) c1 r1 (by omega)
  replace e := (b1.block _ sV).trans e
  replace bV := bV.trans (b1.mono bV.size)
  have s1 : W.heap.size < w1.heap.size := (Array.getElem?_eq_some_iff.1 e).1
  clear KC b1 sV r1 o1 hby hlt
  go_wp2_with (go_at_call 15; refine held ?_)
  unfold Held
  refine Calls.mono kt ?_
  rintro e' w2 ⟨b2, ra, rl, rc, E, rfl, (⟨_, rfl, rfl, rfl, rfl⟩ | ⟨f, hf, _⟩)⟩
  rotate_left
  · rw [hn] at hf; cases hf
  replace e := (b2.block _ s1).trans e
  replace bV := bV.trans (b2.mono bV.size)
  clear kt b2 s1
  go_wp2_with ((fail_if_success (unfold Held)); refine at_store (t := 29) rfl ?_)
  unfold Held
  refine wpList_store_row rfl 29 (.tmp 2) (.tmp 45) rfl W.heap.size imz rfl rfl 29 imz e infoImg rfl imz_one ?_
  obtain ⟨V6, hV6⟩ : ∃ V6, V6 = w2.setRow W.heap.size imz := ⟨_, rfl⟩
  have e6 : V6.heap[W.heap.size]? = some (.cells imz 29) := by rw [hV6]; exact setRow_heap _ _ _ _ _ _ e
  have b6 : Below W.heap.size W V6 := by rw [hV6]; exact below_setRow bV (Nat.le_refl _) _
  rw [← hV6]
  clear hV6 e bV
  go_wp2
  refine bodyPost_ret (results_cellK rfl _ _ _ W.heap.size 29 imz (0, 0) _ rfl e6 Tryz.underlying29 infoImg) rfl ?_
  exact ⟨rfl, b6⟩
end Go.Proofs.YtejcandhijdnhaaGreat

/- The walk of image.Read: a range that tells nothing; what an image's fields are in memory. -/
namespace Go.Proofs.YtejcandhijdnhaaGreat
open Go Go.RowKit
attribute [local go_sem] Oper.semAt_some upV_value upV_skip upV_enter
set_option linter.unusedVariables false
set_option linter.unnecessarySimpa false
set_option linter.unusedSimpArgs false
theorem fes_img {n : Nat} {W : World} {a : Option Addr} {len cap : Nat} (h : SlF n W a len cap imgF) : len = 2 ∧ ∃ x1 x2 : Fe, x1.t = 1 ∧ x2.t = 132 ∧ x2.l = 0 ∧ x2.kl = 4 ∧ SlF n W x2.ka 4 x2.kc kidsF ∧ FesAt W n a [x1, x2] := by
  obtain ⟨h1, h2⟩ := h
  have hl : len = 2 := h1.symm
  subst hl
  refine ⟨rfl, ?_⟩
  rcases h2 with h2 | ⟨b, off, rfl, hb, hc1, hc2, a1, l1, c1, ka1, kl1, kc1, p0, p1, p2, _, _, _, hk1, _, a2, l2, c2, ka2, kl2, kc2, q0, q1, q2, _, _, r2, hk2, k2, _⟩
  · cases h2
  have hl2 : l2 = 0 := r2.1.1.open.1.symm
  have hkl : kl2 = 4 := hk2.symm
  subst hl2; subst hkl
  refine ⟨⟨1, a1, l1, c1, ka1, kl1, kc1⟩, ⟨132, a2, 0, c2, ka2, 4, kc2⟩, rfl, rfl, rfl, rfl, ⟨rfl, k2⟩, .inr ⟨b, off, rfl, hb, ?_⟩⟩
  intro i hi j v hj
  match i, hi with
  | 0, _ =>
    match j with
    | 0 => simp [Fe.cells] at hj; subst hj; exact p0
    | 1 => simp [Fe.cells] at hj; subst hj; exact p1
    | 2 => simp [Fe.cells] at hj; subst hj; exact p2
    | j + 3 => simp [Fe.cells] at hj
  | 1, _ =>
    match j with
    | 0 => simp [Fe.cells] at hj; subst hj; exact q0
    | 1 => simp [Fe.cells] at hj; subst hj; exact q1
    | 2 => simp [Fe.cells] at hj; subst hj; exact q2
    | j + 3 => simp [Fe.cells] at hj
theorem FesAt.below {W W' : World} {n : Nat} {a : Option Addr} {fs : List Fe} (h : FesAt W n a fs) (hb : Below n W W') : FesAt W' n a fs := by
  rcases h with h | ⟨b, off, e, hn, hc⟩
  · exact .inl h
  · exact .inr ⟨b, off, e, hn, fun i hi j v hj => (hb.cell (p := ⟨b, off + i * 3 + j, none⟩) hn).trans (hc i hi j v hj)⟩
theorem FesAt.mono {W : World} {n m : Nat} {a : Option Addr} {fs : List Fe} (h : FesAt W n a fs) (hm : n ≤ m) : FesAt W m a fs := by
  rcases h with h | ⟨b, off, e, hn, hc⟩
  · exact .inl h
  · exact .inr ⟨b, off, e, by omega, hc⟩
theorem FesAt.lt {W : World} {n : Nat} {a : Option Addr} {fs : List Fe} {cap : Nat} (h : FesAt W n a fs) : ∀ b, blockOf (.slice a fs.length cap) b → b < n := fun b hb => by
  rcases h with h | ⟨b2, off, e, hn, hc⟩
  · subst h; cases a with
    | none => exact hb.elim
    | some q => exact absurd hb.1 (by simp)
  · subst e; have : b = b2 := hb.2; omega
theorem hits_two (x1 x2 : Fe) (tag : Int) (h1 : x1.t = 1) (h2 : x2.t = 132) (n1 : tag ≠ 1) (n2 : tag ≠ 132) : hits tag [x1, x2] = [] := by
  unfold hits
  rw [List.filter_cons_of_neg (by simpa [h1] using Ne.symm n1), List.filter_cons_of_neg (by simpa [h2] using Ne.symm n2)]
  rfl
theorem hits_proc (x1 x2 : Fe) (h1 : x1.t = 1) (h2 : x2.t = 132) : hits 132 [x1, x2] = [x2] := by
  unfold hits
  simp [List.filter, h1, h2]
variable {n : Nat}
/-- a range over fields of a tag that is not there -/
theorem range_none {g : Operand} {ps : Array Tmp} {assign body : Code} {Q : Exit → Act → World → Prop} {a : Act} {w : World} (B1 B2 : Nat) (ra : Option Addr) (rc : Nat) (tag : Int) (fs : List Fe)
    (hg : a.eval g = .func (.func 57) #[] #[.pointer (some ⟨B1, 0, none⟩), .pointer (some ⟨B2, 0, none⟩)]) (h1 : B1 < w.heap.size) (h2 : B2 < w.heap.size) (c1 : w.cell? ⟨B1, 0, none⟩ = some (.slice ra fs.length rc)) (c2 : w.cell? ⟨B2, 0, none⟩ = some (.int .i64 tag))
    (hf : FesAt w w.heap.size ra fs) (hsm : fs.length ≤ 1000000) (hn : hits tag fs = []) (hps : ps.size = 2)
    (hdone : ∀ D W', w.heap.size ≤ D → Below w.heap.size w W' → W'.heap[D]? = some (.deferred (some [])) → Q .normal { tmps := a.tmps, defers := mark D :: a.defers } W') :
    (Code.rangeFunc g ps assign body).wpIn Fence.wide n Tryz.prog Q a w := by
  have he : ∀ i (h : i < fs.length), fs[i].t = tag → fs[i].l = 0 := fun i h ht => by
    have : fs[i] ∈ hits tag fs := by unfold hits; exact List.mem_filter.2 ⟨List.getElem_mem _, by simpa using ht⟩
    rw [hn] at this; cases this
  have hit := each1_iter B1 B2 ra rc tag fs w h1 h2 c1 c2 hf hsm he
  rw [hn] at hit
  refine range_lawA (gf := 57) hg (enters_of Tryz.func57 (by kernel_rfl) rfl) hit (fun _ => hps.symm ▸ rfl)
    (fun _ S A => S = (fun _ => False) ∧ Below w.heap.size w A) (fun _ _ _ _ => False) (fun _ => False) ?hX ?hI ?hIx ?hlt ?h0 (fun _ _ _ => True) (fun _ _ _ _ _ _ => trivial) (fun _ _ => a) ?assign ?body ?done ?stop
  case hX =>
    rintro b (rfl | rfl | hb)
    · exact ⟨h1, id⟩
    · exact ⟨h2, id⟩
    · exact ⟨hf.lt b hb, id⟩
  case hI => rintro k S A A' ⟨rfl, hb⟩ hs; exact ⟨rfl, hb.trans (hs.below fun b hb => .inl hb)⟩
  case hIx => rintro c k S A A' h _; exact h
  case hlt => rintro k S A ⟨rfl, _⟩ b hb; exact hb.elim
  case h0 => exact ⟨rfl, Below.refl _ _⟩
  case assign => rintro l k hk; exact absurd hk (by simp)
  case body => rintro l k hk; exact absurd hk (by simp)
  case stop => rintro D c k S A _ _ _ h; exact h.elim
  case done =>
    rintro D S A hD _ ⟨rfl, hb⟩ hK
    exact hdone D A hD hb hK
end Go.Proofs.YtejcandhijdnhaaGreat

/- The walk of image.Read: bytes of a zombie's image, and of no field at all. -/
namespace Go.Proofs.YtejcandhijdnhaaGreat
open Go Go.RowKit
attribute [local go_sem] Oper.semAt_some upV_value upV_skip upV_enter
set_option linter.unusedVariables false
set_option linter.unnecessarySimpa false
set_option linter.unusedSimpArgs false
/-- the marks that ranges have left are taken, whatever lies else -/
theorem leaves_all {F : Fence} {n : Nat} {P : Program} {fn : Func} {tmps : Array Value} {R : Ending → World → Prop} :
    ∀ (ds : List Deferred) (W : World), (∀ d ∈ ds, ∃ D, d = mark D ∧ W.heap[D]? = some (.deferred (some []))) → ds.Nodup →
      (∀ W', SameOn (fun b => mark b ∉ ds) W W' → LeavesInM F n P fn tmps R [] .returning W') → LeavesInM F n P fn tmps R ds .returning W
  | [], W, _, _, hR => hR W (SameOn.refl _ _)
  | d :: ds, W, hm, hn, hR => by
    obtain ⟨D, rfl, h3⟩ := hm d (List.mem_cons_self ..)
    have hn1 := (List.nodup_cons.1 hn)
    refine ⟨by simp, .inl ⟨D, W.putObj D (.deferred none), rfl, run_takeDeferred h3, ?_⟩⟩
    refine leaves_all ds _ (fun d2 h2 => ?_) hn1.2 fun W' h => hR W' ⟨h.os, h.tape, h.output, by have := h.size; simpa using this, fun b hb => ?_⟩
    · obtain ⟨D2, e2, k2⟩ := hm d2 (List.mem_cons_of_mem _ h2)
      refine ⟨D2, e2, (World.putObj_heap_other (fun e => hn1.1 ?_)).trans k2⟩
      rw [e] at e2
      rw [← e2]; exact h2
    · have hb2 : mark b ∉ ds := fun h => hb (List.mem_cons_of_mem _ h)
      have hbD : b ≠ D := fun e => hb (by rw [e]; exact List.mem_cons_self ..)
      exact (h.block b hb2).trans (World.putObj_heap_other hbD)
theorem nodup_marks : ∀ (l : List Nat), l.Pairwise (· ≠ ·) → (l.map mark).Nodup
  | [], _ => List.nodup_nil
  | D :: l, h => by
    rw [List.map_cons, List.nodup_cons]
    rw [List.pairwise_cons] at h
    refine ⟨fun hm => ?_, nodup_marks l h.2⟩
    obtain ⟨D2, h2, e⟩ := List.mem_map.1 hm
    exact h.1 D2 h2 (mark_inj e).symm
/-- a range over fields of a tag that is not there, as it lies in a body -/
theorem range_none2 {n : Nat} {g : Operand} {ps : Array Tmp} {assign body : Code} {Q : Exit → Act → World → Prop} {a : Act} {w : World} (X : World) (ra : Option Addr) (rl rc : Nat) (tag : Int) (fs : List Fe)
    (hw : w = (X.alloc (.cells #[.slice ra rl rc] 59)).alloc (.cells #[.int .i64 tag] 3))
    (hg : a.eval g = .func (.func 57) #[] #[.pointer (some ⟨X.heap.size, 0, none⟩), .pointer (some ⟨X.heap.size + 1, 0, none⟩)])
    (hl : fs.length = rl) (hf : FesAt X X.heap.size ra fs) (hsm : fs.length ≤ 1000000) (hn : hits tag fs = []) (hps : ps.size = 2)
    (hdone : ∀ D W', X.heap.size ≤ D → Below X.heap.size X W' → W'.heap[D]? = some (.deferred (some [])) → Q .normal { tmps := a.tmps, defers := mark D :: a.defers } W') :
    (Code.rangeFunc g ps assign body).wpIn Fence.wide n Tryz.prog Q a w := by
  subst hl
  have sz : w.heap.size = X.heap.size + 2 := by rw [hw]; simp
  have b : Below X.heap.size X w := by rw [hw]; exact ((Below.refl _ _).alloc (Nat.le_refl _) _).alloc (by simp) _
  have e1 : w.heap[X.heap.size]? = some (.cells #[.slice ra fs.length rc] 59) := by
    rw [hw, ((Below.refl _ _).alloc (Nat.le_refl _) _ : Below _ _ _).block _ (by simp)]; exact World.alloc_heap_new _ _
  have e2 : w.heap[X.heap.size + 1]? = some (.cells #[.int .i64 tag] 3) := by
    rw [hw]; have := World.alloc_heap_new (X.alloc (.cells #[.slice ra fs.length rc] 59)) (Obj.cells #[.int .i64 tag] 3); simpa using this
  refine range_none (X.heap.size) (X.heap.size + 1) ra rc tag fs hg (by omega) (by omega) (by rw [cell_of_row w _ 0 _ _ _ e1]; rfl) (by rw [cell_of_row w _ 0 _ _ _ e2]; rfl) ((hf.below b).mono (by omega)) hsm hn hps ?_
  intro D W' hD hb hd
  exact hdone D W' (by omega) (b.trans (hb.mono (by omega))) hd
set_option maxRecDepth 100000 in
set_option maxHeartbeats 4000000 in
theorem read_empty (W : World) (a : Option Addr) (len cap : Nat) (zs : List Int) (hr : Row8 W.heap.size W (.slice a len cap) zs) (hsm : zs.length ≤ 1000000) (ho : opens zs) (hn : readL 1 (zs.take (len - 4)) = some .nil) :
    Calls Tryz.prog 5 #[.slice a len cap] W fun e W' => e = .returned (.tuple #[img0, .int .i64 240]) ∧ Below W.heap.size W W' := by
  have kc := fun (V : World) (hV : Below W.heap.size W V) => open_any a len cap zs V ((hr.below hV).mono hV.size) (by omega)
  have hl := hr.1.open.1
  have hby : ∀ z ∈ zs.take (len - 4), 0 ≤ z ∧ z ≤ 255 := fun z hz => hr.2 z (List.mem_of_mem_take hz)
  have hlt : (zs.take (len - 4)).length = len - 4 := by rw [List.length_take]; omega
  obtain ⟨ys, hys⟩ : ∃ ys, ys = zs.take (len - 4) := ⟨_, rfl⟩
  rw [← hys] at kc hby hn hlt
  have KC := Lib.hid kc
  clear hr kc hys
  refine (callsIn_wide (n := 102)).1 ?_
  refine callsIn_of_wp_marks Tryz.func5 rfl trivial ?_ rfl
  simp only [Tryz.ntmps5, List.size_toArray, List.length_cons, List.length_nil, Nat.reduceAdd, Nat.reduceSub, Array.replicate_succ, Array.replicate_zero, List.push_toArray, List.append_toArray, List.nil_append, List.cons_append]
  have hch : Fence.wide.fn 14 := trivial
  have hch2 : Fence.wide.fn 15 := trivial
  have hch3 : Fence.wide.fn 16 := trivial
  have hch4 : Fence.wide.fn 21 := trivial
  gi_wp2_with (gi_at_call 14; refine held ?_)
  unfold Held
  refine (callsIn_wide.2 ((show ∀ (V : World), Below W.heap.size W V → _ from KC) _ (by exact (Below.refl _ _).alloc (Nat.le_refl _) _))).mono ?_
  obtain ⟨V, hV⟩ : ∃ V, V = W.alloc (.cells imz 29) := ⟨_, rfl⟩
  have bV : Below W.heap.size W V := by rw [hV]; exact (Below.refl _ _).alloc (Nat.le_refl _) _
  have e : V.heap[W.heap.size]? = some (.cells imz 29) := by rw [hV]; exact World.alloc_heap_new _ _
  have sV : W.heap.size < V.heap.size := (Array.getElem?_eq_some_iff.1 e).1
  clear KC
  rintro e' w1 ⟨b1, (⟨_, v, rfl, o1⟩ | ⟨h, _⟩)⟩
  rotate_left
  · exact absurd ho h
  rw [show (W.alloc (.cells #[.slice none 0 0, .slice none 0 0, .slice none 0 0, .slice none 0 0, .slice none 0 0] 29)) = V from hV.symm] at b1 o1
  clear hV
  obtain ⟨a1, c1, rfl, _⟩ := ownsRow_slice o1
  have r1 : Row8 w1.heap.size w1 (.slice a1 (len - 4) c1) ys := own_row8 (by rw [hlt] at *; exact o1) hby _ _ fun b hb => ⟨rfl, (o1.lt b hb).2⟩
  have kt := tRead_any ys w1 a1 (len - 4) c1 r1 (by omega)
  replace e := (b1.block _ sV).trans e
  replace bV := bV.trans (b1.mono bV.size)
  have s1 : W.heap.size < w1.heap.size := (Array.getElem?_eq_some_iff.1 e).1
  clear b1 sV r1 o1 hby hlt
  gi_wp2_with (gi_at_call 15; refine held ?_)
  unfold Held
  refine (callsIn_wide.2 kt).mono ?_
  rintro e' w2 ⟨b2, ra, rl, rc, E, rfl, (⟨h, rfl, rfl, rfl, rfl⟩ | ⟨f, hf, rfl, hS⟩)⟩
  · rw [hn] at h; cases h
  obtain rfl : f = .nil := by rw [hn] at hf; injection hf with h; exact h.symm
  obtain rfl : rl = 0 := hS.1.symm
  replace e := (b2.block _ s1).trans e
  replace bV := bV.trans (b2.mono bV.size)
  have s2 := b2.size
  clear kt b2 hS hf hn
  have hF0 : ∀ X : World, FesAt X X.heap.size ra [] := fun X => .inl rfl
  gi_wp2_with (gi_at_call 16; refine (each_in Fence.wide _ trivial rfl _ _ _ _ _).mono ?_; rintro e' w' ⟨rfl, rfl⟩)
  have q2 := Lib.hid s2
  clear s2
  obtain ⟨X1, hX1⟩ : ∃ X1, X1 = w2.alloc (.cells imz 29) := ⟨_, rfl⟩
  have x1 : X1.heap[w2.heap.size]? = some (.cells imz 29) := by rw [hX1]; exact World.alloc_heap_new _ _
  have s2 : X1.heap.size = w2.heap.size + 1 := by rw [hX1]; simp
  have bX : Below W.heap.size W X1 := by rw [hX1]; exact bV.alloc bV.size _
  have e1 : X1.heap[W.heap.size]? = some (.cells imz 29) := by rw [hX1]; exact (Below.heap_alloc _ _ _ (Array.getElem?_eq_some_iff.1 e).1).trans e
  have hsX : w2.heap.size + 1 = X1.heap.size := s2.symm
  rw [hsX]
  refine range_none2 X1 ra 0 rc 2 [] (by rw [hX1]; rfl) rfl rfl (hF0 _) (by decide) rfl rfl ?_
  intro D1 W1 hD1 hb1 hd1
  replace x1 := (hb1.block _ (by omega)).trans x1
  have l0 : w2.heap.size < X1.heap.size := by omega
  clear s2 hsX
  replace e1 := (hb1.block _ (Array.getElem?_eq_some_iff.1 e1).1).trans e1
  replace bX := bX.trans (hb1.mono bX.size)
  have l1 := (Array.getElem?_eq_some_iff.1 hd1).1
  clear hX1 hb1 e
  dsimp only
  gi_wp2_with (gi_at_call 16; refine (each_in Fence.wide _ trivial rfl _ _ _ _ _).mono ?_; rintro e' w' ⟨rfl, rfl⟩)
  refine range_none2 W1 ra 0 rc 131 [] rfl rfl rfl (hF0 _) (by decide) rfl rfl ?_
  intro D2 W2 hD2 hb2 hd2
  replace x1 := (hb2.block _ (Array.getElem?_eq_some_iff.1 x1).1).trans x1
  replace e1 := (hb2.block _ (Array.getElem?_eq_some_iff.1 e1).1).trans e1
  replace bX := bX.trans (hb2.mono bX.size)
  replace hd1 := (hb2.block _ (by omega)).trans hd1
  have l2 := (Array.getElem?_eq_some_iff.1 hd2).1
  have m2 := hb2.size
  clear hb2
  dsimp only
  gi_wp2_with (gi_at_call 16; refine (each_in Fence.wide _ trivial rfl _ _ _ _ _).mono ?_; rintro e' w' ⟨rfl, rfl⟩)
  refine range_none2 W2 ra 0 rc 6 [] rfl rfl rfl (hF0 _) (by decide) rfl rfl ?_
  intro D3 W3 hD3 hb3 hd3
  replace x1 := (hb3.block _ (Array.getElem?_eq_some_iff.1 x1).1).trans x1
  replace e1 := (hb3.block _ (Array.getElem?_eq_some_iff.1 e1).1).trans e1
  replace bX := bX.trans (hb3.mono bX.size)
  replace hd1 := (hb3.block _ (by omega)).trans hd1
  replace hd2 := (hb3.block _ (by omega)).trans hd2
  have l3 := (Array.getElem?_eq_some_iff.1 hd3).1
  have m3 := hb3.size
  clear hb3
  dsimp only
  gi_wp2_with (gi_at_call 16; refine (each_in Fence.wide _ trivial rfl _ _ _ _ _).mono ?_; rintro e' w' ⟨rfl, rfl⟩)
  refine range_none2 W3 ra 0 rc 132 [] rfl rfl rfl (hF0 _) (by decide) rfl rfl ?_
  intro D4 W4 hD4 hb4 hd4
  replace x1 := (hb4.block _ (Array.getElem?_eq_some_iff.1 x1).1).trans x1
  replace e1 := (hb4.block _ (Array.getElem?_eq_some_iff.1 e1).1).trans e1
  replace bX := bX.trans (hb4.mono bX.size)
  replace hd1 := (hb4.block _ (by omega)).trans hd1
  replace hd2 := (hb4.block _ (by omega)).trans hd2
  replace hd3 := (hb4.block _ (by omega)).trans hd3
  have l4 := (Array.getElem?_eq_some_iff.1 hd4).1
  have m4 := hb4.size
  clear hb4
  dsimp only
  gi_wp2_with (gi_at_call 16; refine (each_in Fence.wide _ trivial rfl _ _ _ _ _).mono ?_; rintro e' w' ⟨rfl, rfl⟩)
  refine range_none2 W4 ra 0 rc 19 [] rfl rfl rfl (hF0 _) (by decide) rfl rfl ?_
  intro D5 W5 hD5 hb5 hd5
  replace x1 := (hb5.block _ (Array.getElem?_eq_some_iff.1 x1).1).trans x1
  replace e1 := (hb5.block _ (Array.getElem?_eq_some_iff.1 e1).1).trans e1
  replace bX := bX.trans (hb5.mono bX.size)
  replace hd1 := (hb5.block _ (by omega)).trans hd1
  replace hd2 := (hb5.block _ (by omega)).trans hd2
  replace hd3 := (hb5.block _ (by omega)).trans hd3
  replace hd4 := (hb5.block _ (by omega)).trans hd4
  have l5 := (Array.getElem?_eq_some_iff.1 hd5).1
  have m5 := hb5.size
  clear hb5
  dsimp only
  have hcI : ∀ j v, imz.toList[j]? = some v → W5.cell? ⟨w2.heap.size, 0 + j, none⟩ = some v := fun j v hv => by
    rw [Nat.zero_add, cell_of_row W5 _ _ _ _ _ x1]; simpa using hv
  have kb := bytes_bad W5 imz rfl (fun V _ => check_empty V)
  gi_wp2_with first
    | (refine wpListIn_load_at rfl 29 (.tmp 7) rfl w2.heap.size 0 rfl imz.toList _ hcI Tryz.underlying29 rfl infoImg ?_)
    | (gi_at_call 21; refine held ?_)
  unfold Held
  refine (callsIn_wide.2 kb).mono ?_
  rintro e' W6 ⟨rfl, b6⟩
  replace e1 := (b6.block _ (Array.getElem?_eq_some_iff.1 e1).1).trans e1
  replace bX := bX.trans (b6.mono bX.size)
  replace hd1 := (b6.block _ (by omega)).trans hd1
  replace hd2 := (b6.block _ (by omega)).trans hd2
  replace hd3 := (b6.block _ (by omega)).trans hd3
  replace hd4 := (b6.block _ (by omega)).trans hd4
  replace hd5 := (b6.block _ (by omega)).trans hd5
  clear b6 kb hcI x1
  gi_wp2_with ((fail_if_success (unfold Held)); refine at_storeIn (t := 29) rfl ?_)
  unfold Held
  refine wpListIn_store_row rfl 29 (.tmp 2) (.tmp 185) rfl W.heap.size imz rfl rfl 29 imz e1 infoImg rfl imz_one ?_
  obtain ⟨V6, hV6⟩ : ∃ V6, V6 = W6.setRow W.heap.size imz := ⟨_, rfl⟩
  have e6 : V6.heap[W.heap.size]? = some (.cells imz 29) := by rw [hV6]; exact setRow_heap _ _ _ _ _ _ e1
  have b6 : Below W.heap.size W V6 := by rw [hV6]; exact below_setRow bX (Nat.le_refl _) _
  have n0 := bX.size
  have lW : W.heap.size < w2.heap.size := Nat.lt_of_lt_of_le s1 q2
  have hd : ∀ D, W.heap.size < D → W6.heap[D]? = some (.deferred (some [])) → V6.heap[D]? = some (.deferred (some [])) := fun D h1 h2 => by rw [hV6, setRow_other _ _ _ _ (by omega)]; exact h2
  rw [← hV6]
  replace hd1 := hd D1 (by omega) hd1
  replace hd2 := hd D2 (by omega) hd2
  replace hd3 := hd D3 (by omega) hd3
  replace hd4 := hd D4 (by omega) hd4
  replace hd5 := hd D5 (by omega) hd5
  clear hV6 e1 bX hd
  gi_wp2
  have mk : ∀ b, b ≤ W.heap.size → mark b ∉ [mark D5, mark D4, mark D3, mark D2, mark D1] := fun b hb h => by
    simp only [List.mem_cons, List.not_mem_nil, or_false] at h
    rcases h with h | h | h | h | h <;> (have := mark_inj h; omega)
  refine leaves_all [mark D5, mark D4, mark D3, mark D2, mark D1] V6 ?_ ?_ fun W' hs => ?_
  · intro d h
    simp only [List.mem_cons, List.not_mem_nil, or_false] at h
    rcases h with rfl | rfl | rfl | rfl | rfl
    · exact ⟨_, rfl, hd5⟩
    · exact ⟨_, rfl, hd4⟩
    · exact ⟨_, rfl, hd3⟩
    · exact ⟨_, rfl, hd2⟩
    · exact ⟨_, rfl, hd1⟩
  · refine nodup_marks [D5, D4, D3, D2, D1] ?_
    simp only [List.pairwise_cons, List.mem_cons, List.not_mem_nil, or_false, forall_eq_or_imp, forall_eq, false_implies, implies_true, and_true, List.Pairwise.nil]
    omega
  · have e7 : W'.heap[W.heap.size]? = some (.cells imz 29) := (hs.block _ (mk _ (Nat.le_refl _))).trans e6
    exact ⟨_, results_cellK rfl _ _ _ W.heap.size 29 imz (0, 0) _ rfl e7 Tryz.underlying29 infoImg, rfl, b6.trans (hs.below fun b hb => mk b (by omega))⟩
end Go.Proofs.YtejcandhijdnhaaGreat

/- The walk of image.Read: bytes of a zombie's image. -/
namespace Go.Proofs.YtejcandhijdnhaaGreat
open Go Go.RowKit
attribute [local go_sem] Oper.semAt_some upV_value upV_skip upV_enter
set_option linter.unusedVariables false
set_option linter.unnecessarySimpa false
set_option linter.unusedSimpArgs false
section
variable {P : Program} {o : Oper} {a : Act} {w : World}
/-- a slice literal of one element -/
theorem upV_buildSlice_one {K : Value → World → Prop} (t e : TypeId) (x : Operand) (ho : o.op = .buildSlice t 1 #[(0, x)]) (v : Value) (hv : a.eval x = v) (cs : Array Value) (hcs : v.cells = cs) (ie : TypeInfo) (z : Value)
    (hu : P.underlying t = some (.slice e)) (hie : P.info? e = some ie) (hz : ie.zero = some z) (hsz : ie.size = cs.size) (hpos : 0 < cs.size) (hsm : cs.size ≤ 1000) (h : K (.slice (some ⟨w.heap.size, 0, none⟩) 1 1) (w.alloc (.cells cs e))) :
    upV P K ((execOp a.eval o).run P w) := by
  have hf : Instr.fill (fun i => some (i * ie.size, ie.size)) ((Array.range (1 * ie.size)).map (z.cells[· % z.cells.size]!)) [(0, v)] = some cs := by
    have := Great.fill_whole (s := ie.size) (by omega) [v] ((Array.range (1 * ie.size)).map (z.cells[· % z.cells.size]!)) (fun u hu => by
      have : u = v := by simpa using hu
      rw [this, hcs, hsz]) (by simp)
    rw [show ([v].zipIdx 0).map (fun x => (x.2, x.1)) = [(0, v)] from rfl] at this
    rw [this]; simp [hcs]
  have hr := run_buildSlice (P := P) w t e 1 #[(0, v)] cs ie z hu hie hz (by omega) (by omega) hf
  have hp : (#[(0, x)].map fun (x : Nat × Operand) => (x.1, a.eval x.2)) = #[(0, v)] := by simp [hv]
  unfold execOp
  simp only [ho, Sem.run_bind]
  rw [hp, hr]
  simp only [Result.andThen_ok, Sem.run_pure, upV]
  exact h
end
theorem info_proc : (Tryz.prog.info? 54).map (fun i => (i.zero, i.size, i.bytes)) = some (some (.agg procZ), 55, 368) := by kernel_rfl
theorem ownsRow_formI {W : World} {base : Nat} {e : TypeId} {size : Nat} {v : Value} {n : Nat} {xs : List Value} (h : W.ownsRow base e size v n xs) (hn : 0 < n) : ∃ g cap, v = .slice (some ⟨g, 0, none⟩) n cap := by
  rcases h.2 with ⟨_, h0⟩ | ⟨g', cap, cur, rfl, _⟩
  · omega
  · exact ⟨_, _, rfl⟩
theorem cell_heap {W W' : World} {b : Nat} (h : W'.heap[b]? = W.heap[b]?) (off : Nat) : W'.cell? ⟨b, off, none⟩ = W.cell? ⟨b, off, none⟩ := by
  simp only [World.cell?, h]
/-- what the loop over processes holds: none yet, or a zombie -/
def ZomI (X : World) (BX : Nat) (k : Nat) (S : Nat → Prop) (A : World) : Prop :=
  (k = 0 ∧ S = (fun b => b = BX) ∧ A.heap[BX]? = some (.cells imz 29) ∧ Below X.heap.size X A) ∨
  (k = 1 ∧ ∃ x cp, S = (fun b => b = BX ∨ b = x) ∧ A.heap[BX]? = some (.cells (imC x cp) 29) ∧ ZomAt A x (procC 2 7 0) ∧ X.heap.size ≤ x ∧ Wr (fun b => b = BX) S X A)
/-- the loop over processes: one zombie -/
theorem range_zom {n : Nat} {g : Operand} {ps : Array Tmp} {assign body : Code} {Q : Exit → Act → World → Prop} {a : Act} {w : World} (X : World) (BX : Nat) (ra : Option Addr) (rl rc : Nat) (x1 x2 : Fe) (t1 t2 t3 : Tmp)
    (hw : w = (X.alloc (.cells #[.slice ra rl rc] 59)).alloc (.cells #[.int .i64 132] 3))
    (hg : a.eval g = .func (.func 57) #[] #[.pointer (some ⟨X.heap.size, 0, none⟩), .pointer (some ⟨X.heap.size + 1, 0, none⟩)])
    (hl : 2 = rl) (hBX : BX < X.heap.size) (eX : X.heap[BX]? = some (.cells imz 29)) (hf : FesAt X BX ra [x1, x2]) (h1 : x1.t = 1) (h2 : x2.t = 132) (hx0 : x2.l = 0) (hps : ps = #[t1, t2])
    (hassign : ∀ l W (K : Act → World → Prop), (∀ W1, Below W.heap.size W W1 → W.heap.size < W1.heap.size → W1.heap[W.heap.size]? = some (.cells x2.cells.toArray 66) →
        K { tmps := ((a.tmps.setIfInBounds t1 (.agg x2.cells.toArray)).setIfInBounds t2 (.slice none 0 0)).setIfInBounds t3 (.pointer (some ⟨W.heap.size, 0, none⟩)), defers := [] } W1) →
      assign.wpIn (Fence.wide.inRound l) 100 Tryz.prog (Exit.then K (fun _ _ _ => False)) { tmps := (a.tmps.setIfInBounds t1 (.agg x2.cells.toArray)).setIfInBounds t2 (.slice none 0 0), defers := [] } W)
    (hbody : ∀ l W m, Below X.heap.size X W → X.heap.size ≤ m → m < W.heap.size → W.heap[m]? = some (.cells x2.cells.toArray 66) →
      body.wpIn (Fence.wide.inRound l) 100 Tryz.prog (fun e _ W' => e = .normal ∧ ∃ x cp, W'.heap[BX]? = some (.cells (imC x cp) 29) ∧ ZomAt W' x (procC 2 7 0) ∧ W.heap.size ≤ x ∧ Wr (fun b => b = BX) (fun b => b = BX ∨ b = x) W W')
        { tmps := ((a.tmps.setIfInBounds t1 (.agg x2.cells.toArray)).setIfInBounds t2 (.slice none 0 0)).setIfInBounds t3 (.pointer (some ⟨m, 0, none⟩)), defers := [] } W)
    (hdone : ∀ D W' x cp, X.heap.size ≤ D → D ≠ x → W'.heap[BX]? = some (.cells (imC x cp) 29) → ZomAt W' x (procC 2 7 0) → X.heap.size ≤ x → (∀ b, b < X.heap.size → b ≠ BX → W'.heap[b]? = X.heap[b]?) → X.heap.size ≤ W'.heap.size → Below BX X W' →
      W'.heap[D]? = some (.deferred (some [])) → Q .normal { tmps := a.tmps, defers := mark D :: a.defers } W') :
    (Code.rangeFunc g ps assign body).wpIn Fence.wide n Tryz.prog Q a w := by
  subst hl hps
  have sz : w.heap.size = X.heap.size + 2 := by rw [hw]; simp
  have b : Below X.heap.size X w := by rw [hw]; exact ((Below.refl _ _).alloc (Nat.le_refl _) _).alloc (by simp) _
  have e1 : w.heap[X.heap.size]? = some (.cells #[.slice ra 2 rc] 59) := by
    rw [hw, ((Below.refl _ _).alloc (Nat.le_refl _) _ : Below _ _ _).block _ (by simp)]; exact World.alloc_heap_new _ _
  have e2 : w.heap[X.heap.size + 1]? = some (.cells #[.int .i64 132] 3) := by
    rw [hw]; have := World.alloc_heap_new (X.alloc (.cells #[.slice ra 2 rc] 59)) (Obj.cells #[.int .i64 132] 3); simpa using this
  clear hw
  have hfl := hf.lt (cap := rc)
  have hit := each1_iter (X.heap.size) (X.heap.size + 1) ra rc 132 [x1, x2] w (by omega) (by omega) (by rw [cell_of_row w _ 0 _ _ _ e1]; rfl) (by rw [cell_of_row w _ 0 _ _ _ e2]; rfl) ((hf.below (b.mono (by omega))).mono (by omega)) (by simp) (fun i h ht => by
    match i, h with
    | 0, _ => simp [h1] at ht
    | 1, _ => exact hx0)
  rw [hits_proc x1 x2 h1 h2] at hit
  refine range_lawA (gf := 57) hg (enters_of Tryz.func57 (by kernel_rfl) rfl) hit (fun _ => rfl)
    (ZomI X BX) (fun _ _ _ _ => False) (fun b => b = BX) ?hX ?hI ?hIx ?hlt ?h0 (fun x m W => W.heap[m]? = some (.cells x.cells.toArray 66)) (fun x m W W' hs h => hs.trans h)
    (fun x m => { tmps := ((a.tmps.setIfInBounds t1 (.agg x.cells.toArray)).setIfInBounds t2 (.slice none 0 0)).setIfInBounds t3 (.pointer (some ⟨m, 0, none⟩)), defers := [] }) ?assign ?body ?done ?stop
  case hX =>
    rintro b (rfl | rfl | hb)
    · exact ⟨by omega, fun h => by omega⟩
    · exact ⟨by omega, fun h => by omega⟩
    · have := hfl b hb
      exact ⟨by omega, fun h => by omega⟩
  case hI =>
    rintro k S A A' (⟨rfl, rfl, h3, h4⟩ | ⟨rfl, x, cp, rfl, h3, h4, h5, h6⟩) hs
    · exact .inl ⟨rfl, rfl, (hs.block _ (.inr rfl)).trans h3, h4.trans (hs.below fun b hb => .inl (by omega))⟩
    · refine .inr ⟨rfl, x, cp, rfl, (hs.block _ (.inr (.inl rfl))).trans h3, ⟨Nat.lt_of_lt_of_le h4.1 hs.size, fun j v hj => ?_⟩, h5, ⟨hs.os.trans h6.os, hs.tape.trans h6.tape, hs.output.trans h6.output, Nat.le_trans h6.size hs.size, fun b h7 h8 => (hs.block b (.inl (by omega))).trans (h6.block b h7 h8), h6.new⟩⟩
      exact (cell_heap (hs.block x (.inr (.inr rfl))) _).trans (h4.2 j v hj)
  case hIx => rintro c k S A A' h _; exact h
  case hlt =>
    rintro k S A (⟨rfl, rfl, h3, h4⟩ | ⟨rfl, x, cp, rfl, h3, h4, h5, h6⟩) c hc
    · rw [hc]; exact (Array.getElem?_eq_some_iff.1 h3).1
    · rcases hc with rfl | rfl
      · exact (Array.getElem?_eq_some_iff.1 h3).1
      · exact h4.1
  case h0 => exact .inl ⟨rfl, rfl, (b.block _ hBX).trans eX, b⟩
  case assign =>
    intro l k hk W K hK
    obtain rfl : k = 0 := by simp at hk; omega
    have e : (Array.foldl (fun t (x : Tmp × Value) => match x with | (p, v) => t.setIfInBounds p v) a.tmps (#[t1, t2].zip (Fe.enc x2))) = (a.tmps.setIfInBounds t1 (.agg x2.cells.toArray)).setIfInBounds t2 (.slice none 0 0) := by simp [Fe.enc]
    rw [show [x2][0] = x2 from rfl, e]
    exact hassign l W K hK
  case body =>
    rintro l k hk S A m (⟨rfl, rfl, h3, h4⟩ | ⟨rfl, h3⟩) hm1 hm2 hm3 hA
    · refine wpIn_mono (hbody l A m h4 (by omega) hm2 hA) ?_
      rintro e a' W' ⟨rfl, x, cp, q1, q2, q3, q4⟩
      refine ⟨_, .inr ⟨rfl, x, cp, rfl, q1, q2, by have := h4.size; omega, (Wr.of_below (S := fun b => b = BX) h4).trans q4⟩, q4⟩
    · exact absurd hk (by simp)
  case stop => rintro D c k S A _ _ _ h; exact h.elim
  case done =>
    rintro D S A hD hDS (⟨h3, _⟩ | ⟨_, x, cp, rfl, h3, h4, h5, h6⟩) hK
    · exact absurd h3 (by simp)
    · refine hdone D A x cp (by omega) (fun h => hDS (.inr h)) h3 h4 h5 (fun c hc hn => h6.block c hc hn) h6.size ⟨h6.os, h6.tape, h6.output, h6.size, fun c hc => h6.block c (by omega) (by omega)⟩ hK
set_option maxRecDepth 100000 in
set_option maxHeartbeats 8000000 in
theorem read_zombie (W : World) (a : Option Addr) (cap : Nat) (hr : Row8 W.heap.size W (.slice a 74 cap) zomB) :
    Calls Tryz.prog 5 #[.slice a 74 cap] W fun e W' => ∃ x cp, e = .returned (.tuple #[imgV x cp, .int .i64 0]) ∧ ZomAt W' x (procC 2 7 0) ∧ Below W.heap.size W W' := by
  have kc := fun (V : World) (hV : Below W.heap.size W V) => open_any a 74 cap zomB V ((hr.below hV).mono hV.size) (by rw [zomB_len]; decide)
  have HR := Lib.hid hr
  have ho : opens zomB := opens_sealed _ (by rw [outB_img]; decide)
  have hT : zomB.take (74 - 4) = outB imgF := by have := take_sealed (outB imgF); rw [show outB imgF ++ bytesL (sumL (outB imgF)) = zomB from rfl, zomB_len] at this; exact this
  rw [hT] at kc
  have hby : ∀ z ∈ outB imgF, 0 ≤ z ∧ z ≤ 255 := by rw [outB_img]; decide
  have hlt : (outB imgF).length = 70 := by rw [outB_img]; rfl
  have hn : readL 1 (outB imgF) = some imgF := read_img
  obtain ⟨ys, hys⟩ : ∃ ys, ys = outB imgF := ⟨_, rfl⟩
  rw [← hys] at kc hby hn hlt
  have KC := Lib.hid kc
  clear hr kc hys hT
  refine (callsIn_wide (n := 102)).1 ?_
  refine callsIn_of_wp_marks Tryz.func5 rfl trivial ?_ rfl
  simp only [Tryz.ntmps5, List.size_toArray, List.length_cons, List.length_nil, Nat.reduceAdd, Nat.reduceSub, Array.replicate_succ, Array.replicate_zero, List.push_toArray, List.append_toArray, List.nil_append, List.cons_append]
  have hch : Fence.wide.fn 14 := trivial
  have hch2 : Fence.wide.fn 15 := trivial
  have hch3 : Fence.wide.fn 16 := trivial
  have hch4 : Fence.wide.fn 21 := trivial
  gi_wp2_with (gi_at_call 14; refine held ?_)
  unfold Held
  refine (callsIn_wide.2 ((show ∀ (V : World), Below W.heap.size W V → _ from KC) _ (by exact (Below.refl _ _).alloc (Nat.le_refl _) _))).mono ?_
  obtain ⟨V, hV⟩ : ∃ V, V = W.alloc (.cells imz 29) := ⟨_, rfl⟩
  have bV : Below W.heap.size W V := by rw [hV]; exact (Below.refl _ _).alloc (Nat.le_refl _) _
  have e : V.heap[W.heap.size]? = some (.cells imz 29) := by rw [hV]; exact World.alloc_heap_new _ _
  have sV : W.heap.size < V.heap.size := (Array.getElem?_eq_some_iff.1 e).1
  clear KC
  rintro e' w1 ⟨b1, (⟨_, v, rfl, o1⟩ | ⟨h, _⟩)⟩
  rotate_left
  · exact absurd ho h
  rw [show (W.alloc (.cells #[.slice none 0 0, .slice none 0 0, .slice none 0 0, .slice none 0 0, .slice none 0 0] 29)) = V from hV.symm] at b1 o1
  clear hV ho
  obtain ⟨a1, c1, rfl, _⟩ := ownsRow_slice o1
  have r1 : Row8 w1.heap.size w1 (.slice a1 70 c1) ys := own_row8 (by rw [hlt] at *; exact o1) hby _ _ fun b hb => ⟨rfl, (o1.lt b hb).2⟩
  have kt := tRead_any ys w1 a1 70 c1 r1 (by omega)
  replace e := (b1.block _ sV).trans e
  replace bV := bV.trans (b1.mono bV.size)
  have s1 : W.heap.size < w1.heap.size := (Array.getElem?_eq_some_iff.1 e).1
  clear b1 sV r1 o1 hby hlt
  gi_wp2_with (gi_at_call 15; refine held ?_)
  unfold Held
  refine (callsIn_wide.2 kt).mono ?_
  rintro e' w2 ⟨b2, ra, rl, rc, E, rfl, (⟨h, rfl, rfl, rfl, rfl⟩ | ⟨f, hf, rfl, hS⟩)⟩
  · rw [hn] at h; cases h
  obtain rfl : f = imgF := by rw [hn] at hf; injection hf with h; exact h.symm
  obtain ⟨rfl, x1, x2, hx1, hx2, hx3, hx4, kF, fA⟩ := fes_img hS
  replace e := (b2.block _ s1).trans e
  replace bV := bV.trans (b2.mono bV.size)
  have q2 := Lib.hid (Nat.lt_of_lt_of_le s1 b2.size)
  clear kt b2 s1 hS hf hn
  gi_wp2_with (gi_at_call 16; refine (each_in Fence.wide _ trivial rfl _ _ _ _ _).mono ?_; rintro e' w' ⟨rfl, rfl⟩)
  obtain ⟨X1, hX1⟩ : ∃ X1, X1 = w2.alloc (.cells imz 29) := ⟨_, rfl⟩
  have y1 : X1.heap[w2.heap.size]? = some (.cells imz 29) := by rw [hX1]; exact World.alloc_heap_new _ _
  have s2 : X1.heap.size = w2.heap.size + 1 := by rw [hX1]; simp
  have bX : Below w2.heap.size w2 X1 := by rw [hX1]; exact (Below.refl _ _).alloc (Nat.le_refl _) _
  have hsX : w2.heap.size + 1 = X1.heap.size := s2.symm
  rw [hsX]
  refine range_none2 X1 ra 2 rc 2 [x1, x2] (by rw [hX1]; rfl) rfl rfl ((fA.below bX).mono (by omega)) (by simp) (hits_two x1 x2 2 hx1 hx2 (by decide) (by decide)) rfl ?_
  intro D1 W1 hD1 hb1 hd1
  replace y1 := (hb1.block _ (by omega)).trans y1
  have l0 : w2.heap.size < X1.heap.size := by omega
  clear s2 hsX
  replace bX := bX.trans (hb1.mono bX.size)
  have l1 := (Array.getElem?_eq_some_iff.1 hd1).1
  clear hX1 hb1
  dsimp only
  gi_wp2_with (gi_at_call 16; refine (each_in Fence.wide _ trivial rfl _ _ _ _ _).mono ?_; rintro e' w' ⟨rfl, rfl⟩)
  refine range_none2 W1 ra 2 rc 131 [x1, x2] rfl rfl rfl ((fA.below bX).mono bX.size) (by simp) (hits_two x1 x2 131 hx1 hx2 (by decide) (by decide)) rfl ?_
  intro D2 W2 hD2 hb2 hd2
  replace y1 := (hb2.block _ (Array.getElem?_eq_some_iff.1 y1).1).trans y1
  replace bX := bX.trans (hb2.mono bX.size)
  replace hd1 := (hb2.block _ (by omega)).trans hd1
  have l2 := (Array.getElem?_eq_some_iff.1 hd2).1
  have m2 := hb2.size
  clear hb2
  dsimp only
  gi_wp2_with (gi_at_call 16; refine (each_in Fence.wide _ trivial rfl _ _ _ _ _).mono ?_; rintro e' w' ⟨rfl, rfl⟩)
  refine range_none2 W2 ra 2 rc 6 [x1, x2] rfl rfl rfl ((fA.below bX).mono bX.size) (by simp) (hits_two x1 x2 6 hx1 hx2 (by decide) (by decide)) rfl ?_
  intro D3 W3 hD3 hb3 hd3
  replace y1 := (hb3.block _ (Array.getElem?_eq_some_iff.1 y1).1).trans y1
  replace bX := bX.trans (hb3.mono bX.size)
  replace hd1 := (hb3.block _ (by omega)).trans hd1
  replace hd2 := (hb3.block _ (by omega)).trans hd2
  have l3 := (Array.getElem?_eq_some_iff.1 hd3).1
  have m3 := hb3.size
  clear hb3
  dsimp only
  gi_wp2_with (gi_at_call 16; refine (each_in Fence.wide _ trivial rfl _ _ _ _ _).mono ?_; rintro e' w' ⟨rfl, rfl⟩)
  have ly := (Array.getElem?_eq_some_iff.1 y1).1
  refine range_zom W3 w2.heap.size ra 2 rc x1 x2 131 132 24 rfl rfl rfl ly y1 (fA.below bX) hx1 hx2 hx3 rfl ?assign ?body ?done
  case assign =>
    intro l A K hK
    dsimp only
    gi_wp2_with ((fail_if_success (unfold Held)); refine at_storeIn (t := 66) rfl ?_)
    unfold Held
    refine wpListIn_store_row rfl 66 (.tmp 24) (.tmp 131) rfl A.heap.size x2.cells.toArray rfl rfl 66 zT (World.alloc_heap_new _ _) infoT rfl (by simp [Fe.cells, Value.oneCell']) ?_
    rw [World.setRow_alloc_new]
    gi_wp2
    refine hK _ ((Below.refl _ _).alloc (Nat.le_refl _) _) (by simp) (World.alloc_heap_new _ _)
  case body =>
    intro l A m hA1 hA2 hA3 hA4
    have yA := (hA1.block _ ly).trans y1
    have kA : SlF A.heap.size A x2.ka 4 x2.kc kidsF := (kF.below (bX.trans (hA1.mono bX.size))).mono (Nat.le_trans bX.size hA1.size)
    have z0 : A.cell? ⟨w2.heap.size, 0, none⟩ = some (.slice none 0 0) := by rw [cell_of_row A _ 0 _ _ _ yA]; rfl
    have z2 : A.cell? ⟨m, 2, none⟩ = some (.slice x2.ka 4 x2.kc) := by rw [cell_of_row A _ 2 _ _ _ hA4, ← hx4]; rfl
    clear fA
    dsimp only
    gi_wp2
    have bD : Below A.heap.size A A.drew := ⟨rfl, rfl, rfl, Nat.le_refl _, fun _ _ => rfl⟩
    have HX := Lib.hid (show ∀ W', Grows A.drew W' → W'.cell? ⟨w2.heap.size, 0, none⟩ = some (.slice none 0 0) ∧ W'.cell? ⟨m, 2, none⟩ = some (.slice x2.ka 4 x2.kc) from fun W' hW => by
      have hW2 : Below A.heap.size A W' := bD.trans hW
      exact ⟨(hW2.cell (p := ⟨w2.heap.size, 0, none⟩) (Nat.lt_of_lt_of_le ly hA1.size)).trans z0, (hW2.cell (p := ⟨m, 2, none⟩) hA3).trans z2⟩)
    have kr := readProcess_zombie A.drew x2.ka x2.kc (kA.below bD)
    obtain ⟨i0, hi0, hz0, hz1, hz2⟩ := info_parts info_proc
    have lA := Nat.lt_of_lt_of_le ly hA1.size
    clear z0 z2 kA hA4 kF
    refine wpIn_region_anyZV Grows (GrowsBut (fun b => b = w2.heap.size)) 8 1 (by kernel_rfl) rfl (by kernel_rfl) ?_
    first
      | (refine anyZ_val 0 (Grows.pre) (by kernel_rfl) (by decide) rfl (by kernel_rfl) (by kernel_rfl) (by kernel_rfl) (by rfl) (v := ?av1) (fun W hW => ?ay1) (fun K hK => ?ar1); case ay1 => (obtain ⟨q0, q2⟩ := (show ∀ W', Grows A.drew W' → _ from HX) W hW; go_simp; first | done | rfl))
      | refine anyZ_skip 0 (Grows.pre) (by kernel_rfl) (by decide) rfl (by kernel_rfl) (by kernel_rfl) (by kernel_rfl) (by rfl) (fun K hK => ?_)
    go_simp
    refine hK _ ?_
    clear hK K
    first
      | (refine anyZ_val 1 (Grows.pre) (by kernel_rfl) (by decide) rfl (by kernel_rfl) (by kernel_rfl) (by kernel_rfl) (by rfl) (v := ?av2) (fun W hW => ?ay2) (fun K hK => ?ar2); case ay2 => (obtain ⟨q0, q2⟩ := (show ∀ W', Grows A.drew W' → _ from HX) W hW; go_simp; first | done | rfl))
      | refine anyZ_skip 1 (Grows.pre) (by kernel_rfl) (by decide) rfl (by kernel_rfl) (by kernel_rfl) (by kernel_rfl) (by rfl) (fun K hK => ?_)
    go_simp
    refine hK _ ?_
    clear hK K
    first
      | (refine anyZ_val 2 (Grows.pre) (by kernel_rfl) (by decide) rfl (by kernel_rfl) (by kernel_rfl) (by kernel_rfl) (by rfl) (v := ?av3) (fun W hW => ?ay3) (fun K hK => ?ar3); case ay3 => (obtain ⟨q0, q2⟩ := (show ∀ W', Grows A.drew W' → _ from HX) W hW; go_simp; first | done | rfl))
      | refine anyZ_skip 2 (Grows.pre) (by kernel_rfl) (by decide) rfl (by kernel_rfl) (by kernel_rfl) (by kernel_rfl) (by rfl) (fun K hK => ?_)
    go_simp
    refine hK _ ?_
    clear hK K
    first
      | (refine anyZ_val 3 (Grows.pre) (by kernel_rfl) (by decide) rfl (by kernel_rfl) (by kernel_rfl) (by kernel_rfl) (by rfl) (v := ?av4) (fun W hW => ?ay4) (fun K hK => ?ar4); case ay4 => (obtain ⟨q0, q2⟩ := (show ∀ W', Grows A.drew W' → _ from HX) W hW; go_simp; first | done | rfl))
      | refine anyZ_skip 3 (Grows.pre) (by kernel_rfl) (by decide) rfl (by kernel_rfl) (by kernel_rfl) (by kernel_rfl) (by rfl) (fun K hK => ?_)
    go_simp
    refine hK _ ?_
    clear hK K
    refine anyZ_only 4 rfl (by kernel_rfl) (by rfl) (fun K hK => ?_)
    go_simp
    refine Calls.mono kr ?_
    rintro e5 w5 ⟨rfl, b5⟩
    refine ⟨_, rfl, hK _ _ b5 ?_⟩
    clear hK K
    refine anyZ_frame (fun K hK => ?_)
    go_simp
    refine hK _ ?_
    clear hK K
    refine anyZ_only 5 rfl (by kernel_rfl) (by rfl) (fun K hK => ?_)
    refine upV_buildSlice_one 23 54 (.tmp 137) rfl (.agg (procC 2 7 0)) rfl (procC 2 7 0) rfl i0 _ Tryz.underlying23 hi0 hz0 (by rw [hz1]; rfl) (by decide) (by decide) ?_
    obtain ⟨W6, hW6⟩ : ∃ W6, W6 = w5.alloc (.cells (procC 2 7 0) 54) := ⟨_, rfl⟩
    have b6 : Below w5.heap.size w5 W6 := by rw [hW6]; exact (Below.refl _ _).alloc (Nat.le_refl _) _
    have x6 : W6.heap[w5.heap.size]? = some (.cells (procC 2 7 0) 54) := by rw [hW6]; exact World.alloc_heap_new _ _
    rw [← hW6]
    refine hK _ _ b6 ?_
    clear hW6
    clear hK K
    refine anyZ_frame (fun K hK => ?_)
    go_simp
    refine hK _ ?_
    clear hK K
    refine anyZ_only 6 rfl (by kernel_rfl) (by rfl) (fun K hK => ?_)
    refine upV_append_vals (.tmp 134) (.tmp 138) 23 rfl A.heap.size 54 i0 _ 55 368 Tryz.underlying23 hi0 hz0 hz1 hz2 rfl (by decide) (.slice none 0 0) 0 [] rfl (World.ownsRow_nil _ _ _ _) (some ⟨w5.heap.size, 0, none⟩) 1 1 (procC 2 7 0).toList rfl rfl (fun u hu => Array.all_eq_true_iff_forall_mem.1 (proc_one 2 7 0) u (by simpa using hu)) (.inr ⟨_, _, rfl, fun j u hj => by
      rw [Nat.zero_add, cell_of_row W6 _ j _ _ _ x6]; simpa using hj⟩) (by decide) (by decide) (Nat.le_trans b5.size b6.size) ?_
    intro v7 w7 o7 gr7 hv7
    have b7 : Below W6.heap.size W6 w7 := ⟨gr7.os, gr7.tape, gr7.output, gr7.size, fun b hb => gr7.block b hb (by simp [Value.ownBlock])⟩
    obtain ⟨g, c7, rfl⟩ := ownsRow_formI o7 (by decide)
    refine hK _ _ b7 ?_
    clear hK K
    refine anyZ_frame (fun K hK => ?_)
    go_simp
    refine hK _ ?_
    clear hK K
    first
      | (refine anyZ_val 7 (Grows.pre) (by kernel_rfl) (by decide) rfl (by kernel_rfl) (by kernel_rfl) (by kernel_rfl) (by rfl) (v := ?av5) (fun W hW => ?ay5) (fun K hK => ?ar5); case ay5 => (go_simp; first | done | rfl))
      | refine anyZ_skip 7 (Grows.pre) (by kernel_rfl) (by decide) rfl (by kernel_rfl) (by kernel_rfl) (by kernel_rfl) (by rfl) (fun K hK => ?_)
    go_simp
    refine hK _ ?_
    clear hK K
    refine anyZ_done (by kernel_rfl) ?_
    have B7 : Below A.heap.size A w7 := (bD.trans b5).trans ((b6.mono b5.size).trans (b7.mono (Nat.le_trans b5.size b6.size)))
    have e7 := (B7.block _ lA).trans yA
    have g7 := (o7.lt g rfl).1
    have ZC : ∀ j v, (procC 2 7 0).toList[j]? = some v → w7.cell? ⟨g, j, none⟩ = some v := fun j v hj => by
      have hlt := (List.getElem?_eq_some_iff.1 hj).1
      rw [o7.cellAt j (by simpa [procC] using hlt)]; exact hj
    have l7 := (o7.lt g rfl).2
    have cc7 : w7.cell? ⟨w2.heap.size, 0, none⟩ = some (.slice none 0 0) := by rw [cell_of_row w7 _ 0 _ _ _ e7]; rfl
    have ff7 := frozen_of_row w7 w2.heap.size 0 _ _ e7
    have H7 := Lib.hid (And.intro B7 (And.intro e7 ZC))
    clear B7 e7 ZC b5 b6 b7 gr7 o7 hv7 x6 kr HX
    refine anyV_only 8 rfl (by kernel_rfl) (by rfl) (fun K hK => ?_)
    go_simp
    refine hK _ _ ((Wr.refl (fun b => b = w2.heap.size) w7).setCell (p := ⟨w2.heap.size, 0, none⟩) (.inl rfl) _) ?_
    clear hK K
    refine anyV_frame (fun K hK => ?_)
    go_simp
    refine hK _ ?_
    clear hK K
    refine anyV_done (by kernel_rfl) ?_
    obtain ⟨B7, e7, ZC⟩ := (show _ ∧ _ ∧ _ from H7)
    refine ⟨rfl, g, c7, ?_, ⟨by show g < (w7.heap.modify _ _).size; rw [Array.size_modify]; exact l7, fun j v hj => ?_⟩, g7, ?_⟩
    · rw [heap_setCell_same _ _ _ _ _ _ e7]; rfl
    · rw [Nat.zero_add, cell_heap (Below.heap_setCell w7 ⟨w2.heap.size, 0, none⟩ _ g (by intro h; simp only at h; omega))]
      exact ZC j v hj
    · have W7 : Wr (fun b => b = w2.heap.size) (fun b => b = w2.heap.size ∨ b = g) A w7 := (Wr.of_below (S := fun b => b = w2.heap.size) B7).to fun b hb => hb.elim .inl fun h => .inr (by omega)
      exact W7.setCell (p := ⟨w2.heap.size, 0, none⟩) (.inl rfl) _
  case done =>
    intro D4 W4 x cp hD4 hDx eI zx zX kb4 sb4 b4 hd4
    dsimp only
    replace bX := bX.trans b4
    have l4 := (Array.getElem?_eq_some_iff.1 hd4).1
    replace hd1 := (kb4 D1 (by omega) (by omega)).trans hd1
    replace hd2 := (kb4 D2 (by omega) (by omega)).trans hd2
    replace hd3 := (kb4 D3 (by omega) (by omega)).trans hd3
    have lx := zx.1
    clear y1 kF kb4 b4
    gi_wp2_with (gi_at_call 16; refine (each_in Fence.wide _ trivial rfl _ _ _ _ _).mono ?_; rintro e' w' ⟨rfl, rfl⟩)
    refine range_none2 W4 ra 2 rc 19 [x1, x2] rfl rfl rfl ((fA.below bX).mono bX.size) (by simp) (hits_two x1 x2 19 hx1 hx2 (by decide) (by decide)) rfl ?_
    intro D5 W5 hD5 hb5 hd5
    replace eI := (hb5.block _ (by omega)).trans eI
    replace zx := zx.below hb5 lx
    replace bX := bX.trans (hb5.mono bX.size)
    replace hd1 := (hb5.block _ (by omega)).trans hd1
    replace hd2 := (hb5.block _ (by omega)).trans hd2
    replace hd3 := (hb5.block _ (by omega)).trans hd3
    replace hd4 := (hb5.block _ (by omega)).trans hd4
    have l5 := (Array.getElem?_eq_some_iff.1 hd5).1
    have m5 := hb5.size
    have lI : w2.heap.size < W5.heap.size := (Array.getElem?_eq_some_iff.1 eI).1
    clear hb5 fA
    dsimp only
    have hcI : ∀ j v, (imC x cp).toList[j]? = some v → W5.cell? ⟨w2.heap.size, 0 + j, none⟩ = some v := fun j v hv => by
      rw [Nat.zero_add, cell_of_row W5 _ _ _ _ _ eI]; simpa using hv
    have kb := bytes_zombie W5 x cp zx
    obtain ⟨I, hI⟩ : ∃ I, I = imC x cp := ⟨_, rfl⟩
    have hI2 : imgV x cp = .agg I.toList.toArray := by rw [hI]; rfl
    have hi5 : (Tryz.prog.info? 29).map (·.size) = some I.toList.length := by rw [hI]; exact infoImg
    rw [← hI] at hcI eI
    rw [hI2] at kb
    have HI := Lib.hid hI
    clear hI hI2
    gi_wp2_with first
      | (refine wpListIn_load_at rfl 29 (.tmp 7) rfl w2.heap.size 0 rfl I.toList _ hcI Tryz.underlying29 rfl hi5 ?_)
      | (gi_at_call 21; refine held ?_)
    unfold Held
    refine (callsIn_wide.2 kb).mono ?_
    rintro e' W6 ⟨a6, c6, rfl, o6, b6⟩
    have zb : ∀ z ∈ zomB, 0 ≤ z ∧ z ≤ 255 := (show Row8 _ _ _ _ from HR).2
    have r6 : Row8 W6.heap.size W6 (.slice a6 74 c6) zomB := own_row8 o6 zb _ _ fun b hb => ⟨rfl, (o6.lt b hb).2⟩
    have q2' : W.heap.size < w2.heap.size := q2
    have BW : Below W.heap.size W W6 := bV.trans ((bX.mono (by omega)).trans (b6.mono (by omega)))
    have rb : Row8 W.heap.size W6 (.slice a 74 cap) zomB := (show Row8 _ _ _ _ from HR).below BW
    have v1 := convRow (P := Tryz.prog) r6.1 22 5 9 Tryz.underlying22 Tryz.underlying5 Tryz.underlying9
    have v2 := convRow (P := Tryz.prog) rb.1 22 5 9 Tryz.underlying22 Tryz.underlying5 Tryz.underlying9
    replace e := (bX.block _ (by omega)).trans e
    replace e := (b6.block _ (by omega)).trans e
    replace eI := (b6.block _ lI).trans eI
    replace zx := zx.below b6 (by omega)
    replace hd1 := (b6.block _ (by omega)).trans hd1
    replace hd2 := (b6.block _ (by omega)).trans hd2
    replace hd3 := (b6.block _ (by omega)).trans hd3
    replace hd4 := (b6.block _ (by omega)).trans hd4
    replace hd5 := (b6.block _ (by omega)).trans hd5
    have hcJ : ∀ j v, I.toList[j]? = some v → W6.cell? ⟨w2.heap.size, 0 + j, none⟩ = some v := fun j v hv => by
      rw [Nat.zero_add, cell_of_row W6 _ _ _ _ _ eI]; simpa using hv
    have hj1 : ∀ v ∈ I.toList, v.oneCell' = true := by rw [show I = imC x cp from HI]; exact fun v hv => Array.all_eq_true_iff_forall_mem.1 (imC_one x cp) v (by simpa using hv)
    have hj5 : I.size = 5 := by rw [show I = imC x cp from HI]; rfl
    clear kb o6 r6 rb zb b6 hcI bX bV
    gi_wp2_with first
      | (refine wpListIn_load_at rfl 29 (.tmp 7) rfl w2.heap.size 0 rfl I.toList _ hcJ Tryz.underlying29 rfl hi5 ?_)
      | ((fail_if_success (unfold Held)); refine at_storeIn (t := 29) rfl ?_)
    unfold Held
    refine wpListIn_store_row rfl 29 (.tmp 2) (.tmp 186) rfl W.heap.size I.toList.toArray rfl rfl 29 imz e (by rw [List.size_toArray, ← hi5]) (by rw [List.size_toArray, Array.length_toList, hj5]; rfl) (by rw [Array.all_eq_true_iff_forall_mem]; exact fun v hv => hj1 v (by simpa using hv)) ?_
    rw [Array.toArray_toList]
    obtain ⟨V6, hV6⟩ : ∃ V6, V6 = W6.setRow W.heap.size I := ⟨_, rfl⟩
    have e6 : V6.heap[W.heap.size]? = some (.cells I 29) := by rw [hV6]; exact setRow_heap _ _ _ _ _ _ e
    have b6 : Below W.heap.size W V6 := by rw [hV6]; exact below_setRow BW (Nat.le_refl _) _
    have hd : ∀ b, W.heap.size ≠ b → V6.heap[b]? = W6.heap[b]? := fun b h1 => by rw [hV6, setRow_other _ _ _ _ (Ne.symm h1)]
    have sV : V6.heap.size = W6.heap.size := by rw [hV6, size_setRow]
    rw [← hV6]
    replace hd1 := (hd D1 (by omega)).trans hd1
    replace hd2 := (hd D2 (by omega)).trans hd2
    replace hd3 := (hd D3 (by omega)).trans hd3
    replace hd4 := (hd D4 (by omega)).trans hd4
    replace hd5 := (hd D5 (by omega)).trans hd5
    have z6 : ∀ j v, (procC 2 7 0).toList[j]? = some v → V6.cell? ⟨x, 0 + j, none⟩ = some v := fun j v hj => (cell_heap (hd x (by omega)) _).trans (zx.2 j v hj)
    have lx6 : x < V6.heap.size := by rw [sV]; exact zx.1
    clear hV6 e BW hd sV v1 v2 hcJ eI hj1
    gi_wp2
    have mk : ∀ b, b ≤ W.heap.size ∨ b = x → mark b ∉ [mark D5, mark D4, mark D3, mark D2, mark D1] := fun b hb h => by
      simp only [List.mem_cons, List.not_mem_nil, or_false] at h
      rcases h with h | h | h | h | h <;> (have := mark_inj h; omega)
    refine leaves_all [mark D5, mark D4, mark D3, mark D2, mark D1] V6 ?_ ?_ fun W' hs => ?_
    · intro d h
      simp only [List.mem_cons, List.not_mem_nil, or_false] at h
      rcases h with rfl | rfl | rfl | rfl | rfl
      · exact ⟨_, rfl, hd5⟩
      · exact ⟨_, rfl, hd4⟩
      · exact ⟨_, rfl, hd3⟩
      · exact ⟨_, rfl, hd2⟩
      · exact ⟨_, rfl, hd1⟩
    · refine nodup_marks [D5, D4, D3, D2, D1] ?_
      simp only [List.pairwise_cons, List.mem_cons, List.not_mem_nil, or_false, forall_eq_or_imp, forall_eq, false_implies, implies_true, and_true, List.Pairwise.nil]
      omega
    · have e7 : W'.heap[W.heap.size]? = some (.cells I 29) := (hs.block _ (mk _ (.inl (Nat.le_refl _)))).trans e6
      have hiI : (Tryz.prog.info? 29).map (·.size) = some I.size := hi5.trans (by rw [Array.length_toList])
      refine ⟨_, results_cellK rfl _ _ _ W.heap.size 29 I (0, 0) _ rfl e7 Tryz.underlying29 hiI, x, cp, by rw [show I = imC x cp from HI]; rfl, ⟨Nat.lt_of_lt_of_le lx6 hs.size, fun j v hj => (cell_heap (hs.block _ (mk _ (.inr rfl))) _).trans (z6 j v hj)⟩, b6.trans (hs.below fun b hb => mk b (.inl (by omega)))⟩
end Go.Proofs.YtejcandhijdnhaaGreat
