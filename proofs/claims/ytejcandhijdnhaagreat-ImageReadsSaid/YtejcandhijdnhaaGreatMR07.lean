/- Own texts of this seat, one behind the other, without needless spaces (part 7 of 26). -/
import Derived.Test.YtejcandhijdnhaaGreatMR01
import Derived.Test.YtejcandhijdnhaaGreatMR02
import Derived.Test.YtejcandhijdnhaaGreatMR03
import Derived.Test.YtejcandhijdnhaaGreatMR04
import Derived.Test.YtejcandhijdnhaaGreatMR05
import Derived.Test.YtejcandhijdnhaaGreatMR06
import Derived.Maps.OwnIn
import Derived.Laws.OwnMore
import Derived.Laws.IdiomCopy
namespace Go.Proofs.YtejcandhijdnhaaGreat
open Go Go.RowKit
set_option linter.unusedVariables false
set_option linter.unusedSimpArgs false
set_option linter.unnecessarySimpa false
set_option maxRecDepth 100000
set_option maxHeartbeats 16000000
section
attribute [local go_sem] Oper.semAt_some
def Qm5 (s:Nat) (hs:List Nat):Nat:=hs.foldl (fun s h=>Qbh 4 (s ^^^ h)) s
theorem QlC (s:Nat) (hs:List Nat) (k:Nat) (h:k<hs.length):Qm5 s (hs.take (k+1))=Qbh 4 (Qm5 s (hs.take k) ^^^ hs[k]):=by
 rw [List.take_succ_eq_append_getElem h];simp only [Qm5,List.foldl_append,List.foldl_cons,List.foldl_nil]
theorem Qnf (zs:List Int):∀ s,Qm5 s (Qcc zs)=Qne s (zs.map Int.toNat):=by
 induction zs with
 | nil=>intro s;rfl
 | cons z r ih =>
  intro s;have e:Qcc (z::r)=[z.toNat % 16,z.toNat / 16]++Qcc r:=rfl;rw [e,List.map_cons,Qne,← ih,← Qni];simp only [Qm5,List.foldl_append,List.foldl_cons,List.foldl_nil]
theorem Qhp (zs:List Int) (hz:∀ z∈zs,0≤z∧z≤255):∀ h∈Qcc zs,h<16:=by
 intro h hh;obtain ⟨z,hz1,hz2⟩:=List.mem_flatMap.1 hh;have:=hz z hz1;simp at hz2;omega
theorem QoG (s:Nat) (hs:List Nat) (hl:∀ h∈hs,h<16) (h:s<4294967296):Qm5 s hs<4294967296:=by
 induction hs generalizing s with
 | nil=>exact h
 | cons x r ih =>
  have hx:=hl x (List.mem_cons_self ..);exact ih _ (fun y hy=>hl y (List.mem_cons_of_mem _ hy)) (Qgb 4 (Nat.xor_lt_two_pow (n:=32) h (by omega)))
theorem QnI (n:Nat) (a:Option Addr) (len cap:Nat) (zs:List Int) (w:World) (hn:n<4294967296) (hr:QaL w.heap.size w (.slice a len cap) zs) (hsm:zs.length≤140737488350000) :
  Calls Tryz.prog 75 #[.int .u32 n,.slice a len cap] w fun e w'=>e=.returned (.int .u32 (Qhb n (zs.map Int.toNat)))∧Below w.heap.size w w':=by
 refine (callsIn_wide (n:=102)).1 ?_;refine callsIn_of_wp_marks Tryz.func75 rfl trivial ?_ rfl;simp only [Tryz.ntmps75,QS,List.length_cons,List.length_nil,Nat.reduceAdd,Nat.reduceSub,Array.replicate_succ,Array.replicate_zero,List.push_toArray,List.append_toArray,List.nil_append,List.cons_append];have hf1:Fence.wide.fn 103:=trivial;have hf2:Fence.wide.fn 104:=trivial
 gi_wp2_with (gi_at_call 103;refine Qau ?_)
 unfold Qag;refine callsIn_wide.2 ((QmN _).mono ?_);rintro e W1 ⟨rfl,hb1⟩;have hB1:Boxed W1 w.heap.size 40 (.int .u32 n):=(hb1.block _ (by simp)).trans (Boxed.new w 40 (.int .u32 n));have c1:=hB1.cell;have f1:=hB1.frozen;have hl1:=hB1.lt;have hbw:Below w.heap.size w W1:=((QB _ w).alloc (QN _) _).trans (hb1.mono (by simp));clear hb1;rw [Qgk];have hx:bits .xor .u32 (n:Int) 4294967295=((n ^^^ 4294967295:Nat):Int):=QfX n 4294967295 hn (by decide)
 gi_wp2_with (gi_at_call 104;refine Qau ?_)
 unfold Qag;rw [← Qgk];clear hx c1 f1;obtain ⟨V,hV⟩:∃ V,V=(W1.setCell ⟨w.heap.size,0,none⟩ (.int .u32 (n ^^^ 4294967295:Nat))).alloc (.cells (Qh 16) 46):=⟨_,rfl⟩
 have eV:(W1.setCell ⟨w.heap.size,0,none⟩ (.int .u32 (n ^^^ 4294967295:Nat))).heap.size=W1.heap.size:=by show (W1.heap.modify _ _).size=_;rw [Array.size_modify]
 have sV:V.heap.size=W1.heap.size+1:=by rw [hV,World.size_alloc,eV]
 have bV:Boxed V w.heap.size 40 (.int .u32 (n ^^^ 4294967295:Nat)):=by rw [hV];exact (hB1.set _).alloc _
 have tV:V.heap[W1.heap.size]?=some (.cells (Qh 16) 46):=by rw [hV,← eV];exact QW _ _
 have bW:Below w.heap.size w V:=by rw [hV];exact (hbw.setCell (p:=⟨w.heap.size,0,none⟩) (QN _) _).alloc (by rw [eV];omega) _
 rw [← hV];clear hV eV;refine (Ql0 Fence.wide _ trivial rfl _ _ _ _).mono ?_;rintro e V2 ⟨rfl,hV2⟩
 have sV2:V2.heap.size=W1.heap.size+2:=by rw [hV2,World.size_alloc,sV]
 have bV2:Boxed V2 w.heap.size 40 (.int .u32 (n ^^^ 4294967295:Nat)):=by rw [hV2];exact bV.alloc _
 have cV2:Boxed V2 (W1.heap.size+1) 22 (.slice a len cap):=by rw [hV2,← sV];exact Boxed.new _ _ _
 have tV2:V2.heap[W1.heap.size]?=some (.cells (Qh 16) 46):=by rw [hV2];exact (Below.heap_alloc V _ _ (by omega)).trans tV
 have bW2:Below w.heap.size w V2:=by rw [hV2];exact bW.alloc (by omega) _
 rw [sV];clear hV2 bV tV bW sV
 gi_wp2
 have hr3:QaL V2.heap.size V2 (.slice a len cap) zs:=(hr.same fun b hb=>bW2.block b (hr.lt b hb)).mono (by omega)
 refine Qeg (gf:=124) rfl (enters_of Tryz.func124 (by kernel_rfl) rfl)
  (Qiz (W1.heap.size+1) _ zs V2 (by omega) cV2.cell hr3 (by omega)) (fun _=>rfl)
  (fun k S A=>S=(fun b=>b=w.heap.size)∧Boxed A w.heap.size 40 (.int .u32 (Qm5 (n ^^^ 4294967295) ((Qcc zs).take k):Nat))∧A.heap[W1.heap.size]?=some (.cells (Qh 16) 46)∧Below w.heap.size w A)
  (fun c k S A=>False)
  (fun b=>b=w.heap.size) ?hX ?hI ?hIx ?hlt ?h0
  (fun h=>{ tmps:=#[.int .u32 n,.slice a len cap,.pointer (some ⟨w.heap.size,0,none⟩),undef,.int .u32 0,.pointer (some ⟨W1.heap.size,0,none⟩),.int .u32 (h:Nat),.agg (Qh 16),.int .u32 n,.int .u32 (n ^^^ 4294967295:Nat),
   .slice a len cap,.func (.func 124) #[] #[.pointer (some ⟨W1.heap.size+1,0,none⟩)],.int .u32 (h:Nat),undef,undef,undef,undef,undef,undef,undef,undef,undef,undef,undef],defers:=[] }) ?assign ?body ?done ?stop
 case hX =>
  rintro b (rfl | hb)
  ·exact ⟨by omega,fun h=>by omega⟩
  ·have:=hr.lt b hb
   exact ⟨by omega,fun h=>by omega⟩
 case hI =>
  rintro k S A A' ⟨rfl,h1,h2,h3⟩ hs;exact ⟨rfl,(hs.block _ (.inr rfl)).trans h1,(hs.block _ (.inl (by omega))).trans h2,h3.trans (hs.below (fun b hb=>.inl (by omega)))⟩
 case hIx=>intro c k S A A' h;exact h.elim
 case hlt =>
  rintro k S A ⟨rfl,h1,h2,h3⟩ b rfl;exact h1.lt
 case h0=>exact ⟨rfl,bV2,tV2,bW2⟩
 case assign =>
  intro l' k A K hK
  gi_wp2
  exact hK
 case body =>
  rintro l' k hk S A ⟨rfl,h1,h2,h3⟩;have hh:=Qhp zs hr.2 _ (List.getElem_mem hk);have hN:=QoG (n ^^^ 4294967295) ((Qcc zs).take k) (fun x hx=>Qhp zs hr.2 x (List.mem_of_mem_take hx)) (Nat.xor_lt_two_pow (n:=32) hn (by decide));have hsc:=QlC (n ^^^ 4294967295) (Qcc zs) k hk;obtain ⟨N,hNe⟩:∃ N,N=Qm5 (n ^^^ 4294967295) ((Qcc zs).take k):=⟨_,rfl⟩;obtain ⟨h,hhe⟩:∃ h,h=(Qcc zs)[k]:=⟨_,rfl⟩;rw [← hNe] at h1 hN hsc;rw [← hhe] at hh hsc ⊢;obtain ⟨X,hX⟩:∃ X,X=N ^^^ h:=⟨_,rfl⟩;have hhalf:=Qnj N h hh;rw [← hX] at hsc hhalf
  have hXl:X<4294967296:=by rw [hX];exact Nat.xor_lt_two_pow (n:=32) hN (by omega)
  obtain ⟨Y,hY⟩:∃ Y,Y=Qbh 4 (X % 16):=⟨_,rfl⟩
  have hYl:Y<4294967296:=by rw [hY];exact Qgb 4 (by omega)
  obtain ⟨J,hJ⟩:∃ J,J=X % 16:=⟨_,rfl⟩
  have hJ16:J<16:=by omega
  have ha15:bits .and .u32 (X:Int) 15=(J:Int):=by rw [Qle];omega
  have hc:A.cell? ⟨W1.heap.size,J,none⟩=some (.int .u32 (Y:Nat)):=by
   rw [hY,← hJ];simp only [World.cell?,h2];rw [Qh4 _ _ hJ16,if_pos hJ16];rfl
  have hxv:bits .xor .u32 (N:Int) (h:Int)=(X:Int):=by rw [hX];exact QfX N h hN (by omega)
  have hfin:bits .xor .u32 ((N:Int) / 16) (Y:Int)=((Qbh 4 X:Nat):Int):=by
   rw [show (N:Int) / 16=((N / 16:Nat):Int) by omega,QfX _ _ (by omega) hYl,hY,hhalf]
  have c1:=h1.cell;have f1:=h1.frozen;rw [← hY] at hhalf
  have hJ16:(J:Int)<16:=by omega
  have k1:Boxed (A.setCell ⟨w.heap.size,0,none⟩ (.int .u32 (Qbh 4 X:Nat))).drew w.heap.size 40 (.int .u32 (Qm5 (n ^^^ 4294967295) ((Qcc zs).take (k+1)):Nat)):=by rw [hsc];exact h1.set _
  have k2:(A.setCell ⟨w.heap.size,0,none⟩ (.int .u32 (Qbh 4 X:Nat))).drew.heap[W1.heap.size]?=some (.cells (Qh 16) 46):=(Below.heap_setCell A ⟨w.heap.size,0,none⟩ _ W1.heap.size (by show ¬ W1.heap.size=w.heap.size;omega)).trans h2
  have k3:Below w.heap.size w (A.setCell ⟨w.heap.size,0,none⟩ (.int .u32 (Qbh 4 X:Nat))).drew:=by
   have h4:=h3.setCell (p:=⟨w.heap.size,0,none⟩) (QN _) (.int .u32 (Qbh 4 X:Nat));exact ⟨h4.os,h4.tape,h4.output,h4.size,h4.block⟩
  have k4:Wr (fun b=>b=w.heap.size) (fun b=>b=w.heap.size) A (A.setCell ⟨w.heap.size,0,none⟩ (.int .u32 (Qbh 4 X:Nat))).drew:=((Wr.refl (fun b=>b=w.heap.size) A).setCell (p:=⟨w.heap.size,0,none⟩) (.inl rfl) _).drew;have KK:Hid (Qd4 (fun k S A=>S=(fun b=>b=w.heap.size)∧Boxed A w.heap.size 40 (.int .u32 (Qm5 (n ^^^ 4294967295) ((Qcc zs).take k):Nat))∧A.heap[W1.heap.size]?=some (.cells (Qh 16) 46)∧Below w.heap.size w A) (fun c k S A=>False) k (fun b=>b=w.heap.size) A .normal { tmps:=#[],defers:=[] } (A.setCell ⟨w.heap.size,0,none⟩ (.int .u32 (Qbh 4 X:Nat))).drew):=⟨_,⟨rfl,k1,k2,k3⟩,k4⟩;clear hhalf hX hY hNe hhe h2 hJ hsc k1 k2 k3 k4
  gi_wp2
  gi_region
  all_goals exact KK
 case done =>
  rintro D S A hD hS ⟨rfl,h1,h2,h3⟩ hK;rw [List.take_length,Qnf] at h1;have hl:=QlB (zs.map Int.toNat) (fun x hx=>by obtain ⟨z,hz,rfl⟩:=List.mem_map.1 hx;have:=hr.2 z hz;omega) (n ^^^ 4294967295) (Nat.xor_lt_two_pow (n:=32) hn (by decide));obtain ⟨N,hNe⟩:∃ N,N=Qne (n ^^^ 4294967295) (zs.map Int.toNat):=⟨_,rfl⟩;rw [← hNe] at h1 hl;have c1:=h1.cell;have HN:=QQ hNe;clear hNe;have hx:bits .xor .u32 (N:Int) 4294967295=((N ^^^ 4294967295:Nat):Int):=QfX N 4294967295 hl (by decide)
  gi_wp2
  refine ⟨by simp,.inl ⟨_,_,rfl,run_takeDeferred hK,?_⟩⟩;refine ⟨.int .u32 (Qhb n (zs.map Int.toNat):Nat),?_,rfl,h3.trans (QaM.below (QaM.putObj (p:=fun b=>b<w.heap.size) _ _ _ (by show ¬ D<w.heap.size;omega)) (fun b hb=>hb))⟩;have hNe:N=Qne (n ^^^ 4294967295) (zs.map Int.toNat):=HN;rw [show Qhb n (zs.map Int.toNat)=N ^^^ 4294967295 by rw [hNe];rfl];clear hNe HN;simp [results,Tryz.results75,go_sem]
 case stop =>
  rintro D c k S A hD hS hk h hK;exact h.elim
end
def Qe3 (zs:List Int):Nat:=Qq5 (zs.map Int.toNat)
theorem Qkd {zs:List Int} (hz:∀ z∈zs,0≤z∧z≤255):∀ x∈zs.map Int.toNat,x<256:=fun x hx=>by
 obtain ⟨z,h,rfl⟩:=List.mem_map.1 hx;have:=hz z h;omega
theorem QmM (a:Option Addr) (len cap:Nat) (zs:List Int) (w:World) (hr:QaL w.heap.size w (.slice a len cap) zs) (hsm:zs.length≤140737488350000) :
  Calls Tryz.prog 32 #[.slice a len cap] w fun e w'=>e=.returned (.int .u32 (Qe3 zs))∧Below w.heap.size w w':=by
 have k:=QnI 0 a len cap zs w (by decide) hr hsm;go_enter Tryz.func32,Tryz.ntmps32;go_wp2_with (go_at_call 75;refine k.mono ?_;rintro e w' ⟨rfl,hb⟩);go_ret;exact ⟨rfl,hb⟩
theorem QfQ (zs:List Int) (hz:∀ z∈zs,0≤z∧z≤255):Qe3 zs<4294967296:=QnH (by decide) _ (Qkd hz)
theorem Qhj (a:Option Addr) (len cap:Nat) (zs:List Int) (w:World) (hr:QaL w.heap.size w (.slice a len cap) zs) (hsm:zs.length≤140737488350000) :
  Calls Tryz.prog 30 #[.slice a len cap] w fun e w'=>∃ v,e=.returned v∧w'.ownsRow w.heap.size 5 1 v len (zs.map (Value.int .u8))∧Below w.heap.size w w':=by
 obtain ⟨i0,hi,hz0,hz1,hz2⟩:=info_parts QbB;have e1:=hr.1.open.1
 have qn:=fun (a:Option Addr) (n c:Nat) (W:World)=>Lib.run_eql_slice_nil (P:=Tryz.prog) W 22 5 a n c 0 0 Tryz.underlying22
 cases a with
 | none =>
  have h0:len=0:=by
   rcases hr.1 with ⟨_,_,h,_⟩ | ⟨_,_,_,h,_⟩
   ·injection h
   ·injection h with h;cases h
  subst h0;have hz:zs=[]:=List.eq_nil_of_length_eq_zero e1;subst hz;go_enter Tryz.func30,Tryz.ntmps30;go_wp2;go_ret;exact ⟨_,rfl,World.ownsRow_nil _ _ _ _,QB _ _⟩
 | some p =>
  go_enter Tryz.func30,Tryz.ntmps30;go_wp2_with (at_builtin;refine Qau ?_);unfold Qag;have hl0:=World.ownsRow_lit (base:=w.heap.size) (e:=5) (size:=1) w #[] 0 (QN _) (by decide) rfl;obtain ⟨W2,hW2⟩:∃ W2,W2=w.alloc (.cells #[] 5):=⟨_,rfl⟩
  have bb:Below w.heap.size w W2:=by rw [hW2];exact (QB _ w).alloc (QN _) _
  rw [← hW2] at hl0 ⊢;refine Qae rfl _ _ 22 rfl w.heap.size 5 i0 Tryz.underlying22 hi hz0 hz1 hz2 (.slice (some ⟨w.heap.size,0,none⟩) 0 0) 0 [] rfl hl0 (some p) len cap w.heap.size zs rfl (hr.1.below bb) (by omega) bb.size ?_;intro v1 u1 o1 hg1 hv1;have b10:Below w.heap.size w u1:=bb.grown hg1 bb.size (fun b h=>by simp [Value.ownBlock] at h;omega);rw [Nat.zero_add,List.nil_append] at o1;clear hl0 hW2 bb hg1 hv1;go_wp2;go_ret;exact ⟨_,rfl,o1,b10⟩
theorem QnY (a:Option Addr) (len cap:Nat) (zs:List Int) (w:World) (hr:QaL w.heap.size w (.slice a len cap) zs) (hsm:zs.length≤140737488340000) :
  Calls Tryz.prog 8 #[.slice a len cap] w fun e w'=>∃ v,e=.returned v∧w'.ownsRow w.heap.size 5 1 v (len+4) ((zs++QaE (Qe3 zs)).map (Value.int .u8))∧Below w.heap.size w w':=by
 obtain ⟨i0,hi,hz0,hz1,hz2⟩:=info_parts QbB;have e1:=hr.1.open.1;have xl:=QfQ zs hr.2;have kc:=Qhj a len cap zs w hr (by omega)
 have ks:=fun (W:World) (h:QaL W.heap.size W (.slice a len cap) zs)=>QmM a len cap zs W h (by omega)
 obtain ⟨V,hV⟩:∃ V,V=Qe3 zs:=⟨_,rfl⟩;rw [← hV] at ks xl ⊢;have hzV:=Qb7 V xl;clear hV;go_enter Tryz.func8,Tryz.ntmps8;go_wp2_with (go_at_call 30;refine Qau ?_);unfold Qag;refine kc.mono ?_;rintro e w1 ⟨v1,rfl,o1,b1⟩;go_wp2_with (go_at_call 32;refine Qau ?_);unfold Qag;refine (ks _ ((hr.below b1).mono b1.size)).mono ?_;rintro e w2 ⟨rfl,b2⟩
 have o2:=Qac o1 fun b hb=>b2.block b (o1.lt b hb).2
 replace b2:=Qbg b1 b2;clear b1 o1 kc ks;go_wp2_with (go_at_call 31;refine Qau ?_);unfold Qag;refine (Qe9 V w2 xl).mono ?_;rintro e u2 ⟨rfl,hu2⟩
 have bq:Below w2.heap.size w2 u2:=by rw [hu2];exact ((QB _ w2).alloc (QN _) _).alloc (by simp) _
 have hrB:QaL u2.heap.size u2 (.slice (some ⟨w2.heap.size+1,0,none⟩) 4 4) (QaE V):=by
  have:=QaL.built (w2.alloc (Qd7 V)) 138 (0,0) (QaE V) hzV (by simp [QaE,maxLen]) _ rfl 4 rfl;rw [hu2,show w2.heap.size+1=(w2.alloc (Qd7 V)).heap.size from (World.size_alloc ..).symm];exact this
 have o3:=Qac o2 fun b hb=>bq.block b (o2.lt b hb).2
 have b3:=Qbg b2 bq;clear hu2 bq o2 b2;go_wp2_with (at_builtin;refine Qau ?_);unfold Qag;refine Qae rfl _ _ 22 rfl w.heap.size 5 i0 Tryz.underlying22 hi hz0 hz1 hz2 v1 len zs rfl o3 _ 4 4 u2.heap.size (QaE V) rfl hrB.1 (by omega) b3.size ?_;intro v2 u3 o4 hg2 hv2;have b4:Below w.heap.size w u3:=b3.grown hg2 b3.size (fun b h=>by have:=(o3.lt b h).1;omega);clear hg2 hv2 o3 b3 hrB;go_wp2;go_ret;exact ⟨_,rfl,o4,b4⟩
def QcW (zs:List Int):Prop:=4≤zs.length∧leW (zs.drop (zs.length-4)) 0 4=Qe3 (zs.take (zs.length-4))
theorem QhT (a:Option Addr) (len cap:Nat) (zs:List Int) (w:World) (hr:QaL w.heap.size w (.slice a len cap) zs) (hsm:zs.length≤140737488340000) :
  Calls Tryz.prog 14 #[.slice a len cap] w fun e w'=>Below w.heap.size w w' ∧
   ((QcW zs∧∃ v,e=.returned (.tuple #[v,.int .i64 0])∧w'.ownsRow w.heap.size 5 1 v (len-4) ((zs.take (len-4)).map (Value.int .u8)))∨(¬ QcW zs∧e=.returned (.tuple #[.slice none 0 0,.int .i64 230]))):=by
 have e1:=hr.1.open.1;have hcap:=hr.1.cap;by_cases h4:4≤len
 rotate_left
 ·have t1:decide ((len:Int)-4<0)=true:=by simp;omega
  go_enter Tryz.func14,Tryz.ntmps14;go_wp2;go_ret2;exact ⟨QB _ _,.inr ⟨fun h=>h4 (by have:=h.1;omega),rfl⟩⟩
 have t1:decide ((len:Int)-4<0)=false:=by simp;omega
 obtain ⟨N,hN⟩:∃ N,N=len-4:=⟨_,rfl⟩
 have hN2:len=N+4:=by omega
 have hO:QcW zs↔leW (zs.drop N) 0 4=Qe3 (zs.take N):=by
  unfold QcW;rw [e1,← hN];exact ⟨fun h=>h.2,fun h=>⟨by omega,h⟩⟩
 rw [← hN]
 have hn4:(len:Int)-4=(N:Int):=by omega
 obtain ⟨s1,_⟩:=hr.sub N len (by omega) (QN _);obtain ⟨s2,_⟩:=hr.sub 0 N (Nat.zero_le _) (by omega);rw [List.drop_zero] at s2;rw [List.take_of_length_le (by rw [List.length_drop];omega)] at s1;obtain ⟨_,b,off,hopen,_⟩:=hr.1.open;obtain ⟨rfl,hbl,_,hcm⟩:=hopen (by omega);clear hopen
 have g1:sliced (some ⟨b,off,none⟩) N len cap 1=.slice (some ⟨b,off+N,none⟩) (len-N) (cap-N):=by
  unfold sliced;rw [if_neg (by omega)];simp [Addr.add_lit]
 have g2:sliced (some ⟨b,off,none⟩) 0 N cap 1=.slice (some ⟨b,off,none⟩) N cap:=by
  unfold sliced;rw [if_neg (by omega)];simp [Addr.add_lit]
 rw [g1] at s1;rw [g2] at s2;clear g1 g2
 have hl4:(zs.drop N).length=4:=by rw [List.length_drop];omega
 have hlN:(zs.take N).length=N:=by rw [List.length_take];omega
 have kr:=fun (W:World) (q:Option Addr) (c:Nat) (h:QaL W.heap.size W (.slice q (len-N) c) (zs.drop N))=>Qk q (len-N) c (zs.drop N) W h (by omega)
 have eV:Qjw (zs.drop N)=(leW (zs.drop N) 0 4:Nat):=by unfold Qjw;rw [if_pos hl4]
 have eE:Qjv (zs.drop N)=0:=by unfold Qjv;rw [if_pos hl4]
 rw [eV,eE] at kr
 have ks:=fun (W:World) (q:Option Addr) (c:Nat) (h:QaL W.heap.size W (.slice q N c) (zs.take N))=>QmM q N c (zs.take N) W h (by omega)
 have kc:=fun (W:World) (q:Option Addr) (c:Nat) (h:QaL W.heap.size W (.slice q N c) (zs.take N))=>Qhj q N c (zs.take N) W h (by omega)
 obtain ⟨L,hL⟩:∃ L,L=leW (zs.drop N) 0 4:=⟨_,rfl⟩;obtain ⟨S,hS⟩:∃ S,S=Qe3 (zs.take N):=⟨_,rfl⟩;rw [← hL] at kr hO;rw [← hS] at ks hO
 have hll:len≤140737488340000:=by omega
 have hcc:cap≤9223372036854775807:=by simp only [maxLen] at hcm;omega
 have hNl:N≤len:=by omega
 have hcN:¬ cap=N:=by omega
 have k1:=kr w _ _ s1;have HO:=QQ hO;have H2:=QQ s2;have HK:=QQ ks;have HC:=QQ kc;clear hO eV eE hL hS hN hl4 hlN e1 hN2 kr s1 s2 ks kc hcm;go_enter Tryz.func14,Tryz.ntmps14;go_wp2_with (go_at_call 55;refine Qau ?_);unfold Qag;refine k1.mono ?_;rintro e w1 ⟨rfl,b1⟩
 try dsimp only
 have s2:QaL w.heap.size w (.slice (some ⟨b,off,none⟩) N cap) (zs.take N):=H2;have k2:=(QG HK) w1 _ _ ((s2.below b1).mono b1.size);clear k1 HK s2;go_wp2_with (go_at_call 32;refine Qau ?_);unfold Qag;refine k2.mono ?_;rintro e w2 ⟨rfl,b2⟩;replace b2:=Qbg b1 b2;clear k2 b1;by_cases hLS:L=S
 ·subst hLS
  have s2:QaL w.heap.size w (.slice (some ⟨b,off,none⟩) N cap) (zs.take N):=H2;have k3:=(QG HC) w2 _ _ ((s2.below b2).mono b2.size);clear HC s2;go_wp2_with (go_at_call 30;refine Qau ?_);unfold Qag;refine k3.mono ?_;rintro e w3 ⟨v,rfl,o3,b3⟩
  have o4:w3.ownsRow w.heap.size 5 1 v N ((zs.take N).map (Value.int .u8)):=by
   have hb2:=b2.size;refine ⟨o3.1,?_⟩
   rcases o3.2 with h | ⟨g,cap,cur,h0,h1,h2⟩
   ·exact .inl h
   ·exact .inr ⟨g,cap,cur,h0,by omega,h2⟩
  replace b3:=Qbg b2 b3;clear k3 o3 b2;go_wp2;go_ret2;exact ⟨b3,.inl ⟨(QG HO).2 trivial,v,rfl,o4⟩⟩
 ·have hne:((L:Int) != (S:Int))=true:=by simp;omega
  have hLS':=QQ hLS;clear hLS;go_wp2;go_ret2;exact ⟨b2,.inr ⟨fun h=>hLS' ((QG HO).1 h),rfl⟩⟩
theorem QhV {W:World} {b b':Nat} {e:TypeId} {size:Nat} {v:Value} {n:Nat} {xs:List Value} (h:W.ownsRow b e size v n xs) (hb:b'≤b):W.ownsRow b' e size v n xs:=by
 refine ⟨h.1,?_⟩
 rcases h.2 with h | ⟨g,cap,cur,h1,h2,h3⟩
 ·exact .inl h
 ·exact .inr ⟨g,cap,cur,h1,Nat.le_trans hb h2,h3⟩
def Qqj:Value:=.agg #[.slice none 0 0,.slice none 0 0,.slice none 0 0,.slice none 0 0,.slice none 0 0]
theorem QeX:(Tryz.prog.info? 29).map (·.size)=some 5:=by kernel_rfl
theorem Qlr (W:World) (I:Array Value) (hI:I.size=5) (kc:∀ V,Below W.heap.size W V→Calls Tryz.prog 10 #[.agg I] V fun e W'=>e=.returned (.int .i64 240)∧Below V.heap.size V W') :
  Calls Tryz.prog 21 #[.agg I] W fun e W'=>e=.returned (.tuple #[.slice none 0 0,.int .i64 240])∧Below W.heap.size W W':=by
 have KC:=QQ kc
 have hi5:(Tryz.prog.info? 29).map (·.size)=some I.size:=by rw [hI];exact QeX
 clear kc;go_enter Tryz.func21,Tryz.ntmps21
 go_upto_region 1 with fail
 generalize hV:World.alloc _ _=V
 have bV:Below W.heap.size W V:=by rw [← hV];exact (QB _ _).alloc (QN _) _
 have e:V.heap[W.heap.size]?=some (.cells I 29):=by rw [← hV];exact QW _ _
 clear hV
 go_wp2_with first
  | (refine Qai (by rfl) 29 (.tmp 1) rfl W.heap.size 0 rfl _ I _ e (by rw [List.drop_zero,List.take_of_length_le (by simp)]) _ Tryz.underlying29 rfl hi5 ?_)
  | (go_at_call 10;refine Qau ?_)
 unfold Qag;refine ((QG KC) _ bV).mono ?_;rintro e' w1 ⟨rfl,b1⟩;replace bV:=bV.trans (b1.mono bV.size);clear KC b1 e;go_wp2;go_ret2;exact ⟨rfl,bV⟩

section
variable {P : Program} {n : Nat}
end
section
attribute [local go_sem] Oper.semAt_some QaB QaJ QaA
theorem Qmc (x:Nat) (h:x<4294967296):leW (QaE x) 0 4=x:=by
 unfold QaE;simp [leW];omega
def imz:Array Value:=#[.slice none 0 0,.slice none 0 0,.slice none 0 0,.slice none 0 0,.slice none 0 0]
theorem Ql3:imz.all (·.oneCell')=true:=by unfold imz;simp [Value.oneCell']
theorem QnS (W:World) (a:Option Addr) (len cap:Nat) (zs:List Int) (hr:QaL W.heap.size W (.slice a len cap) zs) (hsm:zs.length≤1000000) (ho:¬ QcW zs) :
  Calls Tryz.prog 5 #[.slice a len cap] W fun e W'=>e=.returned (.tuple #[Qqj,.int .i64 230])∧Below W.heap.size W W':=by
 have kc:=fun (V:World) (hV:Below W.heap.size W V)=>QhT a len cap zs V ((hr.below hV).mono hV.size) (by omega)
 have KC:=QQ kc;clear hr kc;go_enter Tryz.func5,Tryz.ntmps5
 go_upto_region 1 with fail
 generalize hV:World.alloc _ _=V
 have bV:Below W.heap.size W V:=by rw [← hV];exact (QB _ _).alloc (QN _) _
 have e:V.heap[W.heap.size]?=some (.cells imz 29):=by rw [← hV];exact QW _ _
 have sV:W.heap.size<V.heap.size:=(QI.1 e).1;clear hV;go_wp2_with (go_at_call 14;refine Qau ?_);unfold Qag;refine Calls.mono ((QG KC) V bV) ?_;rintro e' w1 ⟨b1,(⟨h,_⟩ | ⟨_,rfl⟩)⟩
 ·exact absurd h ho
 replace e:=(b1.block _ sV).trans e;replace bV:=bV.trans (b1.mono bV.size);clear KC b1 sV;go_wp2_with ((fail_if_success (unfold Qag));refine Qan (t:=29) rfl ?_);unfold Qag;refine Qab rfl 29 (.tmp 2) (.tmp 36) rfl W.heap.size imz rfl rfl 29 imz e QeX rfl Ql3 ?_;obtain ⟨V6,hV6⟩:∃ V6,V6=w1.setRow W.heap.size imz:=⟨_,rfl⟩
 have e6:V6.heap[W.heap.size]?=some (.cells imz 29):=by rw [hV6];exact setRow_heap _ _ _ _ _ _ e
 have b6:Below W.heap.size W V6:=by rw [hV6];exact Qaj bV (QN _) _
 rw [← hV6];clear hV6 e bV;go_wp2;refine bodyPost_ret (QaT rfl _ _ _ W.heap.size 29 imz (0,0) _ rfl e6 Tryz.underlying29 QeX) rfl ?_;exact ⟨rfl,b6⟩
theorem QnT (W:World) (a:Option Addr) (len cap:Nat) (zs:List Int) (hr:QaL W.heap.size W (.slice a len cap) zs) (hsm:zs.length≤1000000) (ho:QcW zs) (hn:Qa9 1 (zs.take (len-4))=none) :
  Calls Tryz.prog 5 #[.slice a len cap] W fun e W'=>e=.returned (.tuple #[Qqj,.int .i64 220])∧Below W.heap.size W W':=by
 have kc:=fun (V:World) (hV:Below W.heap.size W V)=>QhT a len cap zs V ((hr.below hV).mono hV.size) (by omega)
 have hl:=hr.1.open.1
 have hby:∀ z∈zs.take (len-4),0≤z∧z≤255:=fun z hz=>hr.2 z (List.mem_of_mem_take hz)
 have hlt:(zs.take (len-4)).length=len-4:=by rw [List.length_take];omega
 obtain ⟨ys,hys⟩:∃ ys,ys=zs.take (len-4):=⟨_,rfl⟩;rw [← hys] at kc hby hn hlt;have KC:=QQ kc;clear hr kc hys;go_enter Tryz.func5,Tryz.ntmps5
 go_upto_region 1 with fail
 generalize hV:World.alloc _ _=V
 have bV:Below W.heap.size W V:=by rw [← hV];exact (QB _ _).alloc (QN _) _
 have e:V.heap[W.heap.size]?=some (.cells imz 29):=by rw [← hV];exact QW _ _
 have sV:W.heap.size<V.heap.size:=(QI.1 e).1;clear hV;go_wp2_with (go_at_call 14;refine Qau ?_);unfold Qag;refine Calls.mono ((QG KC) V bV) ?_;rintro e' w1 ⟨b1,(⟨_,v,rfl,o1⟩ | ⟨h,_⟩)⟩
 rotate_left
 ·exact absurd ho h
 obtain ⟨a1,c1,rfl,_⟩:=Qaa o1
 have r1:QaL w1.heap.size w1 (.slice a1 (len-4) c1) ys:=QbM (by rw [hlt] at *;exact o1) hby _ _ fun b hb=>⟨rfl,(o1.lt b hb).2⟩
 have kt:=QiS ys w1 a1 (len-4) c1 r1 (by omega);replace e:=(b1.block _ sV).trans e;replace bV:=bV.trans (b1.mono bV.size);have s1:W.heap.size<w1.heap.size:=(QI.1 e).1;clear KC b1 sV r1 o1 hby hlt;go_wp2_with (go_at_call 15;refine Qau ?_);unfold Qag;refine Calls.mono kt ?_;rintro e' w2 ⟨b2,ra,rl,rc,E,rfl,(⟨_,rfl,rfl,rfl,rfl⟩ | ⟨f,hf,_⟩)⟩
 rotate_left
 ·rw [hn] at hf;cases hf
 replace e:=(b2.block _ s1).trans e;replace bV:=bV.trans (b2.mono bV.size);clear kt b2 s1;go_wp2_with ((fail_if_success (unfold Qag));refine Qan (t:=29) rfl ?_);unfold Qag;refine Qab rfl 29 (.tmp 2) (.tmp 45) rfl W.heap.size imz rfl rfl 29 imz e QeX rfl Ql3 ?_;obtain ⟨V6,hV6⟩:∃ V6,V6=w2.setRow W.heap.size imz:=⟨_,rfl⟩
 have e6:V6.heap[W.heap.size]?=some (.cells imz 29):=by rw [hV6];exact setRow_heap _ _ _ _ _ _ e
 have b6:Below W.heap.size W V6:=by rw [hV6];exact Qaj bV (QN _) _
 rw [← hV6];clear hV6 e bV;go_wp2;refine bodyPost_ret (QaT rfl _ _ _ W.heap.size 29 imz (0,0) _ rfl e6 Tryz.underlying29 QeX) rfl ?_;exact ⟨rfl,b6⟩
end
section
attribute [local go_sem] Oper.semAt_some QaB QaJ QaA
theorem Qf6.below {W W':World} {n:Nat} {a:Option Addr} {fs:List Fe} (h:Qf6 W n a fs) (hb:Below n W W'):Qf6 W' n a fs:=by
 rcases h with h | ⟨b,off,e,hn,hc⟩
 ·exact .inl h
 ·exact .inr ⟨b,off,e,hn,fun i hi j v hj=>(hb.cell (p:=⟨b,off+i*3+j,none⟩) hn).trans (hc i hi j v hj)⟩
theorem Qf6.mono {W:World} {n m:Nat} {a:Option Addr} {fs:List Fe} (h:Qf6 W n a fs) (hm:n≤m):Qf6 W m a fs:=by
 rcases h with h | ⟨b,off,e,hn,hc⟩
 ·exact .inl h
 ·exact .inr ⟨b,off,e,by omega,hc⟩
theorem Qf6.lt {W:World} {n:Nat} {a:Option Addr} {fs:List Fe} {cap:Nat} (h:Qf6 W n a fs):∀ b,QaO (.slice a fs.length cap) b→b<n:=fun b hb=>by
 rcases h with h | ⟨b2,off,e,hn,hc⟩
 ·subst h;cases a with
  | none=>exact hb.elim
  | some q=>exact absurd hb.1 (by simp)
 ·subst e;have:b=b2:=hb.2;omega
variable {n : Nat}
end
section
attribute [local go_sem] Oper.semAt_some QaB QaJ QaA
theorem QeD {F:Fence} {n:Nat} {P:Program} {fn:Func} {tmps:Array Value} {R:Ending→World→Prop} :
  ∀ (ds:List Deferred) (W:World),(∀ d∈ds,∃ D,d=QeE D∧W.heap[D]?=some (.deferred (some [])))→ds.Nodup →
   (∀ W',QaM (fun b=>QeE b ∉ ds) W W'→LeavesInM F n P fn tmps R [] .returning W')→LeavesInM F n P fn tmps R ds .returning W
 | [],W,_,_,hR=>hR W (QaM.refl _ _)
 | d::ds,W,hm,hn,hR=>by
  obtain ⟨D,rfl,h3⟩:=hm d (List.mem_cons_self ..);have hn1:=(List.nodup_cons.1 hn);refine ⟨by simp,.inl ⟨D,W.putObj D (.deferred none),rfl,run_takeDeferred h3,?_⟩⟩
  refine QeD ds _ (fun d2 h2=>?_) hn1.2 fun W' h=>hR W' ⟨h.os,h.tape,h.output,by have:=h.size;simpa using this,fun b hb=>?_⟩
  ·obtain ⟨D2,e2,k2⟩:=hm d2 (List.mem_cons_of_mem _ h2)
   refine ⟨D2,e2,(World.putObj_heap_other (fun e=>hn1.1 ?_)).trans k2⟩;rw [e] at e2;rw [← e2];exact h2
  ·have hb2:QeE b ∉ ds:=fun h=>hb (List.mem_cons_of_mem _ h)
   have hbD:b≠D:=fun e=>hb (by rw [e];exact List.mem_cons_self ..)
   exact (h.block b hb2).trans (World.putObj_heap_other hbD)
theorem QgP:∀ (l:List Nat),l.Pairwise (·≠·)→(l.map QeE).Nodup
 | [],_=>List.nodup_nil
 | D::l,h=>by
  rw [List.map_cons,List.nodup_cons];rw [List.pairwise_cons] at h;refine ⟨fun hm=>?_,QgP l h.2⟩;obtain ⟨D2,h2,e⟩:=List.mem_map.1 hm;exact h.1 D2 h2 (Qfj e).symm
end
section
attribute [local go_sem] Oper.semAt_some
section
variable {F : Fence} {nF : Nat} {P : Program} {ops : Array Oper} {Q : Exit → Act → World → Prop} {a : Act} {w : World} {rest : List Oper} {o : Oper}
theorem Qfv (hg:o.guard=none) (l c:Operand) (t:TypeId) (hop:o.op=Op.makeSlice t l c)
  (base:Nat) (e:TypeId) (i:TypeInfo) (z:Value) (size:Nat) (h1:P.underlying t=some (.slice e)) (h2:P.info? e=some i) (h3:i.zero=some z) (h4:i.size=size)
  (kl kc:IntKind) (n:Nat) (hl:a.eval l=.int kl (n:Int)) (hc:a.eval c=.int kc (n:Int)) (b2:i.bytes*n≤281474976710656) (b3:n≤maxLen) (b4:base≤w.heap.size)
  (hK:∀ w',w'.ownsRow base e size (.slice (some ⟨w.heap.size,0,none⟩) n n) n (madeCells z.cells (n*size)).toList→w.grownBy w' none→wpListIn F nF P ops Q rest (a.put o.dst (.slice (some ⟨w.heap.size,0,none⟩) n n)) w') :
  wpListIn F nF P ops Q (o::rest) a w:=by
 refine wpListIn_plain hg fun K hK'=>?_
 obtain ⟨w',hrun,r1,r2⟩:=run_make_full (P:=P) w base t e i z size h1 h2 h3 h4 kl kc n b2 b3 b4;unfold Oper.wpIn;refine ⟨by simp [Oper.about,hop],?_⟩;rw [Oper.semAt_plain F _ _ (by rw [hop];intro c hc';cases hc')];simp [execOp,hop,hl,hc,hrun,Result.andThen];exact hK' _ _ (hK w' r1 r2)
theorem Qll {t:TypeId} {x y:Operand} (ho:o.op=.makeSlice t x y) (h:Qag (wpListIn F nF P ops Q (o::rest) a w)):wpListIn F nF P ops Q (o::rest) a w:=h
theorem QfV (hgd:o.guard=none) (d s:Operand) (dT sT:TypeId) (ho:o.op=.call { callee:=.builtin .copy,args:=#[d,s],argTypes:=#[dT,sT] }) (dv sv v:Value) (w':World) (hd:a.eval d=dv) (hs:a.eval s=sv)
  (hr:(Builtin.copy_ #[dT,sT] o.type #[dv,sv]).run P w=.ok v w') (h:wpListIn F nF P ops Q rest (a.put o.dst v) w'):wpListIn F nF P ops Q (o::rest) a w:=by
 refine wpListIn_plain hgd fun K hK=>?_
 unfold Oper.wpIn;refine ⟨by simp [Oper.about,ho,resolve,Target.leads,Sem.run_pure],?_⟩;rw [Oper.semAt_plain F _ _ (by rw [ho];intro c hc';cases hc')];simp [execOp,ho,resolve,invoke,builtin,hd,hs,hr,Result.andThen];exact hK _ _ h
theorem Qlk {xs:Array Operand} {ts:Array TypeId} (ho:o.op=.call { callee:=.builtin .copy,args:=xs,argTypes:=ts }) (h:Qag (wpListIn F nF P ops Q (o::rest) a w)):wpListIn F nF P ops Q (o::rest) a w:=h
end
def QbX (bs:List Int) (many:Nat):List Int:=(Qbd bs).take many++List.replicate (many-(Qbd bs).length) 0
def bsOf (tag:Int) (fs:List (Fe × List Int)):List Int:=match Qak tag fs with | []=>[] | e::_=>e.2
theorem QnE (n:Nat):(madeCells (Value.int .u32 0).cells (n*1)).toList=(List.replicate n (0:Int)).map (Value.int .u32):=by
 apply List.ext_getElem?;intro j;by_cases h:j<n
 ·simp [madeCells,Value.cells,h,Nat.mod_one]
 ·simp [madeCells,Value.cells,h]
theorem QkJ (many:Nat):QbX [] many=List.replicate many 0:=by simp [QbX,Qbd,Qc9]
theorem QbS (bs:List Int) (many:Nat):(QbX bs many).length=many:=by simp [QbX];omega
theorem QpK (bs:List Int) (many:Nat) (cur:Array Value) (hc:cur.toList=(List.replicate many (0:Int)).map (Value.int .u32)) (hs:cur.size=many) :
  (cur.toList.take 0++((Qbd bs).take many).map (Value.int .u32)++cur.toList.drop (0+(((Qbd bs).take many).map (Value.int .u32)).length)).toArray=((QbX bs many).map (Value.int .u32)).toArray:=by
 rw [hc]
 congr 1
 simp only [List.take_zero,List.nil_append,QbX,List.map_append,QM,List.length_take,Nat.zero_add,List.map_replicate,List.drop_replicate]
 congr 2
 omega
theorem Qom {W:World} {b n:Nat} {zs:List Int} {k:IntKind} {e:TypeId} (h:W.heap[b]?=some (.cells (zs.map (Value.int k)).toArray e)) (hl:zs.length=n) (hn:n≤maxLen):W.ownsRow b e 1 (.slice (some ⟨b,0,none⟩) n n) n (zs.map (Value.int k)) :=
 ⟨by simp [hl],.inr ⟨b,n,_,rfl,QN _,h,QN _,hn,by simp [hl],by rw [Nat.mul_one,List.take_of_length_le (by simp [hl])]⟩⟩
theorem QcX {n:Nat} {g:Operand} {ps:Array Tmp} {assign body:Code} {Q:Exit→Act→World→Prop} {a:Act} {w:World} (X:World) (N:Nat) (hN:N≤X.heap.size) (ra:Option Addr) (rl rc:Nat) (tag:Int) (fs:List (Fe × List Int))
  (hw:w=(X.alloc (.cells #[.slice ra rl rc] 59)).alloc (.cells #[.int .i64 tag] 3))
  (hg:a.eval g=.func (.func 57) #[] #[.pointer (some ⟨X.heap.size,0,none⟩),.pointer (some ⟨X.heap.size+1,0,none⟩)])
  (hl:fs.length=rl) (hf:Qf6 X N ra (fs.map (·.1))) (hby:∀ e∈fs,QaL N X (.slice e.1.a e.1.l e.1.c) e.2) (hsm:fs.length≤1000000) (hbs:∀ e∈fs,e.2.length≤1048576) (hps:ps.size=2)
  (I:Nat→(Nat→Prop)→World→Prop) (Ix:Code→Nat→(Nat→Prop)→World→Prop) (S0:Nat→Prop) (hS0:∀ b,S0 b→N≤b∧b<X.heap.size)
  (hI:QeP w.heap.size I) (hIx:∀ c,QeP w.heap.size (Ix c)) (hlt:∀ k S W,I k S W→∀ b,S b→b<W.heap.size) (h0:I 0 S0 w)
  (Af:Array Value→Nat→World→Prop) (hAf:∀ x m W W',W'.heap[m]?=W.heap[m]?→Af x m W→Af x m W') (a₁:Array Value→Nat→Act)
  (hassign:∀ (l k:Nat) (h:k<(Qak tag fs).length) (W:World) (args:Array Value) (G:Nat→Prop) (K:Act→World→Prop),Qo W (Qak tag fs)[k] args G→(∀ W1,Below W.heap.size W W1→Af args W.heap.size W1→K (a₁ args W.heap.size) W1) →
   assign.wpIn (Fence.wide.inRound l) 100 Tryz.prog (Exit.then K (fun _ _ _=>False)) { tmps:=(ps.zip args).foldl (fun t (p,v)=>t.setIfInBounds p v) a.tmps,defers:=[] } W)
  (hbody:∀ (l k:Nat) (h:k<(Qak tag fs).length) (S:Nat→Prop) (W:World) (m:Nat) (args:Array Value) (G:Nat→Prop),I k S W→w.heap.size≤m→m≤W.heap.size→¬ S m→¬ G m→Af args m W→Qo W (Qak tag fs)[k] args G→(∀ b,G b→w.heap.size≤b∧b<W.heap.size∧¬ S b) →
   body.wpIn (Fence.wide.inRound l) 100 Tryz.prog (Qd4 I Ix k (fun b=>S b∨G b) W) (a₁ args m) W)
  (hdone:∀ (D:Nat) (S:Nat→Prop) (W:World),w.heap.size≤D→¬ S D→I (Qak tag fs).length S W→W.heap[D]?=some (.deferred (some [])) →
   Q .normal { tmps:=a.tmps,defers:=QeE D::a.defers } W)
  (hstop:∀ (D:Nat) (c:Code) (k:Nat) (S:Nat→Prop) (W:World),w.heap.size≤D→¬ S D→k≤(Qak tag fs).length→Ix c k S W→W.heap[D]?=some (.deferred (some [])) →
   c.wpIn Fence.wide n Tryz.prog Q { tmps:=a.tmps,defers:=QeE D::a.defers } W) :
  (Code.rangeFunc g ps assign body).wpIn Fence.wide n Tryz.prog Q a w:=by
 subst hl
 have sz:w.heap.size=X.heap.size+2:=by rw [hw];simp
 have b:Below X.heap.size X w:=by rw [hw];exact ((QB _ _).alloc (QN _) _).alloc (by simp) _
 have e1:w.heap[X.heap.size]?=some (.cells #[.slice ra fs.length rc] 59):=by
  rw [hw,((QB _ _).alloc (QN _) _:Below _ _ _).block _ (by simp)];exact QW _ _
 have e2:w.heap[X.heap.size+1]?=some (.cells #[.int .i64 tag] 3):=by
  rw [hw];have:=QW (X.alloc (.cells #[.slice ra fs.length rc] 59)) (Obj.cells #[.int .i64 tag] 3);simpa using this
 clear hw;have hfl:=hf.lt (cap:=rc);rw [QM] at hfl;have hit:=Qjh (X.heap.size) (X.heap.size+1) ra rc tag fs w (by omega) (by omega) (by rw [cell_of_row w _ 0 _ _ _ e1];rfl) (by rw [cell_of_row w _ 0 _ _ _ e2];rfl) ((hf.below (b.mono hN)).mono (by omega)) (fun e he=>((hby e he).below (b.mono hN)).mono (by omega)) hsm hbs
 refine QkX (gf:=57) hg (enters_of Tryz.func57 (by kernel_rfl) rfl) hit (fun W x args G h=>by obtain ⟨v,rfl,_⟩:=h;exact hps.symm) Qo.keep
  I Ix S0 ?hX hI hIx hlt h0 Af hAf a₁ hassign hbody hdone hstop
 rintro c (rfl | rfl | hc | ⟨e,he,hc⟩)
 ·exact ⟨by omega,fun h=>by have:=hS0 _ h;omega⟩
 ·exact ⟨by omega,fun h=>by have:=hS0 _ h;omega⟩
 ·have:=hfl c hc
  exact ⟨by omega,fun h=>by have:=hS0 _ h;omega⟩
 ·have:=(hby e he).lt c hc
  exact ⟨by omega,fun h=>by have:=hS0 _ h;omega⟩
theorem QjG (W:World) (a:Option Addr) (len cap:Nat) (tag:Int) (many:Nat) (hmany:many≤1000) (fs:List (Fe × List Int)) (hl:fs.length=len) (hf:Qf6 W W.heap.size a (fs.map (·.1)))
  (hby:∀ e∈fs,QaL W.heap.size W (.slice e.1.a e.1.l e.1.c) e.2) (hsm:fs.length≤1000000) (hbs:∀ e∈fs,e.2.length≤1048576) :
  Calls Tryz.prog 63 #[.slice a len cap,.int .i64 tag,.int .i64 (many:Int)] W fun e W'=>∃ g,e=.returned (.slice (some ⟨g,0,none⟩) many many)∧W'.ownsRow W.heap.size 40 1 (.slice (some ⟨g,0,none⟩) many many) many ((QbX (bsOf tag fs) many).map (Value.int .u32))∧Below W.heap.size W W':=by
 subst hl;obtain ⟨i0,hi,hz0,hz1,hz2⟩:=info_parts QhP;refine (callsIn_wide (n:=102)).1 ?_;refine callsIn_of_wp_marks Tryz.func63 rfl trivial ?_ rfl;simp only [Tryz.ntmps63,QS,List.length_cons,List.length_nil,Nat.reduceAdd,Nat.reduceSub,Array.replicate_succ,Array.replicate_zero,List.push_toArray,List.append_toArray,List.nil_append,List.cons_append];have hch3:Fence.wide.fn 16:=trivial
 gi_wp2_with ((fail_if_success (unfold Qag));refine Qll rfl ?_)
 unfold Qag;refine Qfv rfl _ _ 78 rfl W.heap.size 40 i0 (.int .u32 0) 1 Tryz.underlying78 hi hz0 hz1 .i64 .i64 many rfl rfl (by rw [hz2];omega) (by simp only [maxLen];omega) (QN _) ?_;intro w1 o1 g1;rw [QnE] at o1;have b1:Below W.heap.size W w1:=⟨g1.os,g1.tape,g1.output,g1.size,fun b hb=>g1.block b hb (by simp)⟩
 obtain ⟨cur,hcur,hcs,hct⟩:∃ cur,w1.heap[W.heap.size]?=some (.cells cur 40)∧cur.size=many∧cur.toList=(List.replicate many (0:Int)).map (Value.int .u32):=by
  rcases o1.2 with ⟨h,_⟩ | ⟨g,cp,cur,h,_,h2,_,_,h3,h4⟩
  ·cases h
  ·injection h with h5 _ h6
   injection h5 with h5
   injection h5 with h5 _ _
   subst h5 h6;exact ⟨cur,h2,by omega,by rw [← h4,List.take_of_length_le (by simp;omega)]⟩
 have l1:W.heap.size<w1.heap.size:=(QI.1 hcur).1;clear g1 o1
 gi_wp2_with (gi_at_call 16;refine (QeV Fence.wide _ trivial rfl _ _ _ _ _).mono ?_;rintro e w' ⟨rfl,rfl⟩)
 obtain ⟨X,hX⟩:∃ X,X=w1.alloc (.cells #[.slice (some ⟨W.heap.size,0,none⟩) many many] 78):=⟨_,rfl⟩
 have sX:X.heap.size=w1.heap.size+1:=by rw [hX];simp
 have bX:Below W.heap.size W X:=by rw [hX];exact b1.alloc b1.size _
 have fB:Boxed X w1.heap.size 78 (.slice (some ⟨W.heap.size,0,none⟩) many many):=by rw [hX];exact Boxed.new _ _ _
 have fR:X.heap[W.heap.size]?=some (.cells cur 40):=by rw [hX];exact (Below.heap_alloc _ _ _ l1).trans hcur
 have hsX:w1.heap.size+1=X.heap.size:=sX.symm;obtain ⟨Y,hY⟩:∃ Y,Y=(X.alloc (.cells #[.slice a fs.length cap] 59)).alloc (.cells #[.int .i64 tag] 3):=⟨_,rfl⟩
 have bwX:Below X.heap.size X Y:=by rw [hY];exact ((QB _ _).alloc (QN _) _).alloc (by simp) _
 rw [hsX,← hX,← hY];obtain ⟨T7,hT7⟩:∃ t,t=w1.heap.size:=⟨_,rfl⟩;rw [← hT7] at fB sX l1 ⊢;have sYX:=bwX.size;have sWX:=bX.size
 have sTX:T7<X.heap.size:=by omega
 clear hsX b1 hcur hX sX hT7;obtain ⟨nz,hnz⟩:∃ nz:Array Value,nz=((QbX (bsOf tag fs) many).map (Value.int .u32)).toArray:=⟨_,rfl⟩
 refine QcX X W.heap.size bX.size a fs.length cap tag fs hY rfl rfl (hf.below bX) (fun e he=>(hby e he).below bX) hsm hbs rfl
  (fun k S A=>k=0∧S=(fun b=>b=W.heap.size)∧A.heap[W.heap.size]?=some (.cells cur 40)∧Boxed A T7 78 (.slice (some ⟨W.heap.size,0,none⟩) many many)∧Below W.heap.size W A)
  (fun c k S A=>c=.exit 0∧S=(fun b=>b=W.heap.size)∧A.heap[W.heap.size]?=some (.cells nz 40)∧Boxed A T7 78 (.slice (some ⟨W.heap.size,0,none⟩) many many)∧Below W.heap.size W A)
  (fun b=>b=W.heap.size) (fun b hb=>by omega) ?hI ?hIx ?hlt ?h0 (fun _ _ _=>True) (fun _ _ _ _ _ _=>trivial)
  (fun args _=>{ tmps:=#[.slice a fs.length cap,.int .i64 tag,.int .i64 (many:Int),undef,undef,undef,.slice none 0 0,.pointer (some ⟨T7,0,none⟩),undef,args.getD 1 undef,.int .i64 (many:Int),.slice (some ⟨W.heap.size,0,none⟩) many many,.slice a fs.length cap,.int .i64 tag,
   .func (.func 57) #[] #[.pointer (some ⟨X.heap.size,0,none⟩),.pointer (some ⟨X.heap.size+1,0,none⟩)],args.getD 0 undef,args.getD 1 undef,undef,undef,undef,undef],defers:=[] }) ?assign ?body ?done ?stop
 case hI=>rintro k S A A' ⟨q0,rfl,q1,q2,q3⟩ hs;exact ⟨q0,rfl,(hs.block _ (.inr rfl)).trans q1,(hs.block _ (.inl (by have:=bwX.size;omega))).trans q2,q3.trans (hs.below fun b hb=>.inl (by have:=bwX.size;have:=bX.size;omega))⟩
 case hIx=>rintro c k S A A' ⟨q0,rfl,q1,q2,q3⟩ hs;exact ⟨q0,rfl,(hs.block _ (.inr rfl)).trans q1,(hs.block _ (.inl (by have:=bwX.size;omega))).trans q2,q3.trans (hs.below fun b hb=>.inl (by have:=bwX.size;have:=bX.size;omega))⟩
 case hlt=>rintro k S A ⟨q0,rfl,q1,q2,q3⟩ b rfl;exact (QI.1 q1).1
 case h0=>exact ⟨rfl,rfl,(bwX.block _ (by omega)).trans fR,(bwX.block _ (by omega)).trans fB,bX.trans (bwX.mono bX.size)⟩
 case assign =>
  rintro l k hk A args G K ⟨v,rfl,_⟩ hK
  gi_wp2
  exact hK A (QB _ _) trivial
 case body =>
  rintro l k hk S A m args G ⟨rfl,rfl,q1,q2,q3⟩ hm1 hm2 hm3 hm4 _ ⟨v,rfl,q4,rfl⟩ hG
  have hbs0:bsOf tag fs=(Qak tag fs)[0].2:=by
   unfold bsOf;generalize Qak tag fs=hs at hk ⊢
   cases hs with
   | nil=>simp at hk
   | cons e r=>rfl
  obtain ⟨bs,hbs2⟩:∃ bs,bs=(Qak tag fs)[0].2:=⟨_,rfl⟩;rw [← hbs2] at q4 hbs0;rw [hbs0] at hnz;obtain ⟨ag,hag⟩:∃ ag:Value,ag=.agg (Qak tag fs)[0].1.cells.toArray:=⟨_,rfl⟩;rw [← hag];have q2c:=q2.cell;have hwl:(Qbd bs).length=(bs.length+3) / 4:=QdV _ _;have hcw:=QpK bs many cur hct hcs;clear hbs0 hbs2 hag
  obtain ⟨v',w',hr,hw',hgo⟩:∃ (v':Value) (w':World),(Builtin.copy_ #[78,78] 3 #[.slice (some ⟨W.heap.size,0,none⟩) many many,v]).run Tryz.prog A=.ok v' w'∧w'.heap[W.heap.size]?=some (.cells nz 40) ∧
    (∀ b,b≠W.heap.size→w'.heap[b]?=A.heap[b]?)∧w'.heap.size=A.heap.size∧w'.os=A.os∧w'.tape=A.tape∧w'.output=A.output:=by
   rcases q4.2 with ⟨hv,h0⟩ | ⟨g,cp,cu,hv,_,_,h3,_⟩
   ·subst hv
    refine ⟨_,A,run_copy_none A _ _ _ _ _ _ _ _ _ _ Tryz.underlying78 QcC (by simp),?_,fun _ _=>rfl,rfl,rfl,rfl,rfl⟩;have:Qbd bs=[]:=List.length_eq_zero_iff.1 (by omega);rw [this] at hcw;rw [q1,hnz,← hcw];simp
   ·subst hv
    have hc2:∀ j u,(((Qbd bs).take many).map (Value.int .u32))[j]?=some u→A.cell? ((⟨g,0,none⟩:Addr).add j)=some u:=fun j u hj=>by
     have hjl:=(List.getElem?_eq_some_iff.1 hj).1;simp only [QM,List.length_take] at hjl;refine World.ownsRow.cells q4 rfl j u ?_;rw [List.getElem?_map,List.getElem?_take,if_pos (by omega)] at hj;rw [List.getElem?_map];exact hj
    have hlen:(((Qbd bs).take many).map (Value.int .u32)).length=Nat.min ((bs.length+3) / 4) many:=by simp [hwl,Nat.min_comm]
    refine ⟨_,_,run_copy_row (P:=Tryz.prog) A _ _ _ 40 W.heap.size 0 many many ⟨g,0,none⟩ _ cp cur 40 _ Tryz.underlying78 QcC q1 hlen hc2 (by rw [hlen,hcs,Nat.zero_add];exact Nat.min_le_right _ _) (fun u hu=>by obtain ⟨z,_,rfl⟩:=List.mem_map.1 hu;rfl),?_,fun b hb=>setRow_other _ _ _ _ hb,size_setRow _ _ _,rfl,rfl,rfl⟩;rw [hcw,← hnz];exact setRow_heap _ _ _ _ _ _ q1
  obtain ⟨hw2,hw3,hw4,hw5,hw6⟩:=hgo;have sA3:=q3.size;have lR:=(QI.1 q1).1;have bw':Below W.heap.size W w':=⟨hw4.trans q3.os,hw5.trans q3.tape,hw6.trans q3.output,by omega,fun b hb=>(hw2 b (by omega)).trans (q3.block b hb)⟩;have bx':=(hw2 T7 (by omega)).trans q2;have HR:=QQ hr;clear hnz hcw q4 hwl hr hct
  gi_wp2_with ((fail_if_success (unfold Qag));refine Qlk rfl ?_)
  unfold Qag;refine QfV rfl (.tmp 17) (.tmp 18) 78 78 rfl _ _ v' w' rfl rfl HR ?_
  gi_wp2
  exact ⟨fun b=>b=W.heap.size,⟨rfl,rfl,hw',bx',bw'⟩,⟨hw4,hw5,hw6,by omega,fun b hb hs=>hw2 b (fun e=>hs (.inl e)),fun b hb=>.inl (.inl hb)⟩⟩
 case done =>
  rintro D S A hD hS ⟨q0,rfl,q1,q2,q3⟩ hK
  have hb0:bsOf tag fs=[]:=by unfold bsOf;rw [List.length_eq_zero_iff.1 q0]
  have hct2:cur=((QbX (bsOf tag fs) many).map (Value.int .u32)).toArray:=by rw [hb0,QkJ,← hct]
  have c2:=q2.cell
  have lD:W.heap.size<D:=by omega
  have HC:=QQ hct2;clear hct2 hct hb0 hnz;dsimp only
  gi_wp2
  refine ⟨by simp [QeE],.inl ⟨_,_,rfl,run_takeDeferred hK,?_⟩⟩;exact ⟨.slice (some ⟨W.heap.size,0,none⟩) many many,by simp [results,Tryz.results63,go_sem],W.heap.size,rfl,Qom (by rw [World.putObj_heap_other (by omega),q1,show cur=_ from HC]) (QbS _ _) (by simp only [maxLen];omega),q3.trans (QaM.below (QaM.putObj (p:=fun b=>b<W.heap.size) _ _ _ (by show ¬ D<W.heap.size;omega)) (fun b hb=>hb))⟩
 case stop =>
  rintro D c k S A hD hS hk ⟨rfl,rfl,q1,q2,q3⟩ hK;have c2:=q2.cell
  have lD:W.heap.size<D:=by omega
  have HC:=QQ hnz;clear hnz hct;dsimp only
  gi_wp2
  refine ⟨by simp [QeE],.inl ⟨_,_,rfl,run_takeDeferred hK,?_⟩⟩;exact ⟨.slice (some ⟨W.heap.size,0,none⟩) many many,by simp [results,Tryz.results63,go_sem],W.heap.size,rfl,Qom (by rw [World.putObj_heap_other (by omega),q1,show nz=_ from HC]) (QbS _ _) (by simp only [maxLen];omega),q3.trans (QaM.below (QaM.putObj (p:=fun b=>b<W.heap.size) _ _ _ (by show ¬ D<W.heap.size;omega)) (fun b hb=>hb))⟩
end
def two (t:Int) (n m:Nat):Forest:=.cons t (Qa7 n) .nil (.cons t (Qa7 m) .nil .nil)
def Qd1 (v:Int):Int:=if 9223372036854775808≤v then v-18446744073709551616 else v
def QiW (bs:List Int):Int:=if bs.length=8 then Qek bs else 0
def QcF (o:Option (List Int × Forest)):Int:=match o with | some (bs,_)=>Qd1 (QiW bs) | none=>0
theorem QdT:∀ (bs:List Int),(∀ z∈bs,0≤z∧z≤255)→0≤Qek bs∧Qek bs<256 ^ bs.length
 | [],_=>by simp [Qek]
 | b::r,h=>by
  have h1:=h b (List.mem_cons_self ..)
  obtain ⟨h2,h3⟩:=QdT r fun z hz=>h z (List.mem_cons_of_mem _ hz)
  simp only [Qek,List.length_cons,Int.pow_succ];omega
theorem Qe0 {bs:List Int} (h:∀ z∈bs,0≤z∧z≤255):0≤QiW bs∧QiW bs<18446744073709551616:=by
 unfold QiW
 split
 ·have:=QdT bs h
  rename_i h8;rw [h8] at this
  have e:(256:Int) ^ 8=18446744073709551616:=by decide
  omega
 ·omega
theorem Qcp (v:Int) (h:0≤v∧v<18446744073709551616):IntKind.i64.wrap v=Qd1 v:=by
 show (if (true&&decide (v % (18446744073709551616:Int) ≥ 9223372036854775808))=true then v % 18446744073709551616-18446744073709551616 else v % 18446744073709551616)=_;unfold Qd1;simp only [Bool.true_and,decide_eq_true_eq]
 split <;> split <;> omega
theorem QhB (f:Forest) (hcnt:f.cnt≤20000) (B:Nat) (a:Option Addr) (len cap:Nat) (W:World) (hc:W.cell? ⟨B,0,none⟩=some (.slice a len cap)) (h:SlF W.heap.size W a len cap f) (tag:Int) (ht:tag<128) :
  Calls Tryz.prog 61 #[.int .i64 tag,.pointer (some ⟨B,0,none⟩)] W fun e W'=>e=.returned (.int .i64 (QcF (Qah f tag 0)))∧Below W.heap.size W W':=by
 have kf:=QhL f W W.heap.size (QN _) a len cap h hcnt tag 0 (by decide) (by decide);clear h;obtain ⟨r,hr⟩:∃ r,r=Qah f tag 0:=⟨_,rfl⟩;rw [← hr] at kf ⊢;clear hr;go_enter Tryz.func61,Tryz.ntmps61;go_wp2_with (go_at_call 17;refine Qau ?_);unfold Qag;refine Calls.mono kf ?_;rintro e w1 ⟨b1,F1⟩
 obtain ⟨t,a1,l1,c1,ka,kl,kc,ok,bs,rfl,hrow,hv⟩:∃ (t:Int) (a1:Option Addr) (l1 c1:Nat) (ka:Option Addr) (kl kc:Nat) (ok:Bool) (bs:List Int),e=.returned (.tuple #[.agg #[.int .i64 t,.slice a1 l1 c1,.slice ka kl kc],.bool ok])∧(QaL w1.heap.size w1 (.slice a1 l1 c1) bs∧bs.length≤20000)∧(Qd1 (if t<128∧bs.length=8 then Qek bs else 0)=QcF r∧0≤(if t<128∧bs.length=8 then Qek bs else 0)∧(if t<128∧bs.length=8 then Qek bs else 0)<18446744073709551616):=by
  cases r with
  | none=>exact ⟨0,none,0,0,none,0,0,false,[],F1,⟨Qdu _ _,by simp⟩,by simp [QcF,Qd1],by simp,by simp⟩
  | some p =>
   obtain ⟨bs,k⟩:=p;obtain ⟨a1,l1,c1,ka,kl,kc,rfl,F2⟩:=F1;have hb:=Qe0 F2.row.2
   have e1:(if tag<128∧bs.length=8 then Qek bs else 0)=QiW bs:=by unfold QiW;simp [ht]
   exact ⟨tag,a1,l1,c1,ka,kl,kc,true,bs,rfl,⟨F2.row,by have:=F2.small;omega⟩,by rw [e1];rfl,by rw [e1];exact hb.1,by rw [e1];exact hb.2⟩
 clear F1;go_wp2_with ((fail_if_success (unfold Qag));refine Qan (t:=66) rfl ?_);unfold Qag;refine Qab rfl 66 (.tmp 4) (.tmp 12) rfl w1.heap.size #[.int .i64 t,.slice a1 l1 c1,.slice ka kl kc] rfl rfl 66 zT (QW _ _) QbO rfl (QaS ..) ?_;rw [World.setRow_alloc_new];obtain ⟨V,hV⟩:∃ V,V=w1.alloc (.cells #[.int .i64 t,.slice a1 l1 c1,.slice ka kl kc] 66):=⟨_,rfl⟩
 have e5:V.heap[w1.heap.size]?=some (.cells #[.int .i64 t,.slice a1 l1 c1,.slice ka kl kc] 66):=by rw [hV];exact QW _ _
 have bV:Below w1.heap.size w1 V:=by rw [hV];exact (QB _ _).alloc (QN _) _
 rw [← hV]
 have q0:V.cell? ⟨w1.heap.size,0,none⟩=some (.int .i64 t):=by rw [cell_of_row V _ 0 _ _ _ e5];rfl
 have q1:V.cell? ⟨w1.heap.size,1,none⟩=some (.slice a1 l1 c1):=by rw [cell_of_row V _ 1 _ _ _ e5];rfl
 have q2:V.cell? ⟨w1.heap.size,2,none⟩=some (.slice ka kl kc):=by rw [cell_of_row V _ 2 _ _ _ e5];rfl
 have B2:=b1.trans (bV.mono b1.size);have kv:=Qfs V V.heap.size (QN _) t a1 l1 c1 bs ka kl kc ((hrow.1.below bV).mono bV.size) (by omega);unfold Qgr at kv;obtain ⟨x,hx⟩:∃ x,x=(if t<128∧bs.length=8 then Qek bs else 0):=⟨_,rfl⟩;obtain ⟨y,hy⟩:∃ y,y=decide (t<128∧bs.length=8):=⟨_,rfl⟩;rw [← hx,← hy] at kv;rw [← hx] at hv;have hw:=Qcp x hv.2;rw [hv.1] at hw;clear hV e5 bV b1 hrow kf hc hx hy hv;go_wp2_with (go_at_call 18;refine Qau ?_);unfold Qag;refine Calls.mono kv ?_;rintro e w2 ⟨b2,rfl⟩;have B3:=B2.trans (b2.mono B2.size);clear kv b2 q0 q1 q2;go_wp2;go_ret;exact ⟨rfl,B3⟩
def Fes (n:Nat) (W:World):List (Fe × List Int)→Forest→Prop
 | [],.nil=>True
 | e::fs,.cons t b k r=>e.1.t=t∧e.2=b∧QaL n W (.slice e.1.a e.1.l e.1.c) b∧SlF n W e.1.ka e.1.kl e.1.kc k∧Fes n W fs r
 | _,_=>False
theorem Fes.length {n:Nat} {W:World}:∀ (fs:List (Fe × List Int)) (f:Forest),Fes n W fs f→fs.length=f.length
 | [],.nil,_=>rfl
 | e::fs,.cons t b k r,h=>by rw [List.length_cons,Forest.length,Fes.length fs r h.2.2.2.2]
 | [],.cons _ _ _ _,h=>h.elim
 | _::_,.nil,h=>h.elim
theorem Fes.rows {n:Nat} {W:World}:∀ (fs:List (Fe × List Int)) (f:Forest),Fes n W fs f→∀ e∈fs,QaL n W (.slice e.1.a e.1.l e.1.c) e.2
 | [],.nil,_=>fun e he=>by cases he
 | e::fs,.cons t b k r,h=>fun e2 he=>by
  rcases List.mem_cons.1 he with rfl | he
  ·rw [h.2.1];exact h.2.2.1
  ·exact Fes.rows fs r h.2.2.2.2 e2 he
 | [],.cons _ _ _ _,h=>h.elim
 | _::_,.nil,h=>h.elim
theorem Fes.small {n:Nat} {W:World}:∀ (fs:List (Fe × List Int)) (f:Forest),Fes n W fs f→∀ e∈fs,e.2.length+1≤f.cnt
 | [],.nil,_=>fun e he=>by cases he
 | e::fs,.cons t b k r,h=>fun e2 he=>by
  rw [Forest.cnt]
  rcases List.mem_cons.1 he with rfl | he
  ·rw [h.2.1];omega
  ·have:=Fes.small fs r h.2.2.2.2 e2 he;omega
 | [],.cons _ _ _ _,h=>h.elim
 | _::_,.nil,h=>h.elim
theorem QcR.fes {n:Nat} {W:World}:∀ (f:Forest) (b off:Nat),QcR n W f b off→∃ fs:List (Fe × List Int),Fes n W fs f∧∀ i (h:i<fs.length),∀ j v,(fs[i].1).cells[j]?=some v→W.cell? ⟨b,off+i*3+j,none⟩=some v
 | .nil,b,off,_=>⟨[],trivial,fun i h=>absurd h (by simp)⟩
 | .cons t bs k r,b,off,h=>by
  obtain ⟨a,len,cap,ka,kl,kc,h1,h2,h3,h4,h5,h6,h7,h8,h9⟩:=h;obtain ⟨fs,g1,g2⟩:=QcR.fes r b (off+3) h9;refine ⟨(⟨t,a,len,cap,ka,kl,kc⟩,bs)::fs,⟨rfl,rfl,h6.1,⟨h7,h8⟩,g1⟩,fun i hi j v hj=>?_⟩
  cases i with
  | zero =>
   simp only [List.getElem_cons_zero,Fe.cells] at hj;simp only [Nat.zero_mul,Nat.add_zero]
   match j with
   | 0=>simp at hj;subst hj;exact h1
   | 1=>simp at hj;subst hj;exact h2
   | 2=>simp at hj;subst hj;exact h3
   | j+3=>simp at hj
  | succ i =>
   have:=g2 i (by simpa using hi) j v (by simpa using hj);rw [show off+(i+1)*3+j=off+3+i*3+j by omega];exact this
theorem SlF.fes {n:Nat} {W:World} {a:Option Addr} {len cap:Nat} {f:Forest} (h:SlF n W a len cap f):∃ fs:List (Fe × List Int),Fes n W fs f∧Qf6 W n a (fs.map (·.1))∧fs.length=len:=by
 obtain ⟨hl,h | ⟨b,off,e1,e2,e3,e4,h5⟩⟩:=h
 ·subst h
  cases f with
  | nil=>exact ⟨[],trivial,.inl rfl,rfl⟩
  | cons t b k r=>simp [Forest.length] at hl
 ·obtain ⟨fs,g1,g2⟩:=QcR.fes f b off h5
  refine ⟨fs,g1,.inr ⟨b,off,e1,e2,fun i hi j v hj=>?_⟩,by rw [Fes.length fs f g1,hl]⟩;simp only [QM] at hi;simp only [List.getElem_map] at hj;exact g2 i hi j v hj
def Forest.sel (tag:Int):Forest→List (List Int × Forest)
 | .nil=>[]
 | .cons t b k r=>if t=tag then (b,k)::Forest.sel tag r else Forest.sel tag r
def Qao (o:Option (List Int × Forest)):List Int:=match o with | some (b,_)=>b | none=>[]
theorem Qgc (tag:Int):∀ f:Forest,Qah f tag 0=(f.sel tag).head?
 | .nil=>rfl
 | .cons t b k r=>by
  rw [Qah,Forest.sel];by_cases h:t=tag
  ·simp [h]
  ·simp only [h,if_false];exact Qgc tag r
theorem Fes.hits {n:Nat} {W:World} (tag:Int):∀ (fs:List (Fe × List Int)) (f:Forest),Fes n W fs f→(Qak tag fs).length=(f.sel tag).length∧∀ i (h:i<(Qak tag fs).length) (h2:i<(f.sel tag).length),(Qak tag fs)[i].2=(f.sel tag)[i].1∧(Qak tag fs)[i].1.t=tag ∧
   QaL n W (.slice (Qak tag fs)[i].1.a (Qak tag fs)[i].1.l (Qak tag fs)[i].1.c) (f.sel tag)[i].1∧SlF n W (Qak tag fs)[i].1.ka (Qak tag fs)[i].1.kl (Qak tag fs)[i].1.kc (f.sel tag)[i].2
 | [],.nil,_=>⟨rfl,fun i h=>absurd h (by simp [Qak])⟩
 | e::fs,.cons t b k r,h=>by
  obtain ⟨g1,g2⟩:=Fes.hits tag fs r h.2.2.2.2;by_cases ht:t=tag
  ·have e1:Qak tag (e::fs)=e::Qak tag fs:=by unfold Qak;rw [List.filter_cons_of_pos (by simpa [h.1] using ht)]
   have e2:(Forest.cons t b k r).sel tag=(b,k)::r.sel tag:=by rw [Forest.sel,if_pos ht]
   rw [e1,e2];refine ⟨by simp [g1],fun i hi hi2=>?_⟩
   cases i with
   | zero=>exact ⟨h.2.1,h.1.trans ht,h.2.2.1,h.2.2.2.1⟩
   | succ i=>simpa using g2 i (by simpa using hi) (by simpa using hi2)
  ·have e1:Qak tag (e::fs)=Qak tag fs:=by unfold Qak;rw [List.filter_cons_of_neg (by simpa [h.1] using ht)]
   have e2:(Forest.cons t b k r).sel tag=r.sel tag:=by rw [Forest.sel,if_neg ht]
   rw [e1,e2];exact ⟨g1,g2⟩
 | [],.cons _ _ _ _,h=>h.elim
 | _::_,.nil,h=>h.elim
theorem Fes.bsOf {n:Nat} {W:World} (tag:Int) {fs:List (Fe × List Int)} {f:Forest} (h:Fes n W fs f):bsOf tag fs=Qao (Qah f tag 0):=by
 obtain ⟨h1,h2⟩:=Fes.hits tag fs f h;rw [Qgc];unfold Proofs.YtejcandhijdnhaaGreat.bsOf;generalize Qak tag fs=hs at h1 h2 ⊢;generalize f.sel tag=ss at h1 h2 ⊢
 cases hs with
 | nil=>have:ss=[]:=List.length_eq_zero_iff.1 (by simpa using h1.symm);subst this;rfl
 | cons e r =>
  cases ss with
  | nil=>simp at h1
  | cons s t =>
   have:=(h2 0 (by simp) (by simp)).1;simpa [Qao] using this
section
def Pr.Ok (p:Pr):Prop:=p.cpu.Ok∧p.saved.Ok∧p.sig.Ok
theorem Pr.vals_length {p:Pr} (h:p.Ok) (fa:Option Addr) (fc:Nat) (pa:Option Addr) (pc:Nat):(p.vals fa fc pa pc).length=55:=by
 simp [Pr.vals,Cp.vals_length h.1,Cp.vals_length h.2.1,Sg.vals_length h.2.2]
theorem Qkb (A B B' C:List Value) (n m:Nat) (hA:A.length=n) (hB:B.length=m) (hB':B'.length=m):((A++B++C).take n++B'++(A++B++C).drop (n+m))=A++B'++C:=by
 rw [List.append_assoc A B C,List.take_left' hA,← List.append_assoc A B C,List.drop_left' (by rw [QL,hA,hB])]
theorem QdS (A C:List Value) (x y:Value) (n:Nat) (hA:A.length=n):(A++[x]++C).toArray.setIfInBounds n y=(A++[y]++C).toArray:=by
 rw [List.setIfInBounds_toArray]
 congr 1
 rw [List.append_assoc,List.set_append_right _ _ (by omega),show n-A.length=0 by omega,List.append_assoc];rfl
section
variable (p : Pr) (fa : Option Addr) (fc : Nat) (pa : Option Addr) (pc : Nat)
def Pr.head:List Value:=[.int .i64 p.pid,.int .i64 p.parent,.int .i64 p.state,.int .u32 p.status]
def Pr.tail:List Value:=[.int .i64 p.wait,.int .i64 p.pipe,.int .i64 0,.int .i64 0,.int .i64 0,.int .u32 p.left,.slice fa p.fds.length fc,.int .u32 0,.int .i64 0,.slice pa p.pages.length pc]
theorem Qkf (h:p.Ok) (c:Cp) (hc:c.Ok):(p.vals fa fc pa pc).take 4++c.vals++(p.vals fa fc pa pc).drop (4+11)=({ p with cpu:=c }:Pr).vals fa fc pa pc:=by
 have:=Qkb p.head p.cpu.vals c.vals (p.saved.vals++p.sig.vals++p.tail fa fc pa pc) 4 11 rfl (Cp.vals_length h.1) (Cp.vals_length hc);simpa [Pr.vals,Pr.head,Pr.tail] using this
theorem QhA (h:p.Ok) (c:Cp) (hc:c.Ok):(p.vals fa fc pa pc).take 15++c.vals++(p.vals fa fc pa pc).drop (15+11)=({ p with saved:=c }:Pr).vals fa fc pa pc:=by
 have:=Qkb (p.head++p.cpu.vals) p.saved.vals c.vals (p.sig.vals++p.tail fa fc pa pc) 15 11 (by simp [Pr.head,Cp.vals_length h.1]) (Cp.vals_length h.2.1) (Cp.vals_length hc);simpa [Pr.vals,Pr.head,Pr.tail] using this
theorem Qn7 (h:p.Ok) (s:Sg) (hs:s.Ok):(p.vals fa fc pa pc).take 26++s.vals++(p.vals fa fc pa pc).drop (26+19)=({ p with sig:=s }:Pr).vals fa fc pa pc:=by
 have:=Qkb (p.head++p.cpu.vals++p.saved.vals) p.sig.vals s.vals (p.tail fa fc pa pc) 26 19 (by simp [Pr.head,Cp.vals_length h.1,Cp.vals_length h.2.1]) (Sg.vals_length h.2.2) (Sg.vals_length hs);simpa [Pr.vals,Pr.head,Pr.tail] using this
theorem QmW (h:p.Ok) (l:List Int) (hl:l.length=16):(p.vals fa fc pa pc).take 28++l.map (Value.int .u32)++(p.vals fa fc pa pc).drop (28+16)=({ p with sig:={ p.sig with hand:=l } }:Pr).vals fa fc pa pc:=by
 have:=Qkb (p.head++p.cpu.vals++p.saved.vals++[.int .u32 p.sig.pend,.int .u32 p.sig.mask]) (p.sig.hand.map (Value.int .u32)) (l.map (Value.int .u32)) (Value.bool p.sig.busy::p.tail fa fc pa pc) 28 16 (by simp [Pr.head,Cp.vals_length h.1,Cp.vals_length h.2.1]) (by simp [h.2.2.2.2.1]) (by simp [hl]);simpa [Pr.vals,Sg.vals,Pr.head,Pr.tail] using this
theorem QgW (h:p.Ok):(p.head++p.cpu.vals++p.saved.vals++p.sig.vals).length=45:=by simp [Pr.head,Cp.vals_length h.1,Cp.vals_length h.2.1,Sg.vals_length h.2.2]
theorem QiZ (h:p.Ok) (x:Int):(p.vals fa fc pa pc).toArray.setIfInBounds 45 (.int .i64 x)=(({ p with wait:=x }:Pr).vals fa fc pa pc).toArray:=by
 have:=QdS (p.head++p.cpu.vals++p.saved.vals++p.sig.vals) ((p.tail fa fc pa pc).drop 1) (.int .i64 p.wait) (.int .i64 x) 45 (QgW p h);simpa [Pr.vals,Pr.head,Pr.tail] using this
theorem QiY (h:p.Ok) (x:Int):(p.vals fa fc pa pc).toArray.setIfInBounds 46 (.int .i64 x)=(({ p with pipe:=x }:Pr).vals fa fc pa pc).toArray:=by
 have:=QdS (p.head++p.cpu.vals++p.saved.vals++p.sig.vals++[.int .i64 p.wait]) ((p.tail fa fc pa pc).drop 2) (.int .i64 p.pipe) (.int .i64 x) 46 (by rw [QL,QgW p h];rfl);simpa [Pr.vals,Pr.head,Pr.tail] using this
theorem QiX (h:p.Ok) (x:Int):(p.vals fa fc pa pc).toArray.setIfInBounds 50 (.int .u32 x)=(({ p with left:=x }:Pr).vals fa fc pa pc).toArray:=by
 have:=QdS (p.head++p.cpu.vals++p.saved.vals++p.sig.vals++[.int .i64 p.wait,.int .i64 p.pipe,.int .i64 0,.int .i64 0,.int .i64 0]) ((p.tail fa fc pa pc).drop 6) (.int .u32 p.left) (.int .u32 x) 50 (by rw [QL,QgW p h];rfl);simpa [Pr.vals,Pr.head,Pr.tail] using this
theorem Qgm (h:p.Ok) (ga:Option Addr) (gc:Nat) (l:List Int):(p.vals fa fc pa pc).toArray.setIfInBounds 51 (.slice ga l.length gc)=(({ p with fds:=l }:Pr).vals ga gc pa pc).toArray:=by
 have:=QdS (p.head++p.cpu.vals++p.saved.vals++p.sig.vals++[.int .i64 p.wait,.int .i64 p.pipe,.int .i64 0,.int .i64 0,.int .i64 0,.int .u32 p.left]) ((p.tail fa fc pa pc).drop 7) (.slice fa p.fds.length fc) (.slice ga l.length gc) 51 (by rw [QL,QgW p h];rfl);simpa [Pr.vals,Pr.head,Pr.tail] using this
theorem QeL (h:p.Ok) (ga:Option Addr) (gc:Nat) (l:List Pg):(p.vals fa fc pa pc).toArray.setIfInBounds 54 (.slice ga l.length gc)=(({ p with pages:=l }:Pr).vals fa fc ga gc).toArray:=by
 have:=QdS (p.head++p.cpu.vals++p.saved.vals++p.sig.vals++[.int .i64 p.wait,.int .i64 p.pipe,.int .i64 0,.int .i64 0,.int .i64 0,.int .u32 p.left,.slice fa p.fds.length fc,.int .u32 0,.int .i64 0]) [] (.slice pa p.pages.length pc) (.slice ga l.length gc) 54 (by rw [QL,QgW p h];rfl);simpa [Pr.vals,Pr.head,Pr.tail] using this
end
theorem QbD {bs:List Int} (hz:∀ z∈bs,0≤z∧z≤255) (many:Nat):∀ z∈QbX bs many,0≤z∧z<4294967296:=by
 intro z h;unfold QbX at h
 rcases List.mem_append.1 h with h | h
 ·have h2:=List.mem_of_mem_take h
  unfold Qbd Qc9 at h2;obtain ⟨i,_,rfl⟩:=List.mem_map.1 h2;have:=Qhu bs hz (4*i) (min 4 (bs.length-4*i));have h4:(256:Nat) ^ (min 4 (bs.length-4*i))≤256 ^ 4:=Nat.pow_le_pow_right (by decide) (Nat.min_le_left _ _)
  have h5:(256:Nat) ^ 4=4294967296:=by decide
  omega
 ·rw [List.eq_of_mem_replicate h];omega
end
section
def Qoo (w:List Int):Sg:=⟨w.getD 0 0,w.getD 1 0,(w.drop 2).take 16,w.getD 18 0 == 1⟩
def QbJ (z:Int):Int:=if z=255 then -1 else z
def QdP (n:Int):Pg:=⟨n % 256,n / 256 % 256,n / 16777216 % 2 == 1,n / 33554432 % 2 == 1,n / 67108864 % 2 == 1⟩
def QeR (k:Forest):List Pg:=(k.sel 18).flatMap fun e=>(Qbd e.1).map QdP
def prZ (pid parent state status:Int):Pr:=⟨pid,parent,state,status,Cp.zero,Cp.zero,Sg.zero,0,0,0,[],[]⟩
def Qbu (k:Forest):Pr :=
 if QcF (Qah k 9 0)=2 then prZ (QcF (Qah k 7 0)) (QcF (Qah k 8 0)) 2 (QcF (Qah k 10 0) % 4294967296)
 else ⟨QcF (Qah k 7 0),QcF (Qah k 8 0),QcF (Qah k 9 0),QcF (Qah k 10 0) % 4294967296,Qi3 (QbX (Qao (Qah k 11 0)) 13),Qi3 (QbX (Qao (Qah k 12 0)) 13),Qoo (QbX (Qao (Qah k 13 0)) 19),
  QcF (Qah k 14 0),QcF (Qah k 15 0),QcF (Qah k 16 0) % 4294967296,(Qao (Qah k 17 0)).map QbJ,QeR k⟩
def Qb3 (base:Nat) (W:World) (fa:Option Addr) (fc:Nat) (pa:Option Addr) (pc:Nat) (p:Pr):Prop :=
 W.ownsRow base 3 1 (.slice fa p.fds.length fc) p.fds.length (p.fds.map (Value.int .i64))∧W.ownsRow base 110 6 (.slice pa p.pages.length pc) p.pages.length (p.pages.flatMap Pg.vals)∧(p.fds=[]→fa=none∧fc=0)∧(p.pages=[]→pa=none∧pc=0)
theorem Qb3.none (base:Nat) (W:World) (p:Pr) (h1:p.fds=[]) (h2:p.pages=[]):Qb3 base W none 0 none 0 p:=by
 unfold Qb3;rw [h1,h2];exact ⟨World.ownsRow_nil _ _ _ _,World.ownsRow_nil _ _ _ _,fun _=>⟨rfl,rfl⟩,fun _=>⟨rfl,rfl⟩⟩
theorem Qb3.keep {base:Nat} {W W':World} {fa:Option Addr} {fc:Nat} {pa:Option Addr} {pc:Nat} {p:Pr} (h:Qb3 base W fa fc pa pc p) (hs:∀ b,((Value.slice fa p.fds.length fc).ownBlock=some b∨(Value.slice pa p.pages.length pc).ownBlock=some b)→W'.heap[b]?=W.heap[b]?):Qb3 base W' fa fc pa pc p :=
 ⟨Qac h.1 fun b hb=>hs b (.inl hb),Qac h.2.1 fun b hb=>hs b (.inr hb),h.2.2⟩
theorem Qda (n:Int):IntKind.u32.wrap n=n % 4294967296:=by
 show (if (false&&decide (n % (4294967296:Int) ≥ 2147483648))=true then n % 4294967296-4294967296 else n % 4294967296)=_;simp
theorem QdY:(Tryz.prog.info? 54).map (·.size)=some 55:=by kernel_rfl
theorem QhW (a b c d:Int):(prZ a b c d).vals none 0 none 0=[.int .i64 a,.int .i64 b,.int .i64 c,.int .u32 d]++QeQ.toList++QeQ.toList++QpE.toList++[.int .i64 0,.int .i64 0,.int .i64 0,.int .i64 0,.int .i64 0,.int .u32 0,.slice none 0 0,.int .u32 0,.int .i64 0,.slice none 0 0]:=by
 simp [prZ,Pr.vals,Cp.vals,Cp.zero,Sg.vals,Sg.zero,QeQ,QpE,QhN,List.replicate]
theorem Cp.zero_ok:Cp.zero.Ok:=by unfold Cp.zero Cp.Ok;simp
theorem Sg.zero_ok:Sg.zero.Ok:=by unfold Sg.zero Sg.Ok;simp
theorem Qf4 (a b c d:Int):(prZ a b c d).Ok:=⟨Cp.zero_ok,Cp.zero_ok,Sg.zero_ok⟩
theorem Qdw (p:Pr) (fa:Option Addr) (fc:Nat) (pa:Option Addr) (pc:Nat):∀ v∈p.vals fa fc pa pc,v.oneCell'=true:=by
 intro v hv;simp only [Pr.vals,Cp.vals,Sg.vals,List.mem_append,List.mem_map,List.mem_cons,List.not_mem_nil,or_false] at hv
 rcases hv with ((((rfl | rfl | rfl | rfl) | (⟨z,_,rfl⟩ | rfl | rfl | rfl)) | (⟨z,_,rfl⟩ | rfl | rfl | rfl)) | (((rfl | rfl) | ⟨z,_,rfl⟩) | rfl)) | (rfl | rfl | rfl | rfl | rfl | rfl | rfl | rfl | rfl | rfl) <;> rfl
theorem Qgz (c:Cp):c.vals.toArray.all (·.oneCell')=true:=by
 rw [Array.all_eq_true_iff_forall_mem];intro v hv;simp only [Cp.vals,List.mem_toArray,List.mem_append,List.mem_map,List.mem_cons,List.not_mem_nil,or_false] at hv
 rcases hv with ⟨z,_,rfl⟩ | rfl | rfl | rfl <;> rfl
theorem Qo4 (c:Sg):c.vals.toArray.all (·.oneCell')=true:=by
 rw [Array.all_eq_true_iff_forall_mem];intro v hv;simp only [Sg.vals,List.mem_toArray,List.mem_append,List.mem_map,List.mem_cons,List.not_mem_nil,or_false] at hv
 rcases hv with ((rfl | rfl) | ⟨z,_,rfl⟩) | rfl <;> rfl
theorem QcT {W W':World} {b:Nat} (h:W'.heap[b]?=W.heap[b]?) (off:Nat):W'.cell? ⟨b,off,none⟩=W.cell? ⟨b,off,none⟩:=by
 simp only [World.cell?,h]
def tl:Nat→Code→Code
 | 0,c=>c
 | n+1,.seq _ c=>tl n c
 | _+1,c=>c
def RpQ (W:World) (k:Forest):Exit→Act→World→Prop :=
 bodyPostM Fence.wide 102 Tryz.prog Tryz.f20 fun e W'=>∃ fa fc pa pc,e=.returned (.agg ((Qbu k).vals fa fc pa pc).toArray)∧Qb3 W.heap.size W' fa fc pa pc (Qbu k)∧Below W.heap.size W W'
structure QaY (W:World) (a:Option Addr) (len cap:Nat) (k:Forest) (T:Nat) (p:Pr) (V:World) (fa:Option Addr) (fc:Nat) (pa:Option Addr) (pc:Nat):Prop where
 fields:SlF W.heap.size W a len cap k
 cnt:k.cnt≤20000
 below:Below W.heap.size W V
 eL:V.heap[W.heap.size]?=some (.cells #[.slice a len cap] 59)
 eR:V.heap[W.heap.size+1]?=some (.cells QdQ 54)
 eT:V.heap[T]?=some (.cells (p.vals fa fc pa pc).toArray 54)
 hT:W.heap.size+2≤T
 own:Qb3 (T+1) V fa fc pa pc p
 ok:p.Ok
theorem Qc6 {n:Nat} {W:World} {fs:List (Fe × List Int)} {k:Forest} (F1:Fes n W fs k) (tag:Int):∀ z∈Qao (Qah k tag 0),0≤z∧z≤255:=by
 rw [← Fes.bsOf tag F1];unfold bsOf;generalize hh:Qak tag fs=hs
 cases hs with
 | nil=>simp
 | cons e r =>
  have hm:e∈fs:=by
   have:e∈Qak tag fs:=by rw [hh];exact List.mem_cons_self ..
   unfold Qak at this;exact (List.mem_filter.1 this).1
  exact (Fes.rows fs k F1 e hm).2
section
variable {W : World} {a : Option Addr} {len cap : Nat} {k : Forest} {T : Nat} {p : Pr} {V : World} {fa : Option Addr} {fc : Nat} {pa : Option Addr} {pc : Nat}
theorem QaY.words (h:QaY W a len cap k T p V fa fc pa pc) (V':World) (hV:Below W.heap.size W V') (tag:Int) (many:Nat) (hm:many≤1000) :
  Calls Tryz.prog 63 #[.slice a len cap,.int .i64 tag,.int .i64 (many:Int)] V' fun e W'=>∃ g,e=.returned (.slice (some ⟨g,0,none⟩) many many)∧W'.ownsRow V'.heap.size 40 1 (.slice (some ⟨g,0,none⟩) many many) many ((QbX (Qao (Qah k tag 0)) many).map (Value.int .u32))∧Below V'.heap.size V' W':=by
 obtain ⟨fs,F1,F2,F3⟩:=h.fields.fes;have hc:=h.cnt;have:=QjG V' a len cap tag many hm fs F3 ((F2.below hV).mono hV.size) (fun e he=>((Fes.rows fs k F1 e he).below hV).mono hV.size) (by have:=Fes.length fs k F1;have:=Forest.length_le_cnt k;omega) (fun e he=>by have:=Fes.small fs k F1 e he;omega);rw [Fes.bsOf tag F1] at this;exact this
theorem QaY.bytes (h:QaY W a len cap k T p V fa fc pa pc) (tag:Int):∀ z∈Qao (Qah k tag 0),0≤z∧z≤255:=by
 obtain ⟨fs,F1,_,_⟩:=h.fields.fes;exact Qc6 F1 tag
theorem QaY.lT (h:QaY W a len cap k T p V fa fc pa pc):T<V.heap.size:=(QI.1 h.eT).1
theorem QaY.put (h:QaY W a len cap k T p V fa fc pa pc) {V1:World} (b:Below V.heap.size V V1) (p':Pr) (hf:p'.fds=p.fds) (hp:p'.pages=p.pages) (ho:p'.Ok) {R:Array Value} (hR:R=(p'.vals fa fc pa pc).toArray) :
  QaY W a len cap k T p' (V1.setRow T R) fa fc pa pc:=by
 subst hR;have lT:=h.lT;have hT:=h.hT;have e1:=(b.block _ lT).trans h.eT;refine ⟨h.fields,h.cnt,Qaj (h.below.trans (b.mono h.below.size)) (by omega) _,?_,?_,setRow_heap _ _ _ _ _ _ e1,hT,?_,ho⟩
 ·rw [setRow_other _ _ _ _ (by omega),b.block _ (by omega)];exact h.eL
 ·rw [setRow_other _ _ _ _ (by omega),b.block _ (by omega)];exact h.eR
 ·unfold Qb3
  rw [hf,hp];have own:=h.own
  refine Qb3.keep own fun c hc=>?_
  have hl:T+1≤c∧c<V.heap.size:=hc.elim (fun hc=>own.1.lt c hc) (fun hc=>own.2.1.lt c hc);rw [setRow_other _ _ _ _ (by omega),b.block _ hl.2]
theorem QaY.grow (h:QaY W a len cap k T p V fa fc pa pc) {V1:World} (b:Below V.heap.size V V1):QaY W a len cap k T p V1 fa fc pa pc:=by
 have lT:=h.lT;have hT:=h.hT;refine ⟨h.fields,h.cnt,h.below.trans (b.mono h.below.size),(b.block _ (by omega)).trans h.eL,(b.block _ (by omega)).trans h.eR,(b.block _ lT).trans h.eT,hT,Qb3.keep h.own fun c hc=>?_,h.ok⟩;exact b.block _ (hc.elim (fun hc=>(h.own.1.lt c hc).2) (fun hc=>(h.own.2.1.lt c hc).2))
end
def Qdf (W:World) (a:Option Addr) (len cap:Nat) (k:Forest) (T:Nat) (c:Code) (p:Pr):Prop :=
 ∀ (u5 u6 u7 u8 u9 u10 u11 u12 u13 u14 u15 u16 u17 u18 u19 u20 u21 u22 u23 u24 u25 u26 u27 u28 u29 u30 u31 u32 u33 u34 u35 u36 u37 u38 u39 u40 u41 u42 u43 u44 u45 u46 u47 u48 u49 u50 u51 u52 u53 u54 u55 u56 u57 u58 u59 u60 u61 u62 u63 u64 u65 u66 u67 u68 u69 u70 u71 u72 u73 u74 u75 u76 u77 u78 u79 u80 u81 u82 u83 u84 u85 u86 u87 u88 u89 u90 u91 u92 u93 u94 u95 u96 u97 u98 u99 u100 u101 u102 u103 u104 u105 u106 u107 u108 u109 u110 u111 u112 u113 u114 u115 u116 u117 u118 u119 u120 u121 u122 u123 u124 u125 u126 u127 u128 u129 u130 u131:Value) (V:World) (fa:Option Addr) (fc:Nat) (pa:Option Addr) (pc:Nat),QaY W a len cap k T p V fa fc pa pc →
  c.wp Tryz.prog (RpQ W k) { tmps:=#[.slice a len cap,.pointer (some ⟨W.heap.size,0,none⟩),.pointer (some ⟨W.heap.size+1,0,none⟩),.func (.func 61) #[] #[.pointer (some ⟨W.heap.size,0,none⟩)],.pointer (some ⟨T,0,none⟩),u5,u6,u7,u8,u9,u10,u11,u12,u13,u14,u15,u16,u17,u18,u19,u20,u21,u22,u23,u24,u25,u26,u27,u28,u29,u30,u31,u32,u33,u34,u35,u36,u37,u38,u39,u40,u41,u42,u43,u44,u45,u46,u47,u48,u49,u50,u51,u52,u53,u54,u55,u56,u57,u58,u59,u60,u61,u62,u63,u64,u65,u66,u67,u68,u69,u70,u71,u72,u73,u74,u75,u76,u77,u78,u79,u80,u81,u82,u83,u84,u85,u86,u87,u88,u89,u90,u91,u92,u93,u94,u95,u96,u97,u98,u99,u100,u101,u102,u103,u104,u105,u106,u107,u108,u109,u110,u111,u112,u113,u114,u115,u116,u117,u118,u119,u120,u121,u122,u123,u124,u125,u126,u127,u128,u129,u130,u131],defers:=[] } V
end
section
attribute [local go_sem] QaB QaJ QaA
theorem QqX (W:World) (a:Option Addr) (len cap:Nat) (k:Forest) (T:Nat) (p:Pr)
  (hn:Qdf W a len cap k T (tl 5 (Tryz.f20.body.getD .skip)) { p with cpu:=Qi3 (QbX (Qao (Qah k 11 0)) 13),saved:=Qi3 (QbX (Qao (Qah k 12 0)) 13) }) :
  Qdf W a len cap k T (tl 4 (Tryz.f20.body.getD .skip)) p:=by
 iterate 127 intro
 intro V fa fc pa pc h;have HH:=QQ h;obtain ⟨c1,hc1⟩:∃ c,c=Qi3 (QbX (Qao (Qah k 11 0)) 13):=⟨_,rfl⟩;obtain ⟨c2,hc2⟩:∃ c,c=Qi3 (QbX (Qao (Qah k 12 0)) 13):=⟨_,rfl⟩
 have o1:c1.Ok:=by rw [hc1];exact QhH (QbS _ _) (QbD ((QG HH).bytes 11) 13)
 have o2:c2.Ok:=by rw [hc2];exact QhH (QbS _ _) (QbD ((QG HH).bytes 12) 13)
 rw [← hc1,← hc2] at hn;have HN:=QQ hn;have HC1:=QQ hc1;have HC2:=QQ hc2;clear hc1 hc2;have eL:=h.eL;have lT:=h.lT;have hT:=h.hT;clear hn
 conv=>arg 2;whnf
 obtain ⟨S,hS⟩:∃ S:Nat→Prop,S=fun b=>b=T:=⟨_,rfl⟩
 have hSb:∀ b,S b→b=T:=fun b hb=>by rw [hS] at hb;exact hb
 have hST:S T:=by rw [hS]
 have HX:=QQ (show ∀ W',Qa S V.drew W'→W'.cell? ⟨W.heap.size,0,none⟩=some (.slice a len cap) from fun W' hW=>by
  rw [cell_of_row W' _ 0 _ _ _ ((hW.block W.heap.size (by show W.heap.size<V.heap.size;omega) (fun h=>by have:=hSb _ h;omega)).trans eL)];rfl)
 have HB:=QQ (show ∀ W',Qa S V.drew W'→Below W.heap.size W W' from fun W' hW=>h.below.trans ⟨hW.os,hW.tape,hW.output,hW.size,fun b hb=>hW.block b (by show b<V.heap.size;have:=h.below.size;omega) (fun h=>by have:=hSb _ h;omega)⟩);have hG:Qa S V.drew V.drew:=Wr.refl _ _;have hG0:Below V.heap.size V V.drew:=⟨rfl,rfl,rfl,QN _,fun _ _=>rfl⟩;clear hS;clear eL h;refine wp_seq ?_;refine Qas (Qa S) (by kernel_rfl) 10 rfl ?_;refine Qam [0,3] (by kernel_rfl) (by kernel_rfl) ?_
 iterate 2
  first
  | (refine Qax (Qa.pre S) rfl (by rfl) (v:=?_) (fun W hW=>?_) (fun K hK=>?_);rotate_left;· (have q1:=(QG HX) W ((Qa.pre S).trans hG hW);go_simp;first | done | rfl))
  | refine Qap (Qa.pre S) rfl (by rfl) (fun K hK=>?_)
  go_simp;refine hK _ ?_;clear hK K
 refine Qaw ?_;refine Qaq 1 rfl (by kernel_rfl) (by rfl) (fun K hK=>?_);go_simp;refine ((QG HH).words _ ((QG HB) _ hG) 11 13 (by decide)).mono ?_;rintro e6 w6 ⟨g6,rfl,o6,b6⟩;have g6:Qa S _ w6:=Wr.of_below b6;replace hG:=(Qa.pre S).trans hG g6;replace hG0:=Qbg hG0 b6;have r6:=(Qdb.of_own o6).2;clear o6;refine ⟨_,rfl,hK _ _ g6 ?_⟩;clear b6 g6;clear hK K;refine Qal (fun K hK=>?_);go_simp;refine hK _ ?_;clear hK K;refine Qaq 2 rfl (by kernel_rfl) (by rfl) (fun K hK=>?_);go_simp;have kr:=QgX w6 _ 13 _ r6 (QbD ((QG HH).bytes 11) 13);rw [show Qi3 (QbX (Qao (Qah k 11 0)) 13)=c1 from (QG HC1).symm] at kr;refine kr.mono ?_;rintro e7 w7 ⟨rfl,b7⟩;have g7:Qa S _ w7:=Wr.of_below b7;replace hG:=(Qa.pre S).trans hG g7;replace hG0:=Qbg hG0 b7;clear r6 kr;refine ⟨_,rfl,hK _ _ g7 ?_⟩;clear b7 g7;clear hK K;refine Qal (fun K hK=>?_);go_simp;refine hK _ ?_;clear hK K;refine Qaq 4 rfl (by kernel_rfl) (by rfl) (fun K hK=>?_);go_simp;refine ((QG HH).words _ ((QG HB) _ hG) 12 13 (by decide)).mono ?_;rintro e8 w8 ⟨g8,rfl,o8,b8⟩;have g8:Qa S _ w8:=Wr.of_below b8;replace hG:=(Qa.pre S).trans hG g8;replace hG0:=Qbg hG0 b8;have r8:=(Qdb.of_own o8).2;clear o8;refine ⟨_,rfl,hK _ _ g8 ?_⟩;clear b8 g8;clear hK K;refine Qal (fun K hK=>?_);go_simp;refine hK _ ?_;clear hK K;refine Qaq 5 rfl (by kernel_rfl) (by rfl) (fun K hK=>?_);go_simp;have kr:=QgX w8 _ 13 _ r8 (QbD ((QG HH).bytes 12) 13);rw [show Qi3 (QbX (Qao (Qah k 12 0)) 13)=c2 from (QG HC2).symm] at kr;refine kr.mono ?_;rintro e9 w9 ⟨rfl,b9⟩;have g9:Qa S _ w9:=Wr.of_below b9;replace hG:=(Qa.pre S).trans hG g9;replace hG0:=Qbg hG0 b9;clear r8 kr;refine ⟨_,rfl,hK _ _ g9 ?_⟩;clear b9 g9;clear hK K;refine Qal (fun K hK=>?_);go_simp;refine hK _ ?_;clear hK K;refine Qam [6] (by kernel_rfl) (by kernel_rfl) ?_
 iterate 1
  first
  | (refine Qax (Qa.pre S) rfl (by rfl) (v:=?_) (fun W hW=>?_) (fun K hK=>?_);rotate_left;· (have q1:=(QG HX) W ((Qa.pre S).trans hG hW);go_simp;first | done | rfl))
  | refine Qap (Qa.pre S) rfl (by rfl) (fun K hK=>?_)
  go_simp;refine hK _ ?_;clear hK K
 refine Qaw ?_;refine Qaq 7 rfl (by kernel_rfl) (by rfl) (fun K hK=>?_)
 skip
 have inv9:QaY W a len cap k T p w9 fa fc pa pc:=(QG HH).grow hG0;clear HX HB HH hG hG0;refine Qco 45 (.tmp 35) (.tmp 31) rfl T 4 c1.vals.toArray rfl rfl 54 _ inv9.eT (by rw [QS,Cp.vals_length o1];exact Qbv) (by rw [QS,QS,Cp.vals_length o1,Pr.vals_length inv9.ok];decide) (Qgz c1) ?_
 have inv10:=inv9.put (QB _ _) { p with cpu:=c1 } rfl rfl ⟨o1,inv9.ok.2⟩ (R:=(((p.vals fa fc pa pc).toArray).toList.take 4++c1.vals.toArray.toList++((p.vals fa fc pa pc).toArray).toList.drop (4+c1.vals.toArray.size)).toArray) (by
  rw [QS,Cp.vals_length o1]
  exact congrArg List.toArray (Qkf p fa fc pa pc inv9.ok c1 o1))
 obtain ⟨w10,hw10⟩:∃ w,w=w9.setRow T (((p.vals fa fc pa pc).toArray).toList.take 4++c1.vals.toArray.toList++((p.vals fa fc pa pc).toArray).toList.drop (4+c1.vals.toArray.size)).toArray:=⟨_,rfl⟩;rw [← hw10] at inv10 ⊢
 have g10:Qa S w9 w10:=by rw [hw10];exact (Wr.refl S w9).setRow (.inl hST) _
 clear hw10 inv9;refine hK _ _ g10 ?_;clear g10;clear hK K;refine Qal (fun K hK=>?_);go_simp;refine hK _ ?_;clear hK K;refine Qam [8] (by kernel_rfl) (by kernel_rfl) ?_
 iterate 1
  first
  | (refine Qax (Qa.pre S) rfl (by rfl) (v:=?_) (fun W hW=>?_) (fun K hK=>?_);rotate_left;· (go_simp;first | done | rfl))
  | refine Qap (Qa.pre S) rfl (by rfl) (fun K hK=>?_)
  go_simp;refine hK _ ?_;clear hK K
 refine Qaw ?_;refine Qaq 9 rfl (by kernel_rfl) (by rfl) (fun K hK=>?_);refine Qco 45 (.tmp 36) (.tmp 34) rfl T 15 c2.vals.toArray rfl rfl 54 _ inv10.eT (by rw [QS,Cp.vals_length o2];exact Qbv) (by rw [QS,QS,Cp.vals_length o2,Pr.vals_length inv10.ok];decide) (Qgz c2) ?_
 have inv11:=inv10.put (QB _ _) { p with cpu:=c1,saved:=c2 } rfl rfl ⟨o1,o2,inv10.ok.2.2⟩ (R:=(((({ p with cpu:=c1 }:Pr).vals fa fc pa pc).toArray).toList.take 15++c2.vals.toArray.toList++((({ p with cpu:=c1 }:Pr).vals fa fc pa pc).toArray).toList.drop (15+c2.vals.toArray.size)).toArray) (by
  rw [QS,Cp.vals_length o2]
  exact congrArg List.toArray (QhA { p with cpu:=c1 } fa fc pa pc inv10.ok c2 o2))
 obtain ⟨w11,hw11⟩:∃ w,w=w10.setRow T (((({ p with cpu:=c1 }:Pr).vals fa fc pa pc).toArray).toList.take 15++c2.vals.toArray.toList++((({ p with cpu:=c1 }:Pr).vals fa fc pa pc).toArray).toList.drop (15+c2.vals.toArray.size)).toArray:=⟨_,rfl⟩;rw [← hw11] at inv11 ⊢
 have g11:Qa S w10 w11:=by rw [hw11];exact (Wr.refl S w10).setRow (.inl hST) _
 clear hw11 inv10;refine hK _ _ g11 ?_;clear g11;clear hK K;refine Qal (fun K hK=>?_);go_simp;refine hK _ ?_;clear hK K;refine QaR (by kernel_rfl) ?_;apply (QG HN);exact inv11
end
end Go.Proofs.YtejcandhijdnhaaGreat
