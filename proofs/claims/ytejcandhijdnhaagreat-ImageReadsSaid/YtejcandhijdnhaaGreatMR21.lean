/- Own texts of this seat, one behind the other, without needless spaces (part 21 of 26). -/
import Derived.Test.YtejcandhijdnhaaGreatMR01
import Derived.Test.YtejcandhijdnhaaGreatMR02
import Derived.Test.YtejcandhijdnhaaGreatMR12
import Derived.Test.YtejcandhijdnhaaGreatMR15
import Derived.Test.YtejcandhijdnhaaGreatMR20
namespace Go.Proofs.YtejcandhijdnhaaGreat
open Go Go.RowKit
set_option linter.unusedVariables false
set_option linter.unusedSimpArgs false
set_option linter.unnecessarySimpa false
set_option maxRecDepth 100000
set_option maxHeartbeats 16000000
section
attribute [local go_sem] QaB QaJ QaA
theorem Qqo (W:World) (x:Mem) (s:Sl5) (X:Array Value) (B:Nat) (o F:List Int) (ho:o.length+(Qay Qck x.K).layF.length≤100000) (hmay:Qcb x.im=true)
  (hn:QcP W x s X B (tl 9 (Tryz.f28.body.getD .skip)) (o++(Qay Qck x.K).layF) F):QcP W x s X B (tl 8 (Tryz.f28.body.getD .skip)) o F:=by
 intro t5 u6 u7 u8
 iterate 55 intro
 intro u64
 iterate 94 intro
 intro V h;obtain ⟨i0,hi,hz0,hz1,hz2⟩:=info_parts QbB
 have hsm:x.K.length≤20000:=by have:=h.my.fine.small;simp only [Mem.im,QM] at this;exact this.2.2.2.2
 have HP:=QQ (fun (V:World) (hV:Below W.heap.size W V) (k:Nat) (hk:k<x.K.length)=>QbP (m:=4) h.my.at_.K rfl (fun _ _=>rfl) hV k hk);have HLEN:=QQ (fun k=>show (o++(Qay Qck (x.K.take k)).layF).length≤100000 by rw [QL];have:=QeC Qck x.K k;omega);have HPRT:=QQ (fun q hq=>show (Qck q).layF.length≤100000 from Nat.le_trans (Qfh Qck x.K q hq) (by omega));have HN:=QQ hn;have H:=QQ h;have HMAY:=QQ hmay;clear h hn ho hmay;obtain ⟨n,hn⟩:∃ n,n=x.K.length:=⟨_,rfl⟩;have HNN:=QQ hn;rw [← hn] at hsm;clear hn
 conv=>arg 2;whnf
 refine wp_seq_k (fun K aK=>?_);have AK:=QQ aK;clear aK;go_wp2;go_loopw [5,12,13,14] (fun vv i _ _ wr=>∃ (k:Nat) (v:Value) (ok:List Int),i=.int .i64 (k:Int)∧v=vv∧k≤n∧Hid (ok=o++(Qay Qck (x.K.take k)).layF)∧QbH W x s X B v ok wr) (fun _ i _ _ _=>n-(intOf i).toNat)
 case atStart=>exact ⟨0,_,o,rfl,rfl,Nat.zero_le _,(show o=o++[] from (List.append_nil o).symm),H⟩
 case round =>
  clear H;obtain ⟨k,v,ok,rfl,rfl,hk,hok,inv⟩:=hrel;have H:=QQ inv
  have hokl:ok.length≤100000:=by rw [show ok=_ from hok];exact (QG HLEN) k
  have cc:=inv.my.cell (i:=4) rfl;rw [show x.K.length=n from (QG HNN).symm] at cc
  rcases Nat.lt_or_ge k n with hx | hx
  rotate_left
  ·have t1:decide ((k:Int)<(n:Int))=false:=by simp;omega
   have h8:ok=o++(Qay Qck x.K).layF:=by rw [show ok=_ from hok,List.take_of_length_le (by rw [← (QG HNN)];exact hx)]
   have H8:=QQ h8;clear inv hok h8;go_wp2;refine (QG AK) _ _ ?_;have inv:=(QG H);rw [show ok=_ from H8] at inv;apply (QG HN);exact inv
  have t1:decide ((k:Int)<(n:Int))=true:=by simp;omega
  have t0:(k:Int)<(n:Int):=by omega
  have hx2:k<x.K.length:=by rw [← (QG HNN)];exact hx
  obtain ⟨b,off,ha,hbn,e⟩:=(QG HP) wr inv.my.below k hx2;obtain ⟨sa,hsa⟩:∃ sa,sa=s.k.1:=⟨_,rfl⟩;rw [← hsa] at ha cc;subst ha;clear hsa;have hsz:=inv.my.below.size;have hlB:=inv.my.lB
  have hvown:=fun b hb=>(inv.own.lt b hb).2
  obtain ⟨q,hq⟩:∃ q,q=x.K[k]:=⟨_,rfl⟩;rw [← hq] at e
  have hmem:q∈x.K:=by rw [hq];exact List.getElem_mem hx2
  have hcat:o++(Qay Qck (x.K.take (k+1))).layF=ok++(Qck q).layF:=by rw [QeB _ _ _ hx2,← List.append_assoc,← (show ok=_ from hok),hq]
  have HCAT:=QQ hcat;have hprt:=(QG HPRT) q hmem;clear hq hok hcat;have hmw:=(Qc7 (QG HMAY)).2.2.2.2.2 q hmem;unfold QbU at hmw;rw [Qdp] at hmw;simp only [Bool.and_eq_true,decide_eq_true_eq] at hmw;unfold Qcf at hmw
  have hr1:0≤q.pid∧q.pid<4294967296:=by omega
  have hr2:0≤q.kp∧q.kp<4294967296:=by omega
  have hr3:0≤q.kf∧q.kf<4294967296:=by omega
  have hr4:0≤q.ko∧q.ko<4294967296:=by omega
  clear hmw;obtain ⟨pid,kp,kf,ko⟩:=q;simp only at hr1 hr2 hr3 hr4;have e':∀ j v,([.int .i64 pid,.int .i64 kp,.int .i64 kf,.int .i64 ko]:List Value)[j]?=some v→wr.cell? ⟨b,off+k*4+j,none⟩=some v:=e;clear e inv hmem
  go_wp2_with first
   | (refine QaC (by rfl) 80 (.tmp 127) rfl b (off+k*4) rfl [.int .i64 pid,.int .i64 kp,.int .i64 kf,.int .i64 ko] _ e' Tryz.underlying80 rfl QcL ?_)
   | ((fail_if_success (unfold Qag));refine Qan (t:=80) rfl ?_)
  unfold Qag;refine Qab rfl 80 (.tmp 13) (.tmp 128) rfl wr.heap.size #[.int .i64 pid,.int .i64 kp,.int .i64 kf,.int .i64 ko] rfl rfl 80 _ (QW _ _) QcL rfl (by simp [Value.oneCell']) ?_;rw [World.setRow_alloc_new];obtain ⟨V1,hV1⟩:∃ V,V=wr.alloc (.cells #[.int .i64 pid,.int .i64 kp,.int .i64 kf,.int .i64 ko] 80):=⟨_,rfl⟩
  have eV1:V1.heap[wr.heap.size]?=some (.cells #[.int .i64 pid,.int .i64 kp,.int .i64 kf,.int .i64 ko] 80):=by rw [hV1];exact QW _ _
  have bV1:Below wr.heap.size wr V1:=by rw [hV1];exact (QB _ _).alloc (QN _) _
  rw [← hV1];obtain ⟨D,hD⟩:∃ D,D=wr.heap.size:=⟨_,rfl⟩;rw [← hD] at eV1 ⊢;obtain ⟨Hs,hHs⟩:∃ Hs,Hs=V1.heap.size:=⟨_,rfl⟩
  have hD0:D<Hs:=by rw [hHs];exact (QI.1 eV1).1
  have d0:V1.cell? ⟨D,0,none⟩=some (.int .i64 pid):=by rw [cell_of_row V1 _ 0 _ _ _ eV1];rfl
  have d1:V1.cell? ⟨D,1,none⟩=some (.int .i64 kp):=by rw [cell_of_row V1 _ 1 _ _ _ eV1];rfl
  have d2:V1.cell? ⟨D,2,none⟩=some (.int .i64 kf):=by rw [cell_of_row V1 _ 2 _ _ _ eV1];rfl
  have d3:V1.cell? ⟨D,3,none⟩=some (.int .i64 ko):=by rw [cell_of_row V1 _ 3 _ _ _ eV1];rfl
  have wx1:IntKind.u64.wrap pid=pid:=Qcx (by omega);have wx2:IntKind.u64.wrap kp=kp:=Qcx (by omega);have wx3:IntKind.u64.wrap kf=kf:=Qcx (by omega);have wx4:IntKind.u64.wrap ko=ko:=Qcx (by omega);have HH:=QQ (show (∀ b,v.ownBlock=some b→b<Hs)∧W.heap.size+1≤Hs from ⟨fun b hb=>by have h1:=hvown b hb;omega,by omega⟩);have INV0:=QQ ((QG H).grow bV1);clear hV1 eV1 bV1 hD hvown cc e';go_wp2_with (go_at_call 73;refine Qau ?_);unfold Qag;refine (QcM pid hr1 V1).mono ?_;rintro e' w1 ⟨v1,rfl,o1,b1⟩;rw [← hHs] at o1
  have s1:Hs≤w1.heap.size:=by have:=b1.size;omega
  replace d1:=(b1.cell (p:=⟨D,1,none⟩) (show D<_ by omega)).trans d1;replace d2:=(b1.cell (p:=⟨D,2,none⟩) (show D<_ by omega)).trans d2;replace d3:=(b1.cell (p:=⟨D,3,none⟩) (show D<_ by omega)).trans d3;have I1:=QQ (QA ((QG INV0).grow b1) o1);clear o1 b1 d0 hHs hsz hlB INV0;go_wp2_with (go_at_call 73;refine Qau ?_);unfold Qag;refine (QcM kp hr2 w1).mono ?_;rintro e' w2 ⟨v2,rfl,o2,b2⟩;obtain ⟨a2,c2,rfl,_⟩:=Qaa o2;clear d1;have r2:=Qav o2 (Qcv _);obtain ⟨inv1,o1⟩:=(QG I1);have inv2:=inv1.grow b2
  have o1':=Qac (B:=w2) o1 fun z hz=>b2.block z (o1.lt z hz).2
  have s2:Hs≤w2.heap.size:=by have:=b2.size;omega
  obtain ⟨hH1,hH2⟩:=(QG HH);replace d2:=(b2.cell (p:=⟨D,2,none⟩) (show D<_ by omega)).trans d2;replace d3:=(b2.cell (p:=⟨D,3,none⟩) (show D<_ by omega)).trans d3;clear inv1 o1 o2 b2 I1 hH1;go_wp2_with (at_builtin;refine Qau ?_);unfold Qag;refine Qae rfl _ _ 22 rfl Hs 5 i0 Tryz.underlying22 hi hz0 hz1 hz2 v1 4 (w4 pid) rfl o1' _ 4 c2 w2.heap.size (w4 kp) rfl r2 (by omega) s2 ?_;intro v3 w3 o3 g3 _
  have inv3:=inv2.other g3 (QG HH).1 hH2 fun b hb=>(o1'.lt b hb).1
  have s3:Hs≤w3.heap.size:=by have:=g3.size;omega
  replace d2:=QaF (p:=⟨D,2,none⟩) (g3.block D (by omega) (fun e=>by have:=(o1'.lt _ e.symm).1;omega)) d2;replace d3:=QaF (p:=⟨D,3,none⟩) (g3.block D (by omega) (fun e=>by have:=(o1'.lt _ e.symm).1;omega)) d3;have I3:=QQ (QA inv3 o3);clear inv2 inv3 o1' r2 o3 g3 hH2 s2;go_wp2_with (go_at_call 73;refine Qau ?_);unfold Qag;refine (QcM kf hr3 w3).mono ?_;rintro e' w4' ⟨v2,rfl,o2,b2⟩;obtain ⟨a2,c2,rfl,_⟩:=Qaa o2;clear d2;have r2:=Qav o2 (Qcv _);obtain ⟨inv1,o1⟩:=(QG I3);have inv2:=inv1.grow b2
  have o1':=Qac (B:=w4') o1 fun z hz=>b2.block z (o1.lt z hz).2
  have s2:Hs≤w4'.heap.size:=by have:=b2.size;omega
  obtain ⟨hH1,hH2⟩:=(QG HH);replace d3:=(b2.cell (p:=⟨D,3,none⟩) (show D<_ by omega)).trans d3;clear inv1 o1 o2 b2 I3 hH1;go_wp2_with (at_builtin;refine Qau ?_);unfold Qag;refine Qae rfl _ _ 22 rfl Hs 5 i0 Tryz.underlying22 hi hz0 hz1 hz2 v3 (4+4) ((w4 pid++w4 kp)) rfl o1' _ 4 c2 w4'.heap.size (w4 kf) rfl r2 (by omega) s2 ?_;intro v5 w5 o3 g3 _
  have inv3:=inv2.other g3 (QG HH).1 hH2 fun b hb=>(o1'.lt b hb).1
  have s5:Hs≤w5.heap.size:=by have:=g3.size;omega
  replace d3:=QaF (p:=⟨D,3,none⟩) (g3.block D (by omega) (fun e=>by have:=(o1'.lt _ e.symm).1;omega)) d3;have I5:=QQ (QA inv3 o3);clear inv2 inv3 o1' r2 o3 g3 hH2 s2;go_wp2_with (go_at_call 73;refine Qau ?_);unfold Qag;refine (QcM ko hr4 w5).mono ?_;rintro e' w6 ⟨v2,rfl,o2,b2⟩;obtain ⟨a2,c2,rfl,_⟩:=Qaa o2;clear d3;have r2:=Qav o2 (Qcv _);obtain ⟨inv1,o1⟩:=(QG I5);have inv2:=inv1.grow b2
  have o1':=Qac (B:=w6) o1 fun z hz=>b2.block z (o1.lt z hz).2
  have s2:Hs≤w6.heap.size:=by have:=b2.size;omega
  obtain ⟨hH1,hH2⟩:=(QG HH);clear inv1 o1 o2 b2 I5 hH1;go_wp2_with (at_builtin;refine Qau ?_);unfold Qag;refine Qae rfl _ _ 22 rfl Hs 5 i0 Tryz.underlying22 hi hz0 hz1 hz2 v5 (4+4+4) (((w4 pid++w4 kp)++w4 kf)) rfl o1' _ 4 c2 w6.heap.size (w4 ko) rfl r2 (by omega) s2 ?_;intro v7 w7 o3 g3 _
  have inv3:=inv2.other g3 (QG HH).1 hH2 fun b hb=>(o1'.lt b hb).1
  have s7:Hs≤w7.heap.size:=by have:=g3.size;omega
  have I7:=QQ (QA inv3 o3);clear inv2 inv3 o1' r2 o3 g3 hH2 s2;obtain ⟨inv1,o1⟩:=(QG I7);obtain ⟨fb,hfb⟩:∃ fb,fb=(((w4 pid++w4 kp)++w4 kf)++w4 ko):=⟨_,rfl⟩
  have hfl:fb.length=(4+4+4+4):=by rw [hfb];simp only [QL,QaX,QaG,Qop] <;> omega
  have hbb:∀ z∈fb,0≤z∧z≤255:=by
   rw [hfb];intro z hz
   rcases List.mem_append.1 hz with hz | hz
   ·rcases List.mem_append.1 hz with hz | hz
    ·rcases List.mem_append.1 hz with hz | hz
     ·exact Qcv _ z hz
     ·exact Qcv _ z hz
    ·exact Qcv _ z hz
   ·exact Qcv _ z hz
  rw [← hfb] at o1;have HFB:=QQ hfb;obtain ⟨a1,c1,rfl,_⟩:=Qaa o1;have kf:=Qca 19 (by decide) a1 ((4+4+4+4)) c1 fb w7 ⟨Qav o1 hbb,hbb⟩ (by omega);have INV1:=QQ inv1;clear inv1 o1 hfb I7;go_wp2_with (go_at_call 71;refine Qau ?_);unfold Qag;refine kf.mono ?_;rintro e' w8 ⟨v1,rfl,o1,b1⟩;obtain ⟨a1,c1,rfl,_⟩:=Qaa o1;have r1:=Qav o1 (QaW 19 fb hbb (by omega));have inv2:=(QG INV1).grow b1;clear kf o1 b1;go_wp2_with (at_builtin;refine Qau ?_);unfold Qag;refine Qae rfl _ _ 22 rfl (W.heap.size+1) 5 i0 Tryz.underlying22 hi hz0 hz1 hz2 v ok.length ok rfl inv2.own _ ((4+4+4+4)+5) c1 w8.heap.size (Qa5 19 fb) rfl r1 (by omega) (by have:=inv2.my.lB;omega) ?_;intro v9 w9 o9 g9 _;have inv9:QbH W x s X B v9 (ok++Qa5 19 fb) w9:=⟨inv2.my.grown g9 fun b hb=>(inv2.own.lt b hb).1,by rw [QL,show (Qa5 19 fb).length=((4+4+4+4)+5) by rw [QaX,hfl]];exact o9⟩;have INV9:=QQ inv9;clear inv9 inv2 o9 g9 r1;go_wp2;go_roundw
  case rel=>exact ⟨k+1,v9,_,by go_num,rfl,by omega,(by rw [show o++_=_ from HCAT];exact (show ok++Qa5 19 fb=ok++(Qck ⟨pid,kp,kf,ko⟩).layF by unfold Qck;rw [show wsB [pid,kp,kf,ko]=(((w4 pid++w4 kp)++w4 kf)++w4 ko) from rfl,← (QG HFB),Qbi _ _ _ (by decide) (by omega),Forest.layF,List.append_nil])),(QG INV9)⟩
  case measure=>simp [intOf];omega
end
theorem Qk0 (m:Pg) (W:World):Calls Tryz.prog 121 #[.agg #[.int .i64 m.frame,.bool m.w,.bool m.s,.bool m.c,.bool false]] W fun e W'=>e=.returned (.bool (Qfk m))∧Below W.heap.size W W':=by
 obtain ⟨pg,f,w,s,c⟩:=m;obtain ⟨R,hR⟩:∃ R,R=Qfk ⟨pg,f,w,s,c⟩:=⟨_,rfl⟩
 have hR2:R=(decide (f ≥ 0)&&decide (f≤255)&&(!s || !c)):=by
  rw [hR];unfold Qfk;show (decide (0≤f)&&decide (f<256)&&!(s&&c))=_;rw [Bool.not_and,show decide (f<256)=decide (f≤255) by rw [Bool.eq_iff_iff,decide_eq_true_iff,decide_eq_true_iff];omega]
 rw [← hR];have HR:=QQ hR2;clear hR hR2
 have bX:∀ X:Obj,Below W.heap.size W (W.alloc X):=fun X=>(QB _ W).alloc (QN _) X
 go_enter Tryz.func121,Tryz.ntmps121
 cases t1:decide (f ≥ 0) with
 | false =>
  go_wp2;go_ret;exact ⟨by rw [show R=_ from HR,t1] <;> rfl,bX _⟩
 | true =>
  cases t2:decide (f≤255) with
  | false =>
   go_wp2;go_ret;exact ⟨by rw [show R=_ from HR,t1,t2] <;> rfl,bX _⟩
  | true =>
   cases s with
   | false =>
    go_wp2;go_ret;exact ⟨by rw [show R=_ from HR,t1,t2] <;> rfl,bX _⟩
   | true =>
    cases c with
    | false =>
     go_wp2;go_ret;exact ⟨by rw [show R=_ from HR,t1,t2] <;> rfl,bX _⟩
    | true =>
     go_wp2;go_ret;exact ⟨by rw [show R=_ from HR,t1,t2] <;> rfl,bX _⟩
theorem QnW (p f o:Int) (W:World):Calls Tryz.prog 101 #[.agg #[.int .i64 p,.int .i64 f,.int .i64 o]] W fun e W'=>e=.returned (.bool (Qed p f o))∧Below W.heap.size W W':=by
 obtain ⟨R,hR⟩:∃ R,R=Qed p f o:=⟨_,rfl⟩
 have hR2:R=if (p == 0) then (decide (f ≥ 0)&&decide (f≤255)&&decide (o ≥ 0)&&decide (o≤63)) else (decide (p > 0)&&(f == 0)&&decide (o ≥ 0)&&decide (o≤4095)):=by
  rw [hR];unfold Qed;by_cases h0:p=0
  ·subst h0
   rw [if_pos (by simp),Bool.eq_iff_iff]
   constructor <;> (intro h;simp at h ⊢;omega)
  ·rw [if_neg (by simpa using h0)]
   rw [Bool.eq_iff_iff];simp only [Bool.and_eq_true,Bool.or_eq_true,decide_eq_true_eq,beq_iff_eq];omega
 rw [← hR];have HR:=QQ hR2;clear hR hR2
 have bX:∀ X:Obj,Below W.heap.size W (W.alloc X):=fun X=>(QB _ W).alloc (QN _) X
 go_enter Tryz.func101,Tryz.ntmps101
 cases t0:(p == 0) with
 | true =>
  cases t1:decide (f ≥ 0) with
  | false =>
   go_wp2;go_ret;exact ⟨by rw [show R=_ from HR,t0,t1] <;> rfl,bX _⟩
  | true =>
   cases t2:decide (f≤255) with
   | false =>
    go_wp2;go_ret;exact ⟨by rw [show R=_ from HR,t0,t1,t2] <;> rfl,bX _⟩
   | true =>
    cases t3:decide (o ≥ 0) with
    | false =>
     go_wp2;go_ret;exact ⟨by rw [show R=_ from HR,t0,t1,t2,t3] <;> rfl,bX _⟩
    | true =>
     cases t4:decide (o≤63) with
     | false =>
      go_wp2;go_ret;exact ⟨by rw [show R=_ from HR,t0,t1,t2,t3,t4] <;> rfl,bX _⟩
     | true =>
      go_wp2;go_ret;exact ⟨by rw [show R=_ from HR,t0,t1,t2,t3,t4] <;> rfl,bX _⟩
 | false =>
  cases t1:decide (p > 0) with
  | false =>
   go_wp2;go_ret;exact ⟨by rw [show R=_ from HR,t0,t1] <;> rfl,bX _⟩
  | true =>
   cases t2:(f == 0) with
   | false =>
    go_wp2;go_ret;exact ⟨by rw [show R=_ from HR,t0,t1,t2] <;> rfl,bX _⟩
   | true =>
    cases t3:decide (o ≥ 0) with
    | false =>
     go_wp2;go_ret;exact ⟨by rw [show R=_ from HR,t0,t1,t2,t3] <;> rfl,bX _⟩
    | true =>
     cases t4:decide (o≤4095) with
     | false =>
      go_wp2;go_ret;exact ⟨by rw [show R=_ from HR,t0,t1,t2,t3,t4] <;> rfl,bX _⟩
     | true =>
      go_wp2;go_ret;exact ⟨by rw [show R=_ from HR,t0,t1,t2,t3,t4] <;> rfl,bX _⟩
theorem QoB (m n:Nat) (hm:m<4294967296):(bits .and .u32 ((m / 2 ^ n:Nat):Int) 1 == 1)=m.testBit n:=by
 rw [Qg,Nat.testBit_eq_decide_div_mod_eq,Bool.eq_iff_iff,beq_iff_eq,decide_eq_true_iff];omega
theorem Ql2 (m n:Nat) (hm:m<4294967296) (hn:n<32) (W:World):Calls Tryz.prog 132 #[.int .u32 (m:Int),.int .i64 (n:Int)] W fun e W'=>e=.returned (.bool (m.testBit n))∧W'=W:=by
 rw [← QoB m n hm];go_enter Tryz.func132,Tryz.ntmps132;go_wp2;go_ret;exact ⟨rfl,rfl⟩
theorem QnX (s:Sg) (hs:s.Ok) (W:World):Calls Tryz.prog 120 #[.agg s.vals.toArray] W fun e W'=>e=.returned (.bool (QdN s))∧Below W.heap.size W W':=by
 obtain ⟨p,m,hd,bz⟩:=s;obtain ⟨h1,h2,h3,h4⟩:=hs
 match hd,h3 with
 | [r0,r1,r2,r3,r4,r5,r6,r7,r8,r9,r10,r11,r12,r13,r14,r15],_ =>
  obtain ⟨p,rfl⟩:∃ x:Nat,p=(x:Int):=⟨p.toNat,(Int.toNat_of_nonneg h1.1).symm⟩;obtain ⟨m,rfl⟩:∃ x:Nat,m=(x:Int):=⟨m.toNat,(Int.toNat_of_nonneg h2.1).symm⟩
  have hp:p<4294967296:=by have:=h1.2;simp only at this;omega
  have hm:m<4294967296:=by have:=h2.2;simp only at this;omega
  obtain ⟨R,hR⟩:∃ R,R=QdN ⟨(p:Int),(m:Int),[r0,r1,r2,r3,r4,r5,r6,r7,r8,r9,r10,r11,r12,r13,r14,r15],bz⟩:=⟨_,rfl⟩
  have hR2:R=((List.range 32).all (Qc5 p m)&&(r0 == 0)&&(r9 == 0)):=by rw [hR];rfl
  rw [← hR];have HR:=QQ hR2;clear hR hR2 h1 h2 h4;show Calls Tryz.prog _ #[.agg #[.int .u32 (p:Int),.int .u32 (m:Int),.int .u32 r0,.int .u32 r1,.int .u32 r2,.int .u32 r3,.int .u32 r4,.int .u32 r5,.int .u32 r6,.int .u32 r7,.int .u32 r8,.int .u32 r9,.int .u32 r10,.int .u32 r11,.int .u32 r12,.int .u32 r13,.int .u32 r14,.int .u32 r15,.bool bz]] W _;go_enter Tryz.func120,Tryz.ntmps120;go_wp2;obtain ⟨V,hV⟩:∃ V,V=W.alloc (.cells #[.int .u32 (p:Int),.int .u32 (m:Int),.int .u32 r0,.int .u32 r1,.int .u32 r2,.int .u32 r3,.int .u32 r4,.int .u32 r5,.int .u32 r6,.int .u32 r7,.int .u32 r8,.int .u32 r9,.int .u32 r10,.int .u32 r11,.int .u32 r12,.int .u32 r13,.int .u32 r14,.int .u32 r15,.bool bz] 48):=⟨_,rfl⟩
  have eV:V.heap[W.heap.size]?=some (.cells #[.int .u32 (p:Int),.int .u32 (m:Int),.int .u32 r0,.int .u32 r1,.int .u32 r2,.int .u32 r3,.int .u32 r4,.int .u32 r5,.int .u32 r6,.int .u32 r7,.int .u32 r8,.int .u32 r9,.int .u32 r10,.int .u32 r11,.int .u32 r12,.int .u32 r13,.int .u32 r14,.int .u32 r15,.bool bz] 48):=by rw [hV];exact QW _ _
  have bV:Below W.heap.size W V:=by rw [hV];exact (QB _ W).alloc (QN _) _
  have q0:V.cell? ⟨W.heap.size,0,none⟩=some (.int .u32 (p:Int)):=by rw [cell_of_row V _ 0 _ _ _ eV];rfl
  have q1:V.cell? ⟨W.heap.size,1,none⟩=some (.int .u32 (m:Int)):=by rw [cell_of_row V _ 1 _ _ _ eV];rfl
  have q2:V.cell? ⟨W.heap.size,2,none⟩=some (.int .u32 r0):=by rw [cell_of_row V _ 2 _ _ _ eV];rfl
  have q9:V.cell? ⟨W.heap.size,11,none⟩=some (.int .u32 r9):=by rw [cell_of_row V _ 11 _ _ _ eV];rfl
  rw [← hV];clear hV eV;go_loopw [3,4,5] (fun i _ _ wr=>∃ k:Nat,k≤32∧i=.int .i64 (k:Int)∧Hid ((List.range k).all (Qc5 p m)=true)∧wr=V) (fun i _ _ _=>32-(intOf i).toNat)
  case atStart=>exact ⟨0,by decide,rfl,rfl,rfl⟩
  case round =>
   obtain ⟨k,hk,rfl,hall,rfl⟩:=hrel;by_cases hlt:k<32
   rotate_left
   ·have t1:decide ((k:Int)<32)=false:=by simp;omega
    obtain rfl:k=32:=by omega
    have HR2:Hid (R=((r0 == 0)&&(r9 == 0))):=QQ (by rw [show R=_ from HR,show (List.range 32).all (Qc5 p m)=true from hall];rfl);clear HR hall
    cases u0:(r0 == 0) with
    | false =>
     go_wp2;go_ret;exact ⟨by rw [show R=_ from HR2,u0] <;> rfl,bV⟩
    | true =>
     cases u9:(r9 == 0) with
     | false =>
      go_wp2;go_ret;exact ⟨by rw [show R=_ from HR2,u0,u9] <;> rfl,bV⟩
     | true =>
      go_wp2;go_ret;exact ⟨by rw [show R=_ from HR2,u0,u9] <;> rfl,bV⟩
   have t1:decide ((k:Int)<32)=true:=by simp;omega
   obtain ⟨bp,hbp⟩:∃ b,b=p.testBit k:=⟨_,rfl⟩;obtain ⟨bm,hbm⟩:∃ b,b=m.testBit k:=⟨_,rfl⟩;have kp:=Ql2 p k hp hlt wr;have km:=Ql2 m k hm hlt wr;rw [← hbp] at kp;rw [← hbm] at km
   have hok:Qc5 p m k = !((decide ((k:Int)<1) || decide ((k:Int) > 15))&&(bp || bm) || ((k:Int) == 9)&&bm):=by
    unfold Qc5;rw [← hbp,← hbm,show decide (k<1)=decide ((k:Int)<1) by rw [Bool.eq_iff_iff,decide_eq_true_iff,decide_eq_true_iff];omega,show decide (15<k)=decide ((k:Int) > 15) by rw [Bool.eq_iff_iff,decide_eq_true_iff,decide_eq_true_iff];omega,show (k == 9)=((k:Int) == 9) by rw [Bool.eq_iff_iff,beq_iff_eq,beq_iff_eq];omega]
   have hno:Qc5 p m k=false→R=false:=fun h=>by
    rw [show R=_ from HR,show (List.range 32).all (Qc5 p m)=false by
     rw [Bool.eq_false_iff,ne_eq,List.all_eq_true]
     exact fun hh=>by have:=hh k (List.mem_range.2 hlt);rw [h] at this;cases this]
    rfl
   have hyes:Qc5 p m k=true→(List.range (k+1)).all (Qc5 p m)=true:=fun h=>by
    rw [List.range_succ,List.all_append,show (List.range k).all (Qc5 p m)=true from hall];simp [h]
   have HO:=QQ hok;have HNO:=QQ hno;have HYES:=QQ hyes;clear hbp hbm hok hno hyes hall;go_wp2_with (go_at_call 132;refine Qau ?_);unfold Qag;refine kp.mono ?_;rintro e w1 ⟨rfl,hw⟩;subst hw;go_wp2_with (go_at_call 132;refine Qau ?_);unfold Qag;refine km.mono ?_;rintro e w2 ⟨rfl,hw⟩;subst hw;clear kp km
   cases c1:decide ((k:Int)<1) with
   | false =>
    cases c2:decide ((k:Int) > 15) with
    | false =>
     cases c9:((k:Int) == 9) with
     | false =>
      go_wp2;go_roundw
      case rel=>exact ⟨k+1,by omega,by go_num,(QG HYES) (by rw [show Qc5 p m k=_ from HO,c1,c2,c9] <;> rfl),trivial⟩
      case measure=>simp [intOf];omega
     | true =>
      cases bm with
      | false =>
       go_wp2;go_roundw
       case rel=>exact ⟨k+1,by omega,by go_num,(QG HYES) (by rw [show Qc5 p m k=_ from HO,c1,c2,c9] <;> rfl),trivial⟩
       case measure=>simp [intOf];omega
      | true =>
       go_wp2;go_ret;exact ⟨by rw [(QG HNO) (by rw [show Qc5 p m k=_ from HO,c1,c2,c9] <;> rfl)] <;> rfl,bV⟩
    | true =>
     cases bp with
     | false =>
      cases bm with
      | false =>
       cases c9:((k:Int) == 9) with
       | false =>
        go_wp2;go_roundw
        case rel=>exact ⟨k+1,by omega,by go_num,(QG HYES) (by rw [show Qc5 p m k=_ from HO,c1,c2,c9] <;> rfl),trivial⟩
        case measure=>simp [intOf];omega
       | true =>
        go_wp2;go_roundw
        case rel=>exact ⟨k+1,by omega,by go_num,(QG HYES) (by rw [show Qc5 p m k=_ from HO,c1,c2,c9] <;> rfl),trivial⟩
        case measure=>simp [intOf];omega
      | true =>
       go_wp2;go_ret;exact ⟨by rw [(QG HNO) (by rw [show Qc5 p m k=_ from HO,c1,c2] <;> rfl)] <;> rfl,bV⟩
     | true =>
      go_wp2;go_ret;exact ⟨by rw [(QG HNO) (by rw [show Qc5 p m k=_ from HO,c1,c2] <;> rfl)] <;> rfl,bV⟩
   | true =>
    cases bp with
    | false =>
     cases bm with
     | false =>
      cases c9:((k:Int) == 9) with
      | false =>
       go_wp2;go_roundw
       case rel=>exact ⟨k+1,by omega,by go_num,(QG HYES) (by rw [show Qc5 p m k=_ from HO,c1,c9] <;> rfl),trivial⟩
       case measure=>simp [intOf];omega
      | true =>
       go_wp2;go_roundw
       case rel=>exact ⟨k+1,by omega,by go_num,(QG HYES) (by rw [show Qc5 p m k=_ from HO,c1,c9] <;> rfl),trivial⟩
       case measure=>simp [intOf];omega
     | true =>
      go_wp2;go_ret;exact ⟨by rw [(QG HNO) (by rw [show Qc5 p m k=_ from HO,c1] <;> rfl)] <;> rfl,bV⟩
    | true =>
     go_wp2;go_ret;exact ⟨by rw [(QG HNO) (by rw [show Qc5 p m k=_ from HO,c1] <;> rfl)] <;> rfl,bV⟩
theorem Qi0 (c:Cp) (hc:c.Ok) (W:World):Calls Tryz.prog 119 #[.agg c.vals.toArray] W fun e W'=>e=.returned (.bool true)∧Below W.heap.size W W':=by
 obtain ⟨r,za,zb,zc,zd,pc⟩:=c;obtain ⟨h1,h2,h3,h4,h5,h6,h7⟩:=hc
 match r,h1 with
 | [r0,r1,r2,r3,r4,r5,r6,r7],_ =>
  have k1:=fun w=>QfF za zb h3 h4 w
  have k2:=fun w=>QfF zc zd h5 h6 w
  show Calls Tryz.prog _ #[.agg #[.int .u32 r0,.int .u32 r1,.int .u32 r2,.int .u32 r3,.int .u32 r4,.int .u32 r5,.int .u32 r6,.int .u32 r7,.complex .f64 (fl za) (fl zb),.complex .f64 (fl zc) (fl zd),.int .u32 pc]] W _;obtain ⟨f1,hf1⟩:∃ f,f=fl za:=⟨_,rfl⟩;obtain ⟨f2,hf2⟩:∃ f,f=fl zb:=⟨_,rfl⟩;obtain ⟨f3,hf3⟩:∃ f,f=fl zc:=⟨_,rfl⟩;obtain ⟨f4,hf4⟩:∃ f,f=fl zd:=⟨_,rfl⟩;rw [← hf1,← hf2] at k1;rw [← hf3,← hf4] at k2;rw [← hf1,← hf2,← hf3,← hf4];clear hf1 hf2 hf3 hf4 h2 h3 h4 h5 h6 h7
  have bX:∀ X:Obj,Below W.heap.size W (W.alloc X):=fun X=>(QB _ W).alloc (QN _) X
  go_enter Tryz.func119,Tryz.ntmps119;go_wp2_with (go_at_call 131;refine Qau ?_);unfold Qag;refine (k1 _).mono ?_;rintro e w1 ⟨rfl,hw⟩;subst hw;dsimp only;go_wp2_with (go_at_call 131;refine Qau ?_);unfold Qag;refine (k2 _).mono ?_;rintro e w1 ⟨rfl,hw⟩;subst hw;dsimp only;go_wp2;go_ret;exact ⟨rfl,bX _⟩
def DpQ (W:World) (R:Bool):Exit→Act→World→Prop:=bodyPost Tryz.prog Tryz.f100 fun e W'=>e=.returned (.bool R)∧Below W.heap.size W W'
def Qc4 (W:World) (q:Pr × QcJ) (X:Array Value) (B:Nat) (c:Code) (t3 t4 t5:Value) (R:Bool):Prop :=
 ∀ (t6 t7 t8 t9 u10 u11 u12 u13 u14 u15 u16 u17 u18 u19 u20 u21 u22 u23 u24 u25 u26 u27 u28 u29 u30 u31 u32 u33 u34 u35 u36 u37 u38 u39 u40 u41 u42 u43 u44 u45 u46 u47 u48 u49 u50 u51 u52 u53 u54 u55 u56 u57 u58 u59 u60 u61 u62 u63 u64 u65 u66 u67 u68 u69 u70 u71 u72 u73 u74 u75 u76 u77 u78 u79 u80 u81 u82 u83 u84 u85 u86 u87 u88 u89 u90 u91 u92 u93 u94 u95 u96 u97 u98 u99 u100 u101 u102 u103 u104 u105 u106 u107 u108 u109 u110 u111 u112 u113 u114 u115 u116 u117 u118 u119 u120 u121 u122 u123 u124 u125 u126 u127 u128 u129 u130 u131 u132 u133 u134 u135 u136 u137 u138 u139 u140 u141 u142 u143 u144 u145 u146 u147 u148 u149 u150 u151 u152 u153 u154 u155 u156 u157 u158 u159 u160 u161 u162 u163 u164 u165 u166 u167 u168 u169 u170 u171 u172 u173 u174 u175 u176 u177 u178 u179 u180 u181 u182 u183 u184 u185 u186 u187 u188 u189 u190 u191 u192 u193 u194 u195 u196 u197 u198 u199 u200 u201 u202 u203 u204 u205 u206 u207 u208 u209 u210 u211 u212 u213 u214 u215 u216 u217 u218 u219 u220 u221 u222 u223 u224 u225 u226 u227 u228 u229 u230 u231 u232 u233 u234:Value) (V:World),Qad W q X B V→c.wp Tryz.prog (DpQ W R) { tmps:=#[.agg X,.pointer (some ⟨B,0,none⟩),.bool false,t3,t4,t5,t6,t7,t8,t9,u10,u11,u12,u13,u14,u15,u16,u17,u18,u19,u20,u21,u22,u23,u24,u25,u26,u27,u28,u29,u30,u31,u32,u33,u34,u35,u36,u37,u38,u39,u40,u41,u42,u43,u44,u45,u46,u47,u48,u49,u50,u51,u52,u53,u54,u55,u56,u57,u58,u59,u60,u61,u62,u63,u64,u65,u66,u67,u68,u69,u70,u71,u72,u73,u74,u75,u76,u77,u78,u79,u80,u81,u82,u83,u84,u85,u86,u87,u88,u89,u90,u91,u92,u93,u94,u95,u96,u97,u98,u99,u100,u101,u102,u103,u104,u105,u106,u107,u108,u109,u110,u111,u112,u113,u114,u115,u116,u117,u118,u119,u120,u121,u122,u123,u124,u125,u126,u127,u128,u129,u130,u131,u132,u133,u134,u135,u136,u137,u138,u139,u140,u141,u142,u143,u144,u145,u146,u147,u148,u149,u150,u151,u152,u153,u154,u155,u156,u157,u158,u159,u160,u161,u162,u163,u164,u165,u166,u167,u168,u169,u170,u171,u172,u173,u174,u175,u176,u177,u178,u179,u180,u181,u182,u183,u184,u185,u186,u187,u188,u189,u190,u191,u192,u193,u194,u195,u196,u197,u198,u199,u200,u201,u202,u203,u204,u205,u206,u207,u208,u209,u210,u211,u212,u213,u214,u215,u216,u217,u218,u219,u220,u221,u222,u223,u224,u225,u226,u227,u228,u229,u230,u231,u232,u233,u234],defers:=[] } V
theorem Qqt (W:World) (p:Pr) (fa:Option Addr) (fc:Nat) (pa:Option Addr) (pc:Nat) (X:Array Value) (B:Nat) (t3 t4 t5:Value) :
  Qc4 W (p,⟨fa,fc,pa,pc⟩) X B (tl 8 (Tryz.f100.body.getD .skip)) t3 t4 t5 (Qbc (-1) p.pages):=by
 iterate 229 intro
 intro V h;have H:=QQ h;obtain ⟨R,hR⟩:∃ R,R=Qbc (-1) p.pages:=⟨_,rfl⟩;rw [← hR];have HR:=QQ hR;clear hR h;obtain ⟨n,hn⟩:∃ n,n=p.pages.length:=⟨_,rfl⟩;have HN:=QQ hn;clear hn
 conv=>arg 2;whnf
 refine wp_seq_k (fun K aK=>?_);have AK:=QQ aK;clear aK;go_wp2;go_loopw [2,7,8,9] (fun r0 i _ _ wr=>∃ (k:Nat) (last:Int),r0=.bool false∧i=.int .i64 (k:Int)∧k≤n∧Hid (R=Qbc last (p.pages.drop k))∧Hid ((k=0→last = -1)∧(∀ j,k=j+1→∃ h:j<p.pages.length,last=p.pages[j].page∧0≤last))∧Qad W (p,⟨fa,fc,pa,pc⟩) X B wr) (fun _ i _ _ _=>n-(intOf i).toNat)
 case atStart=>exact ⟨0,-1,rfl,rfl,Nat.zero_le _,HR,⟨fun _=>rfl,fun j hj=>by omega⟩,H⟩
 case round =>
  clear H HR;obtain ⟨k,last,rfl,rfl,hk,hany,hlast,inv⟩:=hrel;have H:=QQ inv;have c54:=Qad.cell inv (Qaf p (Qad.fine inv).ok fa fc pa pc).2.2.1.2.2.2.2;rw [show p.pages.length=n from (QG HN).symm] at c54
  rcases Nat.lt_or_ge k n with hx | hx
  rotate_left
  ·have t1:decide ((k:Int)<(n:Int))=false:=by simp;omega
   have hR2:R=true:=by rw [show R=_ from hany,List.drop_of_length_le (by rw [← (QG HN)];exact hx)];rfl
   have HR:=QQ hR2;clear hR2 inv hany hlast;go_wp2;refine (QG AK) _ _ ?_;go_wp2;go_ret;exact ⟨by rw [show R=_ from HR] <;> rfl,Qad.below (QG H)⟩
  have hx2:k<p.pages.length:=by rw [← (QG HN)];exact hx
  have t0:((k:Int)<(n:Int)):=by omega
  have t1:decide ((k:Int)<(n:Int))=true:=by simp;omega
  have hsmn:n≤20000:=by rw [show n=_ from HN];exact inv.fine.pages
  rcases inv.pages with h0 | ⟨b,off,hpa,hbn,hlc,hcm,hc⟩
  ·exfalso;rw [show n=_ from HN] at hx;simp only at h0;omega
  simp only at hpa;subst hpa;have hbb:=inv.below;have hsz:=hbb.size
  have e:∀ j v,(Pg.vals p.pages[k])[j]?=some v→wr.cell? ⟨b,off+k*6+j,none⟩=some v:=fun j v hj=>by
   have:=hc (k*6+j) v (Qb Pg.vals 6 p.pages (fun _ _=>rfl) k hx2 j v hj);rw [show off+k*6+j=off+(k*6+j) by omega];exact (hbb.cell (p:=⟨b,off+(k*6+j),none⟩) hbn).trans this
  have eprev:∀ j,k=j+1→wr.cell? ⟨b,off+j*6,none⟩=some (.int .i64 last):=fun j hj=>by
   obtain ⟨hjl,hl,_⟩:=(show (k=0→last = -1)∧(∀ j,k=j+1→∃ h:j<p.pages.length,last=p.pages[j].page∧0≤last) from hlast).2 j hj;have:=hc (j*6+0) _ (Qb Pg.vals 6 p.pages (fun _ _=>rfl) j hjl 0 (.int .i64 p.pages[j].page) rfl);rw [hl];exact (hbb.cell (p:=⟨b,off+j*6,none⟩) hbn).trans this
  have hm:=QiJ last p.pages k hx2;rw [← (show R=Qbc last (p.pages.drop k) from hany)] at hm;obtain ⟨mg,hmg⟩:∃ mg,mg=p.pages[k]:=⟨_,rfl⟩
  have hlp:p.pages[k].page=mg.page:=by rw [hmg]
  rw [← hmg] at e hm;have HLP:=QQ hlp;clear hmg hlp;obtain ⟨pg,f,w,s,c⟩:=mg;have HM:=QQ hm;have HL:=QQ hlast;have HE:=QQ eprev;clear hm hlast eprev hany hc inv
  go_wp2_with first
   | (refine QaC (by rfl) 110 (.tmp 197) rfl b (off+k*6) rfl (Pg.vals ⟨pg,f,w,s,c⟩) _ e Tryz.underlying110 rfl Qeb ?_)
   | ((fail_if_success (unfold Qag));refine Qan (t:=110) rfl ?_)
  unfold Qag;refine Qab rfl 110 (.tmp 8) (.tmp 198) rfl wr.heap.size #[.int .i64 pg,.int .i64 f,.bool w,.bool s,.bool c,.bool false] rfl rfl 110 _ (QW _ _) Qeb rfl (by simp [Value.oneCell']) ?_;rw [World.setRow_alloc_new];obtain ⟨V2,hV⟩:∃ V,V=wr.alloc (.cells #[.int .i64 pg,.int .i64 f,.bool w,.bool s,.bool c,.bool false] 110):=⟨_,rfl⟩
  have eV:V2.heap[wr.heap.size]?=some (.cells #[.int .i64 pg,.int .i64 f,.bool w,.bool s,.bool c,.bool false] 110):=by rw [hV];exact QW _ _
  have bV:Below wr.heap.size wr V2:=by rw [hV];exact (QB _ _).alloc (QN _) _
  have sV:wr.heap.size<V2.heap.size:=(QI.1 eV).1;rw [← hV];clear hV e
  have d0:V2.cell? ⟨wr.heap.size,0,none⟩=some (.int .i64 pg):=by rw [cell_of_row V2 _ 0 _ _ _ eV];rfl
  have d5:V2.cell? ⟨wr.heap.size,5,none⟩=some (.bool false):=by rw [cell_of_row V2 _ 5 _ _ _ eV];rfl
  have hcE:∀ j v,([.int .i64 f,.bool w,.bool s,.bool c,.bool false]:List Value)[j]?=some v→V2.cell? ⟨wr.heap.size,1+j,none⟩=some v:=fun j v hj=>by
   rw [cell_of_row V2 _ (1+j) _ _ _ eV,List.getElem?_toArray,Nat.add_comm,List.getElem?_cons_succ];exact hj
  have ke:=Qk0 ⟨pg,f,w,s,c⟩ V2;obtain ⟨E,hE⟩:∃ E,E=Qfk ⟨pg,f,w,s,c⟩:=⟨_,rfl⟩;rw [← hE] at ke;have HE2:=QQ hE;have inv2:=(QG H).grow bV;have H2:=QQ inv2
  have hpv:∀ j,k=j+1→V2.cell? ⟨b,off+j*6,none⟩=some (.int .i64 last):=fun j hj=>(bV.cell (p:=⟨b,off+j*6,none⟩) (by show b<wr.heap.size;omega)).trans ((QG HE) j hj)
  have HPV:=QQ hpv;clear hE eV bV c54 hpv inv2
  go_wp2_with first
   | (go_at_call 121;refine Qau ?_)
   | (refine QaC (by rfl) 108 (.tmp 199) rfl wr.heap.size 1 rfl [.int .i64 f,.bool w,.bool s,.bool c,.bool false] _ hcE Tryz.underlying108 rfl QfK ?_)
  unfold Qag;refine ke.mono ?_;rintro e' w2 ⟨rfl,b2⟩;replace d0:=(b2.cell (p:=⟨wr.heap.size,0,none⟩) sV).trans d0;replace d5:=(b2.cell (p:=⟨wr.heap.size,5,none⟩) sV).trans d5;have inv3:=(QG H2).grow b2
  have hpv:∀ j,k=j+1→w2.cell? ⟨b,off+j*6,none⟩=some (.int .i64 last):=fun j hj=>(b2.cell (p:=⟨b,off+j*6,none⟩) (by show b<V2.heap.size;omega)).trans ((QG HPV) j hj)
  have c54:=Qad.cell inv3 (Qaf p (Qad.fine inv3).ok fa fc (some ⟨b,off,none⟩) pc).2.2.1.2.2.2.2;rw [show p.pages.length=n from (QG HN).symm] at c54;have H3:=QQ inv3
  have hR2:R=((!(decide (pg≤last) || decide (pg ≥ 64) || !E))&&Qbc pg (p.pages.drop (k+1))):=by rw [show E=_ from HE2];exact HM
  obtain ⟨L,hL⟩:=(QG HL)
  have hnone:decide (pg<0)=true→R=false:=fun h=>by
   rw [hR2];have h1:pg<0:=of_decide_eq_true h
   have h2:-1≤last:=by
    rcases Nat.eq_zero_or_pos k with h0 | h0
    ·rw [L h0];omega
    ·obtain ⟨_,_,h3⟩:=hL (k-1) (by omega);omega
   rw [decide_eq_true (show pg≤last by omega)];rfl
  have hbig:decide (pg > 63)=true→R=false:=fun h=>by
   rw [hR2,decide_eq_true (show pg ≥ 64 by have:=of_decide_eq_true h;omega)];simp
  have hE3:E=false→R=false:=fun h=>by rw [hR2,h];simp
  have hge:∀ j,k=j+1→decide (last ≥ pg)=true→R=false:=fun j _ h=>by
   rw [hR2,decide_eq_true (show pg≤last by have:=of_decide_eq_true h;omega)];rfl
  have hgo:decide (pg<0)=false→decide (pg > 63)=false→E=true→(k=0∨decide (last ≥ pg)=false)→R=Qbc pg (p.pages.drop (k+1)):=fun h1 h2 h3 h4=>by
   have g1:¬ pg<0:=of_decide_eq_false h1;have g2:¬ pg > 63:=of_decide_eq_false h2
   have g3:¬ pg≤last:=by
    rcases h4 with h4 | h4
    ·rw [L h4];omega
    ·have:=of_decide_eq_false h4;omega
   rw [hR2,decide_eq_false g3,decide_eq_false (show ¬ pg ≥ 64 by omega),h3];rfl
  have HA:=QQ (QA hnone (QA hbig (QA hE3 (QA hge hgo))));have lB:B<w2.heap.size:=(QI.1 inv3.eB).1;have lD:wr.heap.size<w2.heap.size:=Nat.lt_of_lt_of_le sV b2.size
  have lb:b<w2.heap.size:=by omega
  have bD:Below w2.heap.size w2 w2.drew:=⟨rfl,rfl,rfl,QN _,fun _ _=>rfl⟩
  have HX:=QQ (show ∀ W',Qaz w2.drew W'→W'.cell? ⟨wr.heap.size,0,none⟩=some (.int .i64 pg)∧W'.cell? ⟨wr.heap.size,5,none⟩=some (.bool false)∧W'.cell? ⟨B,54,none⟩=some (.slice (some ⟨b,off,none⟩) n pc)∧∀ j,k=j+1→W'.cell? ⟨b,off+j*6,none⟩=some (.int .i64 last) from fun W' hW =>
   ⟨((bD.trans hW).cell (p:=⟨wr.heap.size,0,none⟩) lD).trans d0,((bD.trans hW).cell (p:=⟨wr.heap.size,5,none⟩) lD).trans d5,((bD.trans hW).cell (p:=⟨B,54,none⟩) lB).trans c54,fun j hj=>((bD.trans hW).cell (p:=⟨b,off+j*6,none⟩) lb).trans (hpv j hj)⟩)
  have HD0:=QQ (show Qad W (p,⟨fa,fc,some ⟨b,off,none⟩,pc⟩) X B w2.drew from inv3.grow bD);clear hnone hbig hE3 hge hgo hR2 L hL ke hcE b2 inv3 HM HE2 HE HL HPV H2 d0 d5 c54 hpv bD
  cases t2:decide (pg<0) with
  | true =>
   go_wp2;refine Qas Qaz (by kernel_rfl) 33 rfl ?_;refine Qam [0,1,2,3,4,5,6,7,8,9,10,11,12,13,14,15,16,17,18,19,20,21,22,23,24,25,26,27,28,29,30,31,32] (by kernel_rfl) (by kernel_rfl) ?_
   iterate 33
    first
    | (refine Qax (Qaz.pre) rfl (by rfl) (v:=?_) (fun W hW=>?_) (fun K hK=>?_);rotate_left;· (obtain ⟨y1,y2,y3,y4⟩:=(QG HX) W hW;go_simp;first | done | rfl))
    | refine Qap (Qaz.pre) rfl (by rfl) (fun K hK=>?_)
    go_simp;refine hK _ ?_;clear hK K
   refine Qaw ?_;refine QaR (by kernel_rfl) ?_;go_wp2;go_ret;exact ⟨by rw [(QG HA).1 t2] <;> rfl,Qad.below (QG HD0)⟩
  | false =>
   cases t3:decide (pg > 63) with
   | true =>
    go_wp2;refine Qas Qaz (by kernel_rfl) 33 rfl ?_;refine Qam [0,1,2,3,4,5,6,7,8,9,10,11,12,13,14,15,16,17,18,19,20,21,22,23,24,25,26,27,28,29,30,31,32] (by kernel_rfl) (by kernel_rfl) ?_
    iterate 33
     first
     | (refine Qax (Qaz.pre) rfl (by rfl) (v:=?_) (fun W hW=>?_) (fun K hK=>?_);rotate_left;· (obtain ⟨y1,y2,y3,y4⟩:=(QG HX) W hW;go_simp;first | done | rfl))
     | refine Qap (Qaz.pre) rfl (by rfl) (fun K hK=>?_)
     go_simp;refine hK _ ?_;clear hK K
    refine Qaw ?_;refine QaR (by kernel_rfl) ?_;go_wp2;go_ret;exact ⟨by rw [(QG HA).2.1 t3] <;> rfl,Qad.below (QG HD0)⟩
   | false =>
    cases E with
    | false =>
     go_wp2;refine Qas Qaz (by kernel_rfl) 33 rfl ?_;refine Qam [0,1,2,3,4,5,6,7,8,9,10,11,12,13,14,15,16,17,18,19,20,21,22,23,24,25,26,27,28,29,30,31,32] (by kernel_rfl) (by kernel_rfl) ?_
     iterate 33
      first
      | (refine Qax (Qaz.pre) rfl (by rfl) (v:=?_) (fun W hW=>?_) (fun K hK=>?_);rotate_left;· (obtain ⟨y1,y2,y3,y4⟩:=(QG HX) W hW;go_simp;first | done | rfl))
      | refine Qap (Qaz.pre) rfl (by rfl) (fun K hK=>?_)
      go_simp;refine hK _ ?_;clear hK K
     refine Qaw ?_;refine QaR (by kernel_rfl) ?_;go_wp2;go_ret;exact ⟨by rw [(QG HA).2.2.1 trivial] <;> rfl,Qad.below (QG HD0)⟩
    | true =>
     have HA2:=(QG HA)
     rcases Nat.eq_zero_or_pos k with h0 | h0
     ·have hq:=HA2.2.2.2.2 t2 t3 rfl (.inl h0)
      have HQ:=QQ hq
      have t4:decide ((k:Int) > 0)=false:=by simp;omega
      clear HA HA2 hq;go_wp2;refine Qas Qaz (by kernel_rfl) 33 rfl ?_;refine Qam [0,1,2,3,4,5,6,7,8,9,10,11,12,13,14,15,16,17,18,19,20,21,22,23,24,25,26,27,28,29,30,31,32] (by kernel_rfl) (by kernel_rfl) ?_
      iterate 33
       first
       | (refine Qax (Qaz.pre) rfl (by rfl) (v:=?_) (fun W hW=>?_) (fun K hK=>?_);rotate_left;· (obtain ⟨y1,y2,y3,y4⟩:=(QG HX) W hW;go_simp;first | done | rfl))
       | refine Qap (Qaz.pre) rfl (by rfl) (fun K hK=>?_)
       go_simp;refine hK _ ?_;clear hK K
      refine Qaw ?_;refine QaR (by kernel_rfl) ?_;go_wp2;go_roundw
      case rel=>exact ⟨k+1,pg,rfl,by go_num,by omega,HQ,⟨fun h=>by omega,fun j hj=>by
       obtain rfl:j=k:=by omega
       exact ⟨hx2,(QG HLP).symm,by have:=of_decide_eq_false t2;omega⟩⟩,HD0⟩
      case measure=>simp [intOf];omega
     ·obtain ⟨j,hkj⟩:∃ j,k=j+1:=⟨k-1,by omega⟩
      have t4:decide ((k:Int) > 0)=true:=by simp;omega
      have t4b:decide (0<k)=true:=decide_eq_true h0
      have t4c:decide ((0:Int)<(k:Int))=true:=by simp;omega
      have t4d:0<k:=h0
      have HX2:=QQ (show ∀ W',Qaz w2.drew W'→W'.cell? ⟨wr.heap.size,0,none⟩=some (.int .i64 pg)∧W'.cell? ⟨wr.heap.size,5,none⟩=some (.bool false)∧W'.cell? ⟨B,54,none⟩=some (.slice (some ⟨b,off,none⟩) n pc)∧W'.cell? ⟨b,off+j*6,none⟩=some (.int .i64 last) from fun W' hW=>by
       obtain ⟨z1,z2,z3,z4⟩:=(QG HX) W' hW
       exact ⟨z1,z2,z3,z4 j hkj⟩)
      have i1:IntKind.i64.wrap ((k:Int)-1)=(j:Int):=by
       rw [show (k:Int)-1=(j:Int) by omega];exact (Qcp (j:Int) ⟨by omega,by omega⟩).trans (by unfold Qd1;rw [if_neg (by omega)])
      have i2:wrap64 ((k:Int)-1)=(j:Int):=by
       rw [show (k:Int)-1=(j:Int) by omega];exact Qer ⟨by omega,by omega⟩
      have n1:(j:Int)<(n:Int):=by omega
      have hmm:decide (last ≥ pg)=true→R=false:=HA2.2.2.2.1 j hkj
      have hgg:decide (last ≥ pg)=false→R=Qbc pg (p.pages.drop (k+1)):=fun h=>HA2.2.2.2.2 t2 t3 rfl (.inr h)
      have HMM:=QQ hmm;have HGG:=QQ hgg;clear HA HA2 hmm hgg hkj h0
      cases t5:decide (last ≥ pg) with
      | true =>
       go_wp2;refine Qas Qaz (by kernel_rfl) 33 rfl ?_;refine Qam [0,1,2,3,4,5,6,7,8,9,10,11,12,13,14,15,16,17,18,19,20,21,22,23,24,25,26,27,28,29,30,31,32] (by kernel_rfl) (by kernel_rfl) ?_
       iterate 33
        first
        | (refine Qax (Qaz.pre) rfl (by rfl) (v:=?_) (fun W hW=>?_) (fun K hK=>?_);rotate_left;· (obtain ⟨y1,y2,y3,y4⟩:=(QG HX2) W hW;go_simp;first | done | rfl))
        | refine Qap (Qaz.pre) rfl (by rfl) (fun K hK=>?_)
        go_simp;refine hK _ ?_;clear hK K
       refine Qaw ?_;refine QaR (by kernel_rfl) ?_;go_wp2;go_ret;exact ⟨by rw [(QG HMM) t5] <;> rfl,Qad.below (QG HD0)⟩
      | false =>
       go_wp2;refine Qas Qaz (by kernel_rfl) 33 rfl ?_;refine Qam [0,1,2,3,4,5,6,7,8,9,10,11,12,13,14,15,16,17,18,19,20,21,22,23,24,25,26,27,28,29,30,31,32] (by kernel_rfl) (by kernel_rfl) ?_
       iterate 33
        first
        | (refine Qax (Qaz.pre) rfl (by rfl) (v:=?_) (fun W hW=>?_) (fun K hK=>?_);rotate_left;· (obtain ⟨y1,y2,y3,y4⟩:=(QG HX2) W hW;go_simp;first | done | rfl))
        | refine Qap (Qaz.pre) rfl (by rfl) (fun K hK=>?_)
        go_simp;refine hK _ ?_;clear hK K
       refine Qaw ?_;refine QaR (by kernel_rfl) ?_;go_wp2;go_roundw
       case rel=>exact ⟨k+1,pg,rfl,by go_num,by omega,(QG HGG) t5,⟨fun h=>by omega,fun j hj=>by
        obtain rfl:j=k:=by omega
        exact ⟨hx2,(QG HLP).symm,by have:=of_decide_eq_false t2;omega⟩⟩,HD0⟩
       case measure=>simp [intOf];omega
theorem QpI (W:World) (p:Pr) (fa:Option Addr) (fc:Nat) (pa:Option Addr) (pc:Nat) (X:Array Value) (B:Nat) (t3 t4 t5:Value) (hl:p.fds.length=8) :
  Qc4 W (p,⟨fa,fc,pa,pc⟩) X B (tl 7 (Tryz.f100.body.getD .skip)) t3 t4 t5 (p.fds.all Qf1&&Qbc (-1) p.pages):=by
 iterate 230 intro
 intro h;have H:=QQ h;obtain ⟨R,hR⟩:∃ R,R=(p.fds.all Qf1&&Qbc (-1) p.pages):=⟨_,rfl⟩;rw [← hR];have HR:=QQ hR;have HLL:=QQ hl;clear hR h hl
 conv=>arg 2;whnf
 refine wp_seq_k (fun K aK=>?_);have AK:=QQ aK;clear aK;go_wp2;go_loopw [2,6] (fun r0 i wr=>∃ (k:Nat),r0=.bool false∧i=.int .i64 (k:Int)∧k≤8∧Hid ((p.fds.take k).all Qf1=true)∧Qad W (p,⟨fa,fc,pa,pc⟩) X B wr) (fun _ i _=>8-(intOf i).toNat)
 case atStart=>exact ⟨0,rfl,rfl,Nat.zero_le _,rfl,H⟩
 case round =>
  clear H;obtain ⟨k,rfl,rfl,hk,hall,inv⟩:=hrel;have H:=QQ inv
  rcases Nat.lt_or_ge k 8 with hx | hx
  rotate_left
  ·have t1:decide ((k:Int)<8)=false:=by simp;omega
   have hR2:R=Qbc (-1) p.pages:=by
    have h8:(p.fds.take k).all Qf1=true:=hall;rw [List.take_of_length_le (by rw [show p.fds.length=8 from HLL];exact hx)] at h8;rw [show R=_ from HR,h8];rfl
   clear inv hall;go_wp2;refine (QG AK) _ _ ?_;rw [hR2];apply Qqt W p fa fc pa pc X B;exact H
  have t1:decide ((k:Int)<8)=true:=by simp;omega
  have hx2:k<p.fds.length:=by rw [show p.fds.length=8 from HLL];exact hx
  have c51:=Qad.cell inv (Qaf p (Qad.fine inv).ok fa fc pa pc).2.2.1.2.1;rw [show p.fds.length=8 from HLL] at c51
  rcases inv.fds with h0 | ⟨b,off,hpa,hbn,hlc,hcm,hc⟩
  ·exfalso;rw [show ((p,⟨fa,fc,pa,pc⟩):Pr × QcJ).1.fds.length=8 from HLL] at h0;omega
  simp only at hpa;subst hpa;have hbb:=inv.below;have hsz:=hbb.size;have q1:wr.cell? ⟨b,off+k,none⟩=some (.int .i64 p.fds[k]):=(hbb.cell (p:=⟨b,off+k,none⟩) hbn).trans (hc k _ (by rw [List.getElem?_map,List.getElem?_eq_getElem hx2];rfl));obtain ⟨z,hz⟩:∃ z,z=p.fds[k]:=⟨_,rfl⟩;rw [← hz] at q1
  have hno:Qf1 z=false→R=false:=fun h=>by
   have:p.fds.all Qf1=false:=by
    rw [Bool.eq_false_iff,ne_eq,List.all_eq_true]
    exact fun hh=>by have:=hh z (by rw [hz];exact List.getElem_mem hx2);rw [h] at this;cases this
   rw [show R=_ from HR,this];rfl
  have hyes:Qf1 z=true→(p.fds.take (k+1)).all Qf1=true:=fun h=>by
   rw [List.take_succ_eq_append_getElem hx2,List.all_append,show (p.fds.take k).all Qf1=true from hall,← hz];simp [h]
  have HNO:=QQ hno;have HYES:=QQ hyes
  have n0:(k:Int)<((8:Nat):Int):=by omega
  have n00:(k:Int)<8:=by omega
  clear hz hno hyes hall inv hc hlc hcm
  cases t2:decide (z < -1) with
  | true =>
   have hf:Qf1 z=false:=decide_eq_false (by have:=of_decide_eq_true t2;omega);have HF:=QQ hf;clear hf;go_wp2;go_ret;exact ⟨by rw [(QG HNO) HF] <;> rfl,Qad.below (QG H)⟩
  | false =>
   cases t3:decide (z > 63) with
   | true =>
    have hf:Qf1 z=false:=decide_eq_false (by have:=of_decide_eq_true t3;omega);have HF:=QQ hf;clear hf;go_wp2;go_ret;exact ⟨by rw [(QG HNO) HF] <;> rfl,Qad.below (QG H)⟩
   | false =>
    have hf:Qf1 z=true:=decide_eq_true (by have:=of_decide_eq_false t2;have:=of_decide_eq_false t3;omega);have HF:=QQ hf;clear hf;go_wp2;go_roundw
    case rel=>exact ⟨k+1,rfl,by go_num,by omega,(QG HYES) HF,H⟩
    case measure=>simp [intOf];omega
end Go.Proofs.YtejcandhijdnhaaGreat
