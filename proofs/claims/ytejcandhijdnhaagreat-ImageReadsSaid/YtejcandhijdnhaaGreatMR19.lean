/- Own texts of this seat, one behind the other, without needless spaces (part 19 of 26). -/
import Derived.Test.YtejcandhijdnhaaGreatMR01
import Derived.Test.YtejcandhijdnhaaGreatMR11
import Derived.Test.YtejcandhijdnhaaGreatMR15
import Derived.Test.YtejcandhijdnhaaGreatMR17
import Derived.Test.YtejcandhijdnhaaGreatMR18
import Derived.Lib.Bytes
namespace Go.Proofs.YtejcandhijdnhaaGreat
open Go Go.RowKit
set_option linter.unusedVariables false
set_option linter.unusedSimpArgs false
set_option linter.unnecessarySimpa false
set_option maxRecDepth 100000
set_option maxHeartbeats 16000000
theorem Qow {zs ys:List Int} (h:∀ z∈zs,0≤z∧z≤255) (k:∀ z∈ys,0≤z∧z≤255):∀ z∈zs++ys,0≤z∧z≤255:=fun z hz=>(List.mem_append.1 hz).elim (h z) (k z)
theorem QqA (b0 b1 b2 b3:Int):leW [b0,b1,b2,b3] 0 4=b0.toNat+256*b1.toNat+65536*b2.toNat+16777216*b3.toNat:=by
 simp [leW]
theorem QoM {zs:List Int} (h:zs.length=4):∃ a b c d,zs=[a,b,c,d]:=by
 match zs,h with
 | [a,b,c,d],_=>exact ⟨a,b,c,d,rfl⟩
theorem Qm0 {zs:List Int} (h:zs.length=4) (hz:∀ z∈zs,0≤z∧z≤255):zs.map Int.toNat=Qkg (leW zs 0 4)∧leW zs 0 4<4294967296:=by
 obtain ⟨a,b,c,d,rfl⟩:=QoM h;have ha:=hz a (by simp);have hb:=hz b (by simp);have hc:=hz c (by simp);have hd:=hz d (by simp);rw [QqA];refine ⟨?_,by omega⟩;simp only [Qkg,List.map_cons,List.map_nil]
 congr 1
 ·omega
 ·congr 1
  ·omega
  ·congr 1
   ·omega
   ·congr 1
    omega
theorem Qko (x:Nat):(QaE x).map Int.toNat=Qkg x:=by
 simp only [QaE,Qkg,List.map_cons,List.map_nil];rw [show ((x:Int) % 256).toNat=x % 256 by omega,show ((x:Int) / 256 % 256).toNat=x / 256 % 256 by omega,show ((x:Int) / 65536 % 256).toNat=x / 65536 % 256 by omega,show ((x:Int) / 16777216).toNat=x / 16777216 by omega]
theorem QjD:∀ (X Y:List Int),(∀ z∈X,0≤z∧z≤255)→(∀ z∈Y,0≤z∧z≤255)→(X.map fun n=>UInt8.ofNat n.toNat)=(Y.map fun n=>UInt8.ofNat n.toNat)→X=Y
 | [],[],_,_,_=>rfl
 | [],y::Y,_,_,h=>by simp at h
 | x::X,[],_,_,h=>by simp at h
 | x::X,y::Y,hX,hY,h=>by
  simp only [List.map_cons,List.cons.injEq] at h;have hx:=hX x (List.mem_cons_self ..);have hy:=hY y (List.mem_cons_self ..)
  have e:x=y:=by
   have h1:=congrArg UInt8.toNat h.1;simp only [UInt8.toNat_ofNat'] at h1;omega
  rw [e,QjD X Y (fun z hz=>hX z (List.mem_cons_of_mem _ hz)) (fun z hz=>hY z (List.mem_cons_of_mem _ hz)) h.2]
theorem Qkc (X:List Int):(strOfNums X).toList=X.map fun n=>UInt8.ofNat n.toNat:=by
 rw [ByteArray.toList_eq];rfl
theorem QpF {X Y:List Int} (hX:∀ z∈X,0≤z∧z≤255) (hY:∀ z∈Y,0≤z∧z≤255) (h:¬ X=Y):((strOfNums X).toList == (strOfNums Y).toList)=false:=by
 rw [Qkc,Qkc,beq_eq_false_iff_ne]
 exact fun e=>h (QjD X Y hX hY e)
theorem QjB (x:Nat) (w:World) (hx:x<4294967296) :
  Calls Tryz.prog 97 #[.int .u32 x] w fun e w'=>e=.returned (.slice (some ⟨w.heap.size,0,none⟩) 4 4)∧w'=w.alloc (.cells #[.int .u8 ((x:Int) % 256),.int .u8 ((x:Int) / 256 % 256),.int .u8 ((x:Int) / 65536 % 256),.int .u8 ((x:Int) / 16777216)] 5):=by
 go_enter Tryz.func97,Tryz.ntmps97;go_wp2;go_ret;exact ⟨rfl,rfl⟩
theorem QiQ (a:Option Addr) (len cap:Nat) (zs:List Int) (w:World) (hr:QaL w.heap.size w (.slice a len cap) zs) (hsm:zs.length≤40000) :
  Calls Tryz.prog 66 #[.slice a len cap] w fun e w'=>∃ v,e=.returned v∧w'.ownsRow w.heap.size 5 1 v (len+4) ((zs++QaE (Qe3 zs)).map (Value.int .u8))∧Below w.heap.size w w':=by
 obtain ⟨i0,hi,hz0,hz1,hz2⟩:=info_parts QbB;have e1:=hr.1.open.1;have xl:=QfQ zs hr.2;have km:=QmB 0 a len cap zs w (by decide) hr hsm;rw [show Qhb 0 (zs.map Int.toNat)=Qe3 zs from rfl] at km;obtain ⟨V,hV⟩:∃ V,V=Qe3 zs:=⟨_,rfl⟩;rw [← hV] at km xl ⊢;have hzV:=Qb7 V xl;clear hV;go_enter Tryz.func66,Tryz.ntmps66;go_wp2_with (go_at_call 98;refine Qau ?_);unfold Qag;refine km.mono ?_;rintro e w1 ⟨rfl,b1⟩;go_wp2_with (go_at_call 97;refine Qau ?_);unfold Qag;refine (QjB V w1 xl).mono ?_;rintro e u2 ⟨rfl,hu2⟩
 have bq:Below w1.heap.size w1 u2:=by rw [hu2];exact (QB _ w1).alloc (QN _) _
 have hrB:QaL u2.heap.size u2 (.slice (some ⟨w1.heap.size,0,none⟩) 4 4) (QaE V):=by
  have:=QaL.built w1 5 (0,0) (QaE V) hzV (by simp [QaE,maxLen]) _ rfl 4 rfl;rw [hu2];exact this
 have b2:=Qbg b1 bq;have s2:=b2.size;clear hu2 bq b1 km;go_wp2_with (at_builtin;refine Qau ?_);unfold Qag;refine Qae rfl _ _ 22 rfl w.heap.size 5 i0 Tryz.underlying22 hi hz0 hz1 hz2 (.slice none 0 0) 0 [] rfl (World.ownsRow_nil _ _ _ _) a len cap w.heap.size zs rfl (hr.1.below b2) (by omega) b2.size ?_;intro v1 u3 o3 hg1 hv1;rw [Nat.zero_add,List.nil_append] at o3;have b3:Below w.heap.size w u3:=b2.grown hg1 b2.size (fun b h=>by simp [Value.ownBlock] at h)
 have hrB3:QaL u2.heap.size u3 (.slice (some ⟨w1.heap.size,0,none⟩) 4 4) (QaE V):=hrB.same fun b hb=>hg1.block b (hrB.lt b hb) (by simp [Value.ownBlock])
 clear hg1 hv1 hrB b2;go_wp2_with (at_builtin;refine Qau ?_);unfold Qag;refine Qae rfl _ _ 22 rfl w.heap.size 5 i0 Tryz.underlying22 hi hz0 hz1 hz2 v1 len zs rfl o3 _ 4 4 u2.heap.size (QaE V) rfl hrB3.1 (by omega) b3.size ?_;intro v2 u4 o4 hg2 hv2;have b4:Below w.heap.size w u4:=b3.grown hg2 b3.size (fun b h=>(o3.lt b h).1);clear hg2 hv2 o3 b3 hrB3;go_wp2;go_ret;exact ⟨_,rfl,o4,b4⟩
theorem QnN (zs:List Int) (N:Nat) (hz:∀ z∈zs,0≤z∧z≤255) (h:zs.length=N+4):QcW zs↔zs.take N++QaE (Qe3 (zs.take N))=zs:=by
 have e:zs.length-4=N:=by omega
 have hs:=QfQ (zs.take N) (fun z hz'=>hz z (List.mem_of_mem_take hz'));unfold QcW;rw [e];constructor
 ·rintro ⟨_,h1⟩
  have hw:=Qm0 (zs:=zs.drop N) (by rw [List.length_drop];omega) (fun z h=>hz z (List.mem_of_mem_drop h))
  have h2:QaE (Qe3 (zs.take N))=zs.drop N:=by
   rw [← h1];have h3:=hw.1;rw [← Qko] at h3;refine (QjD _ _ (fun z h=>hz z (List.mem_of_mem_drop h)) (Qb7 _ hw.2) ?_).symm;have h4:=congrArg (List.map UInt8.ofNat) h3;rw [List.map_map,List.map_map] at h4;exact h4
  rw [h2,List.take_append_drop]
 ·intro h1
  refine ⟨by omega,?_⟩
  have h2:zs.drop N=QaE (Qe3 (zs.take N)):=by
   have h3:=congrArg (List.drop N) h1;rw [← h3,List.drop_append_of_le_length (by rw [List.length_take];omega),List.drop_of_length_le (by rw [List.length_take];omega),List.nil_append]
  rw [h2,Qmc _ hs]
theorem QmC (a:Option Addr) (len cap:Nat) (zs:List Int) (w:World) (hr:QaL w.heap.size w (.slice a len cap) zs) (hsm:zs.length≤40000) :
  Calls Tryz.prog 22 #[.slice a len cap] w fun e w'=>Below w.heap.size w w' ∧
   ((QcW zs∧∃ q c,e=.returned (.tuple #[.slice q (len-4) c,.int .i64 0])∧QaL w.heap.size w' (.slice q (len-4) c) (zs.take (len-4)))∨(¬ QcW zs∧e=.returned (.tuple #[.slice none 0 0,.int .i64 230]))):=by
 have e1:=hr.1.open.1;have hcap:=hr.1.cap;by_cases h4:4≤len
 rotate_left
 ·have t1:decide ((len:Int)<4)=true:=by simp;omega
  go_enter Tryz.func22,Tryz.ntmps22;go_wp2;go_ret2;exact ⟨QB _ _,.inr ⟨fun h=>h4 (by have:=h.1;omega),rfl⟩⟩
 have t1:decide ((len:Int)<4)=false:=by simp;omega
 obtain ⟨N,hN⟩:∃ N,N=len-4:=⟨_,rfl⟩;have hO:=QnN zs N hr.2 (by omega);rw [← hN]
 have hn4:(len:Int)-4=(N:Int):=by omega
 obtain ⟨s2,_⟩:=hr.sub 0 N (Nat.zero_le _) (by omega);rw [List.drop_zero] at s2;obtain ⟨_,b,off,hopen,_⟩:=hr.1.open;obtain ⟨rfl,hbl,_,hcm⟩:=hopen (by omega);clear hopen
 have g2:sliced (some ⟨b,off,none⟩) 0 N cap 1=.slice (some ⟨b,off,none⟩) N cap:=by
  unfold sliced;rw [if_neg (by omega)];simp [Addr.add_lit]
 rw [g2] at s2;clear g2
 have hlN:(zs.take N).length=N:=by rw [List.length_take];omega
 have ks:=QiQ (some ⟨b,off,none⟩) N cap (zs.take N) w s2 (by omega);have hzN:∀ z∈zs.take N,0≤z∧z≤255:=s2.2;have hzc:∀ z∈zs.take N++QaE (Qe3 (zs.take N)),0≤z∧z≤255:=Qow hzN (Qb7 _ (QfQ _ hzN))
 have hcl:(zs.take N++QaE (Qe3 (zs.take N))).length=N+4:=by rw [QL,hlN];rfl
 obtain ⟨cs,hcs⟩:∃ cs,cs=zs.take N++QaE (Qe3 (zs.take N)):=⟨_,rfl⟩;rw [← hcs] at ks hO hzc hcl;have HO:=QQ hO;have H2:=QQ s2;have hz:=hr.2
 have hll:len≤40000:=by omega
 have hcc:cap≤9223372036854775807:=by simp only [maxLen] at hcm;omega
 have hNl:N≤len:=by omega
 have hcN:¬ cap=N:=by omega
 have HR:=QQ hr;clear hO s2 hcs hN hlN e1 hcm hr hsm;go_enter Tryz.func22,Tryz.ntmps22;go_wp2_with (go_at_call 66;refine Qau ?_);unfold Qag;refine ks.mono ?_;rintro e w1 ⟨v,rfl,o1,b1⟩;rw [← hcl] at o1;have cv1:=OwnBytes.conv o1;have hr:QaL w.heap.size w (.slice (some ⟨b,off,none⟩) len cap) zs:=HR;have cv2:=Qdz (P:=Tryz.prog) (hr.1.below b1) 22 5 9 Tryz.underlying22 Tryz.underlying5 Tryz.underlying9;clear ks o1 hr hcl;by_cases hq:cs=zs
 ·subst hq
  go_wp2;go_ret2;exact ⟨b1,.inl ⟨(QG HO).2 trivial,_,_,rfl,(QG H2).below b1⟩⟩
 ·have hne:=QpF hzc hz hq
  have HQ:=QQ hq;clear hq;go_wp2;go_ret2;exact ⟨b1,.inr ⟨fun h=>HQ ((QG HO).1 h),rfl⟩⟩
def Qla (B:Im→Option (List Int)):Prop:=∀ (W:World) (x:Mem) (s:Sl5),Qb2 W.heap.size W x s→x.im.Fine →
 Calls Tryz.prog 28 #[.agg (x.cells s).toArray] W fun e W'=>Below W.heap.size W W'∧match B x.im with
  | none=>e=.returned (.tuple #[.slice none 0 0,.int .i64 240])
  | some ys=>(∀ z∈ys,0≤z∧z≤255)∧∃ v,e=.returned (.tuple #[v,.int .i64 0])∧W'.ownsRow W.heap.size 5 1 v ys.length (ys.map (Value.int .u8))
def DdQ (B:Im→Option (List Int)) (W:World) (zs:List Int) (X:Im):Exit→Act→World→Prop:=bodyPost Tryz.prog Tryz.f6 (Qor B W zs X)
theorem QjA {n:Nat} {V:World} {v:Value} {bs:List Int} {D:Nat} (h:QaL n V v bs) (hb:QaO v D) (hD:V.heap[D]?=some (.cells imZ 29)):False:=by
 rcases h.1 with ⟨a,c,rfl,_⟩ | ⟨b,off,c,rfl,_,_,_,hc⟩
 ·cases a <;> simp [QaO] at hb
 ·obtain ⟨hl,rfl⟩:=hb
  have h0:=hc 0 hl;rw [cell_of_row V _ _ _ _ _ hD] at h0;have hm:(Value.int .u8 (bs.getD 0 0))∈imZ.toList:=List.mem_of_getElem? (by rw [Array.getElem?_toList];exact h0);simp [imZ,Mem.cells] at hm
theorem QpM (B:Im→Option (List Int)) (hB:Qla B) (W:World) (a0:Option Addr) (len0 cap0:Nat) (zs:List Int) (hz:QaL W.heap.size W (.slice a0 len0 cap0) zs) (a:Option Addr) (len cap:Nat) (k:Forest) (T:Nat) (x:Mem) (hf:x.im.Fine) :
  Qia (DdQ B W zs x.im) W (.slice a0 len0 cap0) a len cap k T (tl 7 (Tryz.f6.body.getD .skip)) x:=by
 iterate 134 intro
 intro V s h;have hat:=h.at trivial;have kb:=hB V x s hat hf;have HH:=QQ h;have HF:=QQ hf;have HZ:=QQ hz;have eT:=h.eT;obtain ⟨I,hI⟩:∃ I,I=(x.cells s).toArray:=⟨_,rfl⟩
 have hl5:(Tryz.prog.info? 29).map (·.size)=some I.size:=by rw [hI];exact QbT
 rw [← hI] at kb eT;have HI:=QQ hI;clear h hf hz hI hat
 conv=>arg 2;whnf
 refine wp_seq_k (fun K aK=>?_);have AK:=QQ aK;clear aK
 go_wp2_with first
  | (refine Qai (by rfl) 29 (.tmp 8) rfl T 0 rfl I I _ eT (by rw [List.drop_zero,List.take_of_length_le (by simp)]) _ Tryz.underlying29 rfl hl5 ?_)
  | (go_at_call 28;refine Qau ?_)
 unfold Qag;refine kb.mono ?_;rintro e w6 ⟨b6,hw6⟩;have h:=(QG HH);have hT:=h.hT;have lT:=h.lT;have eR:w6.heap[W.heap.size]?=some (.cells imZ 29):=(b6.block _ (by omega)).trans h.eR;have bW6:Below W.heap.size W w6:=h.below.trans (b6.mono (by omega));have h6:=h.grow b6;have H6:=QQ h6
 replace eT:w6.heap[T]?=some (.cells I 29):=by rw [show I=_ from HI];exact h6.eT
 clear h h6;have HW:=QQ bW6
 cases hB:B x.im with
 | none =>
  rw [hB] at hw6;subst hw6;have HC:=QQ (show B x.im≠some zs by rw [hB];exact fun h=>by cases h);clear hB kb eT bW6 b6;dsimp only;go_wp2;refine (QG AK) _ _ ?_;go_wp2_with ((fail_if_success (unfold Qag));refine Qan (t:=29) rfl ?_);unfold Qag;refine Qab rfl 29 (.tmp 2) (.tmp 137) rfl W.heap.size imZ rfl rfl 29 imZ eR QbT rfl QfJ ?_;obtain ⟨V6,hV6⟩:∃ V6,V6=w6.setRow W.heap.size imZ:=⟨_,rfl⟩
  have e6:V6.heap[W.heap.size]?=some (.cells imZ 29):=by rw [hV6];exact setRow_heap _ _ _ _ _ _ eR
  have b6w:Below W.heap.size W V6:=by rw [hV6];exact Qaj (QG HW) (QN _) _
  rw [← hV6];clear hV6 eR;go_wp2;refine bodyPost_ret (QaT rfl _ _ _ W.heap.size 29 imZ (0,0) _ rfl e6 Tryz.underlying29 QbT) rfl ?_;exact ⟨Mem.none,Sl5.none,_,rfl,b6w,Qb2.nil _ _,.inr ⟨HC,rfl,rfl,rfl⟩⟩
 | some ys =>
  rw [hB] at hw6;obtain ⟨hyb,v,rfl,o6⟩:=hw6;obtain ⟨a6,c6,rfl,_⟩:=Qaa o6
  have r6:QaL w6.heap.size w6 (.slice a6 ys.length c6) ys:=QbM o6 hyb _ _ fun b hb=>⟨rfl,(o6.lt b hb).2⟩
  have rb:QaL W.heap.size w6 (.slice a0 len0 cap0) zs:=(QG HZ).below bW6;have v1':=Qdz (P:=Tryz.prog) r6.1 22 5 9 Tryz.underlying22 Tryz.underlying5 Tryz.underlying9;have v2':=Qdz (P:=Tryz.prog) rb.1 22 5 9 Tryz.underlying22 Tryz.underlying5 Tryz.underlying9;have hzb:=(QG HZ).2;obtain ⟨yl,hyl⟩:∃ yl,yl=ys.length:=⟨_,rfl⟩;rw [← hyl] at v1' ⊢;dsimp only;by_cases hyz:ys=zs
  ·subst hyz
   have HC:=QQ hB;clear hB kb r6 rb o6 hyl hyb hzb bW6 b6;obtain ⟨st,hst⟩:∃ st,st=strOfNums ys:=⟨_,rfl⟩;rw [← hst] at v1' v2';clear hst;go_wp2;refine (QG AK) _ _ ?_
   go_wp2_with first
    | (refine Qai (by rfl) 29 (.tmp 8) rfl T 0 rfl I I _ eT (by rw [List.drop_zero,List.take_of_length_le (by simp)]) _ Tryz.underlying29 rfl hl5 ?_)
    | ((fail_if_success (unfold Qag));refine Qan (t:=29) rfl ?_)
   unfold Qag;refine Qab rfl 29 (.tmp 2) (.tmp 138) rfl W.heap.size I rfl rfl 29 imZ eR hl5 (by rw [show I=_ from HI];rfl) (by rw [show I=_ from HI];exact Qf x s) ?_;obtain ⟨V6,hV6⟩:∃ V6,V6=w6.setRow W.heap.size I:=⟨_,rfl⟩
   have e6:V6.heap[W.heap.size]?=some (.cells I 29):=by rw [hV6];exact setRow_heap _ _ _ _ _ _ eR
   have HV:=QQ hV6;rw [← hV6];clear hV6 eR v1' v2' eT;go_wp2;refine bodyPost_ret (QaT rfl _ _ _ W.heap.size 29 I (0,0) _ rfl e6 Tryz.underlying29 hl5) rfl ?_;have hV6:=(QG HV);have h6:=(QG H6);refine ⟨x,s,_,by rw [show I=_ from HI];rfl,by rw [hV6];exact Qaj (QG HW) (QN _) _,?_,.inl ⟨HC,rfl,rfl⟩⟩;have h7:Qbk W a len cap k T x w6 s:=h6
   have hm:Qb4 (T+1) V6 x s:=h6.own.keep (QN _) fun b hb=>by rw [hV6];exact setRow_other _ _ _ _ (by have:=(h6.own.lt b hb).1;omega)
   have hsz:V6.heap.size=w6.heap.size:=by rw [hV6,size_setRow]
   have lT6:=h6.lT;refine ⟨Qbn hm.P,Qbn hm.O,Qbn hm.B,Qbn hm.F,Qbn hm.K,fun q hq=>Qbn (hm.each q hq).1.1,fun q hq=>Qbn (hm.each q hq).1.2.1,fun q hq=>?_⟩;refine (QaL.same (h6.pipe q hq) fun b hb=>?_).mono (by omega);by_cases hbW:b=W.heap.size
   ·exfalso
    subst hbW;exact QjA (h6.pipe q hq) hb h6.eR
   ·rw [hV6];exact setRow_other _ _ _ _ hbW
  ·have HC:=QQ (show B x.im≠some zs by rw [hB];exact fun h=>hyz (by injection h))
   have hne:((strOfNums ys).toList == (strOfNums zs).toList)=false:=by
    rw [beq_eq_false_iff_ne]
    exact fun e=>hyz (Qfp hyb hzb (by rw [ByteArray.toList_eq,ByteArray.toList_eq] at e;exact e))
   obtain ⟨s1,hs1⟩:∃ st,st=strOfNums ys:=⟨_,rfl⟩;obtain ⟨s2,hs2⟩:∃ st,st=strOfNums zs:=⟨_,rfl⟩;rw [← hs1] at v1' hne;rw [← hs2] at v2' hne;clear hB kb r6 rb o6 hyl hyb hzb hyz eT hs1 hs2 bW6 b6;go_wp2;refine (QG AK) _ _ ?_;go_wp2_with ((fail_if_success (unfold Qag));refine Qan (t:=29) rfl ?_);unfold Qag;refine Qab rfl 29 (.tmp 2) (.tmp 137) rfl W.heap.size imZ rfl rfl 29 imZ eR QbT rfl QfJ ?_;obtain ⟨V6,hV6⟩:∃ V6,V6=w6.setRow W.heap.size imZ:=⟨_,rfl⟩
   have e6:V6.heap[W.heap.size]?=some (.cells imZ 29):=by rw [hV6];exact setRow_heap _ _ _ _ _ _ eR
   have b6w:Below W.heap.size W V6:=by rw [hV6];exact Qaj (QG HW) (QN _) _
   rw [← hV6];clear hV6 eR;go_wp2;refine bodyPost_ret (QaT rfl _ _ _ W.heap.size 29 imZ (0,0) _ rfl e6 Tryz.underlying29 QbT) rfl ?_;exact ⟨Mem.none,Sl5.none,_,rfl,b6w,Qb2.nil _ _,.inr ⟨HC,rfl,rfl,rfl⟩⟩
theorem Qe8 {P:Program} {fn:Func} {R R':Ending→World→Prop} (h:∀ e w,R e w→R' e w):∀ e a w,bodyPost P fn R e a w→bodyPost P fn R' e a w:=by
 intro e a w hq
 cases e <;> simp only [bodyPost] at hq ⊢
 all_goals first
  | exact hq
  | exact h _ _ hq
  | exact ⟨hq.1,h _ _ hq.2⟩
  | (obtain ⟨h1,v,h2,h3⟩:=hq;exact ⟨h1,v,h2,h _ _ h3⟩)
theorem QeU {n:Nat} {W:World} {a:Option Addr} {len cap:Nat} {k:Forest} (h:SlF n W a len cap k) (tag:Int):(Qao (Qah k tag 0)).length≤k.cnt∧∀ z∈Qao (Qah k tag 0),0≤z∧z≤255:=by
 obtain ⟨fs,F1,_,_⟩:=h.fes;exact ⟨QfC F1,Qc6 F1 tag⟩
theorem QkD {n:Nat} {W:World} {a:Option Addr} {len cap:Nat} {k:Forest} (h:SlF n W a len cap k) (hc:k.cnt≤20000):(Qb8 k).Fine:=by
 have hf:=(QeU h 17).1;have hp:=(QeU h 18).1;refine ⟨QjS h,?_,?_,?_,?_⟩
 ·unfold Qb8;split
  ·show 0≤Qcy k 10 % 4294967296∧Qcy k 10 % 4294967296<4294967296;omega
  ·show (0:Int)≤0∧(0:Int)<4294967296;decide
 ·unfold Qb8;split
  ·show (0:Int)≤0∧(0:Int)<4294967296;decide
  ·show 0≤Qcy k 16 % 4294967296∧Qcy k 16 % 4294967296<4294967296;omega
 ·unfold Qb8;split
  ·show ([]:List Int).length≤20000;decide
  ·show ((Qao (Qah k 17 0)).map QbJ).length≤20000;rw [QM];omega
 ·unfold Qb8;split
  ·show ([]:List Pg).length≤20000;decide
  ·show (pgD (Qao (Qah k 18 0))).length≤20000;unfold pgD;rw [QM,List.length_range];omega
theorem QkB {n:Nat} {W:World} {a:Option Addr} {len cap:Nat} {f:Forest} (h:SlF n W a len cap f) (hc:f.cnt≤20000):(Qa4 f).Fine:=by
 obtain ⟨fs,F1,_,_⟩:=h.fes
 have hl:=fun tag=>Nat.le_trans (Qcu (tag:=tag) f) hc
 refine ⟨?_,?_,?_,?_⟩
 ·intro p hp
  obtain ⟨e,he,rfl⟩:=List.mem_map.1 hp;obtain ⟨_,_,_,_,_,h4⟩:=QeY F1 he;exact QkD h4 (Nat.le_trans (Qdd he) hc)
 ·intro p hp
  obtain ⟨e,he,rfl⟩:=List.mem_map.1 hp;obtain ⟨h1,h2,_⟩:=QeY F1 he;exact ⟨by omega,h2⟩
 ·intro p hp
  obtain ⟨e,he,rfl⟩:=List.mem_map.1 hp;obtain ⟨_,_,_,_,_,h4⟩:=QeY F1 he;have h5:=QeU h4 3;exact ⟨Nat.le_trans h5.1 (Nat.le_trans (Qdd he) hc),h5.2⟩
 ·simp only [Qa4,QM]
  exact ⟨hl 132,hl 2,hl 131,hl 6,hl 19⟩
def QlM (B:Im→Option (List Int)) (zs:List Int) (e:Ending) (W W':World):Prop :=
 ∃ (y:Mem) (s:Sl5) (E:Int),e=.returned (.tuple #[.agg (y.cells s).toArray,.int .i64 E])∧Below W.heap.size W W'∧Qb2 W'.heap.size W' y s ∧
  ((∃ f,QcW zs∧Qa9 1 (zs.take (zs.length-4))=some f∧B (Qa4 f)=some zs∧E=0∧y.im=Qa4 f) ∨
   (∃ f,QcW zs∧Qa9 1 (zs.take (zs.length-4))=some f∧B (Qa4 f)≠some zs∧E=240∧y=Mem.none∧s=Sl5.none) ∨
   (QcW zs∧Qa9 1 (zs.take (zs.length-4))=none∧E=220∧y=Mem.none∧s=Sl5.none)∨(¬ QcW zs∧E=230∧y=Mem.none∧s=Sl5.none))
theorem QlO (B:Im→Option (List Int)) (hB:Qla B) (W:World) (a0:Option Addr) (len0 cap0:Nat) (zs:List Int) (hz:QaL W.heap.size W (.slice a0 len0 cap0) zs) (hsm:zs.length≤20000) :
  Calls Tryz.prog 6 #[.slice a0 len0 cap0] W fun e W'=>QlM B zs e W W':=by
 have hl:=hz.1.open.1
 have ko:=fun (V:World) (hV:Below W.heap.size W V)=>QmC a0 len0 cap0 zs V ((hz.below hV).mono hV.size) (by omega)
 have HZ:=QQ hz;have HKO:=QQ ko;have HL:=QQ hl;clear ko hl hz;go_enter Tryz.func6,Tryz.ntmps6;refine wp_seq_k (fun K aK=>?_);have AK:=QQ aK;clear aK;go_wp2;refine (QG AK) _ _ ?_;clear AK K;obtain ⟨V,hV⟩:∃ V,V=W.alloc (.cells imZ 29):=⟨_,rfl⟩
 have bV:Below W.heap.size W V:=by rw [hV];exact (QB _ _).alloc (QN _) _
 have eR:V.heap[W.heap.size]?=some (.cells imZ 29):=by rw [hV];exact QW _ _
 have sV:W.heap.size<V.heap.size:=(QI.1 eR).1;rw [show W.alloc (.cells #[.slice none 0 0,.slice none 0 0,.slice none 0 0,.slice none 0 0,.slice none 0 0] 29)=V from hV.symm];clear hV;refine wp_seq_k (fun K aK=>?_);have AK:=QQ aK;clear aK;go_wp2_with (go_at_call 22;refine Qau ?_);unfold Qag;refine ((QG HKO) V bV).mono ?_;rintro e w6 ⟨b1,(⟨ho,q,c,rfl,r1⟩ | ⟨ho,rfl⟩)⟩
 rotate_left
 ·replace eR:=(b1.block _ sV).trans eR
  have HW:=QQ (bV.trans (b1.mono bV.size));have HO:=QQ ho;clear b1 bV ho sV;dsimp only;go_wp2;refine (QG AK) _ _ ?_;go_wp2_with ((fail_if_success (unfold Qag));refine Qan (t:=29) rfl ?_);unfold Qag;refine Qab rfl 29 (.tmp 2) (.tmp 23) rfl W.heap.size imZ rfl rfl 29 imZ eR QbT rfl QfJ ?_;obtain ⟨V6,hV6⟩:∃ V6,V6=w6.setRow W.heap.size imZ:=⟨_,rfl⟩
  have e6:V6.heap[W.heap.size]?=some (.cells imZ 29):=by rw [hV6];exact setRow_heap _ _ _ _ _ _ eR
  have b6w:Below W.heap.size W V6:=by rw [hV6];exact Qaj (QG HW) (QN _) _
  rw [← hV6];clear hV6 eR;go_wp2;refine bodyPost_ret (QaT rfl _ _ _ W.heap.size 29 imZ (0,0) _ rfl e6 Tryz.underlying29 QbT) rfl ?_;exact ⟨Mem.none,Sl5.none,_,rfl,b6w,Qb2.nil _ _,.inr (.inr (.inr ⟨HO,rfl,rfl,rfl⟩))⟩
 ·replace eR:=(b1.block _ sV).trans eR
  have bW1:=bV.trans (b1.mono bV.size)
  have sV6:W.heap.size<w6.heap.size:=by have:=b1.size;omega
  obtain ⟨ys,hys⟩:∃ ys,ys=zs.take (len0-4):=⟨_,rfl⟩;rw [← hys] at r1
  have hylen:ys.length≤20000:=by rw [hys,List.length_take];omega
  have r2:QaL w6.heap.size w6 (.slice q (len0-4) c) ys:=r1.mono (by have:=b1.size;omega);have kt:=Qmu ys w6 q (len0-4) c r2 (by omega);have HYS:=QQ (QA hys ho);have HBY:=QQ r2.2;clear b1 bV ho sV hys r1 r2;dsimp only;go_wp2;refine (QG AK) _ _ ?_;clear AK K;refine wp_seq_k (fun K aK=>?_);have AK:=QQ aK;clear aK;go_wp2;refine (QG AK) _ _ ?_;clear AK K;refine wp_seq_k (fun K aK=>?_);have AK:=QQ aK;clear aK;go_wp2_with (go_at_call 23;refine Qau ?_);unfold Qag;refine kt.mono ?_;rintro e' w2 ⟨b2,ra,rl,rc,E,rfl,(⟨hn,rfl,rfl,rfl,rfl⟩ | ⟨f,hn,rfl,hS⟩)⟩
  ·replace eR:=(b2.block _ sV6).trans eR
   have HW:=QQ (bW1.trans (b2.mono bW1.size));have HN:=QQ hn;clear b2 bW1 kt hn;obtain ⟨w6,hw6⟩:∃ w6,w6=w2:=⟨_,rfl⟩;subst hw6;dsimp only;go_wp2;refine (QG AK) _ _ ?_;go_wp2_with ((fail_if_success (unfold Qag));refine Qan (t:=29) rfl ?_);unfold Qag;refine Qab rfl 29 (.tmp 2) (.tmp 31) rfl W.heap.size imZ rfl rfl 29 imZ eR QbT rfl QfJ ?_;obtain ⟨V6,hV6⟩:∃ V6,V6=w6.setRow W.heap.size imZ:=⟨_,rfl⟩
   have e6:V6.heap[W.heap.size]?=some (.cells imZ 29):=by rw [hV6];exact setRow_heap _ _ _ _ _ _ eR
   have b6w:Below W.heap.size W V6:=by rw [hV6];exact Qaj (QG HW) (QN _) _
   rw [← hV6];clear hV6 eR;go_wp2;refine bodyPost_ret (QaT rfl _ _ _ W.heap.size 29 imZ (0,0) _ rfl e6 Tryz.underlying29 QbT) rfl ?_;obtain ⟨hys,ho⟩:=(QG HYS);exact ⟨Mem.none,Sl5.none,_,rfl,b6w,Qb2.nil _ _,.inr (.inr (.inl ⟨ho,by rw [show zs.length=len0 from HL,← hys];exact HN,rfl,rfl,rfl⟩))⟩
  ·replace eR:=(b2.block _ sV6).trans eR
   have bW2:=bW1.trans (b2.mono bW1.size)
   have s2:W.heap.size<w2.heap.size:=by have:=b2.size;omega
   have hcf:f.cnt≤20000:=Nat.le_trans (Qet ys.length 1 ys f (QN _) hn) hylen;have HN:=QQ hn;have HS:=QQ hS;clear b2 bW1 kt hn hS;dsimp only;go_wp2;refine (QG AK) _ _ ?_;clear AK K;refine wp_seq_k (fun K aK=>?_);have AK:=QQ aK;clear aK;go_wp2;refine (QG AK) _ _ ?_;clear AK K;refine wp_seq_k (fun K aK=>?_);have AK:=QQ aK;clear aK;go_wp2;refine (QG AK) _ _ ?_;clear AK K;obtain ⟨X1,hX1⟩:∃ X1,X1=w2.alloc (.cells imZ 29):=⟨_,rfl⟩
   have bX:Below w2.heap.size w2 X1:=by rw [hX1];exact (QB _ _).alloc (QN _) _
   have eX:X1.heap[w2.heap.size]?=some (.cells imZ 29):=by rw [hX1];exact QW _ _
   have hS:=(QG HS);have inv:Qbk W ra rl rc f w2.heap.size Mem.none X1 Sl5.none:=⟨hS.below bX,hcf,bW2.trans (bX.mono bW2.size),(bX.block _ s2).trans eR,eX,s2,Qb4.nil _ _,fun q hq=>by cases hq⟩;obtain ⟨hys,ho⟩:=(QG HYS);have hfine:=QkB hS hcf
   have hseg:Qia (DdQ B W zs (Qa4 f)) W (.slice a0 len0 cap0) ra rl rc f w2.heap.size (tl 6 (Tryz.f6.body.getD .skip)) Mem.none :=
    Qqp _ W _ ra rl rc f w2.heap.size fun x hx=>by rw [← hx];exact QpM B hB W a0 len0 cap0 zs HZ ra rl rc f w2.heap.size x (by rw [hx];exact hfine)
   have hS2:=(QG HN);refine Code.wp_mono (Q:=DdQ B W zs (Qa4 f)) (Qe8 fun e W' hI=>?_) (hseg _ _ _ _ _ _ _ _ _ _ _ _ _ _ _ _ _ _ _ _ _ _ _ _ _ _ _ _ _ _ _ _ _ _ _ _ _ _ _ _ _ _ _ _ _ _ _ _ _ _ _ _ _ _ _ _ _ _ _ _ _ _ _ _ _ _ _ _ _ _ _ _ _ _ _ _ _ _ _ _ _ _ _ _ _ _ _ _ _ _ _ _ _ _ _ _ _ _ _ _ _ _ _ _ _ _ _ _ _ _ _ _ _ _ _ _ _ _ _ _ _ _ _ _ _ _ _ _ _ _ _ _ _ _ (w2.alloc (.cells imZ 29)) Sl5.none (hX1▸inv));obtain ⟨y,s,E,rfl,b,h,(⟨h1,h2,h3⟩ | ⟨h1,h2,h3,h4⟩)⟩:=hI
   ·exact ⟨y,s,E,rfl,b,h,.inl ⟨f,ho,by rw [show zs.length=len0 from HL,← hys];exact hS2,h1,h2,h3⟩⟩
   ·exact ⟨y,s,E,rfl,b,h,.inr (.inl ⟨f,ho,by rw [show zs.length=len0 from HL,← hys];exact hS2,h1,h2,h3,h4⟩)⟩
theorem Qqh (p:Pr) (h:¬ p.state=2):(Qbl p).sel 18=[(pgB p.pages,.nil)]:=by
 unfold Qbl Qff QkR;rw [if_neg h];simp [Forest.app,Forest.sel]
theorem QkO (p:Pr) (hf:p.Fine) (h:Qbj p=true):Qbu (Qbl p)=p:=by
 obtain ⟨n1,n2⟩:=Qmt h;obtain ⟨f7,f8,f9⟩:=Qiu p
 have v7:QcF (Qah (Qbl p) 7 0)=p.pid:=by rw [f7];exact Qc3 _ n1 _
 have v8:QcF (Qah (Qbl p) 8 0)=p.parent:=by rw [f8];exact Qc3 _ n2 _
 by_cases hs:p.state=2
 ·have v9:QcF (Qah (Qbl p) 9 0)=2:=by rw [f9,hs];exact Qc3 2 (by decide) _
  have v10:QcF (Qah (Qbl p) 10 0)=p.status:=by rw [Qit p hs];exact Qc3 _ hf.status _
  unfold Qbu;rw [if_pos v9,v7,v8,v10];have:=hf.status;rw [show p.status % 4294967296=p.status by omega];exact (Qmr h hs).symm
 ·obtain ⟨⟨h1,h2⟩,h3,h4,h5,h6⟩:=Qms h hs
  obtain ⟨g10,g11,g12,g13,g14,g15,g16,g17,g18⟩:=Qiv p hs
  have v9:QcF (Qah (Qbl p) 9 0)=p.state:=by rw [f9];exact Qc3 _ (by omega) _
  have v10:QcF (Qah (Qbl p) 10 0)=0:=by rw [g10];rfl
  have v14:QcF (Qah (Qbl p) 14 0)=p.wait:=by rw [g14];exact Qc3 _ h3 _
  have v15:QcF (Qah (Qbl p) 15 0)=p.pipe:=by rw [g15];exact Qc3 _ h4 _
  have v16:QcF (Qah (Qbl p) 16 0)=p.left:=by rw [g16];exact Qc3 _ hf.left _
  have vp:QeR (Qbl p)=p.pages:=by
   unfold QeR;rw [Qqh p hs,List.flatMap_cons,List.flatMap_nil,List.append_nil];exact Qn8 _ h6
  unfold Qbu;rw [if_neg (by rw [v9];exact hs),v7,v8,v9,v10,v14,v15,v16,vp,g11,g12,g13,g17];have:=hf.left;rw [show p.left % 4294967296=p.left by omega];simp only [Qao];rw [Qkh _ hf.ok.1,Qkh _ hf.ok.2.1,Qn9 _ hf.ok.2.2,Qog _ h5,show (0:Int) % 4294967296=p.status by rw [h2];rfl]
theorem QlH (X:Im) (hf:X.Fine) (h:Qcb X=true):QcV (Qb1 X)=X:=by
 obtain ⟨_,h6,h7,h8,h9,h10⟩:=Qc7 h;obtain ⟨s1,s2,s3,s4,s5⟩:=QmG X;obtain ⟨procs,objs,pipes,files,waits⟩:=X;unfold QcV;rw [s1,s2,s3,s4,s5];simp only [List.map_map]
 have i1:List.map ((fun e:List Int × Forest=>Qbu e.2) ∘ fun p=>([],Qbl p)) procs=procs:=by
  refine QbL procs fun p hp=>?_
  have:=QkO p (hf.procs p hp) (h6 p hp);simpa only [Function.comp] using this
 have i2:List.map ((fun e:List Int × Forest=>e.1) ∘ fun o=>(o,Forest.nil)) objs=objs:=QbL objs fun o _=>rfl
 rw [i1,i2];clear i1 i2
 congr 1
 ·refine QbL pipes fun p hp=>?_
  have hb:=h8 p hp;unfold QbK at hb;simp only [Bool.and_eq_true,decide_eq_true_eq] at hb
  have e3:Qah (QeN p) 3 0=some (p.bytes,.nil):=by simp [QeN,Qah]
  have e4:Qah (QeN p) 4 0=some (Qa7 p.rd.toNat,.nil):=by simp [QeN,Qah]
  have e5:Qah (QeN p) 5 0=some (Qa7 p.wr.toNat,.nil):=by simp [QeN,Qah]
  show QgV (QeN p)=p;unfold QgV;rw [e3,e4,e5];simp only [Qao];rw [Qc3 _ (by omega),Qc3 _ (by omega)]
 ·refine QbL files fun f hff=>?_
  have hb:=h9 f hff;unfold Qce at hb;simp only [decide_eq_true_eq] at hb;obtain ⟨z,b⟩:=f;show Qa3 (Qa7 (2*z+Qb6 b).toNat)=(z,b);unfold Qa3;have:=QdL b;rw [Qke _ (by simp only at hb;omega),(QjU z b).1,(QjU z b).2]
 ·refine QbL waits fun w hw=>?_
  have hb:=h10 w hw;unfold QbU at hb;rw [Qdp] at hb;simp only [Bool.and_eq_true,decide_eq_true_eq] at hb;unfold Qcf at hb;obtain ⟨pid,kp,kf,ko⟩:=w;simp only at hb;show Qgn (Qbd (wsB [pid,kp,kf,ko]))=_
  rw [Qkj _ (fun z hz=>by
   simp only [List.mem_cons,List.not_mem_nil,or_false] at hz
   rcases hz with rfl | rfl | rfl | rfl <;> omega)]
  rfl
theorem QjY {X:Im} (hf:X.Fine) {zs:List Int} (h:imB X=some zs):Qcb X=true∧Qa9 1 (zs.take (zs.length-4))=some (Qb1 X):=by
 unfold imB at h;by_cases hm:Qcb X=true
 ·rw [if_pos hm] at h
  injection h with h
  refine ⟨hm,?_⟩;rw [← h,QL,show (QaE (Qe3 (QeI (Qb1 X)))).length=4 from rfl,Nat.add_sub_cancel,List.take_left];exact (QhU X hf hm).2.2
 ·rw [if_neg hm] at h
  cases h
theorem Qjx {f:Forest} {zs:List Int} (h1:(QcV f).Fine) (h2:(Qa4 f).Fine) (hr:Qa9 1 (zs.take (zs.length-4))=some f):(imB (QcV f)=some zs↔imB (Qa4 f)=some zs)∧(imB (QcV f)=some zs→QcV f=Qa4 f):=by
 have a:imB (QcV f)=some zs→Qa4 f=QcV f:=fun h=>by
  obtain ⟨hm,hr2⟩:=QjY h1 h;rw [hr] at hr2
  injection hr2 with e
  have:=QlL (QcV f) h1 hm;rw [← e] at this;exact this
 have b:imB (Qa4 f)=some zs→QcV f=Qa4 f:=fun h=>by
  obtain ⟨hm,hr2⟩:=QjY h2 h;rw [hr] at hr2
  injection hr2 with e
  have:=QlH (Qa4 f) h2 hm;rw [← e] at this;exact this
 exact ⟨⟨fun h=>by rw [a h];exact h,fun h=>by rw [b h];exact h⟩,fun h=>(a h).symm⟩
theorem Qlq (x:Int) (h:0≤x∧x<4294967296):QaE x.toNat=w4 x:=by
 show [_,_,_,_]=[_,_,_,_];simp only [List.cons.injEq,and_true];omega
theorem Qcx {x:Int} (h:0≤x∧x<9223372036854775808):IntKind.u64.wrap x=x:=by
 obtain ⟨n,rfl⟩:∃ n:Nat,x=(n:Int):=⟨x.toNat,(Int.toNat_of_nonneg h.1).symm⟩;exact Qby n (by omega)
theorem QcM (x:Int) (h:0≤x∧x<4294967296) (W:World) :
  Calls Tryz.prog 73 #[.int .u64 x,.int .i64 4] W fun e W'=>∃ v,e=.returned v∧W'.ownsRow W.heap.size 5 1 v 4 ((w4 x).map (Value.int .u8))∧Below W.heap.size W W':=by
 have k:=QgN x.toNat W (by omega);rw [Qlq x h,Int.toNat_of_nonneg h.1] at k;exact k
theorem QdX (t:Int) (ht:0≤t∧t≤255) (x:Int) (h:0≤x∧x<9223372036854775808) (W:World) :
  Calls Tryz.prog 70 #[.int .i64 t,.int .u64 x] W fun e W'=>∃ v,e=.returned v∧W'.ownsRow W.heap.size 5 1 v 13 ((Qa5 t (Qa7 x.toNat)).map (Value.int .u8))∧Below W.heap.size W W':=by
 have k:=Qlv t ht x.toNat W (by omega);rw [Int.toNat_of_nonneg h.1] at k;exact k
theorem Qcv (x:Int):∀ z∈w4 x,0≤z∧z≤255:=by
 intro z hz;simp only [w4,List.mem_cons,List.not_mem_nil,or_false] at hz
 rcases hz with rfl | rfl | rfl | rfl <;> omega
theorem QaW (t:Int) (v:List Int) (hv:∀ z∈v,0≤z∧z≤255) (hl:v.length<4294967296):∀ z∈Qa5 t v,0≤z∧z≤255:=by
 intro z hz;unfold Qa5 at hz
 rcases List.mem_append.1 hz with h | h
 ·rw [List.mem_singleton.1 h];omega
 ·rcases List.mem_append.1 h with h | h
  ·exact Qb7 _ hl z h
  ·exact hv z h
theorem QaX (t:Int) (v:List Int):(Qa5 t v).length=v.length+5:=by simp [Qa5,QaE]
theorem Qkl (l:List Int) (x:Int):wsB (l++[x])=wsB l++w4 x:=by unfold wsB;rw [List.flatMap_append];simp
theorem Qav {W:World} {base:Nat} {a:Option Addr} {n c:Nat} {bs:List Int} (h:W.ownsRow base 5 1 (.slice a n c) n (bs.map (Value.int .u8))) (hb:∀ z∈bs,0≤z∧z≤255):Qdb .u8 W.heap.size W (.slice a n c) bs:=(QbM h hb _ _ fun b hb=>⟨rfl,(h.lt b hb).2⟩).1
theorem QmZ (c:Cp) (h:c.Ok) (k:Nat) (hk:k<8):c.vals[k]?=some (.int .u32 (c.r.getD k 0)):=by
 unfold Cp.vals;rw [List.getElem?_append_left (by rw [QM,h.1];exact hk),List.getElem?_map,List.getElem?_eq_getElem (by rw [h.1];exact hk)];simp [List.getD,List.getElem?_eq_getElem (show k<c.r.length by rw [h.1];exact hk)]
theorem Qn6 (c:Cp) (h:c.Ok):c.vals[8]?=some (.complex .f64 (fl c.za) (fl c.zb))∧c.vals[9]?=some (.complex .f64 (fl c.zc) (fl c.zd))∧c.vals[10]?=some (.int .u32 c.pc):=by
 have e:(c.r.map (Value.int .u32)).length=8:=by rw [QM,h.1]
 unfold Cp.vals
 refine ⟨?_,?_,?_⟩ <;> (rw [List.getElem?_append_right (by omega),e];rfl)
def Qje (c:Cp) (k:Nat):List Int:=c.r++(if 0<k then [c.za % 4294967296,c.zb % 4294967296] else [])++(if 1<k then [c.zc % 4294967296,c.zd % 4294967296] else [])
theorem Qil (c:Cp) (h:c.Ok) (W:World) :
  Calls Tryz.prog 102 #[.agg c.vals.toArray] W fun e W'=>∃ v,e=.returned v∧W'.ownsRow (W.heap.size+1) 5 1 v 52 ((cpB c).map (Value.int .u8))∧Below W.heap.size W W':=by
 obtain ⟨i0,hi,hz0,hz1,hz2⟩:=info_parts QbB;have hr:=QmZ c h;have hn:=Qn6 c h;obtain ⟨l8,hrb,hza,hzb,hzc,hzd,hpc⟩:=h;obtain ⟨X,hX⟩:∃ X,X=c.vals.toArray:=⟨_,rfl⟩;have HX:=QQ hX;rw [← hX];clear hX;go_enter Tryz.func102,Tryz.ntmps102;go_wp2;obtain ⟨V,hV⟩:∃ V,V=W.alloc (.cells X 45):=⟨_,rfl⟩
 have eB:V.heap[W.heap.size]?=some (.cells X 45):=by rw [hV];exact QW _ _
 have bV:Below W.heap.size W V:=by rw [hV];exact (QB _ _).alloc (QN _) _
 rw [← hV];clear hV;go_loopw [3,4] (fun v i wr=>∃ (k:Nat),k≤8∧i=.int .i64 (k:Int)∧wr.ownsRow (W.heap.size+1) 5 1 v (k*4) ((wsB (c.r.take k)).map (Value.int .u8))∧wr.heap[W.heap.size]?=some (.cells X 45)∧Below W.heap.size W wr) (fun _ i _=>8-(intOf i).toNat)
 case atStart=>exact ⟨0,by decide,rfl,World.ownsRow_nil _ _ _ _,eB,bV⟩
 case round =>
  clear eB bV;obtain ⟨k,hk,rfl,own,eB,hb⟩:=hrel;have lB:W.heap.size<wr.heap.size:=(QI.1 eB).1;by_cases hlt:k<8
  ·have t1:decide ((k:Int)<8)=true:=by simp;omega
   have hk2:k<c.r.length:=by rw [l8];exact hlt
   have q1:wr.cell? ⟨W.heap.size,k,none⟩=some (.int .u32 (c.r.getD k 0)):=by rw [cell_of_row wr _ k _ _ _ eB,show X=_ from HX,List.getElem?_toArray];exact hr k hlt
   have hx:0≤c.r.getD k 0∧c.r.getD k 0<4294967296:=by rw [Qba _ _ hk2];exact hrb _ (List.getElem_mem hk2)
   have hcat:wsB (c.r.take (k+1))=wsB (c.r.take k)++w4 (c.r.getD k 0):=by rw [List.take_succ_eq_append_getElem hk2,Qkl,Qba _ _ hk2]
   obtain ⟨x,hxx⟩:∃ x,x=c.r.getD k 0:=⟨_,rfl⟩;rw [← hxx] at q1 hx hcat;have wx:IntKind.u64.wrap x=x:=Qcx ⟨hx.1,by omega⟩;have kl:=QcM x hx wr;have HC:=QQ hcat;have HO:=QQ (QA own (QA eB hb));clear hxx hcat own eB hb;go_wp2_with (go_at_call 73;refine Qau ?_);unfold Qag;refine kl.mono ?_;rintro e w1 ⟨v1,rfl,o1,b1⟩;obtain ⟨a1,c1,rfl,_⟩:=Qaa o1;have r1:=Qav o1 (Qcv x);obtain ⟨own,eB,hb⟩:=(QG HO)
   have own1:=Qac (B:=w1) own fun y hy=>b1.block y (own.lt y hy).2
   have eB1:=(b1.block _ lB).trans eB;have hb1:=hb.trans (b1.mono hb.size);have s1:=b1.size;clear kl o1 b1 own eB hb q1 HO;go_wp2_with (at_builtin;refine Qau ?_);unfold Qag;refine Qae rfl _ _ 22 rfl (W.heap.size+1) 5 i0 Tryz.underlying22 hi hz0 hz1 hz2 _ (k*4) (wsB (c.r.take k)) rfl own1 _ 4 c1 w1.heap.size (w4 x) rfl r1 (by omega) (by omega) ?_;intro v2 w2 o2 g2 _;have b2:Below W.heap.size W w2:=hb1.grown g2 (by omega) (fun b h=>by have:=(own1.lt b h).1;omega);have eB2:w2.heap[W.heap.size]?=some (.cells X 45):=(g2.block _ (by omega) (fun e=>by have:=(own1.lt _ e.symm).1;omega)).trans eB1;rw [← (QG HC),show k*4+4=(k+1)*4 by omega] at o2;clear r1 own1 eB1 hb1 g2 HC;go_wp2;go_roundw
   case rel=>exact ⟨k+1,by omega,by go_num,o2,eB2,b2⟩
   case measure=>simp [intOf];omega
  ·obtain rfl:k=8:=by omega
   rw [show ((8:Nat):Int)=8 from rfl];rw [List.take_of_length_le (by rw [l8];exact QN _)] at own;have HO:=QQ (QA own (QA eB hb));clear own eB hb;go_wp2;go_loopw [3,5,6,7] (fun v i _ _ wr=>∃ (k:Nat),k≤2∧i=.int .i64 (k:Int)∧wr.ownsRow (W.heap.size+1) 5 1 v ((8+2*k)*4) ((wsB (Qje c k)).map (Value.int .u8))∧wr.heap[W.heap.size]?=some (.cells X 45)∧Below W.heap.size W wr) (fun _ i _ _ _=>2-(intOf i).toNat)
   case atStart=>exact ⟨0,by decide,rfl,by simpa [Qje] using (And.left HO),(And.left (And.right HO)),(And.right (And.right HO))⟩
   case round =>
    clear HO;obtain ⟨k,hk,rfl,own,eB,hb⟩:=hrel;have lB:W.heap.size<wr.heap.size:=(QI.1 eB).1;by_cases hlt:k<2
    ·have t1:decide ((k:Int)<2)=true:=by simp;omega
     obtain ⟨x,y,hx,hy,hq,hcat⟩:∃ x y,(-524288≤x∧x<524288)∧(-524288≤y∧y<524288)∧c.vals[8+k]?=some (.complex .f64 (fl x) (fl y))∧wsB (Qje c (k+1))=wsB (Qje c k)++w4 (x % 4294967296)++w4 (y % 4294967296):=by
      rcases (show k=0∨k=1 by omega) with rfl | rfl
      ·exact ⟨c.za,c.zb,hza,hzb,hn.1,by simp [Qje,wsB,List.flatMap_append]⟩
      ·exact ⟨c.zc,c.zd,hzc,hzd,hn.2.1,by simp [Qje,wsB,List.flatMap_append]⟩
     have q1:wr.cell? ⟨W.heap.size,8+k,none⟩=some (.complex .f64 (fl x) (fl y)):=by rw [cell_of_row wr _ _ _ _ _ eB,show X=_ from HX,List.getElem?_toArray];exact hq
     have kw:=QkG x y hx hy wr;obtain ⟨fx,hfx⟩:∃ f,f=fl x:=⟨_,rfl⟩;obtain ⟨fy,hfy⟩:∃ f,f=fl y:=⟨_,rfl⟩;obtain ⟨X1,hX1⟩:∃ z,z=x % 4294967296:=⟨_,rfl⟩;obtain ⟨Y1,hY1⟩:∃ z,z=y % 4294967296:=⟨_,rfl⟩;rw [← hfx,← hfy] at q1 kw;rw [← hX1,← hY1] at kw hcat
     have bx:0≤X1∧X1<4294967296:=by omega
     have byy:0≤Y1∧Y1<4294967296:=by omega
     have wx:IntKind.u64.wrap X1=X1:=Qcx ⟨bx.1,by omega⟩;have wy:IntKind.u64.wrap Y1=Y1:=Qcx ⟨byy.1,by omega⟩;have HC:=QQ hcat;have HO:=QQ (QA own (QA eB hb));clear hfx hfy hX1 hY1 hx hy hq hcat own eB hb;go_wp2_with (go_at_call 122;refine Qau ?_);unfold Qag;refine kw.mono ?_;rintro e w0 ⟨rfl,hw⟩;subst hw;clear kw;dsimp only;go_wp2_with (go_at_call 73;refine Qau ?_);unfold Qag;refine (QcM X1 bx w0).mono ?_;rintro e w1 ⟨v1,rfl,o1,b1⟩;obtain ⟨a1,c1,rfl,_⟩:=Qaa o1;have r1:=Qav o1 (Qcv X1);obtain ⟨own,eB,hb⟩:=(QG HO)
     have own1:=Qac (B:=w1) own fun y hy=>b1.block y (own.lt y hy).2
     have eB1:=(b1.block _ lB).trans eB;have hb1:=hb.trans (b1.mono hb.size);have s1:=b1.size;clear o1 b1 own eB hb q1 HO;go_wp2_with (at_builtin;refine Qau ?_);unfold Qag;refine Qae rfl _ _ 22 rfl (W.heap.size+1) 5 i0 Tryz.underlying22 hi hz0 hz1 hz2 _ ((8+2*k)*4) (wsB (Qje c k)) rfl own1 _ 4 c1 w1.heap.size (w4 X1) rfl r1 (by omega) (by omega) ?_;intro v2 w2 o2 g2 _;have b2:Below W.heap.size W w2:=hb1.grown g2 (by omega) (fun b h=>by have:=(own1.lt b h).1;omega);have eB2:w2.heap[W.heap.size]?=some (.cells X 45):=(g2.block _ (by omega) (fun e=>by have:=(own1.lt _ e.symm).1;omega)).trans eB1;have s2:=g2.size;have HO:=QQ (QA o2 (QA eB2 b2));clear r1 own1 eB1 hb1 g2 o2 eB2 b2;go_wp2_with (go_at_call 73;refine Qau ?_);unfold Qag;refine (QcM Y1 byy w2).mono ?_;rintro e w3 ⟨v3,rfl,o3,b3⟩;obtain ⟨a3,c3,rfl,_⟩:=Qaa o3;have r3:=Qav o3 (Qcv Y1);obtain ⟨own,eB,hb⟩:=(QG HO)
     have own1:=Qac (B:=w3) own fun y hy=>b3.block y (own.lt y hy).2
     have eB1:=(b3.block _ (by omega)).trans eB;have hb1:=hb.trans (b3.mono hb.size);have s3:=b3.size;clear o3 b3 own eB hb HO;go_wp2_with (at_builtin;refine Qau ?_);unfold Qag;refine Qae rfl _ _ 22 rfl (W.heap.size+1) 5 i0 Tryz.underlying22 hi hz0 hz1 hz2 v2 ((8+2*k)*4+4) (wsB (Qje c k)++w4 X1) rfl own1 _ 4 c3 w3.heap.size (w4 Y1) rfl r3 (by omega) (by omega) ?_;intro v4 w4' o4 g4 _;have b4:Below W.heap.size W w4':=hb1.grown g4 (by omega) (fun b h=>by have:=(own1.lt b h).1;omega);have eB4:w4'.heap[W.heap.size]?=some (.cells X 45):=(g4.block _ (by omega) (fun e=>by have:=(own1.lt _ e.symm).1;omega)).trans eB1;rw [← (QG HC),show (8+2*k)*4+4+4=(8+2*(k+1))*4 by omega] at o4;clear r3 own1 eB1 hb1 g4 HC;go_wp2;go_roundw
     case rel=>exact ⟨k+1,by omega,by go_num,o4,eB4,b4⟩
     case measure=>simp [intOf];omega
    ·obtain rfl:k=2:=by omega
     rw [show ((2:Nat):Int)=2 from rfl]
     have q1:wr.cell? ⟨W.heap.size,10,none⟩=some (.int .u32 c.pc):=by rw [cell_of_row wr _ _ _ _ _ eB,show X=_ from HX,List.getElem?_toArray];exact hn.2.2
     have hcat:cpB c=wsB (Qje c 2)++w4 c.pc:=by simp [cpB,cpW,Qje,wsB,List.flatMap_append]
     obtain ⟨x,hxx⟩:∃ x,x=c.pc:=⟨_,rfl⟩;rw [← hxx] at q1 hpc hcat;have wx:IntKind.u64.wrap x=x:=Qcx ⟨hpc.1,by omega⟩;have HC:=QQ hcat;have HO:=QQ (QA own (QA eB hb));clear hcat own eB hb hxx;go_wp2_with (go_at_call 73;refine Qau ?_);unfold Qag;refine (QcM x hpc wr).mono ?_;rintro e w1 ⟨v1,rfl,o1,b1⟩;obtain ⟨a1,c1,rfl,_⟩:=Qaa o1;have r1:=Qav o1 (Qcv x);obtain ⟨own,eB,hb⟩:=(QG HO)
     have own1:=Qac (B:=w1) own fun y hy=>b1.block y (own.lt y hy).2
     have hb1:=hb.trans (b1.mono hb.size);have s1:=b1.size;clear o1 b1 own eB hb q1 HO;go_wp2_with (at_builtin;refine Qau ?_);unfold Qag;refine Qae rfl _ _ 22 rfl (W.heap.size+1) 5 i0 Tryz.underlying22 hi hz0 hz1 hz2 _ ((8+2*2)*4) (wsB (Qje c 2)) rfl own1 _ 4 c1 w1.heap.size (w4 x) rfl r1 (by omega) (by omega) ?_;intro v2 w2 o2 g2 _;have b2:Below W.heap.size W w2:=hb1.grown g2 (by omega) (fun b h=>by have:=(own1.lt b h).1;omega);rw [← (QG HC)] at o2;clear r1 own1 hb1 g2;go_wp2;go_ret;exact ⟨_,rfl,o2,b2⟩
section
attribute [local go_sem] QaB QaJ QaA
def OnQ (W:World) (F:List Int):Exit→Act→World→Prop:=bodyPost Tryz.prog Tryz.f72 fun e W'=>∃ v,e=.returned v∧W'.ownsRow (W.heap.size+1) 5 1 v F.length (F.map (Value.int .u8))∧Below W.heap.size W W'
structure Qa6 (W:World) (q:Pr × QcJ) (X:Array Value) (B:Nat) (t3:Value) (o:List Int) (V:World):Prop where
 pc:Qad W q X B V
 own:V.ownsRow (W.heap.size+1) 5 1 t3 o.length (o.map (Value.int .u8))
theorem Qa6.grow {W:World} {q:Pr × QcJ} {X:Array Value} {B:Nat} {t3:Value} {o:List Int} {V V':World} (h:Qa6 W q X B t3 o V) (b:Below V.heap.size V V'):Qa6 W q X B t3 o V' :=
 ⟨h.pc.grow b,Qac h.own fun y hy=>b.block y (h.own.lt y hy).2⟩
theorem Qad.lB {W:World} {q:Pr × QcJ} {X:Array Value} {B:Nat} {V:World} (h:Qad W q X B V):W.heap.size<V.heap.size:=by
 have h1:=(QI.1 h.eB).1;have h2:=h.hB;omega
theorem Qad.grown {W:World} {q:Pr × QcJ} {X:Array Value} {B:Nat} {V V':World} (h:Qad W q X B V) {row:Option Nat} (g:V.grownBy V' row) (hr:∀ b,row=some b→W.heap.size+1≤b):Qad W q X B V':=by
 have h2:=h.hB;have h3:=h.lB;exact ⟨h.fine,h.hX,h.hB,(g.block B (by omega) (fun e=>by have:=hr B e.symm;omega)).trans h.eB,h.below.grown g (by omega) fun b hb=>by have:=hr b hb;omega,h.fds,h.pages⟩
def Qbs (W:World) (q:Pr × QcJ) (X:Array Value) (B:Nat) (cd:Code) (o F:List Int):Prop :=
 ∀ (t3 u4 u5 u6 u7 u8 u9 u10 u11 u12 u13 u14 u15 u16 u17 u18 u19 u20 u21 u22 u23 u24 u25 u26 u27 u28 u29 u30 u31 u32 u33 u34 u35 u36 u37 u38 u39 u40 u41 u42 u43 u44 u45 u46 u47 u48 u49 u50 u51 u52 u53 u54 u55 u56 u57 u58 u59 u60 u61 u62 u63 u64 u65 u66 u67 u68 u69 u70 u71 u72 u73 u74 u75 u76 u77 u78 u79 u80 u81 u82 u83 u84 u85 u86 u87 u88 u89 u90 u91 u92 u93 u94 u95 u96 u97 u98 u99 u100 u101 u102 u103 u104 u105 u106 u107 u108 u109 u110 u111 u112 u113 u114 u115 u116 u117 u118 u119 u120 u121 u122 u123 u124 u125 u126 u127 u128 u129 u130 u131 u132 u133 u134 u135 u136 u137 u138 u139 u140 u141 u142 u143 u144 u145 u146 u147 u148 u149 u150 u151 u152 u153 u154 u155 u156 u157 u158 u159 u160 u161 u162 u163 u164 u165 u166 u167:Value) (V:World),Qa6 W q X B t3 o V→cd.wp Tryz.prog (OnQ W F) { tmps:=#[.agg X,.pointer (some ⟨B,0,none⟩),.slice none 0 0,t3,u4,u5,u6,u7,u8,u9,u10,u11,u12,u13,u14,u15,u16,u17,u18,u19,u20,u21,u22,u23,u24,u25,u26,u27,u28,u29,u30,u31,u32,u33,u34,u35,u36,u37,u38,u39,u40,u41,u42,u43,u44,u45,u46,u47,u48,u49,u50,u51,u52,u53,u54,u55,u56,u57,u58,u59,u60,u61,u62,u63,u64,u65,u66,u67,u68,u69,u70,u71,u72,u73,u74,u75,u76,u77,u78,u79,u80,u81,u82,u83,u84,u85,u86,u87,u88,u89,u90,u91,u92,u93,u94,u95,u96,u97,u98,u99,u100,u101,u102,u103,u104,u105,u106,u107,u108,u109,u110,u111,u112,u113,u114,u115,u116,u117,u118,u119,u120,u121,u122,u123,u124,u125,u126,u127,u128,u129,u130,u131,u132,u133,u134,u135,u136,u137,u138,u139,u140,u141,u142,u143,u144,u145,u146,u147,u148,u149,u150,u151,u152,u153,u154,u155,u156,u157,u158,u159,u160,u161,u162,u163,u164,u165,u166,u167],defers:=[] } V
theorem QqK (W:World) (p:Pr) (fa:Option Addr) (fc:Nat) (pa:Option Addr) (pc:Nat) (X:Array Value) (B:Nat) (o F:List Int) (ho:o.length≤5000) (hx:0≤p.parent∧p.parent<4294967296)
  (hn:Qbs W (p,⟨fa,fc,pa,pc⟩) X B (tl 3 (Tryz.f72.body.getD .skip)) (o++Qa5 8 (Qa7 p.parent.toNat)) F):Qbs W (p,⟨fa,fc,pa,pc⟩) X B (tl 2 (Tryz.f72.body.getD .skip)) o F:=by
 intro t3
 iterate 60 intro
 intro u64
 iterate 103 intro
 intro V h;obtain ⟨i0,hi,hz0,hz1,hz2⟩:=info_parts QbB;have c1:=Qad.cell (Qa6.pc h) (Qaf p (Qad.fine (Qa6.pc h)).ok fa fc pa pc).1.2.1;have H:=QQ h;have HN:=QQ hn;obtain ⟨x,hxx⟩:∃ x,x=p.parent:=⟨_,rfl⟩;rw [← hxx] at c1 hx;have HX:=QQ hxx;have wx:IntKind.u64.wrap x=x:=Qcx ⟨hx.1,by omega⟩;have kc:=QdX 8 (by decide) x ⟨hx.1,by omega⟩ V;clear h hn hxx
 conv=>arg 2;whnf
 refine wp_seq_k (fun K aK=>?_);have AK:=QQ aK;clear aK;go_wp2_with (go_at_call 70;refine Qau ?_);unfold Qag;refine kc.mono ?_;rintro e w1 ⟨v1,rfl,o1,b1⟩;obtain ⟨a1,c1',rfl,_⟩:=Qaa o1;have r1:=Qav o1 (QaW 8 _ (Qbr _ (by omega)) (by rw [QaG];decide));have inv2:=(QG H).grow b1;clear kc o1 b1 c1;go_wp2_with (at_builtin;refine Qau ?_);unfold Qag;refine Qae rfl _ _ 22 rfl (W.heap.size+1) 5 i0 Tryz.underlying22 hi hz0 hz1 hz2 t3 o.length o rfl inv2.own _ 13 c1' w1.heap.size (Qa5 8 (Qa7 x.toNat)) rfl r1 (by omega) (by have:=inv2.pc.lB;omega) ?_;intro v9 w9 o9 g9 _;have inv9:Qa6 W (p,⟨fa,fc,pa,pc⟩) X B v9 (o++(Qa5 8 (Qa7 x.toNat))) w9:=⟨inv2.pc.grown g9 fun b hb=>(inv2.own.lt b hb).1,by rw [QL,show (Qa5 8 (Qa7 x.toNat)).length=13 by rw [QaX,QaG]];exact o9⟩;have INV9:=QQ inv9;clear inv9 inv2 o9 g9 r1;go_wp2;refine (QG AK) _ _ ?_;have inv:=(QG INV9);rw [show x=_ from HX] at inv;apply (QG HN);exact inv
theorem QqL (W:World) (p:Pr) (fa:Option Addr) (fc:Nat) (pa:Option Addr) (pc:Nat) (X:Array Value) (B:Nat) (o F:List Int) (ho:o.length≤5000) (hx:0≤p.state∧p.state<4294967296)
  (hn:Qbs W (p,⟨fa,fc,pa,pc⟩) X B (tl 4 (Tryz.f72.body.getD .skip)) (o++Qa5 9 (Qa7 p.state.toNat)) F):Qbs W (p,⟨fa,fc,pa,pc⟩) X B (tl 3 (Tryz.f72.body.getD .skip)) o F:=by
 intro t3
 iterate 60 intro
 intro u64
 iterate 103 intro
 intro V h;obtain ⟨i0,hi,hz0,hz1,hz2⟩:=info_parts QbB;have c1:=Qad.cell (Qa6.pc h) (Qaf p (Qad.fine (Qa6.pc h)).ok fa fc pa pc).1.2.2.1;have H:=QQ h;have HN:=QQ hn;obtain ⟨x,hxx⟩:∃ x,x=p.state:=⟨_,rfl⟩;rw [← hxx] at c1 hx;have HX:=QQ hxx;have wx:IntKind.u64.wrap x=x:=Qcx ⟨hx.1,by omega⟩;have kc:=QdX 9 (by decide) x ⟨hx.1,by omega⟩ V;clear h hn hxx
 conv=>arg 2;whnf
 refine wp_seq_k (fun K aK=>?_);have AK:=QQ aK;clear aK;go_wp2_with (go_at_call 70;refine Qau ?_);unfold Qag;refine kc.mono ?_;rintro e w1 ⟨v1,rfl,o1,b1⟩;obtain ⟨a1,c1',rfl,_⟩:=Qaa o1;have r1:=Qav o1 (QaW 9 _ (Qbr _ (by omega)) (by rw [QaG];decide));have inv2:=(QG H).grow b1;clear kc o1 b1 c1;go_wp2_with (at_builtin;refine Qau ?_);unfold Qag;refine Qae rfl _ _ 22 rfl (W.heap.size+1) 5 i0 Tryz.underlying22 hi hz0 hz1 hz2 t3 o.length o rfl inv2.own _ 13 c1' w1.heap.size (Qa5 9 (Qa7 x.toNat)) rfl r1 (by omega) (by have:=inv2.pc.lB;omega) ?_;intro v9 w9 o9 g9 _;have inv9:Qa6 W (p,⟨fa,fc,pa,pc⟩) X B v9 (o++(Qa5 9 (Qa7 x.toNat))) w9:=⟨inv2.pc.grown g9 fun b hb=>(inv2.own.lt b hb).1,by rw [QL,show (Qa5 9 (Qa7 x.toNat)).length=13 by rw [QaX,QaG]];exact o9⟩;have INV9:=QQ inv9;clear inv9 inv2 o9 g9 r1;go_wp2;refine (QG AK) _ _ ?_;have inv:=(QG INV9);rw [show x=_ from HX] at inv;apply (QG HN);exact inv
theorem Qp5 (W:World) (p:Pr) (fa:Option Addr) (fc:Nat) (pa:Option Addr) (pc:Nat) (X:Array Value) (B:Nat) (o F:List Int) (ho:o.length≤5000) (hx:0≤p.wait∧p.wait<4294967296)
  (hn:Qbs W (p,⟨fa,fc,pa,pc⟩) X B (tl 14 (Tryz.f72.body.getD .skip)) (o++Qa5 14 (Qa7 p.wait.toNat)) F):Qbs W (p,⟨fa,fc,pa,pc⟩) X B (tl 13 (Tryz.f72.body.getD .skip)) o F:=by
 intro t3
 iterate 60 intro
 intro u64
 iterate 103 intro
 intro V h;obtain ⟨i0,hi,hz0,hz1,hz2⟩:=info_parts QbB;have c1:=Qad.cell (Qa6.pc h) (Qaf p (Qad.fine (Qa6.pc h)).ok fa fc pa pc).2.1.1;have H:=QQ h;have HN:=QQ hn;obtain ⟨x,hxx⟩:∃ x,x=p.wait:=⟨_,rfl⟩;rw [← hxx] at c1 hx;have HX:=QQ hxx;have wx:IntKind.u64.wrap x=x:=Qcx ⟨hx.1,by omega⟩;have kc:=QdX 14 (by decide) x ⟨hx.1,by omega⟩ V;clear h hn hxx
 conv=>arg 2;whnf
 refine wp_seq_k (fun K aK=>?_);have AK:=QQ aK;clear aK;go_wp2_with (go_at_call 70;refine Qau ?_);unfold Qag;refine kc.mono ?_;rintro e w1 ⟨v1,rfl,o1,b1⟩;obtain ⟨a1,c1',rfl,_⟩:=Qaa o1;have r1:=Qav o1 (QaW 14 _ (Qbr _ (by omega)) (by rw [QaG];decide));have inv2:=(QG H).grow b1;clear kc o1 b1 c1;go_wp2_with (at_builtin;refine Qau ?_);unfold Qag;refine Qae rfl _ _ 22 rfl (W.heap.size+1) 5 i0 Tryz.underlying22 hi hz0 hz1 hz2 t3 o.length o rfl inv2.own _ 13 c1' w1.heap.size (Qa5 14 (Qa7 x.toNat)) rfl r1 (by omega) (by have:=inv2.pc.lB;omega) ?_;intro v9 w9 o9 g9 _;have inv9:Qa6 W (p,⟨fa,fc,pa,pc⟩) X B v9 (o++(Qa5 14 (Qa7 x.toNat))) w9:=⟨inv2.pc.grown g9 fun b hb=>(inv2.own.lt b hb).1,by rw [QL,show (Qa5 14 (Qa7 x.toNat)).length=13 by rw [QaX,QaG]];exact o9⟩;have INV9:=QQ inv9;clear inv9 inv2 o9 g9 r1;go_wp2;refine (QG AK) _ _ ?_;have inv:=(QG INV9);rw [show x=_ from HX] at inv;apply (QG HN);exact inv
theorem Qp6 (W:World) (p:Pr) (fa:Option Addr) (fc:Nat) (pa:Option Addr) (pc:Nat) (X:Array Value) (B:Nat) (o F:List Int) (ho:o.length≤5000) (hx:0≤p.pipe∧p.pipe<4294967296)
  (hn:Qbs W (p,⟨fa,fc,pa,pc⟩) X B (tl 15 (Tryz.f72.body.getD .skip)) (o++Qa5 15 (Qa7 p.pipe.toNat)) F):Qbs W (p,⟨fa,fc,pa,pc⟩) X B (tl 14 (Tryz.f72.body.getD .skip)) o F:=by
 intro t3
 iterate 60 intro
 intro u64
 iterate 103 intro
 intro V h;obtain ⟨i0,hi,hz0,hz1,hz2⟩:=info_parts QbB;have c1:=Qad.cell (Qa6.pc h) (Qaf p (Qad.fine (Qa6.pc h)).ok fa fc pa pc).2.1.2.1;have H:=QQ h;have HN:=QQ hn;obtain ⟨x,hxx⟩:∃ x,x=p.pipe:=⟨_,rfl⟩;rw [← hxx] at c1 hx;have HX:=QQ hxx;have wx:IntKind.u64.wrap x=x:=Qcx ⟨hx.1,by omega⟩;have kc:=QdX 15 (by decide) x ⟨hx.1,by omega⟩ V;clear h hn hxx
 conv=>arg 2;whnf
 refine wp_seq_k (fun K aK=>?_);have AK:=QQ aK;clear aK;go_wp2_with (go_at_call 70;refine Qau ?_);unfold Qag;refine kc.mono ?_;rintro e w1 ⟨v1,rfl,o1,b1⟩;obtain ⟨a1,c1',rfl,_⟩:=Qaa o1;have r1:=Qav o1 (QaW 15 _ (Qbr _ (by omega)) (by rw [QaG];decide));have inv2:=(QG H).grow b1;clear kc o1 b1 c1;go_wp2_with (at_builtin;refine Qau ?_);unfold Qag;refine Qae rfl _ _ 22 rfl (W.heap.size+1) 5 i0 Tryz.underlying22 hi hz0 hz1 hz2 t3 o.length o rfl inv2.own _ 13 c1' w1.heap.size (Qa5 15 (Qa7 x.toNat)) rfl r1 (by omega) (by have:=inv2.pc.lB;omega) ?_;intro v9 w9 o9 g9 _;have inv9:Qa6 W (p,⟨fa,fc,pa,pc⟩) X B v9 (o++(Qa5 15 (Qa7 x.toNat))) w9:=⟨inv2.pc.grown g9 fun b hb=>(inv2.own.lt b hb).1,by rw [QL,show (Qa5 15 (Qa7 x.toNat)).length=13 by rw [QaX,QaG]];exact o9⟩;have INV9:=QQ inv9;clear inv9 inv2 o9 g9 r1;go_wp2;refine (QG AK) _ _ ?_;have inv:=(QG INV9);rw [show x=_ from HX] at inv;apply (QG HN);exact inv
theorem Qp7 (W:World) (p:Pr) (fa:Option Addr) (fc:Nat) (pa:Option Addr) (pc:Nat) (X:Array Value) (B:Nat) (o F:List Int) (ho:o.length≤5000) (hx:0≤p.left∧p.left<4294967296)
  (hn:Qbs W (p,⟨fa,fc,pa,pc⟩) X B (tl 16 (Tryz.f72.body.getD .skip)) (o++Qa5 16 (Qa7 p.left.toNat)) F):Qbs W (p,⟨fa,fc,pa,pc⟩) X B (tl 15 (Tryz.f72.body.getD .skip)) o F:=by
 intro t3
 iterate 60 intro
 intro u64
 iterate 103 intro
 intro V h;obtain ⟨i0,hi,hz0,hz1,hz2⟩:=info_parts QbB;have c1:=Qad.cell (Qa6.pc h) (Qaf p (Qad.fine (Qa6.pc h)).ok fa fc pa pc).2.2.1.1;have H:=QQ h;have HN:=QQ hn;obtain ⟨x,hxx⟩:∃ x,x=p.left:=⟨_,rfl⟩;rw [← hxx] at c1 hx;have HX:=QQ hxx;have wx:IntKind.u64.wrap x=x:=Qcx ⟨hx.1,by omega⟩;have kc:=QdX 16 (by decide) x ⟨hx.1,by omega⟩ V;clear h hn hxx
 conv=>arg 2;whnf
 refine wp_seq_k (fun K aK=>?_);have AK:=QQ aK;clear aK;go_wp2_with (go_at_call 70;refine Qau ?_);unfold Qag;refine kc.mono ?_;rintro e w1 ⟨v1,rfl,o1,b1⟩;obtain ⟨a1,c1',rfl,_⟩:=Qaa o1;have r1:=Qav o1 (QaW 16 _ (Qbr _ (by omega)) (by rw [QaG];decide));have inv2:=(QG H).grow b1;clear kc o1 b1 c1;go_wp2_with (at_builtin;refine Qau ?_);unfold Qag;refine Qae rfl _ _ 22 rfl (W.heap.size+1) 5 i0 Tryz.underlying22 hi hz0 hz1 hz2 t3 o.length o rfl inv2.own _ 13 c1' w1.heap.size (Qa5 16 (Qa7 x.toNat)) rfl r1 (by omega) (by have:=inv2.pc.lB;omega) ?_;intro v9 w9 o9 g9 _;have inv9:Qa6 W (p,⟨fa,fc,pa,pc⟩) X B v9 (o++(Qa5 16 (Qa7 x.toNat))) w9:=⟨inv2.pc.grown g9 fun b hb=>(inv2.own.lt b hb).1,by rw [QL,show (Qa5 16 (Qa7 x.toNat)).length=13 by rw [QaX,QaG]];exact o9⟩;have INV9:=QQ inv9;clear inv9 inv2 o9 g9 r1;go_wp2;refine (QG AK) _ _ ?_;have inv:=(QG INV9);rw [show x=_ from HX] at inv;apply (QG HN);exact inv
theorem QqN (W:World) (p:Pr) (fa:Option Addr) (fc:Nat) (pa:Option Addr) (pc:Nat) (X:Array Value) (B:Nat) (o F:List Int) (ho:o.length≤5000)
  (hn:Qbs W (p,⟨fa,fc,pa,pc⟩) X B (tl 6 (Tryz.f72.body.getD .skip)) (o++Qa5 11 (cpB p.cpu)) F):Qbs W (p,⟨fa,fc,pa,pc⟩) X B (tl 5 (Tryz.f72.body.getD .skip)) o F:=by
 intro t3
 iterate 164 intro
 intro V h;obtain ⟨i0,hi,hz0,hz1,hz2⟩:=info_parts QbB;have hf:=h.pc.fine;have eB:=h.pc.eB
 have eP:(X.toList.drop 4).take p.cpu.vals.toArray.size=p.cpu.vals.toArray.toList:=by
  rw [QS,Cp.vals_length hf.ok.1,h.pc.hX];exact (Qaf p hf.ok fa fc pa pc).2.2.2.1
 have iC:(Tryz.prog.info? 45).map (·.size)=some p.cpu.vals.toArray.size:=by rw [QS,Cp.vals_length hf.ok.1];exact Qbv
 have kc:=Qil p.cpu hf.ok.1 V;have hlen:=Qd9 hf.ok.1;have hbb:=QdC p.cpu;have H:=QQ h;have HN:=QQ hn;obtain ⟨vv,hvv⟩:∃ v,v=p.cpu.vals.toArray:=⟨_,rfl⟩;obtain ⟨cb,hcb⟩:∃ v,v=cpB p.cpu:=⟨_,rfl⟩;rw [← hvv] at eP iC kc;rw [← hcb] at kc hlen hbb;have HX:=QQ hcb;clear h hn hvv hcb hf
 conv=>arg 2;whnf
 refine wp_seq_k (fun K aK=>?_);have AK:=QQ aK;clear aK
 go_wp2_with first
  | (go_at_call 102;refine Qau ?_)
  | (refine Qai (by rfl) 45 (.tmp 39) rfl B 4 rfl _ vv _ eB eP _ Tryz.underlying45 rfl iC ?_)
 unfold Qag;refine kc.mono ?_;rintro e w1 ⟨v1,rfl,o1,b1⟩;obtain ⟨a1,c1,rfl,_⟩:=Qaa o1;have r1:=Qav o1 hbb;have kf:=Qca 11 (by decide) a1 52 c1 cb w1 ⟨r1,hbb⟩ (by omega);have inv1:=(QG H).grow b1;have INV1:=QQ inv1;clear kc o1 b1 inv1 r1 eP iC eB;go_wp2_with (go_at_call 71;refine Qau ?_);unfold Qag;refine kf.mono ?_;rintro e w2 ⟨v1,rfl,o1,b1⟩;obtain ⟨a1,c1,rfl,_⟩:=Qaa o1;have r1:=Qav o1 (QaW 11 cb hbb (by omega));have inv2:=(QG INV1).grow b1;clear kf o1 b1;go_wp2_with (at_builtin;refine Qau ?_);unfold Qag;refine Qae rfl _ _ 22 rfl (W.heap.size+1) 5 i0 Tryz.underlying22 hi hz0 hz1 hz2 t3 o.length o rfl inv2.own _ (52+5) c1 w2.heap.size (Qa5 11 cb) rfl r1 (by omega) (by have:=inv2.pc.lB;omega) ?_;intro v9 w9 o9 g9 _;have inv9:Qa6 W (p,⟨fa,fc,pa,pc⟩) X B v9 (o++(Qa5 11 cb)) w9:=⟨inv2.pc.grown g9 fun b hb=>(inv2.own.lt b hb).1,by rw [QL,show (Qa5 11 cb).length=52+5 by rw [QaX,hlen]];exact o9⟩;have INV9:=QQ inv9;clear inv9 inv2 o9 g9 r1;go_wp2;refine (QG AK) _ _ ?_;have inv:=(QG INV9);rw [show cb=_ from HX] at inv;apply (QG HN);exact inv
theorem QqO (W:World) (p:Pr) (fa:Option Addr) (fc:Nat) (pa:Option Addr) (pc:Nat) (X:Array Value) (B:Nat) (o F:List Int) (ho:o.length≤5000)
  (hn:Qbs W (p,⟨fa,fc,pa,pc⟩) X B (tl 7 (Tryz.f72.body.getD .skip)) (o++Qa5 12 (cpB p.saved)) F):Qbs W (p,⟨fa,fc,pa,pc⟩) X B (tl 6 (Tryz.f72.body.getD .skip)) o F:=by
 intro t3
 iterate 164 intro
 intro V h;obtain ⟨i0,hi,hz0,hz1,hz2⟩:=info_parts QbB;have hf:=h.pc.fine;have eB:=h.pc.eB
 have eP:(X.toList.drop 15).take p.saved.vals.toArray.size=p.saved.vals.toArray.toList:=by
  rw [QS,Cp.vals_length hf.ok.2.1,h.pc.hX];exact (Qaf p hf.ok fa fc pa pc).2.2.2.2.1
 have iC:(Tryz.prog.info? 45).map (·.size)=some p.saved.vals.toArray.size:=by rw [QS,Cp.vals_length hf.ok.2.1];exact Qbv
 have kc:=Qil p.saved hf.ok.2.1 V;have hlen:=Qd9 hf.ok.2.1;have hbb:=QdC p.saved;have H:=QQ h;have HN:=QQ hn;obtain ⟨vv,hvv⟩:∃ v,v=p.saved.vals.toArray:=⟨_,rfl⟩;obtain ⟨cb,hcb⟩:∃ v,v=cpB p.saved:=⟨_,rfl⟩;rw [← hvv] at eP iC kc;rw [← hcb] at kc hlen hbb;have HX:=QQ hcb;clear h hn hvv hcb hf
 conv=>arg 2;whnf
 refine wp_seq_k (fun K aK=>?_);have AK:=QQ aK;clear aK
 go_wp2_with first
  | (go_at_call 102;refine Qau ?_)
  | (refine Qai (by rfl) 45 (.tmp 45) rfl B 15 rfl _ vv _ eB eP _ Tryz.underlying45 rfl iC ?_)
 unfold Qag;refine kc.mono ?_;rintro e w1 ⟨v1,rfl,o1,b1⟩;obtain ⟨a1,c1,rfl,_⟩:=Qaa o1;have r1:=Qav o1 hbb;have kf:=Qca 12 (by decide) a1 52 c1 cb w1 ⟨r1,hbb⟩ (by omega);have inv1:=(QG H).grow b1;have INV1:=QQ inv1;clear kc o1 b1 inv1 r1 eP iC eB;go_wp2_with (go_at_call 71;refine Qau ?_);unfold Qag;refine kf.mono ?_;rintro e w2 ⟨v1,rfl,o1,b1⟩;obtain ⟨a1,c1,rfl,_⟩:=Qaa o1;have r1:=Qav o1 (QaW 12 cb hbb (by omega));have inv2:=(QG INV1).grow b1;clear kf o1 b1;go_wp2_with (at_builtin;refine Qau ?_);unfold Qag;refine Qae rfl _ _ 22 rfl (W.heap.size+1) 5 i0 Tryz.underlying22 hi hz0 hz1 hz2 t3 o.length o rfl inv2.own _ (52+5) c1 w2.heap.size (Qa5 12 cb) rfl r1 (by omega) (by have:=inv2.pc.lB;omega) ?_;intro v9 w9 o9 g9 _;have inv9:Qa6 W (p,⟨fa,fc,pa,pc⟩) X B v9 (o++(Qa5 12 cb)) w9:=⟨inv2.pc.grown g9 fun b hb=>(inv2.own.lt b hb).1,by rw [QL,show (Qa5 12 cb).length=52+5 by rw [QaX,hlen]];exact o9⟩;have INV9:=QQ inv9;clear inv9 inv2 o9 g9 r1;go_wp2;refine (QG AK) _ _ ?_;have inv:=(QG INV9);rw [show cb=_ from HX] at inv;apply (QG HN);exact inv
theorem Qa6.other {W:World} {q:Pr × QcJ} {X:Array Value} {B:Nat} {t3:Value} {o:List Int} {V V':World} (h:Qa6 W q X B t3 o V) {row:Option Nat} (g:V.grownBy V' row) {Hs:Nat} (h1:∀ b,t3.ownBlock=some b→b<Hs) (h2:W.heap.size+1≤Hs) (hr:∀ b,row=some b→Hs≤b):Qa6 W q X B t3 o V' :=
 ⟨h.pc.grown g fun b hb=>Nat.le_trans h2 (hr b hb),Qac h.own fun y hy=>g.block y (h.own.lt y hy).2 (fun e=>by have:=hr y e.symm;have:=h1 y hy;omega)⟩
theorem QfY (W:World) (x:Int):∀ j u,[Value.int .u8 x][j]?=some u→(W.alloc (.cells #[.int .u8 x] 5)).cell? ((⟨W.heap.size,0,none⟩:Addr).add j)=some u:=cell_one_new _ _ _
theorem Qn0 (p:Pr) (h:p.Ok) (fa:Option Addr) (fc:Nat) (pa:Option Addr) (pc:Nat):(p.vals fa fc pa pc)[26]?=some (.int .u32 p.sig.pend)∧(p.vals fa fc pa pc)[27]?=some (.int .u32 p.sig.mask)∧(∀ j,j<16→(p.vals fa fc pa pc)[28+j]?=some (.int .u32 (p.sig.hand.getD j 0)))∧(p.vals fa fc pa pc)[44]?=some (.bool p.sig.busy):=by
 have hl:(p.head++p.cpu.vals++p.saved.vals).length=26:=by simp [Pr.head,Cp.vals_length h.1,Cp.vals_length h.2.1]
 have hh:(p.sig.hand.map (Value.int .u32)).length=16:=by rw [QM,h.2.2.2.2.1]
 have e:p.vals fa fc pa pc=(p.head++p.cpu.vals++p.saved.vals)++([.int .u32 p.sig.pend,.int .u32 p.sig.mask]++(p.sig.hand.map (Value.int .u32)++(Value.bool p.sig.busy::p.tail fa fc pa pc))):=by simp [Pr.vals,Sg.vals,Pr.head,Pr.tail]
 rw [e];refine ⟨?_,?_,fun j hj=>?_,?_⟩
 ·rw [List.getElem?_append_right (by omega),hl];rfl
 ·rw [List.getElem?_append_right (by omega),hl];rfl
 ·rw [List.getElem?_append_right (by omega),hl,List.getElem?_append_right (by simp;omega),show 28+j-26 - [Value.int .u32 p.sig.pend,Value.int .u32 p.sig.mask].length=j by simp;omega,List.getElem?_append_left (by omega),List.getElem?_map,List.getElem?_eq_getElem (by rw [h.2.2.2.2.1];exact hj)]
  simp [List.getD,List.getElem?_eq_getElem (show j<p.sig.hand.length by rw [h.2.2.2.2.1];exact hj)]
 ·rw [List.getElem?_append_right (by omega),hl,List.getElem?_append_right (by simp),List.getElem?_append_right (by rw [hh];simp),hh];rfl
theorem QqP (W:World) (p:Pr) (fa:Option Addr) (fc:Nat) (pa:Option Addr) (pc:Nat) (X:Array Value) (B:Nat) (o F:List Int) (ho:o.length≤5000)
  (hn:Qbs W (p,⟨fa,fc,pa,pc⟩) X B (tl 13 (Tryz.f72.body.getD .skip)) (o++Qa5 13 (sgB p.sig)) F):Qbs W (p,⟨fa,fc,pa,pc⟩) X B (tl 7 (Tryz.f72.body.getD .skip)) o F:=by
 intro t3 u4 u5 u6 u7 u8
 iterate 23 intro
 intro u32
 iterate 31 intro
 intro u64
 iterate 103 intro
 intro V h;obtain ⟨i0,hi,hz0,hz1,hz2⟩:=info_parts QbB;have hok:=h.pc.fine.ok;obtain ⟨g1,g2,g3,g4⟩:=Qn0 p hok fa fc pa pc;obtain ⟨hbp,hbm,hhl,hhb⟩:=hok.2.2;have hsl:=Qh2 hok.2.2;have hsb:=Qg1 p.sig;have q1:=h.pc.cell g1;have H:=QQ h;have HN:=QQ hn;obtain ⟨x,hxx⟩:∃ x,x=p.sig.pend:=⟨_,rfl⟩;obtain ⟨y,hyy⟩:∃ x,x=p.sig.mask:=⟨_,rfl⟩;obtain ⟨hd,hhd⟩:∃ x,x=p.sig.hand:=⟨_,rfl⟩;obtain ⟨bz,hbz⟩:∃ x,x=p.sig.busy:=⟨_,rfl⟩;obtain ⟨sb,hsbb⟩:∃ x,x=sgB p.sig:=⟨_,rfl⟩
 have hsg:sb=wsB (x::y::hd)++[Qb6 bz]:=by rw [hsbb,hxx,hyy,hhd,hbz];rfl
 rw [← hxx] at q1 hbp g1;rw [← hyy] at hbm g2;rw [← hhd] at hhl hhb g3;rw [← hbz] at g4;rw [← hsbb] at hsl hsb;have wx:IntKind.u64.wrap x=x:=Qcx ⟨hbp.1,by omega⟩;have wy:IntKind.u64.wrap y=y:=Qcx ⟨hbm.1,by omega⟩;have G:=QQ (QA g2 (QA g3 g4));have HSB:=QQ hsbb;have HSG:=QQ hsg;clear h hn hxx hyy hhd hbz hsbb hsg g1 g2 g3 g4 hok
 conv=>arg 2;whnf
 refine wp_seq_k (fun K aK=>?_);have AK:=QQ aK;clear aK;go_wp2_with (go_at_call 73;refine Qau ?_);unfold Qag;refine (QcM x hbp V).mono ?_;rintro e w1 ⟨v1,rfl,o1,b1⟩;have inv1:=(QG H).grow b1;obtain ⟨Hs,hHs⟩:∃ Hs,Hs=V.heap.size:=⟨_,rfl⟩;rw [← hHs] at o1
 have hH1:∀ b,t3.ownBlock=some b→b<Hs:=fun b hb=>by rw [hHs];exact ((QG H).own.lt b hb).2
 have hH2:W.heap.size+1≤Hs:=by rw [hHs];exact (QG H).pc.lB
 have q2:=inv1.pc.cell (show (p.vals fa fc pa pc)[27]?=some (.int .u32 y) from And.left G);have HH:=QQ (QA hH1 hH2)
 have s1:Hs≤w1.heap.size:=by have:=b1.size;omega
 have I1:=QQ (QA inv1 o1);clear inv1 o1 b1 hH1 hHs q1 H;go_wp2;refine (QG AK) _ _ ?_;clear AK K;refine wp_seq_k (fun K aK=>?_);have AK:=QQ aK;clear aK;go_wp2_with (go_at_call 73;refine Qau ?_);unfold Qag;refine (QcM y hbm w1).mono ?_;rintro e w2 ⟨v2,rfl,o2,b2⟩;obtain ⟨a2,c2,rfl,_⟩:=Qaa o2;have r2:=Qav o2 (Qcv y);obtain ⟨inv1,o1⟩:=(QG I1);obtain ⟨hH1,_⟩:=(QG HH);have inv2:=inv1.grow b2
 have o1':=Qac (B:=w2) o1 fun z hz=>b2.block z (o1.lt z hz).2
 have s2:Hs≤w2.heap.size:=by have:=b2.size;omega
 clear inv1 o1 o2 b2 I1 q2;go_wp2_with (at_builtin;refine Qau ?_);unfold Qag;refine Qae rfl _ _ 22 rfl Hs 5 i0 Tryz.underlying22 hi hz0 hz1 hz2 v1 4 (w4 x) rfl o1' _ 4 c2 w2.heap.size (w4 y) rfl r2 (by omega) s2 ?_;intro v3 w3 o3 g3 _
 have inv3:=inv2.other g3 hH1 hH2 fun b hb=>(o1'.lt b hb).1
 have s3:Hs≤w3.heap.size:=by have:=g3.size;omega
 have I3:=QQ (QA inv3 (show w3.ownsRow Hs 5 1 v3 ((2+0)*4) ((wsB (x::y::hd.take 0)).map (Value.int .u8)) from by simpa [wsB] using o3));clear inv2 inv3 o1' r2 o3 g3 hH1;go_wp2;refine (QG AK) _ _ ?_;clear AK K;refine wp_seq_k (fun K aK=>?_);have AK:=QQ aK;clear aK;go_wp2;go_loopw [4,5] (fun v i wr=>∃ (k:Nat),k≤16∧i=.int .i64 (k:Int)∧wr.ownsRow Hs 5 1 v ((2+k)*4) ((wsB (x::y::hd.take k)).map (Value.int .u8))∧Qa6 W (p,⟨fa,fc,pa,pc⟩) X B t3 o wr∧Hs≤wr.heap.size) (fun _ i _=>16-(intOf i).toNat)
 case atStart=>exact ⟨0,by decide,rfl,(And.right I3),(And.left I3),s3⟩
 case round =>
  clear I3 s3;obtain ⟨k,hk,rfl,own,inv,sH⟩:=hrel;by_cases hlt:k<16
  ·have t1:decide ((k:Int)<16)=true:=by simp;omega
   have hk2:k<hd.length:=by rw [hhl];exact hlt
   have q1:=inv.pc.cell ((QG G).2.1 k hlt)
   have hx:0≤hd.getD k 0∧hd.getD k 0<4294967296:=by rw [Qba _ _ hk2];exact hhb _ (List.getElem_mem hk2)
   have hcat:wsB (x::y::hd.take (k+1))=wsB (x::y::hd.take k)++w4 (hd.getD k 0):=by
    rw [List.take_succ_eq_append_getElem hk2,← Qba _ _ hk2,show x::y::(hd.take k++[hd.getD k 0])=(x::y::hd.take k)++[hd.getD k 0] from rfl,Qkl]
   obtain ⟨z,hzz⟩:∃ z,z=hd.getD k 0:=⟨_,rfl⟩;rw [← hzz] at q1 hx hcat;have wz:IntKind.u64.wrap z=z:=Qcx ⟨hx.1,by omega⟩;have HC:=QQ hcat;have HO:=QQ (QA own inv);clear hzz hcat own inv;go_wp2_with (go_at_call 73;refine Qau ?_);unfold Qag;refine (QcM z hx wr).mono ?_;rintro e w2 ⟨v2,rfl,o2,b2⟩;obtain ⟨a2,c2,rfl,_⟩:=Qaa o2;have r2:=Qav o2 (Qcv z);obtain ⟨own,inv⟩:=(QG HO);obtain ⟨hH1,_⟩:=(QG HH);have inv2:=inv.grow b2
   have o1':=Qac (B:=w2) own fun z hz=>b2.block z (own.lt z hz).2
   have s2:Hs≤w2.heap.size:=by have:=b2.size;omega
   clear inv own o2 b2 HO q1;go_wp2_with (at_builtin;refine Qau ?_);unfold Qag;refine Qae rfl _ _ 22 rfl Hs 5 i0 Tryz.underlying22 hi hz0 hz1 hz2 _ ((2+k)*4) (wsB (x::y::hd.take k)) rfl o1' _ 4 c2 w2.heap.size (w4 z) rfl r2 (by omega) s2 ?_;intro v3 w3 o3 g3 _
   have inv3:=inv2.other g3 hH1 hH2 fun b hb=>(o1'.lt b hb).1
   have s3:Hs≤w3.heap.size:=by have:=g3.size;omega
   rw [← (QG HC),show (2+k)*4+4=(2+(k+1))*4 by omega] at o3;clear inv2 o1' r2 g3 hH1 HC;go_wp2;go_roundw
   case rel=>exact ⟨k+1,by omega,by go_num,o3,inv3,s3⟩
   case measure=>simp [intOf];omega
  ·obtain rfl:k=16:=by omega
   rw [show ((16:Nat):Int)=16 from rfl];rw [List.take_of_length_le (by rw [hhl];exact QN _)] at own;have q1:=inv.pc.cell ((QG G).2.2);have HO:=QQ (QA own inv);clear own inv;go_wp2;refine (QG AK) _ _ ?_;refine wp_seq_k (fun K2 aK=>?_);have AK2:=QQ aK;clear aK;go_wp2;refine (QG AK2) _ _ ?_;refine wp_seq_k (fun K3 aK=>?_);have AK3:=QQ aK;clear aK
   cases bz with
   | false =>
    go_wp2;refine (QG AK3) _ _ ?_;refine wp_seq_k (fun K4 aK=>?_);have AK4:=QQ aK;clear aK;have hn1:=QQ (QfY wr 0);clear q1;go_wp2_with (at_builtin;refine Qau ?_);unfold Qag;obtain ⟨own,inv⟩:=(QG HO);obtain ⟨hH1,_⟩:=(QG HH);have hal:Below wr.heap.size wr (wr.alloc (.cells #[.int .u8 0] 5)):=(QB _ wr).alloc (QN _) _;have inv2:=inv.grow hal;refine wpList_append_own _ rfl _ _ 22 rfl Hs 5 i0 (.int .u8 0) 1 1 Tryz.underlying22 hi hz0 hz1 hz2 rfl (by decide) _ ((2+16)*4) _ (by rfl) (own.alloc _) ⟨wr.heap.size,0,none⟩ 1 1 [.int .u8 0] (by rfl) rfl hn1 (by simp [Value.oneCell']) (by simp only [maxLen];omega) (by omega) (by simp;omega) ?_;intro v3 w3 o3 g3 _
    have inv3:=inv2.other g3 hH1 hH2 fun b hb=>(own.lt b hb).1
    have o4:w3.ownsRow Hs 5 1 v3 73 (sb.map (Value.int .u8)):=by
     rw [show sb=_ from HSG,List.map_append];exact o3
    obtain ⟨a4,c4,rfl,_⟩:=Qaa o4;have r4:=Qav o4 hsb;have kf:=Qca 13 (by decide) a4 73 c4 sb w3 ⟨r4,hsb⟩ (by omega);have INV1:=QQ inv3;clear hn1 own inv hal inv2 inv3 o3 g3 o4 r4 hH1 HO;go_wp2_with (go_at_call 71;refine Qau ?_);unfold Qag;refine kf.mono ?_;rintro e w5 ⟨v1,rfl,o1,b1⟩;obtain ⟨a1,c1,rfl,_⟩:=Qaa o1;have r1:=Qav o1 (QaW 13 sb hsb (by omega));have inv2:=(QG INV1).grow b1;clear kf o1 b1;go_wp2_with (at_builtin;refine Qau ?_);unfold Qag;refine Qae rfl _ _ 22 rfl (W.heap.size+1) 5 i0 Tryz.underlying22 hi hz0 hz1 hz2 t3 o.length o rfl inv2.own _ (73+5) c1 w5.heap.size (Qa5 13 sb) rfl r1 (by omega) (by have:=inv2.pc.lB;omega) ?_;intro v9 w9 o9 g9 _;have inv9:Qa6 W (p,⟨fa,fc,pa,pc⟩) X B v9 (o++Qa5 13 sb) w9:=⟨inv2.pc.grown g9 fun b hb=>(inv2.own.lt b hb).1,by rw [QL,show (Qa5 13 sb).length=73+5 by rw [QaX,hsl]];exact o9⟩;have INV9:=QQ inv9;clear inv9 inv2 o9 g9 r1;go_wp2;refine (QG AK4) _ _ ?_;have inv:=(QG INV9);rw [show sb=_ from HSB] at inv;apply (QG HN);exact inv
   | true =>
    go_wp2;refine (QG AK3) _ _ ?_;refine wp_seq_k (fun K4 aK=>?_);have AK4:=QQ aK;clear aK;have hn1:=QQ (QfY wr 1);clear q1;go_wp2_with (at_builtin;refine Qau ?_);unfold Qag;obtain ⟨own,inv⟩:=(QG HO);obtain ⟨hH1,_⟩:=(QG HH);have hal:Below wr.heap.size wr (wr.alloc (.cells #[.int .u8 1] 5)):=(QB _ wr).alloc (QN _) _;have inv2:=inv.grow hal;refine wpList_append_own _ rfl _ _ 22 rfl Hs 5 i0 (.int .u8 0) 1 1 Tryz.underlying22 hi hz0 hz1 hz2 rfl (by decide) _ ((2+16)*4) _ (by rfl) (own.alloc _) ⟨wr.heap.size,0,none⟩ 1 1 [.int .u8 1] (by rfl) rfl hn1 (by simp [Value.oneCell']) (by simp only [maxLen];omega) (by omega) (by simp;omega) ?_;intro v3 w3 o3 g3 _
    have inv3:=inv2.other g3 hH1 hH2 fun b hb=>(own.lt b hb).1
    have o4:w3.ownsRow Hs 5 1 v3 73 (sb.map (Value.int .u8)):=by
     rw [show sb=_ from HSG,List.map_append];exact o3
    obtain ⟨a4,c4,rfl,_⟩:=Qaa o4;have r4:=Qav o4 hsb;have kf:=Qca 13 (by decide) a4 73 c4 sb w3 ⟨r4,hsb⟩ (by omega);have INV1:=QQ inv3;clear hn1 own inv hal inv2 inv3 o3 g3 o4 r4 hH1 HO;go_wp2_with (go_at_call 71;refine Qau ?_);unfold Qag;refine kf.mono ?_;rintro e w5 ⟨v1,rfl,o1,b1⟩;obtain ⟨a1,c1,rfl,_⟩:=Qaa o1;have r1:=Qav o1 (QaW 13 sb hsb (by omega));have inv2:=(QG INV1).grow b1;clear kf o1 b1;go_wp2_with (at_builtin;refine Qau ?_);unfold Qag;refine Qae rfl _ _ 22 rfl (W.heap.size+1) 5 i0 Tryz.underlying22 hi hz0 hz1 hz2 t3 o.length o rfl inv2.own _ (73+5) c1 w5.heap.size (Qa5 13 sb) rfl r1 (by omega) (by have:=inv2.pc.lB;omega) ?_;intro v9 w9 o9 g9 _;have inv9:Qa6 W (p,⟨fa,fc,pa,pc⟩) X B v9 (o++Qa5 13 sb) w9:=⟨inv2.pc.grown g9 fun b hb=>(inv2.own.lt b hb).1,by rw [QL,show (Qa5 13 sb).length=73+5 by rw [QaX,hsl]];exact o9⟩;have INV9:=QQ inv9;clear inv9 inv2 o9 g9 r1;go_wp2;refine (QG AK4) _ _ ?_;have inv:=(QG INV9);rw [show sb=_ from HSB] at inv;apply (QG HN);exact inv
end
end Go.Proofs.YtejcandhijdnhaaGreat
