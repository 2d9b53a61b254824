/- Own texts of this seat, one behind the other, without needless spaces (part 15 of 26). -/
import Derived.Test.YtejcandhijdnhaaGreatMR01
import Derived.Test.YtejcandhijdnhaaGreatMR02
import Derived.Test.YtejcandhijdnhaaGreatMR03
import Derived.Test.YtejcandhijdnhaaGreatMR06
import Derived.Test.YtejcandhijdnhaaGreatMR07
import Derived.Test.YtejcandhijdnhaaGreatMR08
import Derived.Test.YtejcandhijdnhaaGreatMR12
import Derived.Test.YtejcandhijdnhaaGreatMR13
import Derived.Test.YtejcandhijdnhaaGreatMR14
import Derived.OwnWalk
namespace Go.Proofs.YtejcandhijdnhaaGreat
open Go Go.RowKit
set_option linter.unusedVariables false
set_option linter.unusedSimpArgs false
set_option linter.unnecessarySimpa false
set_option maxRecDepth 100000
set_option maxHeartbeats 16000000
section
attribute [local go_sem] QaB QaJ QaA
structure QeM (W:World) (x y:Mem) (s r:Sl5) (X1 X2:Array Value) (B1 B2:Nat) (V:World):Prop where
 h1:X1=(x.cells s).toArray
 h2:X2=(y.cells r).toArray
 e1:V.heap[B1]?=some (.cells X1 29)
 e2:V.heap[B2]?=some (.cells X2 29)
 below:Below W.heap.size W V
 at1:Qb2 W.heap.size W x s
 at2:Qb2 W.heap.size W y r
 him:x.im=y.im
 fine:x.im.Fine
section
variable {W : World} {x y : Mem} {s r : Sl5} {X1 X2 : Array Value} {B1 B2 : Nat} {V V' : World}
theorem QeM.grow (h:QeM W x y s r X1 X2 B1 B2 V) (b:Below V.heap.size V V'):QeM W x y s r X1 X2 B1 B2 V' :=
 ⟨h.h1,h.h2,(b.block _ (QI.1 h.e1).1).trans h.e1,(b.block _ (QI.1 h.e2).1).trans h.e2,h.below.trans (b.mono h.below.size),h.at1,h.at2,h.him,h.fine⟩
theorem QeM.cell1 (h:QeM W x y s r X1 X2 B1 B2 V) {i:Nat} {v:Value} (hv:(x.cells s)[i]?=some v):V.cell? ⟨B1,i,none⟩=some v:=by
 rw [cell_of_row V _ i _ _ _ h.e1,h.h1,List.getElem?_toArray];exact hv
theorem QeM.cell2 (h:QeM W x y s r X1 X2 B1 B2 V) {i:Nat} {v:Value} (hv:(y.cells r)[i]?=some v):V.cell? ⟨B2,i,none⟩=some v:=by
 rw [cell_of_row V _ i _ _ _ h.e2,h.h2,List.getElem?_toArray];exact hv
end
theorem Qcz {x y:Mem} (h:x.im=y.im):x.P.map (·.1)=y.P.map (·.1)∧x.O=y.O∧x.B.map (·.1)=y.B.map (·.1)∧x.F=y.F∧x.K=y.K:=by
 unfold Mem.im at h
 injection h with a b c d e
 exact ⟨a,b,c,d,e⟩
theorem QhS {α β:Type} {f:α→β} {k l:List α} (h:k.map f=l.map f):k.length=l.length:=by have:=congrArg List.length h;simpa using this
theorem Qme {α β:Type} {f:α→β} {k l:List α} (h:k.map f=l.map f) (i:Nat) (h1:i<k.length) (h2:i<l.length):f k[i]=f l[i]:=by
 have:=congrArg (fun z=>z[i]?) h;simpa [List.getElem?_map,List.getElem?_eq_getElem h1,List.getElem?_eq_getElem h2] using this
def SaQ (W:World):Exit→Act→World→Prop:=bodyPost Tryz.prog Tryz.f7 fun e W'=>e=.returned (.bool true)∧Below W.heap.size W W'
def Qic (W:World) (x y:Mem) (s r:Sl5) (X1 X2:Array Value) (B1 B2:Nat) (c:Code):Prop :=
 ∀ (t5 t6 t7 t8 t9 t10 u11 u12 u13 u14 u15 u16 u17 u18 u19 u20 u21 u22 u23 u24 u25 u26 u27 u28 u29 u30 u31 u32 u33 u34 u35 u36 u37 u38 u39 u40 u41 u42 u43 u44 u45 u46 u47 u48 u49 u50 u51 u52 u53 u54 u55 u56 u57 u58 u59 u60 u61 u62 u63 u64 u65 u66 u67 u68 u69 u70 u71 u72 u73 u74 u75 u76 u77 u78 u79 u80 u81 u82 u83 u84 u85 u86 u87 u88 u89 u90 u91 u92 u93 u94 u95 u96 u97 u98 u99 u100 u101 u102 u103 u104 u105 u106 u107 u108 u109 u110 u111 u112 u113 u114 u115 u116 u117 u118 u119 u120 u121 u122 u123 u124 u125 u126 u127 u128 u129 u130 u131 u132 u133 u134 u135 u136 u137 u138 u139 u140 u141 u142 u143 u144 u145 u146 u147 u148 u149 u150 u151 u152 u153 u154 u155 u156 u157 u158 u159 u160 u161 u162 u163 u164 u165 u166 u167 u168 u169 u170 u171 u172 u173 u174 u175 u176 u177 u178 u179:Value) (V:World),QeM W x y s r X1 X2 B1 B2 V→c.wp Tryz.prog (SaQ W) { tmps:=#[.agg X1,.agg X2,.pointer (some ⟨B1,0,none⟩),.pointer (some ⟨B2,0,none⟩),.bool false,t5,t6,t7,t8,t9,t10,u11,u12,u13,u14,u15,u16,u17,u18,u19,u20,u21,u22,u23,u24,u25,u26,u27,u28,u29,u30,u31,u32,u33,u34,u35,u36,u37,u38,u39,u40,u41,u42,u43,u44,u45,u46,u47,u48,u49,u50,u51,u52,u53,u54,u55,u56,u57,u58,u59,u60,u61,u62,u63,u64,u65,u66,u67,u68,u69,u70,u71,u72,u73,u74,u75,u76,u77,u78,u79,u80,u81,u82,u83,u84,u85,u86,u87,u88,u89,u90,u91,u92,u93,u94,u95,u96,u97,u98,u99,u100,u101,u102,u103,u104,u105,u106,u107,u108,u109,u110,u111,u112,u113,u114,u115,u116,u117,u118,u119,u120,u121,u122,u123,u124,u125,u126,u127,u128,u129,u130,u131,u132,u133,u134,u135,u136,u137,u138,u139,u140,u141,u142,u143,u144,u145,u146,u147,u148,u149,u150,u151,u152,u153,u154,u155,u156,u157,u158,u159,u160,u161,u162,u163,u164,u165,u166,u167,u168,u169,u170,u171,u172,u173,u174,u175,u176,u177,u178,u179],defers:=[] } V
theorem Qq4 (W:World) (x y:Mem) (s r:Sl5) (X1 X2:Array Value) (B1 B2:Nat):Qic W x y s r X1 X2 B1 B2 (tl 6 (Tryz.f7.body.getD .skip)):=by
 iterate 175 intro
 intro V h;have H:=QQ h;have hlen:x.K.length=y.K.length:=congrArg List.length (Qcz h.him).2.2.2.2
 have hsm:x.K.length≤20000:=by have:=h.fine.small;simp only [Mem.im,QM] at this;exact this.2.2.2.2
 have HP1:=QQ (fun (V:World) (hV:Below W.heap.size W V) (k:Nat) (hk:k<x.K.length)=>QbP (m:=4) h.at1.K rfl (fun _ _=>rfl) hV k hk);have HP2:=QQ (fun (V:World) (hV:Below W.heap.size W V) (k:Nat) (hk:k<y.K.length)=>QbP (m:=4) h.at2.K rfl (fun _ _=>rfl) hV k hk);clear h;obtain ⟨n,hn⟩:∃ n,n=x.K.length:=⟨_,rfl⟩;rw [← hn] at hsm hlen;have HN:=QQ (QA hn hlen);clear hn hlen
 conv=>arg 2;whnf
 refine wp_seq_k (fun K aK=>?_);have AK:=QQ aK;clear aK;go_wp2;go_loopw [4,10] (fun r0 i  wr=>∃ (k:Nat),r0=.bool false∧i=.int .i64 (k:Int)∧k≤n∧QeM W x y s r X1 X2 B1 B2 wr) (fun _ i  _=>n-(intOf i).toNat)
 case atStart=>exact ⟨0,rfl,rfl,Nat.zero_le _,H⟩
 case round =>
  clear H;obtain ⟨k,rfl,rfl,hk,inv⟩:=hrel;have H:=QQ inv;have c1:=inv.cell1 (i:=4) rfl;have c2:=inv.cell2 (i:=4) rfl;rw [← (QG HN).1] at c1;rw [← (QG HN).2] at c2
  rcases Nat.lt_or_ge k n with hx | hx
  rotate_left
  ·have t1:decide ((k:Int)<(n:Int))=false:=by simp;omega
   clear inv;go_wp2;refine (QG AK) _ _ ?_;go_wp2;go_ret;exact ⟨rfl,(QG H).below⟩
  have t1:decide ((k:Int)<(n:Int))=true:=by simp;omega
  have t0:(k:Int)<(n:Int):=by omega
  have hx1:k<x.K.length:=by rw [← (QG HN).1];exact hx
  have hx2:k<y.K.length:=by rw [← (QG HN).2];exact hx
  obtain ⟨b,off,ha,hbn,e⟩:=(QG HP1) wr inv.below k hx1;obtain ⟨b',off',ha',hbn',e'⟩:=(QG HP2) wr inv.below k hx2;obtain ⟨sa,hsa⟩:∃ sa,sa=s.k.1:=⟨_,rfl⟩;obtain ⟨ra,hra⟩:∃ ra,ra=r.k.1:=⟨_,rfl⟩;obtain ⟨cs,hcs⟩:∃ c,c=s.k.2:=⟨_,rfl⟩;obtain ⟨cr,hcr⟩:∃ c,c=r.k.2:=⟨_,rfl⟩;rw [← hsa] at ha c1;rw [← hra] at ha' c2;rw [← hcs] at c1;rw [← hcr] at c2;have HSA:=QQ (QA hsa (QA hra (QA hcs hcr)));subst ha;subst ha';clear hsa hra hcs hcr;have hsz:=inv.below.size;have l1:=(QI.1 inv.e1).1;have l2:=(QI.1 inv.e2).1;have bD:=QcS wr;have H2:=QQ (inv.grow bD)
  have hq:y.K[k]=x.K[k]:=by simp only [← (Qcz inv.him).2.2.2.2]
  rw [hq] at e';obtain ⟨v,hv⟩:∃ v,v=(Wt.vals x.K[k]).toArray:=⟨_,rfl⟩
  have ne:∀ w,(binOp .neq 80 (.agg v) (.agg v)).run Tryz.prog w=.ok (.bool false) w:=fun w=>by rw [hv];exact QqI _ w
  have HX:=QQ (show ∀ W',Qaz wr.drew W'→W'.cell? ⟨B1,4,none⟩=some (.slice (some ⟨b,off,none⟩) n cs)∧W'.cell? ⟨B2,4,none⟩=some (.slice (some ⟨b',off',none⟩) n cr)∧(loadVar 80 ⟨b,off+k*4,none⟩).run Tryz.prog W'=.ok (.agg v) W'∧(loadVar 80 ⟨b',off'+k*4,none⟩).run Tryz.prog W'=.ok (.agg v) W' from fun W' hW=>by
   have bb:=bD.trans hW;refine ⟨(bb.cell (p:=⟨B1,4,none⟩) l1).trans c1,(bb.cell (p:=⟨B2,4,none⟩) l2).trans c2,?_,?_⟩
   ·rw [hv]
    exact Qa2 W' b (off+k*4) _ (Wt.vals x.K[k]) _ (fun j v hj=>(bb.cell (p:=⟨b,off+k*4+j,none⟩) (by show b<wr.heap.size;omega)).trans (e j v hj)) Tryz.underlying80 rfl QcL
   ·rw [hv]
    exact Qa2 W' b' (off'+k*4) _ (Wt.vals x.K[k]) _ (fun j v hj=>(bb.cell (p:=⟨b',off'+k*4+j,none⟩) (by show b'<wr.heap.size;omega)).trans (e' j v hj)) Tryz.underlying80 rfl QcL)
  clear hv hq;have NE:=QQ ne;clear ne e e' inv bD;go_wp2;clear c1 c2;refine Qas Qaz (by kernel_rfl) 11 rfl ?_;refine Qam [0,1,2,3] (by kernel_rfl) (by kernel_rfl) ?_
  iterate 4
   first
   | (refine Qax (Qaz.pre) rfl (by rfl) (v:=?_) (fun W hW=>?_) (fun K hK=>?_);rotate_left;· (obtain ⟨y1,y2,_⟩:=(QG HX) W hW;go_simp;first | done | rfl))
   | refine Qap (Qaz.pre) rfl (by rfl) (fun K hK=>?_)
   go_simp;refine hK _ ?_;clear hK K
  refine Qaw ?_;refine Qb5 4 (Qaz.pre) rfl (by kernel_rfl) (by kernel_rfl) (by kernel_rfl) (by rfl) (v:=.agg v) (fun W hW=>?_) (fun K hK=>?_)
  ·(exact QbF 80 (.tmp 172) rfl ⟨b,off+k*4,none⟩ rfl ((QG HX) W hW).2.2.1)
  go_simp;refine hK _ ?_;clear hK K;refine Qam [5,6,7,8] (by kernel_rfl) (by kernel_rfl) ?_
  iterate 4
   first
   | (refine Qax (Qaz.pre) rfl (by rfl) (v:=?_) (fun W hW=>?_) (fun K hK=>?_);rotate_left;· (obtain ⟨y1,y2,_⟩:=(QG HX) W hW;go_simp;first | done | rfl))
   | refine Qap (Qaz.pre) rfl (by rfl) (fun K hK=>?_)
   go_simp;refine hK _ ?_;clear hK K
  refine Qaw ?_;refine Qb5 9 (Qaz.pre) rfl (by kernel_rfl) (by kernel_rfl) (by kernel_rfl) (by rfl) (v:=.agg v) (fun W hW=>?_) (fun K hK=>?_)
  ·(exact QbF 80 (.tmp 177) rfl ⟨b',off'+k*4,none⟩ rfl ((QG HX) W hW).2.2.2)
  go_simp;refine hK _ ?_;clear hK K;refine Qb5 10 (Qaz.pre) rfl (by kernel_rfl) (by kernel_rfl) (by kernel_rfl) (by rfl) (v:=.bool false) (fun W hW=>?_) (fun K hK=>?_)
  ·(exact Qji .neq 80 _ (.tmp 173) (.tmp 178) rfl _ (run_eqGuard_agg _ _ _ _ _ _ _ QoT) ((QG NE) _))
  go_simp;refine hK _ ?_;clear hK K;refine QaR (by kernel_rfl) ?_;go_wp2;go_roundw
  case rel=>exact ⟨k+1,rfl,by go_num,by omega,H2⟩
  case measure=>simp [intOf];omega
theorem Qq3 (W:World) (x y:Mem) (s r:Sl5) (X1 X2:Array Value) (B1 B2:Nat):Qic W x y s r X1 X2 B1 B2 (tl 5 (Tryz.f7.body.getD .skip)):=by
 iterate 175 intro
 intro V h;have H:=QQ h;have hlen:x.F.length=y.F.length:=congrArg List.length (Qcz h.him).2.2.2.1
 have hsm:x.F.length≤20000:=by have:=h.fine.small;simp only [Mem.im,QM] at this;exact this.2.2.2.1
 have HP1:=QQ (fun (V:World) (hV:Below W.heap.size W V) (k:Nat) (hk:k<x.F.length)=>QbP (m:=2) h.at1.F rfl (fun _ _=>rfl) hV k hk);have HP2:=QQ (fun (V:World) (hV:Below W.heap.size W V) (k:Nat) (hk:k<y.F.length)=>QbP (m:=2) h.at2.F rfl (fun _ _=>rfl) hV k hk);clear h;obtain ⟨n,hn⟩:∃ n,n=x.F.length:=⟨_,rfl⟩;rw [← hn] at hsm hlen;have HN:=QQ (QA hn hlen);clear hn hlen
 conv=>arg 2;whnf
 refine wp_seq_k (fun K aK=>?_);have AK:=QQ aK;clear aK;go_wp2;go_loopw [4,9] (fun r0 i  wr=>∃ (k:Nat),r0=.bool false∧i=.int .i64 (k:Int)∧k≤n∧QeM W x y s r X1 X2 B1 B2 wr) (fun _ i  _=>n-(intOf i).toNat)
 case atStart=>exact ⟨0,rfl,rfl,Nat.zero_le _,H⟩
 case round =>
  clear H;obtain ⟨k,rfl,rfl,hk,inv⟩:=hrel;have H:=QQ inv;have c1:=inv.cell1 (i:=3) rfl;have c2:=inv.cell2 (i:=3) rfl;rw [← (QG HN).1] at c1;rw [← (QG HN).2] at c2
  rcases Nat.lt_or_ge k n with hx | hx
  rotate_left
  ·have t1:decide ((k:Int)<(n:Int))=false:=by simp;omega
   clear inv;go_wp2;refine (QG AK) _ _ ?_;apply Qq4 W x y s r X1 X2 B1 B2;exact H
  have t1:decide ((k:Int)<(n:Int))=true:=by simp;omega
  have t0:(k:Int)<(n:Int):=by omega
  have hx1:k<x.F.length:=by rw [← (QG HN).1];exact hx
  have hx2:k<y.F.length:=by rw [← (QG HN).2];exact hx
  obtain ⟨b,off,ha,hbn,e⟩:=(QG HP1) wr inv.below k hx1;obtain ⟨b',off',ha',hbn',e'⟩:=(QG HP2) wr inv.below k hx2;obtain ⟨sa,hsa⟩:∃ sa,sa=s.f.1:=⟨_,rfl⟩;obtain ⟨ra,hra⟩:∃ ra,ra=r.f.1:=⟨_,rfl⟩;obtain ⟨cs,hcs⟩:∃ c,c=s.f.2:=⟨_,rfl⟩;obtain ⟨cr,hcr⟩:∃ c,c=r.f.2:=⟨_,rfl⟩;rw [← hsa] at ha c1;rw [← hra] at ha' c2;rw [← hcs] at c1;rw [← hcr] at c2;have HSA:=QQ (QA hsa (QA hra (QA hcs hcr)));subst ha;subst ha';clear hsa hra hcs hcr;have hsz:=inv.below.size;have l1:=(QI.1 inv.e1).1;have l2:=(QI.1 inv.e2).1;have bD:=QcS wr;have H2:=QQ (inv.grow bD)
  have hq:y.F[k]=x.F[k]:=by simp only [← (Qcz inv.him).2.2.2.1]
  rw [hq] at e';obtain ⟨v,hv⟩:∃ v,v=(Qbm x.F[k]).toArray:=⟨_,rfl⟩
  have ne:∀ w,(binOp .neq 76 (.agg v) (.agg v)).run Tryz.prog w=.ok (.bool false) w:=fun w=>by rw [hv];exact QqG _ _ w
  have HX:=QQ (show ∀ W',Qaz wr.drew W'→W'.cell? ⟨B1,3,none⟩=some (.slice (some ⟨b,off,none⟩) n cs)∧W'.cell? ⟨B2,3,none⟩=some (.slice (some ⟨b',off',none⟩) n cr)∧(loadVar 76 ⟨b,off+k*2,none⟩).run Tryz.prog W'=.ok (.agg v) W'∧(loadVar 76 ⟨b',off'+k*2,none⟩).run Tryz.prog W'=.ok (.agg v) W' from fun W' hW=>by
   have bb:=bD.trans hW;refine ⟨(bb.cell (p:=⟨B1,3,none⟩) l1).trans c1,(bb.cell (p:=⟨B2,3,none⟩) l2).trans c2,?_,?_⟩
   ·rw [hv]
    exact Qa2 W' b (off+k*2) _ (Qbm x.F[k]) _ (fun j v hj=>(bb.cell (p:=⟨b,off+k*2+j,none⟩) (by show b<wr.heap.size;omega)).trans (e j v hj)) Tryz.underlying76 rfl Qea
   ·rw [hv]
    exact Qa2 W' b' (off'+k*2) _ (Qbm x.F[k]) _ (fun j v hj=>(bb.cell (p:=⟨b',off'+k*2+j,none⟩) (by show b'<wr.heap.size;omega)).trans (e' j v hj)) Tryz.underlying76 rfl Qea)
  clear hv hq;have NE:=QQ ne;clear ne e e' inv bD;go_wp2;clear c1 c2;refine Qas Qaz (by kernel_rfl) 11 rfl ?_;refine Qam [0,1,2,3] (by kernel_rfl) (by kernel_rfl) ?_
  iterate 4
   first
   | (refine Qax (Qaz.pre) rfl (by rfl) (v:=?_) (fun W hW=>?_) (fun K hK=>?_);rotate_left;· (obtain ⟨y1,y2,_⟩:=(QG HX) W hW;go_simp;first | done | rfl))
   | refine Qap (Qaz.pre) rfl (by rfl) (fun K hK=>?_)
   go_simp;refine hK _ ?_;clear hK K
  refine Qaw ?_;refine Qb5 4 (Qaz.pre) rfl (by kernel_rfl) (by kernel_rfl) (by kernel_rfl) (by rfl) (v:=.agg v) (fun W hW=>?_) (fun K hK=>?_)
  ·(exact QbF 76 (.tmp 154) rfl ⟨b,off+k*2,none⟩ rfl ((QG HX) W hW).2.2.1)
  go_simp;refine hK _ ?_;clear hK K;refine Qam [5,6,7,8] (by kernel_rfl) (by kernel_rfl) ?_
  iterate 4
   first
   | (refine Qax (Qaz.pre) rfl (by rfl) (v:=?_) (fun W hW=>?_) (fun K hK=>?_);rotate_left;· (obtain ⟨y1,y2,_⟩:=(QG HX) W hW;go_simp;first | done | rfl))
   | refine Qap (Qaz.pre) rfl (by rfl) (fun K hK=>?_)
   go_simp;refine hK _ ?_;clear hK K
  refine Qaw ?_;refine Qb5 9 (Qaz.pre) rfl (by kernel_rfl) (by kernel_rfl) (by kernel_rfl) (by rfl) (v:=.agg v) (fun W hW=>?_) (fun K hK=>?_)
  ·(exact QbF 76 (.tmp 159) rfl ⟨b',off'+k*2,none⟩ rfl ((QG HX) W hW).2.2.2)
  go_simp;refine hK _ ?_;clear hK K;refine Qb5 10 (Qaz.pre) rfl (by kernel_rfl) (by kernel_rfl) (by kernel_rfl) (by rfl) (v:=.bool false) (fun W hW=>?_) (fun K hK=>?_)
  ·(exact Qji .neq 76 _ (.tmp 155) (.tmp 160) rfl _ (run_eqGuard_agg _ _ _ _ _ _ _ QoR) ((QG NE) _))
  go_simp;refine hK _ ?_;clear hK K;refine QaR (by kernel_rfl) ?_;go_wp2;go_roundw
  case rel=>exact ⟨k+1,rfl,by go_num,by omega,H2⟩
  case measure=>simp [intOf];omega
theorem Qq2 (W:World) (x y:Mem) (s r:Sl5) (X1 X2:Array Value) (B1 B2:Nat):Qic W x y s r X1 X2 B1 B2 (tl 4 (Tryz.f7.body.getD .skip)):=by
 iterate 175 intro
 intro V h;have H:=QQ h;have hlen:x.B.length=y.B.length:=QhS (Qcz h.him).2.2.1
 have hsm:x.B.length≤20000:=by have:=h.fine.small;simp only [Mem.im,QM] at this;exact this.2.2.1
 have HP1:=QQ (fun (V:World) (hV:Below W.heap.size W V) (k:Nat) (hk:k<x.B.length)=>QbP (m:=3) h.at1.B rfl (fun _ _=>rfl) hV k hk);have HP2:=QQ (fun (V:World) (hV:Below W.heap.size W V) (k:Nat) (hk:k<y.B.length)=>QbP (m:=3) h.at2.B rfl (fun _ _=>rfl) hV k hk);clear h;obtain ⟨n,hn⟩:∃ n,n=x.B.length:=⟨_,rfl⟩;rw [← hn] at hsm hlen;have HN:=QQ (QA hn hlen);clear hn hlen
 conv=>arg 2;whnf
 refine wp_seq_k (fun K aK=>?_);have AK:=QQ aK;clear aK;go_wp2;go_loopw [4,8] (fun r0 i  wr=>∃ (k:Nat),r0=.bool false∧i=.int .i64 (k:Int)∧k≤n∧QeM W x y s r X1 X2 B1 B2 wr) (fun _ i  _=>n-(intOf i).toNat)
 case atStart=>exact ⟨0,rfl,rfl,Nat.zero_le _,H⟩
 case round =>
  clear H;obtain ⟨k,rfl,rfl,hk,inv⟩:=hrel;have H:=QQ inv;have c1:=inv.cell1 (i:=2) rfl;have c2:=inv.cell2 (i:=2) rfl;rw [← (QG HN).1] at c1;rw [← (QG HN).2] at c2
  rcases Nat.lt_or_ge k n with hx | hx
  rotate_left
  ·have t1:decide ((k:Int)<(n:Int))=false:=by simp;omega
   clear inv;go_wp2;refine (QG AK) _ _ ?_;apply Qq3 W x y s r X1 X2 B1 B2;exact H
  have t1:decide ((k:Int)<(n:Int))=true:=by simp;omega
  have t0:(k:Int)<(n:Int):=by omega
  have hx1:k<x.B.length:=by rw [← (QG HN).1];exact hx
  have hx2:k<y.B.length:=by rw [← (QG HN).2];exact hx
  obtain ⟨b,off,ha,hbn,e⟩:=(QG HP1) wr inv.below k hx1;obtain ⟨b',off',ha',hbn',e'⟩:=(QG HP2) wr inv.below k hx2;obtain ⟨sa,hsa⟩:∃ sa,sa=s.b.1:=⟨_,rfl⟩;obtain ⟨ra,hra⟩:∃ ra,ra=r.b.1:=⟨_,rfl⟩;obtain ⟨cs,hcs⟩:∃ c,c=s.b.2:=⟨_,rfl⟩;obtain ⟨cr,hcr⟩:∃ c,c=r.b.2:=⟨_,rfl⟩;rw [← hsa] at ha c1;rw [← hra] at ha' c2;rw [← hcs] at c1;rw [← hcr] at c2;have HSA:=QQ (QA hsa (QA hra (QA hcs hcr)));subst ha;subst ha';clear hsa hra hcs hcr;have hsz:=inv.below.size;have l1:=(QI.1 inv.e1).1;have l2:=(QI.1 inv.e2).1;have bD:=QcS wr;have H2:=QQ (inv.grow bD);have hq:(y.B[k]).1=(x.B[k]).1:=(Qme (Qcz inv.him).2.2.1 k hx1 hx2).symm;have hw1:=inv.at1.pipe x.B[k] (List.getElem_mem hx1);have hw2:=inv.at2.pipe y.B[k] (List.getElem_mem hx2);obtain ⟨⟨⟨zs,rd,wt⟩,⟨q1,q2⟩⟩,hQ⟩:∃ q,q=x.B[k]:=⟨_,rfl⟩;obtain ⟨⟨p',⟨r1,r2⟩⟩,hR⟩:∃ q,q=y.B[k]:=⟨_,rfl⟩;rw [← hQ] at e hq hw1;rw [← hR] at e' hq hw2;simp only at hq;subst hq;have f0:=e 0 _ rfl;have f1:=e 1 _ rfl;have f2:=e 2 _ rfl;have g0:=e' 0 _ rfl;have g1:=e' 1 _ rfl;have g2:=e' 2 _ rfl;simp only [Nat.add_zero] at f0 f1 f2 g0 g1 g2;obtain ⟨m,hm⟩:∃ m,m=zs.length:=⟨_,rfl⟩;simp only at hw1 hw2;rw [← hm] at f0 g0 hw1 hw2;obtain ⟨st,hst⟩:∃ st,st=strOfNums zs:=⟨_,rfl⟩;have hb1:=hw1.below inv.below;have hb2:=hw2.below inv.below
  have HX:=QQ (show ∀ W',Qaz wr.drew W'→(W'.cell? ⟨B1,2,none⟩=some (.slice (some ⟨b,off,none⟩) n cs)∧W'.cell? ⟨B2,2,none⟩=some (.slice (some ⟨b',off',none⟩) n cr)) ∧
    (W'.cell? ⟨b,off+k*3,none⟩=some (.slice q1 m q2)∧W'.cell? ⟨b,off+k*3+1,none⟩=some (.int .i64 rd)∧W'.cell? ⟨b,off+k*3+2,none⟩=some (.int .i64 wt)) ∧
    (W'.cell? ⟨b',off'+k*3,none⟩=some (.slice r1 m r2)∧W'.cell? ⟨b',off'+k*3+1,none⟩=some (.int .i64 rd)∧W'.cell? ⟨b',off'+k*3+2,none⟩=some (.int .i64 wt)) ∧
    (convert 22 9 (.slice q1 m q2)).run Tryz.prog W'=.ok (.string st) W'∧(convert 22 9 (.slice r1 m r2)).run Tryz.prog W'=.ok (.string st) W' from fun W' hW=>by
   have bb:=bD.trans hW
   have hc:∀ (j:Nat),b<wr.heap.size:=fun _=>by omega
   have bw:Below W.heap.size wr W':=bb.mono hsz
   refine ⟨⟨(bb.cell (p:=⟨B1,2,none⟩) l1).trans c1,(bb.cell (p:=⟨B2,2,none⟩) l2).trans c2⟩,
    ⟨(bb.cell (p:=⟨b,off+k*3,none⟩) (by show b<wr.heap.size;omega)).trans f0,(bb.cell (p:=⟨b,off+k*3+1,none⟩) (by show b<wr.heap.size;omega)).trans f1,(bb.cell (p:=⟨b,off+k*3+2,none⟩) (by show b<wr.heap.size;omega)).trans f2⟩,
    ⟨(bb.cell (p:=⟨b',off'+k*3,none⟩) (by show b'<wr.heap.size;omega)).trans g0,(bb.cell (p:=⟨b',off'+k*3+1,none⟩) (by show b'<wr.heap.size;omega)).trans g1,(bb.cell (p:=⟨b',off'+k*3+2,none⟩) (by show b'<wr.heap.size;omega)).trans g2⟩,?_,?_⟩
   ·rw [hst];exact Qdz (P:=Tryz.prog) (hb1.below bw).1 22 5 9 Tryz.underlying22 Tryz.underlying5 Tryz.underlying9
   ·rw [hst];exact Qdz (P:=Tryz.prog) (hb2.below bw).1 22 5 9 Tryz.underlying22 Tryz.underlying5 Tryz.underlying9)
  clear hst hm hb1 hb2 hw1 hw2 f0 f1 f2 g0 g1 g2 e e' hQ hR inv bD;go_wp2;clear c1 c2;refine Qas Qaz (by kernel_rfl) 45 rfl ?_;refine Qam [0,1,2,3,4,5,6,7,8,9,10,11,12,13,14,15,16,17,18,19,20,21,22,23,24,25,26,27,28,29,30,31,32,33,34,35,36,37,38,39,40,41,42,43,44] (by kernel_rfl) (by kernel_rfl) ?_
  iterate 45
   first
   | (refine Qax (Qaz.pre) rfl (by rfl) (v:=?_) (fun W hW=>?_) (fun K hK=>?_);rotate_left;· (obtain ⟨⟨y1,y2⟩,⟨z0,z1,z2⟩,⟨x0,x1,x2⟩,s1,s2⟩:=(QG HX) W hW;go_simp;first | done | rfl))
   | refine Qap (Qaz.pre) rfl (by rfl) (fun K hK=>?_)
   go_simp;refine hK _ ?_;clear hK K
  refine Qaw ?_;refine QaR (by kernel_rfl) ?_;go_wp2;go_roundw
  case rel=>exact ⟨k+1,rfl,by go_num,by omega,H2⟩
  case measure=>simp [intOf];omega
theorem Qq1 (W:World) (x y:Mem) (s r:Sl5) (X1 X2:Array Value) (B1 B2:Nat):Qic W x y s r X1 X2 B1 B2 (tl 3 (Tryz.f7.body.getD .skip)):=by
 iterate 175 intro
 intro V h;have H:=QQ h;have hlen:x.O.length=y.O.length:=congrArg List.length (Qcz h.him).2.1
 have hsm:x.O.length≤20000:=by have:=h.fine.small;simp only [Mem.im,QM] at this;exact this.2.1
 have HP1:=QQ (fun (V:World) (hV:Below W.heap.size W V) (k:Nat) (hk:k<x.O.length)=>QbP (m:=1) h.at1.O rfl (fun _ _=>rfl) hV k hk);have HP2:=QQ (fun (V:World) (hV:Below W.heap.size W V) (k:Nat) (hk:k<y.O.length)=>QbP (m:=1) h.at2.O rfl (fun _ _=>rfl) hV k hk);clear h;obtain ⟨n,hn⟩:∃ n,n=x.O.length:=⟨_,rfl⟩;rw [← hn] at hsm hlen;have HN:=QQ (QA hn hlen);clear hn hlen
 conv=>arg 2;whnf
 refine wp_seq_k (fun K aK=>?_);have AK:=QQ aK;clear aK;go_wp2;go_loopw [4,7] (fun r0 i  wr=>∃ (k:Nat),r0=.bool false∧i=.int .i64 (k:Int)∧k≤n∧QeM W x y s r X1 X2 B1 B2 wr) (fun _ i  _=>n-(intOf i).toNat)
 case atStart=>exact ⟨0,rfl,rfl,Nat.zero_le _,H⟩
 case round =>
  clear H;obtain ⟨k,rfl,rfl,hk,inv⟩:=hrel;have H:=QQ inv;have c1:=inv.cell1 (i:=1) rfl;have c2:=inv.cell2 (i:=1) rfl;rw [← (QG HN).1] at c1;rw [← (QG HN).2] at c2
  rcases Nat.lt_or_ge k n with hx | hx
  rotate_left
  ·have t1:decide ((k:Int)<(n:Int))=false:=by simp;omega
   clear inv;go_wp2;refine (QG AK) _ _ ?_;apply Qq2 W x y s r X1 X2 B1 B2;exact H
  have t1:decide ((k:Int)<(n:Int))=true:=by simp;omega
  have t0:(k:Int)<(n:Int):=by omega
  have hx1:k<x.O.length:=by rw [← (QG HN).1];exact hx
  have hx2:k<y.O.length:=by rw [← (QG HN).2];exact hx
  obtain ⟨b,off,ha,hbn,e⟩:=(QG HP1) wr inv.below k hx1;obtain ⟨b',off',ha',hbn',e'⟩:=(QG HP2) wr inv.below k hx2;obtain ⟨sa,hsa⟩:∃ sa,sa=s.o.1:=⟨_,rfl⟩;obtain ⟨ra,hra⟩:∃ ra,ra=r.o.1:=⟨_,rfl⟩;obtain ⟨cs,hcs⟩:∃ c,c=s.o.2:=⟨_,rfl⟩;obtain ⟨cr,hcr⟩:∃ c,c=r.o.2:=⟨_,rfl⟩;rw [← hsa] at ha c1;rw [← hra] at ha' c2;rw [← hcs] at c1;rw [← hcr] at c2;have HSA:=QQ (QA hsa (QA hra (QA hcs hcr)));subst ha;subst ha';clear hsa hra hcs hcr;have hsz:=inv.below.size;have l1:=(QI.1 inv.e1).1;have l2:=(QI.1 inv.e2).1;have bD:=QcS wr;have H2:=QQ (inv.grow bD)
  have hq:y.O[k]=x.O[k]:=by simp only [← (Qcz inv.him).2.1]
  rw [hq] at e';have f0:=e 0 _ rfl;have g0:=e' 0 _ rfl;rw [Nat.mul_one,Nat.add_zero] at f0 g0;obtain ⟨st,hst⟩:∃ st,st=strOfNums x.O[k]:=⟨_,rfl⟩;rw [← hst] at f0 g0
  have HX:=QQ (show ∀ W',Qaz wr.drew W'→W'.cell? ⟨B1,1,none⟩=some (.slice (some ⟨b,off,none⟩) n cs)∧W'.cell? ⟨B2,1,none⟩=some (.slice (some ⟨b',off',none⟩) n cr)∧W'.cell? ⟨b,off+k,none⟩=some (.string st)∧W'.cell? ⟨b',off'+k,none⟩=some (.string st) from fun W' hW=>by
   have bb:=bD.trans hW
   exact ⟨(bb.cell (p:=⟨B1,1,none⟩) l1).trans c1,(bb.cell (p:=⟨B2,1,none⟩) l2).trans c2,(bb.cell (p:=⟨b,off+k,none⟩) (by show b<wr.heap.size;omega)).trans f0,(bb.cell (p:=⟨b',off'+k,none⟩) (by show b'<wr.heap.size;omega)).trans g0⟩)
  clear hst f0 g0 e e' hq inv bD;go_wp2;clear c1 c2;refine Qas Qaz (by kernel_rfl) 11 rfl ?_;refine Qam [0,1,2,3,4,5,6,7,8,9,10] (by kernel_rfl) (by kernel_rfl) ?_
  iterate 11
   first
   | (refine Qax (Qaz.pre) rfl (by rfl) (v:=?_) (fun W hW=>?_) (fun K hK=>?_);rotate_left;· (obtain ⟨y1,y2,y3,y4⟩:=(QG HX) W hW;go_simp;first | done | rfl))
   | refine Qap (Qaz.pre) rfl (by rfl) (fun K hK=>?_)
   go_simp;refine hK _ ?_;clear hK K
  refine Qaw ?_;refine QaR (by kernel_rfl) ?_;go_wp2;go_roundw
  case rel=>exact ⟨k+1,rfl,by go_num,by omega,H2⟩
  case measure=>simp [intOf];omega
theorem Qq0 (W:World) (x y:Mem) (s r:Sl5) (X1 X2:Array Value) (B1 B2:Nat):Qic W x y s r X1 X2 B1 B2 (tl 2 (Tryz.f7.body.getD .skip)):=by
 iterate 175 intro
 intro V h;have H:=QQ h;have hlen:x.P.length=y.P.length:=QhS (Qcz h.him).1
 have hsm:x.P.length≤20000:=by have:=h.fine.small;simp only [Mem.im,QM] at this;exact this.1
 have HP1:=QQ (fun (V:World) (hV:Below W.heap.size W V) (k:Nat) (hk:k<x.P.length)=>QbP (m:=55) h.at1.P rfl (fun q hq=>Pr.vals_length (h.fine.procs q.1 (List.mem_map.2 ⟨q,hq,rfl⟩)).ok _ _ _ _) hV k hk);have HP2:=QQ (fun (V:World) (hV:Below W.heap.size W V) (k:Nat) (hk:k<y.P.length)=>QbP (m:=55) h.at2.P rfl (fun q hq=>Pr.vals_length (h.fine.procs q.1 (by rw [show x.im.procs=y.P.map (·.1) from (Qcz h.him).1];exact List.mem_map.2 ⟨q,hq,rfl⟩)).ok _ _ _ _) hV k hk);clear h;obtain ⟨n,hn⟩:∃ n,n=x.P.length:=⟨_,rfl⟩;rw [← hn] at hsm hlen;have HN:=QQ (QA hn hlen);clear hn hlen
 conv=>arg 2;whnf
 refine wp_seq_k (fun K aK=>?_);have AK:=QQ aK;clear aK;go_wp2;go_loopw [4,5,6] (fun r0 i _ wr=>∃ (k:Nat),r0=.bool false∧i=.int .i64 (k:Int)∧k≤n∧QeM W x y s r X1 X2 B1 B2 wr) (fun _ i _ _=>n-(intOf i).toNat)
 case atStart=>exact ⟨0,rfl,rfl,Nat.zero_le _,H⟩
 case round =>
  clear H;obtain ⟨k,rfl,rfl,hk,inv⟩:=hrel;have H:=QQ inv;have c1:=inv.cell1 (i:=0) rfl;have c2:=inv.cell2 (i:=0) rfl;rw [← (QG HN).1] at c1;rw [← (QG HN).2] at c2
  rcases Nat.lt_or_ge k n with hx | hx
  rotate_left
  ·have t1:decide ((k:Int)<(n:Int))=false:=by simp;omega
   clear inv;go_wp2;refine (QG AK) _ _ ?_;apply Qq1 W x y s r X1 X2 B1 B2;exact H
  have t1:decide ((k:Int)<(n:Int))=true:=by simp;omega
  have t0:(k:Int)<(n:Int):=by omega
  have hx1:k<x.P.length:=by rw [← (QG HN).1];exact hx
  have hx2:k<y.P.length:=by rw [← (QG HN).2];exact hx
  obtain ⟨b,off,ha,hbn,e⟩:=(QG HP1) wr inv.below k hx1;obtain ⟨b',off',ha',hbn',e'⟩:=(QG HP2) wr inv.below k hx2;obtain ⟨sa,hsa⟩:∃ sa,sa=s.p.1:=⟨_,rfl⟩;obtain ⟨ra,hra⟩:∃ ra,ra=r.p.1:=⟨_,rfl⟩;obtain ⟨cs,hcs⟩:∃ c,c=s.p.2:=⟨_,rfl⟩;obtain ⟨cr,hcr⟩:∃ c,c=r.p.2:=⟨_,rfl⟩;rw [← hsa] at ha c1;rw [← hra] at ha' c2;rw [← hcs] at c1;rw [← hcr] at c2;have HSA:=QQ (QA hsa (QA hra (QA hcs hcr)));subst ha;subst ha';clear hsa hra hcs hcr;have hsz:=inv.below.size;have l1:=(QI.1 inv.e1).1;have l2:=(QI.1 inv.e2).1;have bD:=QcS wr;have hq:(y.P[k]).1=(x.P[k]).1:=(Qme (Qcz inv.him).1 k hx1 hx2).symm;have m1:x.P[k]∈x.P:=List.getElem_mem hx1;have m2:y.P[k]∈y.P:=List.getElem_mem hx2;have hqf:(x.P[k]).1.Fine:=inv.fine.procs _ (List.mem_map.2 ⟨_,m1,rfl⟩);have d1:=(inv.at1.fds _ m1).below (inv.below.trans (bD.mono hsz));have d2:=(inv.at2.fds _ m2).below (inv.below.trans (bD.mono hsz));have d3:=(inv.at1.pages _ m1).below (inv.below.trans (bD.mono hsz));have d4:=(inv.at2.pages _ m2).below (inv.below.trans (bD.mono hsz));obtain ⟨⟨p,s1⟩,hQ⟩:∃ q,q=x.P[k]:=⟨_,rfl⟩;obtain ⟨⟨p',s2⟩,hR⟩:∃ q,q=y.P[k]:=⟨_,rfl⟩;rw [← hQ] at e hq hqf d1 d3;rw [← hR] at e' hq d2 d4;simp only at hq hqf;subst hq;have kt:=QmS p' hqf s1 s2 wr.drew (d1.mono hsz) (d2.mono hsz) (d3.mono hsz) (d4.mono hsz)
  have hi1:(Tryz.prog.info? 54).map (·.size)=some (QaP (p',s1)).length:=by rw [show (QaP (p',s1)).length=55 from Pr.vals_length hqf.ok _ _ _ _];exact QdY
  have hi2:(Tryz.prog.info? 54).map (·.size)=some (QaP (p',s2)).length:=by rw [show (QaP (p',s2)).length=55 from Pr.vals_length hqf.ok _ _ _ _];exact QdY
  obtain ⟨v,hv⟩:∃ v,v=(QaP (p',s1)).toArray:=⟨_,rfl⟩;obtain ⟨v',hv'⟩:∃ v,v=(QaP (p',s2)).toArray:=⟨_,rfl⟩;rw [← hv,← hv'] at kt
  have HX:=QQ (show ∀ W',Qaz wr.drew W'→W'.cell? ⟨B1,0,none⟩=some (.slice (some ⟨b,off,none⟩) n cs)∧W'.cell? ⟨B2,0,none⟩=some (.slice (some ⟨b',off',none⟩) n cr)∧(loadVar 54 ⟨b,off+k*55,none⟩).run Tryz.prog W'=.ok (.agg v) W'∧(loadVar 54 ⟨b',off'+k*55,none⟩).run Tryz.prog W'=.ok (.agg v') W' from fun W' hW=>by
   have bb:=bD.trans hW;refine ⟨(bb.cell (p:=⟨B1,0,none⟩) l1).trans c1,(bb.cell (p:=⟨B2,0,none⟩) l2).trans c2,?_,?_⟩
   ·rw [hv]
    exact Qa2 W' b (off+k*55) _ (QaP (p',s1)) _ (fun j v hj=>(bb.cell (p:=⟨b,off+k*55+j,none⟩) (by show b<wr.heap.size;omega)).trans (e j v hj)) Tryz.underlying54 rfl hi1
   ·rw [hv']
    exact Qa2 W' b' (off'+k*55) _ (QaP (p',s2)) _ (fun j v hj=>(bb.cell (p:=⟨b',off'+k*55+j,none⟩) (by show b'<wr.heap.size;omega)).trans (e' j v hj)) Tryz.underlying54 rfl hi2)
  have HKT:=QQ kt;have HB:=QQ bD;clear kt hi1 hi2 hv hv' d1 d2 d3 d4 hQ hR hqf m1 m2 e e' inv bD;go_wp2;clear c1 c2;refine Qas Qaz (by kernel_rfl) 12 rfl ?_;refine Qam [0,1,2,3] (by kernel_rfl) (by kernel_rfl) ?_
  iterate 4
   first
   | (refine Qax (Qaz.pre) rfl (by rfl) (v:=?_) (fun W hW=>?_) (fun K hK=>?_);rotate_left;· (obtain ⟨y1,y2,_⟩:=(QG HX) W hW;go_simp;first | done | rfl))
   | refine Qap (Qaz.pre) rfl (by rfl) (fun K hK=>?_)
   go_simp;refine hK _ ?_;clear hK K
  refine Qaw ?_;refine Qb5 4 (Qaz.pre) rfl (by kernel_rfl) (by kernel_rfl) (by kernel_rfl) (by rfl) (v:=.agg v) (fun W hW=>?_) (fun K hK=>?_)
  ·(exact QbF 54 (.tmp 64) rfl ⟨b,off+k*55,none⟩ rfl ((QG HX) W hW).2.2.1)
  go_simp;refine hK _ ?_;clear hK K;refine Qam [5,6,7,8] (by kernel_rfl) (by kernel_rfl) ?_
  iterate 4
   first
   | (refine Qax (Qaz.pre) rfl (by rfl) (v:=?_) (fun W hW=>?_) (fun K hK=>?_);rotate_left;· (obtain ⟨y1,y2,_⟩:=(QG HX) W hW;go_simp;first | done | rfl))
   | refine Qap (Qaz.pre) rfl (by rfl) (fun K hK=>?_)
   go_simp;refine hK _ ?_;clear hK K
  refine Qaw ?_;refine Qb5 9 (Qaz.pre) rfl (by kernel_rfl) (by kernel_rfl) (by kernel_rfl) (by rfl) (v:=.agg v') (fun W hW=>?_) (fun K hK=>?_)
  ·(exact QbF 54 (.tmp 69) rfl ⟨b',off'+k*55,none⟩ rfl ((QG HX) W hW).2.2.2)
  go_simp;refine hK _ ?_;clear hK K;refine Qaq 10 rfl (by kernel_rfl) (by rfl) (fun K hK=>?_);go_simp;refine Calls.mono HKT ?_;rintro e9 w3 ⟨rfl,b3⟩;refine ⟨_,rfl,hK _ _ b3 ?_⟩;have H2:=QQ ((QG H).grow ((QG HB).trans b3));clear b3;clear hK K;refine Qal (fun K hK=>?_);go_simp;refine hK _ ?_;clear hK K;refine Qam [11] (by kernel_rfl) (by kernel_rfl) ?_
  iterate 1
   first
   | (refine Qax (Qaz.pre) rfl (by rfl) (v:=?_) (fun W hW=>?_) (fun K hK=>?_);rotate_left;· (go_simp;first | done | rfl))
   | refine Qap (Qaz.pre) rfl (by rfl) (fun K hK=>?_)
   go_simp;refine hK _ ?_;clear hK K
  refine Qaw ?_;refine QaR (by kernel_rfl) ?_;go_wp2;go_roundw
  case rel=>exact ⟨k+1,rfl,by go_num,by omega,H2⟩
  case measure=>simp [intOf];omega
theorem QlP (x y:Mem) (s r:Sl5) (W:World) (at1:Qb2 W.heap.size W x s) (at2:Qb2 W.heap.size W y r) (him:x.im=y.im) (hf:x.im.Fine) :
  Calls Tryz.prog 7 #[.agg (x.cells s).toArray,.agg (y.cells r).toArray] W fun e W'=>e=.returned (.bool true)∧Below W.heap.size W W':=by
 obtain ⟨X1,h1⟩:∃ X,X=(x.cells s).toArray:=⟨_,rfl⟩;obtain ⟨X2,h2⟩:∃ X,X=(y.cells r).toArray:=⟨_,rfl⟩;rw [← h1,← h2];have HH:=QQ (QA h1 (QA h2 (QA at1 (QA at2 (QA him hf)))));clear h1 h2 at1 at2 him hf;go_enter Tryz.func7,Tryz.ntmps7;refine wp_seq_k (fun K aK=>?_);have AK:=QQ aK;clear aK;go_wp2;refine (QG AK) _ _ ?_;clear AK K;refine wp_seq_k (fun K aK=>?_);have AK:=QQ aK;clear aK;obtain ⟨h1,h2,at1,at2,him,hf⟩:=(QG HH);obtain ⟨V1,hV1⟩:∃ V,V=W.alloc (.cells X1 29):=⟨_,rfl⟩;obtain ⟨V,hV⟩:∃ V,V=V1.alloc (.cells X2 29):=⟨_,rfl⟩
 have x1:V1.heap[W.heap.size]?=some (.cells X1 29):=by rw [hV1];exact QW _ _
 have b1:Below W.heap.size W V1:=by rw [hV1];exact (QB _ _).alloc (QN _) _
 have z1:V1.heap.size=W.heap.size+1:=by rw [hV1];simp
 have b2:Below V1.heap.size V1 V:=by rw [hV];exact (QB _ _).alloc (QN _) _
 have x2:V.heap[W.heap.size+1]?=some (.cells X2 29):=by rw [hV,← z1];exact QW _ _
 have H0:QeM W x y s r X1 X2 W.heap.size (W.heap.size+1) V:=⟨h1,h2,(b2.block _ (by omega)).trans x1,x2,b1.trans (b2.mono b1.size),at1,at2,him,hf⟩;rw [← hV1,← hV];have H:=QQ H0;have c0:=H0.cell1 (i:=0) rfl;have d0:=H0.cell2 (i:=0) rfl;rw [← show x.P.length=y.P.length from QhS (Qcz him).1] at d0;have c1:=H0.cell1 (i:=1) rfl;have d1:=H0.cell2 (i:=1) rfl;rw [← show x.O.length=y.O.length from congrArg List.length (Qcz him).2.1] at d1;have c2:=H0.cell1 (i:=2) rfl;have d2:=H0.cell2 (i:=2) rfl;rw [← show x.B.length=y.B.length from QhS (Qcz him).2.2.1] at d2;have c3:=H0.cell1 (i:=3) rfl;have d3:=H0.cell2 (i:=3) rfl;rw [← show x.F.length=y.F.length from congrArg List.length (Qcz him).2.2.2.1] at d3;have c4:=H0.cell1 (i:=4) rfl;have d4:=H0.cell2 (i:=4) rfl;rw [← show x.K.length=y.K.length from congrArg List.length (Qcz him).2.2.2.2] at d4;clear h1 h2 at1 at2 him hf hV hV1 H0 x1 x2 b1 b2 z1;go_wp2;refine (QG AK) _ _ ?_;apply Qq0 W x y s r X1 X2 W.heap.size (W.heap.size+1);exact H
end
def okF:Nat→Forest→Prop
 | _,.nil=>True
 | d,.cons t b k r=>(1≤t∧t≤255)∧(128≤t→b=[]∧d<8∧okF (d+1) k)∧(t<128→k=.nil)∧okF d r
theorem Qee:∀ (f g:Forest) (d:Nat),okF d f→okF d g→okF d (f.app g)
 | .nil,g,d,_,h=>h
 | .cons t b k r,g,d,h,h2=>⟨h.1,h.2.1,h.2.2.1,Qee r g d h.2.2.2 h2⟩
theorem QeH {α:Type} (g:α→Forest) (d:Nat):∀ l:List α,(∀ x∈l,okF d (g x))→okF d (Qay g l)
 | [],_=>trivial
 | x::l,h=>Qee _ _ _ (h x (List.mem_cons_self ..)) (QeH g d l fun y hy=>h y (List.mem_cons_of_mem _ hy))
theorem QeA {α:Type} (g:α→Forest) (m:Nat):∀ l:List α,(∀ x∈l,(g x).layF.length≤m)→(Qay g l).layF.length≤l.length*m
 | [],_=>by simp [Qay,Forest.layF]
 | x::l,h=>by
  have h1:=h x (List.mem_cons_self ..)
  have h2:=QeA g m l fun y hy=>h y (List.mem_cons_of_mem _ hy)
  rw [Qay,Forest.layF_app,QL,List.length_cons,Nat.add_mul];omega
theorem Qbb (t:Int) (b:List Int) (k r:Forest):(Forest.cons t b k r).layF.length=5+(if 128≤t then k.layF.length else b.length)+r.layF.length:=by
 rw [Forest.layF];by_cases h:128≤t
 ·simp only [h,if_true,QL,List.length_cons,List.length_nil]
 ·simp only [h,if_false,QL,List.length_cons,List.length_nil]
theorem Qjr:∀ (f:Forest) (d:Nat),okF d f→f.cnt≤f.layF.length
 | .nil,_,_=>Nat.zero_le _
 | .cons t b k r,d,h=>by
  have hr:=Qjr r d h.2.2.2;rw [Qbb,Forest.cnt];by_cases ht:128≤t
  ·obtain ⟨hb,_,hk⟩:=h.2.1 ht
   have h2:=Qjr k _ hk;rw [if_pos ht,hb,List.length_nil];omega
  ·have hk:=h.2.2.1 (by omega)
   rw [if_neg ht,hk,Forest.cnt];omega
theorem Qgg:∀ (f:Forest) (d:Nat) (n:Int),okF d f→0≤n→n+(f.layF.length:Int)≤1048576→f.sizeL d n=n+(f.layF.length:Int)
 | .nil,d,n,_,_,_=>by simp [Forest.sizeL,Forest.layF]
 | .cons t b k r,d,n,h,h0,hs=>by
  rw [Qbb] at hs;rw [Qbb,Forest.sizeL];by_cases ht:128≤t
  ·obtain ⟨hb,hd,hk⟩:=h.2.1 ht
   rw [if_pos ht] at hs;have hks:=Qgg k (d+1) 0 hk (by decide) (by omega)
   have hi:Forest.innerOf t b k.length d (k.sizeL (d+1) 0)=(k.layF.length:Int):=by unfold Forest.innerOf;rw [if_pos ht,if_pos hd,hks];omega
   have hbad:¬ Forest.bad t b k.length d (k.sizeL (d+1) 0):=by
    unfold Forest.bad;rw [hi,hb,List.length_nil];have:=h.1;omega
   have hr:=Qgg r d (n+(5+(k.layF.length:Int))) h.2.2.2 (by omega) (by omega);simp only [hbad,if_false,hi];rw [if_neg (by omega),if_pos ht,hr];omega
  ·have hk:=h.2.2.1 (by omega)
   subst hk;rw [if_neg ht] at hs
   have hi:Forest.innerOf t b Forest.nil.length d (Forest.nil.sizeL (d+1) 0)=(b.length:Int):=by unfold Forest.innerOf;rw [if_neg ht]
   have hbad:¬ Forest.bad t b Forest.nil.length d (Forest.nil.sizeL (d+1) 0):=by
    unfold Forest.bad;rw [hi,show Forest.nil.length=0 from rfl];have:=h.1;omega
   have hr:=Qgg r d (n+(5+(b.length:Int))) h.2.2.2 (by omega) (by omega);simp only [hbad,if_false,hi];rw [if_neg (by omega),if_neg ht,hr];omega
theorem QnL (p:Pr) (d:Nat):okF d (Qbl p):=by
 unfold Qbl;refine Qee _ _ _ ?_ ?_
 ·simp [Qff,okF]
 ·split
  ·simp [okF]
  ·simp [QkR,okF]
theorem Qhx:∀ (l:List Pg) (n:Int),-1≤n→Qbc n l=true→(l.length:Int)≤63-n∨l=[]
 | [],_,_,_=>.inr rfl
 | m::r,n,hn,h=>by
  unfold Qbc at h;simp only [Bool.and_eq_true,decide_eq_true_eq] at h;left
  rcases Qhx r m.page (by omega) h.2 with h2 | rfl
  ·rw [List.length_cons];omega
  ·simp;omega
theorem Qj5 (p:Pr) (hf:p.Fine) (h:Qbj p=true):(Qbl p).layF.length≤544:=by
 have hcp:=Qd9 hf.ok.1;have hsv:=Qd9 hf.ok.2.1;have hsg:=Qh2 hf.ok.2.2;unfold Qbl;rw [Forest.layF_app,QL]
 have h3:(Qff p).layF.length=39:=by unfold Qff;simp only [Qbb,QaG];rfl
 rw [h3]
 split
 ·rw [Qbb,QaG];simp [Forest.layF]
 ·rename_i hs
  unfold Qbj at h;rw [if_neg hs] at h;unfold Qbq Qci at h;simp only [Bool.and_eq_true,decide_eq_true_eq,beq_iff_eq] at h;have hp:=QfN p.pages
  have hfd:(fdB p.fds).length=8:=by unfold fdB;rw [QM];omega
  have hpg:p.pages.length≤64:=by
   rcases Qhx p.pages (-1) (by decide) h.2.2 with h2 | h2
   ·omega
   ·rw [h2];decide
  unfold QkR;simp only [Qbb,QaG,hcp,hsv,hsg,hfd,hp];simp [Forest.layF];omega
theorem Qc7 {X:Im} (h:Qcb X=true):((1≤X.procs.length∧X.procs.length≤32)∧X.objs.length≤256∧X.pipes.length≤16∧X.files.length≤64∧X.waits.length≤32)∧(∀ p∈X.procs,Qbj p=true)∧(∀ o∈X.objs,o.length=64)∧(∀ p∈X.pipes,QbK p=true)∧(∀ f∈X.files,Qce f=true)∧∀ w∈X.waits,QbU w=true:=by
 unfold Qcb at h;simp only [Bool.and_eq_true,decide_eq_true_eq] at h;obtain ⟨⟨⟨⟨⟨⟨⟨⟨⟨h1,h2⟩,h3⟩,h4⟩,h5⟩,h6⟩,h7⟩,h8⟩,h9⟩,h10⟩:=h;exact ⟨⟨h1,h2,h3,h4,h5⟩,List.all_eq_true.1 h6,fun o ho=>by simpa using List.all_eq_true.1 h7 o ho,List.all_eq_true.1 h8,List.all_eq_true.1 h9,List.all_eq_true.1 h10⟩
theorem Qmh (X:Im):okF 1 (Qb1 X):=by
 unfold Qb1;refine Qee _ _ _ (Qee _ _ _ (Qee _ _ _ (Qee _ _ _ (Qee _ _ _ ?_ (QeH _ _ _ ?_)) (QeH _ _ _ ?_)) (QeH _ _ _ ?_)) (QeH _ _ _ ?_)) (QeH _ _ _ ?_)
 ·simp [okF]
 ·intro o _;simp [QeG,okF]
 ·intro o _;simp [Qct,okF]
 ·intro o _;simp [Qb9,okF]
 ·intro o _
  unfold Qcj;exact ⟨by decide,fun _=>⟨rfl,by decide,QnL o 2⟩,fun h=>absurd h (by decide),trivial⟩
 ·intro o _;simp [Qck,okF]
theorem QhR (X:Im) (hf:X.Fine) (h:Qcb X=true):(Qb1 X).layF.length≤38400:=by
 obtain ⟨⟨h1,h2,h3,h4,h5⟩,h6,h7,h8,h9,h10⟩:=Qc7 h
 have l1:=QeA QeG 69 X.objs fun o ho=>by
  unfold QeG;rw [Qbb,if_neg (by decide),h7 o ho];simp [Forest.layF]
 have l2:=QeA Qct 100 X.pipes fun p hp=>by
  have hb:=h8 p hp;unfold QbK at hb;simp only [Bool.and_eq_true,decide_eq_true_eq] at hb;unfold Qct;simp only [Qbb,QaG];simp [Forest.layF];omega
 have l3:=QeA Qb9 13 X.files fun p hp=>by
  unfold Qb9;rw [Qbb,QaG];simp [Forest.layF]
 have l4:=QeA Qcj 549 X.procs fun p hp=>by
  have:=Qj5 p (hf.procs p hp) (h6 p hp);unfold Qcj;rw [Qbb,if_pos (by decide)];simp [Forest.layF];omega
 have l5:=QeA Qck 21 X.waits fun p hp=>by
  unfold Qck;rw [Qbb,Qe2];simp [Forest.layF]
 have l0:(Forest.cons 1 (Qa7 1) .nil .nil).layF.length=13:=by rw [Qbb,QaG];simp [Forest.layF]
 unfold Qb1;simp only [Forest.layF_app,QL,l0];have m1:=Nat.mul_le_mul_right 69 h2;have m2:=Nat.mul_le_mul_right 100 h3;have m3:=Nat.mul_le_mul_right 13 h4;have m4:=Nat.mul_le_mul_right 549 h1.2;have m5:=Nat.mul_le_mul_right 21 h5;omega
theorem Qn2 (X:Im) (hf:X.Fine) (h:Qcb X=true):(Qb1 X).sizeL 1 0=((Qb1 X).layF.length:Int):=by
 have h1:=QhR X hf h;rw [Qgg (Qb1 X) 1 0 (Qmh X) (by decide) (by omega)];omega
theorem QhU (X:Im) (hf:X.Fine) (h:Qcb X=true):QeI (Qb1 X)=(Qb1 X).layF∧QmP (Qb1 X)=0∧Qa9 1 (QeI (Qb1 X))=some (Qb1 X):=by
 have h1:=Qn2 X hf h
 have h2:QeI (Qb1 X)=(Qb1 X).layF:=by unfold QeI;rw [if_neg (by omega)]
 exact ⟨h2,by unfold QmP;rw [if_neg (by omega)],by rw [h2];exact QhY _ 1 0 (by decide) (by decide) (by omega)⟩
theorem QoD (X:Im) (hf:X.Fine) (h:Qcb X=true):(Qb1 X).cnt≤38400:=Nat.le_trans (Qjr _ 1 (Qmh X)) (QhR X hf h)
def imB (X:Im):Option (List Int):=if Qcb X then some (QeI (Qb1 X)++QaE (Qe3 (QeI (Qb1 X)))) else none
theorem Qo6 (t:Int) (h:0≤t∧t≤255):IntKind.u8.wrap t=t:=by
 show (if (false&&decide (t % (256:Int) ≥ 128))=true then t % 256-256 else t % 256)=_;simp;omega
theorem Qg6 {x:Int} (h:0≤x∧x<4294967296):IntKind.u32.wrap x=x:=by
 show (if (false&&decide (x % (4294967296:Int) ≥ 2147483648))=true then x % 4294967296-4294967296 else x % 4294967296)=_;simp;omega
def QnD (n many:Nat):List Int:=(List.range many).map fun k=>((n / 256 ^ k % 256:Nat):Int)
theorem Qmd (n k:Nat):QnD n (k+1)=QnD n k++[((n / 256 ^ k % 256:Nat):Int)]:=by simp [QnD,List.range_succ]
theorem Qp3 (n:Nat) (h:n<4294967296):QnD n 4=QaE n:=by
 show [((n / 256 ^ 0 % 256:Nat):Int),((n / 256 ^ 1 % 256:Nat):Int),((n / 256 ^ 2 % 256:Nat):Int),((n / 256 ^ 3 % 256:Nat):Int)]=[_,_,_,_];simp only [List.cons.injEq,and_true];omega
theorem Qp4 (n:Nat) (h:n<18446744073709551616):QnD n 8=Qa7 n:=by
 show [((n / 256 ^ 0 % 256:Nat):Int),((n / 256 ^ 1 % 256:Nat):Int),((n / 256 ^ 2 % 256:Nat):Int),((n / 256 ^ 3 % 256:Nat):Int),((n / 256 ^ 4 % 256:Nat):Int),((n / 256 ^ 5 % 256:Nat):Int),((n / 256 ^ 6 % 256:Nat):Int),((n / 256 ^ 7 % 256:Nat):Int)]=[_,_,_,_,_,_,_,_];simp only [List.cons.injEq,and_true];omega
theorem Qja (W:World) (x:Int):∀ j u,[Value.int .u8 x][j]?=some u→(W.alloc (.cells #[.int .u8 x] 5)).cell? ((⟨W.heap.size,0,none⟩:Addr).add j)=some u:=cell_one_new _ _ _
theorem Qhw (n many:Nat) (W:World) (hn:n<18446744073709551616) (hm:many≤8) :
  Calls Tryz.prog 73 #[.int .u64 (n:Int),.int .i64 (many:Int)] W fun e W'=>∃ v,e=.returned v∧W'.ownsRow W.heap.size 5 1 v many ((QnD n many).map (Value.int .u8))∧Below W.heap.size W W':=by
 obtain ⟨i0,hi,hz0,hz1,hz2⟩:=info_parts QbB;go_enter Tryz.func73,Tryz.ntmps73;go_wp2;go_loopw [0,5,6] (fun x v i wr=>∃ (k:Nat),k≤many∧x=.int .u64 ((n / 256 ^ k:Nat):Int)∧i=.int .i64 (k:Int)∧wr.ownsRow W.heap.size 5 1 v k ((QnD n k).map (Value.int .u8))∧Below W.heap.size W wr) (fun _ _ i _=>many-(intOf i).toNat)
 case atStart=>exact ⟨0,by omega,by simp,rfl,World.ownsRow_nil _ _ _ _,QB _ _⟩
 case round =>
  obtain ⟨k,hk,rfl,rfl,hown,hb⟩:=hrel;by_cases hlt:k<many
  ·have t1:decide ((k:Int)<(many:Int))=true:=by simp;omega
   obtain ⟨c,hc⟩:∃ c,c=n / 256 ^ k:=⟨_,rfl⟩
   have hcl:c<18446744073709551616:=by rw [hc];exact Nat.lt_of_le_of_lt (Nat.div_le_self _ _) hn
   have hsn:=Qmd n k
   have hd2:c / 256=n / 256 ^ (k+1):=by rw [hc,Nat.div_div_eq_div_mul,Nat.pow_succ]
   rw [← hc] at hsn ⊢;have HD:=QQ hd2;have HS:=QQ hsn;have hn1:=QQ (Qja wr ((c:Int) % 256));have hbs:=hb.size;clear hc hd2 hsn;go_wp2_with (at_builtin;refine Qau ?_);unfold Qag;refine wpList_append_own _ rfl _ _ 22 rfl W.heap.size 5 i0 (.int .u8 0) 1 1 Tryz.underlying22 hi hz0 hz1 hz2 rfl (by decide) _ k _ (by rfl) (hown.alloc _) ⟨wr.heap.size,0,none⟩ 1 1 [.int .u8 ((c:Int) % 256)] (by rfl) rfl hn1 (by simp [Value.oneCell']) (by simp only [maxLen];omega) (by omega) (by simp;omega) ?_;intro v' w1 hown' hgrow hnil;have hb3:=(hb.alloc hbs (.cells #[.int .u8 ((c:Int) % 256)] 5)).grown hgrow (by simp;omega) (fun g hg=>(hown.lt g hg).1);clear hn1 hnil hgrow;go_wp2;go_roundw
   case rel =>
    have hd2:c / 256=n / 256 ^ (k+1):=HD;have hsn:QnD n (k+1)=QnD n k++[((c % 256:Nat):Int)]:=HS;refine ⟨k+1,by omega,by rw [← hd2];rfl,by go_num,?_,hb3⟩;rw [hsn,List.map_append];exact hown'
   case measure=>simp [intOf];omega
  ·have t1:decide ((k:Int)<(many:Int))=false:=by simp;omega
   obtain rfl:k=many:=by omega
   go_wp2;go_ret;exact ⟨_,rfl,hown,hb⟩
theorem QgN (n:Nat) (W:World) (hn:n<4294967296) :
  Calls Tryz.prog 73 #[.int .u64 (n:Int),.int .i64 4] W fun e W'=>∃ v,e=.returned v∧W'.ownsRow W.heap.size 5 1 v 4 ((QaE n).map (Value.int .u8))∧Below W.heap.size W W':=by
 have h:=Qhw n 4 W (by omega) (by decide);rw [Qp3 n hn] at h;exact h
theorem Qjo (n:Nat) (W:World) (hn:n<18446744073709551616) :
  Calls Tryz.prog 73 #[.int .u64 (n:Int),.int .i64 8] W fun e W'=>∃ v,e=.returned v∧W'.ownsRow W.heap.size 5 1 v 8 ((Qa7 n).map (Value.int .u8))∧Below W.heap.size W W':=by
 have h:=Qhw n 8 W hn (by decide);rw [Qp4 n hn] at h;exact h
def Qa5 (t:Int) (v:List Int):List Int:=[t % 256]++(QaE v.length++v)
theorem Qca (t:Int) (ht:0≤t∧t≤255) (a:Option Addr) (len cap:Nat) (vs:List Int) (W:World) (hr:QaL W.heap.size W (.slice a len cap) vs) (hl:vs.length≤100000) :
  Calls Tryz.prog 71 #[.int .i64 t,.slice a len cap] W fun e W'=>∃ v,e=.returned v∧W'.ownsRow W.heap.size 5 1 v (len+5) ((Qa5 t vs).map (Value.int .u8))∧Below W.heap.size W W':=by
 obtain ⟨i0,hi,hz0,hz1,hz2⟩:=info_parts QbB;have hlen:=hr.1.open.1;have w0:IntKind.u8.wrap t=t:=Qo6 t ht
 have hl1:len≤100000:=by omega
 have kl:=fun V=>QgN len V (by omega)
 have HR:=QQ hr;clear hr;go_enter Tryz.func71,Tryz.ntmps71;go_wp2_with (go_at_call 73;refine Qau ?_);unfold Qag;obtain ⟨V,hV⟩:∃ V,V=W.alloc (.cells #[.int .u8 t] 5):=⟨_,rfl⟩
 have bV:Below W.heap.size W V:=by rw [hV];exact (QB _ _).alloc (QN _) _
 have oV:V.ownsRow W.heap.size 5 1 (.slice (some ⟨W.heap.size,0,none⟩) 1 1) 1 [.int .u8 t]:=by
  rw [hV];exact World.ownsRow_lit (base:=W.heap.size) (e:=5) (size:=1) W #[.int .u8 t] 1 (QN _) (by decide) rfl
 rw [← hV];clear hV;refine (kl V).mono ?_;rintro e w1 ⟨v1,rfl,o1,b1⟩;obtain ⟨a1,c1,rfl,_⟩:=Qaa o1
 have r1:QaL w1.heap.size w1 (.slice a1 4 c1) (QaE len):=QbM o1 (Qb7 _ (by omega)) _ _ fun b hb=>⟨rfl,(o1.lt b hb).2⟩
 have oV1:=Qac (B:=w1) oV fun y hy=>b1.block y (oV.lt y hy).2
 have bW:=bV.trans (b1.mono bV.size);clear kl o1 oV b1 bV;go_wp2_with (at_builtin;refine Qau ?_);unfold Qag;refine Qae rfl _ _ 22 rfl W.heap.size 5 i0 Tryz.underlying22 hi hz0 hz1 hz2 _ 1 [t] rfl oV1 _ 4 c1 w1.heap.size (QaE len) rfl r1.1 (by omega) bW.size ?_;intro v2 w2 o2 g2 _;have b2:Below W.heap.size W w2:=bW.grown g2 bW.size (fun b h=>(oV1.lt b h).1);clear r1 oV1 bW g2;go_wp2_with (at_builtin;refine Qau ?_);unfold Qag;refine Qae rfl _ _ 22 rfl W.heap.size 5 i0 Tryz.underlying22 hi hz0 hz1 hz2 v2 (1+4) ([t]++QaE len) rfl o2 a len cap W.heap.size vs rfl ((QG HR).1.below b2) (by omega) b2.size ?_;intro v3 w3 o3 g3 _;have b3:Below W.heap.size W w3:=b2.grown g3 b2.size (fun b h=>(o2.lt b h).1)
 have e3:Qa5 t vs=([t]++QaE len)++vs:=by unfold Qa5;rw [hlen,show t % 256=t by omega,List.append_assoc]
 rw [← e3,show 1+4+len=len+5 by omega] at o3;clear o2 g3 b2 e3;go_wp2;go_ret;exact ⟨_,rfl,o3,b3⟩
theorem Qlv (t:Int) (ht:0≤t∧t≤255) (n:Nat) (W:World) (hn:n<18446744073709551616) :
  Calls Tryz.prog 70 #[.int .i64 t,.int .u64 (n:Int)] W fun e W'=>∃ v,e=.returned v∧W'.ownsRow W.heap.size 5 1 v 13 ((Qa5 t (Qa7 n)).map (Value.int .u8))∧Below W.heap.size W W':=by
 go_enter Tryz.func70,Tryz.ntmps70;go_wp2_with (go_at_call 73;refine Qau ?_);unfold Qag;refine (Qjo n W hn).mono ?_;rintro e w1 ⟨v1,rfl,o1,b1⟩;obtain ⟨a1,c1,rfl,_⟩:=Qaa o1;have kf:=Qca t ht a1 8 c1 (Qa7 n) w1 (QbM o1 (Qbr n hn) _ _ fun b hb=>⟨rfl,(o1.lt b hb).2⟩) (by rw [QaG];decide);clear o1;go_wp2_with (go_at_call 71;refine Qau ?_);unfold Qag;refine kf.mono ?_;rintro e w2 ⟨v2,rfl,o2,b2⟩
 have o3:=QaI o2 b1.size fun _ _=>rfl
 have b3:=b1.trans (b2.mono b1.size);clear kf o2 b1 b2;go_wp2;go_ret;exact ⟨_,rfl,o3,b3⟩
theorem Qq {m k:Nat} (h:m≤k):(256:Int) ^ m≤256 ^ k:=by
 have e2:(256:Nat) ^ m≤256 ^ k:=Nat.pow_le_pow_right (by decide) h;have e3:=Int.ofNat_le.2 e2;rw [Int.natCast_pow,Int.natCast_pow] at e3;exact e3
def atB (bs:List Int) (j many:Nat):Int:=Qek ((bs.drop j).take (min many 7))
def atK (bs:List Int) (j many k:Nat):Int:=Qek (((bs.drop j).take (min many 7)).drop k)
theorem Qm8 (bs:List Int) (j many k:Nat) (h:j+k<bs.length) (hm:k<many) (h7:k<7):atK bs j many k=atK bs j many (k+1)*256+bs.getD (j+k) 0:=by
 unfold atK
 have hl:k<((bs.drop j).take (min many 7)).length:=by rw [List.length_take,List.length_drop];omega
 rw [List.drop_eq_getElem_cons hl,Qek,List.getElem_take,List.getElem_drop];rw [show bs.getD (j+k) 0=bs[j+k] from by simp [List.getD,List.getElem?_eq_getElem h]];omega
theorem Qgt (bs:List Int) (j many k:Nat) (h:bs.length≤j+k∨many≤k∨7≤k):atK bs j many k=0:=by
 unfold atK;rw [List.drop_of_length_le (by rw [List.length_take,List.length_drop];omega)];rfl
theorem Qhi (bs:List Int) (hz:∀ z∈bs,0≤z∧z≤255) (j many k:Nat):0≤atK bs j many k∧atK bs j many k<256 ^ (7-k):=by
 unfold atK
 have h:=QdT (((bs.drop j).take (min many 7)).drop k) fun z hz'=>hz z (List.mem_of_mem_drop (List.mem_of_mem_take (List.mem_of_mem_drop hz')))
 refine ⟨h.1,Int.lt_of_lt_of_le h.2 ?_⟩
 have e:(((bs.drop j).take (min many 7)).drop k).length≤7-k:=by rw [List.length_drop,List.length_take];omega
 exact Qq e
theorem QjM (bs:List Int) (j many:Nat):atK bs j many 0=atB bs j many:=rfl
theorem Qhh {bs:List Int} (hz:∀ z∈bs,0≤z∧z≤255) (j many:Nat):0≤atB bs j many∧atB bs j many<72057594037927936:=by
 have h:=Qhi bs hz j many 0;rw [QjM] at h
 have e:(256:Int) ^ (7-0)=72057594037927936:=by decide
 omega
theorem Qpf {bs:List Int} (hz:∀ z∈bs,0≤z∧z≤255) (j many:Nat):atB bs j many<256 ^ many:=by
 have h:=QdT ((bs.drop j).take (min many 7)) fun z hz'=>hz z (List.mem_of_mem_drop (List.mem_of_mem_take hz'))
 refine Int.lt_of_lt_of_le h.2 ?_
 have e:((bs.drop j).take (min many 7)).length≤many:=by rw [List.length_take,List.length_drop];omega
 exact Qq e
theorem QjN (a:Option Addr) (len cap:Nat) (bs:List Int) (W:World) (hr:QaL W.heap.size W (.slice a len cap) bs) (hl:bs.length≤100000) (j many:Nat) (hj:j≤100000) (hm:many≤8) :
  Calls Tryz.prog 26 #[.slice a len cap,.int .i64 (j:Int),.int .i64 (many:Int)] W fun e W'=>e=.returned (.int .i64 (atB bs j many))∧W'=W:=by
 obtain ⟨hlen,b,off,hopen,hc⟩:=hr.1.open;subst hlen;have hz:=hr.2;clear hr;go_enter Tryz.func26,Tryz.ntmps26;go_wp2;go_loopw [7,8] (fun x i wr=>∃ (k:Nat),k≤many∧i=.int .i64 ((k:Int)-1)∧x=.int .i64 (atK bs j many k)∧W=wr) (fun _ i _=>(intOf i+1).toNat)
 case atStart=>exact ⟨many,QN _,rfl,by rw [Qgt _ _ _ _ (by omega)],rfl⟩
 case round =>
  obtain ⟨k,hk,rfl,rfl,rfl⟩:=hrel;by_cases h0:k=0
  ·subst h0
   rw [QjM];go_wp2;go_ret;exact ⟨rfl,rfl⟩
  ·obtain ⟨i,rfl⟩:∃ i,k=i+1:=⟨k-1,by omega⟩
   have e1:((i+1:Nat):Int)-1=(i:Int):=by omega
   rw [e1]
   have t1:decide ((0:Int)≤(i:Int))=true:=by simp
   by_cases h1:j+i<bs.length
   rotate_left
   ·have t2:decide ((j:Int)+(i:Int)<(bs.length:Int))=false:=by simp;omega
    have hA:atK bs j many (i+1)=atK bs j many i:=by rw [Qgt _ _ _ _ (by omega),Qgt _ _ _ _ (by omega)]
    have HA:=QQ hA;clear hA e1 h1 hc hopen hz h0;go_wp2;go_roundw
    case rel=>exact ⟨i,by omega,rfl,by rw [show atK bs j many (i+1)=atK bs j many i from HA],trivial⟩
    case measure=>simp [intOf]
   have t2:decide ((j:Int)+(i:Int)<(bs.length:Int))=true:=by simp;omega
   by_cases h7:i<7
   rotate_left
   ·have t3:decide ((i:Int)<7)=false:=by simp;omega
    have hA:atK bs j many (i+1)=atK bs j many i:=by rw [Qgt _ _ _ _ (by omega),Qgt _ _ _ _ (by omega)]
    have HA:=QQ hA;clear hA e1 h1 hc hopen hz h0 h7;go_wp2;go_roundw
    case rel=>exact ⟨i,by omega,rfl,by rw [show atK bs j many (i+1)=atK bs j many i from HA],trivial⟩
    case measure=>simp [intOf]
   have t3:decide ((i:Int)<7)=true:=by simp;omega
   obtain ⟨rfl,hbn,_,_⟩:=hopen (by omega);have hck:=hc (j+i) h1;have hA:=Qm8 bs j many i h1 (by omega) h7;have hB:=Qhi bs hz j many (i+1)
   have hB2:(256:Int) ^ (7-(i+1))≤281474976710656:=by
    have h6:=Qq (show 7-(i+1)≤6 by omega)
    have e6:(256:Int) ^ 6=281474976710656:=by decide
    omega
   have hx:0≤bs.getD (j+i) 0∧bs.getD (j+i) 0≤255:=by
    rw [show bs.getD (j+i) 0=bs[j+i] from by simp [List.getD,List.getElem?_eq_getElem h1]];exact hz _ (List.getElem_mem h1)
   obtain ⟨x,hxx⟩:∃ x,x=bs.getD (j+i) 0:=⟨_,rfl⟩;obtain ⟨y,hyy⟩:∃ y,y=atK bs j many (i+1):=⟨_,rfl⟩;rw [← hxx] at hck hA hx;rw [← hyy] at hA hB
   have hy:0≤y∧y<281474976710656:=by omega
   rw [← hyy];have HA:=QQ hA
   have hji:j+i≤200000:=by omega
   clear hA hB hB2 hxx hyy e1 hc hopen hz h0;go_wp2;go_roundw
   case rel=>exact ⟨i,by omega,rfl,by rw [show atK bs j many i=y*256+x from HA],trivial⟩
   case measure=>simp [intOf]
def Qcy (f:Forest) (tag:Int):Int:=atB (Qao (Qah f tag 0)) 0 8
theorem Qk1 {W w1:World} {r:Option (List Int × Forest)} {tag:Int} {e:Ending} (h:QcD W r tag e w1) :
  Below W.heap.size W w1∧∃ (t:Int) (a1:Option Addr) (l1 c1:Nat) (ka:Option Addr) (kl kc:Nat) (ok:Bool),e=.returned (.tuple #[.agg #[.int .i64 t,.slice a1 l1 c1,.slice ka kl kc],.bool ok])∧QaL w1.heap.size w1 (.slice a1 l1 c1) (Qao r)∧(Qao r).length≤20000:=by
 obtain ⟨b1,F1⟩:=h;refine ⟨b1,?_⟩
 cases r with
 | none=>exact ⟨0,none,0,0,none,0,0,false,F1,Qdu _ _,by simp [Qao]⟩
 | some p =>
  obtain ⟨bs,k⟩:=p;obtain ⟨a1,l1,c1,ka,kl,kc,rfl,F2⟩:=F1;exact ⟨tag,a1,l1,c1,ka,kl,kc,true,rfl,F2.row,by have:=F2.small;show bs.length≤_;omega⟩
theorem Qgl (f:Forest) (hcnt:f.cnt≤20000) (a:Option Addr) (len cap:Nat) (W:World) (h:SlF W.heap.size W a len cap f) (tag:Int) :
  Calls Tryz.prog 25 #[.slice a len cap,.int .i64 tag] W fun e W'=>e=.returned (.int .i64 (Qcy f tag))∧Below W.heap.size W W':=by
 have kf:=QmA f W W.heap.size (QN _) a len cap h hcnt tag 0;clear h;unfold Qcy;obtain ⟨r,hr⟩:∃ r,r=Qah f tag 0:=⟨_,rfl⟩;rw [← hr] at kf ⊢;clear hr;obtain ⟨bs,hbs⟩:∃ bs,bs=Qao r:=⟨_,rfl⟩;rw [← hbs];have HBS:=QQ hbs;clear hbs;go_enter Tryz.func25,Tryz.ntmps25;go_wp2_with (go_at_call 24;refine Qau ?_);unfold Qag;refine Calls.mono kf ?_;rintro e w1 F1;obtain ⟨b1,t,a1,l1,c1,ka,kl,kc,ok,rfl,hrow,hbl⟩:=Qk1 F1;rw [← (QG HBS)] at hrow hbl;clear F1;go_wp2_with ((fail_if_success (unfold Qag));refine Qan (t:=66) rfl ?_);unfold Qag;refine Qab rfl 66 (.tmp 5) (.tmp 11) rfl w1.heap.size #[.int .i64 t,.slice a1 l1 c1,.slice ka kl kc] rfl rfl 66 zT (QW _ _) QbO rfl (QaS ..) ?_;rw [World.setRow_alloc_new];obtain ⟨V,hV⟩:∃ V,V=w1.alloc (.cells #[.int .i64 t,.slice a1 l1 c1,.slice ka kl kc] 66):=⟨_,rfl⟩
 have e5:V.heap[w1.heap.size]?=some (.cells #[.int .i64 t,.slice a1 l1 c1,.slice ka kl kc] 66):=by rw [hV];exact QW _ _
 have bV:Below w1.heap.size w1 V:=by rw [hV];exact (QB _ _).alloc (QN _) _
 rw [← hV]
 have q1:V.cell? ⟨w1.heap.size,1,none⟩=some (.slice a1 l1 c1):=by rw [cell_of_row V _ 1 _ _ _ e5];rfl
 have B2:=b1.trans (bV.mono b1.size);have ka:=QjN a1 l1 c1 bs V ((hrow.below bV).mono bV.size) (by omega) 0 8 (by decide) (by decide);clear hV e5 bV b1 hrow kf;go_wp2_with (go_at_call 26;refine Qau ?_);unfold Qag;refine Calls.mono ka ?_;rintro e w2 ⟨rfl,rfl⟩;clear ka q1;go_wp2;go_ret;exact ⟨rfl,B2⟩
theorem Qpt:fl 524287=4692750794540187648:=by decide
theorem QoA (t:TypeId) (a b:Nat):binOp .neq t (.float .f64 a) (.float .f64 b)=Op.floatCmp .neq .f64 a b:=rfl
theorem Qoz (t:TypeId) (a b:Nat):binOp .gtr t (.float .f64 a) (.float .f64 b)=Op.floatCmp .gtr .f64 a b:=rfl
theorem Qin (n:Int) (hn:-524288≤n∧n<524288) (W:World) :
  Calls Tryz.prog 137 #[.float .f64 (fl n)] W fun e W'=>e=.returned (.tuple #[.int .i64 n,.bool true])∧W'=W:=by
 have hs:n.natAbs<2 ^ 40:=by omega
 have c1:=fun w=>(QoA 191 (fl n) (fl n))▸Qgy .neq n n hs hs false w (.inr (.inr (.inr (.inr ⟨rfl,by simp⟩))))
 have c2:=fun w=>(Qln 191 (fl n) (fl (-524288)))▸Qgy .lss n (-524288) hs (by decide) false w (.inr (.inl ⟨rfl,by simp;omega⟩))
 have c3:=fun w=>(Qoz 191 (fl n) (fl 524287))▸Qgy .gtr n 524287 hs (by decide) false w (.inr (.inr (.inl ⟨rfl,by simp;omega⟩)))
 have c4:=fun w=>(Qlm 191 (fl n) (fl n))▸Qgy .eql n n hs hs true w (.inr (.inr (.inr (.inl ⟨rfl,by simp⟩))))
 have v1:=fun w=>QoH n hs w
 have v2:=fun w=>Qnl n w
 have o1:(FloatKind.f64.format.order (fl n) (fl n) != some .eq)=false:=by rw [show FloatKind.f64.format.order (fl n) (fl n)=some (compare n n) from QjV n n hs hs];simp
 have o2:(FloatKind.f64.format.order (fl n) (fl (-524288)) == some .lt)=false:=by
  rw [show FloatKind.f64.format.order (fl n) (fl (-524288))=some (compare n (-524288)) from QjV n (-524288) hs (by decide)]
  have:compare n (-524288)≠.lt:=fun h=>by have:=Int.compare_eq_lt.1 h;omega
  simpa using this
 have o3:(FloatKind.f64.format.order (fl n) (fl 524287) == some .gt)=false:=by
  rw [show FloatKind.f64.format.order (fl n) (fl 524287)=some (compare n 524287) from QjV n 524287 hs (by decide)]
  have:compare n 524287≠.gt:=fun h=>by have:=Int.compare_eq_gt.1 h;omega
  simpa using this
 have o4:(FloatKind.f64.format.order (fl n) (fl n) == some .eq)=true:=by rw [show FloatKind.f64.format.order (fl n) (fl n)=some (compare n n) from QjV n n hs hs];simp
 rw [Qoh] at c2 o2;rw [Qpt] at c3 o3;obtain ⟨a,ha⟩:∃ a,a=fl n:=⟨_,rfl⟩;rw [← ha] at c1 c2 c3 c4 v1 o1 o2 o3 o4 ⊢
 have v3:∀ w,(convert 2 191 (.int .i64 n)).run Tryz.prog w=.ok (.float .f64 a) w:=by rw [ha];exact v2
 clear ha v2 hs hn;go_enter Tryz.func137,Tryz.ntmps137;go_wp2;go_ret2;exact ⟨rfl,rfl⟩
theorem QfF (n m:Int) (hn:-524288≤n∧n<524288) (hm:-524288≤m∧m<524288) (W:World) :
  Calls Tryz.prog 131 #[.complex .f64 (fl n) (fl m)] W fun e W'=>e=.returned (.tuple #[.int .i64 n,.int .i64 m,.bool true])∧W'=W:=by
 have k1:=fun w=>Qin n hn w
 have k2:=fun w=>Qin m hm w
 obtain ⟨a,ha⟩:∃ a,a=fl n:=⟨_,rfl⟩;obtain ⟨b,hb⟩:∃ b,b=fl m:=⟨_,rfl⟩;rw [← ha] at k1;rw [← hb] at k2;rw [← ha,← hb]
 have r1:=fun w t u=>Qh0 a b w t u
 have r2:=fun w t u=>QhZ a b w t u
 clear ha hb hn hm;go_enter Tryz.func131,Tryz.ntmps131;go_wp2_with (go_at_call 137;refine Qau ?_);unfold Qag;refine (k1 _).mono ?_;rintro e w ⟨rfl,hw⟩;subst hw;dsimp only;go_wp2_with (go_at_call 137;refine Qau ?_);unfold Qag;refine (k2 _).mono ?_;rintro e w ⟨rfl,hw⟩;subst hw;dsimp only;go_wp2;go_ret3;exact ⟨rfl,rfl⟩
theorem Qip (n:Int) (h1:-9223372036854775808≤n) (h2:n≤9223372036854775807) (W:World) :
  Calls Tryz.prog 130 #[.int .i64 n] W fun e W'=>e=.returned (.int .i64 (Qd n))∧W'=W:=by
 obtain ⟨m,hm⟩:∃ m,m=n.tmod 1048576:=⟨_,rfl⟩;have hb:=QeZ n
 have hw:Qd n=if (if m<0 then m+1048576 else m) ≥ 524288 then (if m<0 then m+1048576 else m)-1048576 else (if m<0 then m+1048576 else m):=by
  unfold Qd;rw [← hm];rw [← hm] at hb;by_cases h0:m<0
  ·simp only [h0,if_true]
   by_cases h3:m < -524288
   ·rw [if_neg (by omega),if_pos h3,if_neg (by omega)]
   ·rw [if_neg (by omega),if_neg h3,if_pos (by omega)];omega
  ·simp only [h0,if_false]
   by_cases h3:524288≤m
   ·rw [if_pos h3,if_pos (by omega)]
   ·rw [if_neg h3,if_neg (by omega),if_neg (by omega)]
 rw [← hm] at hb;obtain ⟨R,hR⟩:∃ R,R=Qd n:=⟨_,rfl⟩;rw [← hR] at hw ⊢;clear hR;replace hm:=hm.symm;go_enter Tryz.func130,Tryz.ntmps130;by_cases h0:m<0
 ·have t1:decide (m<0)=true:=by simpa using h0
  by_cases h3:m+1048576 ≥ 524288
  ·have t2:decide (524288≤m+1048576)=true:=by simp;omega
   have e:R=m:=by rw [hw,if_pos h0,if_pos h3];omega
   clear hw;subst e;go_wp2;go_ret;exact ⟨by congr 2,rfl⟩
  ·have t2:decide (524288≤m+1048576)=false:=by simp;omega
   have e:R=m+1048576:=by rw [hw,if_pos h0,if_neg h3]
   clear hw;subst e;go_wp2;go_ret;exact ⟨rfl,rfl⟩
 ·have t1:decide (m<0)=false:=by simpa using h0
  by_cases h3:m ≥ 524288
  ·have t2:decide (524288≤m)=true:=by simp;omega
   have e:R=m-1048576:=by rw [hw,if_neg h0,if_pos h3]
   clear hw;subst e;go_wp2;go_ret;exact ⟨rfl,rfl⟩
  ·have t2:decide (524288≤m)=false:=by simp;omega
   have e:R=m:=by rw [hw,if_neg h0,if_neg h3]
   clear hw;subst e;go_wp2;go_ret;exact ⟨rfl,rfl⟩
theorem QlK (n m:Int) (h1:-9223372036854775808≤n∧n≤9223372036854775807) (h2:-9223372036854775808≤m∧m≤9223372036854775807) (W:World) :
  Calls Tryz.prog 118 #[.int .i64 n,.int .i64 m] W fun e W'=>e=.returned (.complex .f64 (fl (Qd n)) (fl (Qd m)))∧W'=W:=by
 have k1:=fun w=>Qip n h1.1 h1.2 w
 have k2:=fun w=>Qip m h2.1 h2.2 w
 have v1:=fun w=>Qnl (Qd n) w
 have v2:=fun w=>Qnl (Qd m) w
 have cx:=fun w t u=>Qg0 (fl (Qd n)) (fl (Qd m)) w t u
 obtain ⟨x,hx⟩:∃ x,x=Qd n:=⟨_,rfl⟩;obtain ⟨y,hy⟩:∃ y,y=Qd m:=⟨_,rfl⟩;rw [← hx] at k1 v1 cx ⊢;rw [← hy] at k2 v2 cx ⊢;obtain ⟨a,ha⟩:∃ a,a=fl x:=⟨_,rfl⟩;obtain ⟨b,hb⟩:∃ b,b=fl y:=⟨_,rfl⟩;rw [← ha] at v1 cx ⊢;rw [← hb] at v2 cx ⊢;clear ha hb hx hy;go_enter Tryz.func118,Tryz.ntmps118;go_wp2_with (go_at_call 130;refine Qau ?_);unfold Qag;refine (k1 _).mono ?_;rintro e w ⟨rfl,hw⟩;subst hw;go_wp2_with (go_at_call 130;refine Qau ?_);unfold Qag;refine (k2 _).mono ?_;rintro e w ⟨rfl,hw⟩;subst hw;go_wp2;go_ret;exact ⟨rfl,rfl⟩
theorem QlI (x y:Int) (h1:0≤x∧x<4294967296) (h2:0≤y∧y<4294967296) (W:World) :
  Calls Tryz.prog 99 #[.int .u32 x,.int .u32 y] W fun e W'=>e=.returned (.complex .f64 (fl (wrN x)) (fl (wrN y)))∧W'=W:=by
 obtain ⟨a,ha⟩:∃ a,QeO x=a:=⟨_,rfl⟩;obtain ⟨b,hb⟩:∃ b,QeO y=b:=⟨_,rfl⟩
 have b1:-2147483648≤a∧a<2147483648:=by rw [← ha];unfold QeO;split <;> omega
 have b2:-2147483648≤b∧b<2147483648:=by rw [← hb];unfold QeO;split <;> omega
 have k:=fun w=>QlK a b (by omega) (by omega) w
 unfold wrN;rw [ha,hb];obtain ⟨P,hP⟩:∃ P,P=fl (Qd a):=⟨_,rfl⟩;obtain ⟨Q,hQ⟩:∃ Q,Q=fl (Qd b):=⟨_,rfl⟩;rw [← hP,← hQ] at k;rw [← hP,← hQ];unfold QeO at ha hb;clear hP hQ;go_enter Tryz.func99,Tryz.ntmps99;by_cases c1:2147483648≤x
 ·have t1:decide (2147483648≤x)=true:=by simpa using c1
  rw [if_pos c1] at ha;subst ha;by_cases c2:2147483648≤y
  ·have t2:decide (2147483648≤y)=true:=by simpa using c2
   rw [if_pos c2] at hb;subst hb;go_wp2_with (go_at_call 118;refine (k _).mono ?_;rintro e w ⟨rfl,hw⟩;subst hw);go_ret;exact ⟨rfl,rfl⟩
  ·have t2:decide (2147483648≤y)=false:=by simpa using c2
   rw [if_neg c2] at hb;subst hb;go_wp2_with (go_at_call 118;refine (k _).mono ?_;rintro e w ⟨rfl,hw⟩;subst hw);go_ret;exact ⟨rfl,rfl⟩
 ·have t1:decide (2147483648≤x)=false:=by simpa using c1
  rw [if_neg c1] at ha;subst ha;by_cases c2:2147483648≤y
  ·have t2:decide (2147483648≤y)=true:=by simpa using c2
   rw [if_pos c2] at hb;subst hb;go_wp2_with (go_at_call 118;refine (k _).mono ?_;rintro e w ⟨rfl,hw⟩;subst hw);go_ret;exact ⟨rfl,rfl⟩
  ·have t2:decide (2147483648≤y)=false:=by simpa using c2
   rw [if_neg c2] at hb;subst hb;go_wp2_with (go_at_call 118;refine (k _).mono ?_;rintro e w ⟨rfl,hw⟩;subst hw);go_ret;exact ⟨rfl,rfl⟩
theorem QkG (n m:Int) (hn:-524288≤n∧n<524288) (hm:-524288≤m∧m<524288) (W:World) :
  Calls Tryz.prog 122 #[.complex .f64 (fl n) (fl m)] W fun e W'=>e=.returned (.tuple #[.int .u32 (n % 4294967296),.int .u32 (m % 4294967296)])∧W'=W:=by
 have k:=QfF n m hn hm W;obtain ⟨a,ha⟩:∃ a,a=fl n:=⟨_,rfl⟩;obtain ⟨b,hb⟩:∃ b,b=fl m:=⟨_,rfl⟩;rw [← ha,← hb] at k ⊢;clear ha hb;go_enter Tryz.func122,Tryz.ntmps122;by_cases c1:n<0
 ·have t1:decide (n<0)=true:=by simpa using c1
  have w1:n % 4294967296=n+4294967296:=by omega
  by_cases c2:m<0
  ·have t2:decide (m<0)=true:=by simpa using c2
   have w2:m % 4294967296=m+4294967296:=by omega
   rw [w1,w2];clear w1 w2;go_wp2_with (go_at_call 131;refine k.mono ?_;rintro e w ⟨rfl,hw⟩;subst hw;dsimp only);go_ret2;exact ⟨rfl,rfl⟩
  ·have t2:decide (m<0)=false:=by simpa using c2
   have w2:m % 4294967296=m:=by omega
   rw [w1,w2];clear w1 w2;go_wp2_with (go_at_call 131;refine k.mono ?_;rintro e w ⟨rfl,hw⟩;subst hw;dsimp only);go_ret2;exact ⟨rfl,rfl⟩
 ·have t1:decide (n<0)=false:=by simpa using c1
  have w1:n % 4294967296=n:=by omega
  by_cases c2:m<0
  ·have t2:decide (m<0)=true:=by simpa using c2
   have w2:m % 4294967296=m+4294967296:=by omega
   rw [w1,w2];clear w1 w2;go_wp2_with (go_at_call 131;refine k.mono ?_;rintro e w ⟨rfl,hw⟩;subst hw;dsimp only);go_ret2;exact ⟨rfl,rfl⟩
  ·have t2:decide (m<0)=false:=by simpa using c2
   have w2:m % 4294967296=m:=by omega
   rw [w1,w2];clear w1 w2;go_wp2_with (go_at_call 131;refine k.mono ?_;rintro e w ⟨rfl,hw⟩;subst hw;dsimp only);go_ret2;exact ⟨rfl,rfl⟩
theorem Qlj (a:Option Addr) (len cap:Nat) (bs:List Int) (W:World) (hr:QaL W.heap.size W (.slice a len cap) bs) (hl:bs.length≤100000) (J:Int) (j:Nat) (hJ:J=(j:Int)) (M:Int) (many:Nat) (hM:M=(many:Int)) (hj:j≤100000) (hm:many≤8) :
  Calls Tryz.prog 26 #[.slice a len cap,.int .i64 J,.int .i64 M] W fun e W'=>e=.returned (.int .i64 (atB bs j many))∧W'=W:=by
 subst hJ hM;exact QjN a len cap bs W hr hl j many hj hm
theorem Qbz {bs:List Int} (hz:∀ z∈bs,0≤z∧z≤255) (j:Nat):0≤atB bs j 4∧atB bs j 4<4294967296:=by
 have h1:=(Qhh hz j 4).1;have h2:=Qpf hz j 4
 have e:(256:Int) ^ 4=4294967296:=by decide
 omega
def Qjy (bs:List Int) (k:Nat):List Int:=(List.range 8).map fun i=>if i<k then atB bs (4*i) 4 else 0
theorem Qmz (bs:List Int):Qjy bs 0=List.replicate 8 0:=by simp [Qjy];rfl
theorem QnV (bs:List Int) (k:Nat) (h:k<8):(Qjy bs k).set k (atB bs (4*k) 4)=Qjy bs (k+1):=by
 unfold Qjy;apply List.ext_getElem
 ·simp
 ·intro i h1 h2
  simp only [List.length_set,QM,List.length_range] at h1;rw [List.getElem_set];simp only [List.getElem_map,List.getElem_range];by_cases e:k=i
  ·subst e;simp
  ·simp only [e,if_false]
   by_cases h3:i<k
   ·rw [if_pos h3,if_pos (by omega)]
   ·rw [if_neg h3,if_neg (by omega)]
theorem QcY (bs:List Int) (k:Nat):(Qjy bs k).length=8:=by simp [Qjy]
theorem Qjz {bs:List Int} (hz:∀ z∈bs,0≤z∧z≤255) (k:Nat):∀ z∈Qjy bs k,0≤z∧z<4294967296:=by
 intro z h;obtain ⟨i,_,rfl⟩:=List.mem_map.1 h
 split
 ·exact Qbz hz _
 ·omega
def cpD (bs:List Int):Cp:=⟨Qjy bs 8,wrN (atB bs 32 4),wrN (atB bs 36 4),wrN (atB bs 40 4),wrN (atB bs 44 4),atB bs 48 4⟩
theorem Qhk {bs:List Int} (hz:∀ z∈bs,0≤z∧z≤255):(cpD bs).Ok :=
 ⟨QcY _ _,Qjz hz 8,QcH _,QcH _,QcH _,QcH _,Qbz hz 48⟩
def cpT (bs:List Int) (k m:Nat) (p:Int):Cp:=⟨Qjy bs k,if 0<m then wrN (atB bs 32 4) else 0,if 0<m then wrN (atB bs 36 4) else 0,if 1<m then wrN (atB bs 40 4) else 0,if 1<m then wrN (atB bs 44 4) else 0,p⟩
theorem Qnd (bs:List Int):QeQ=(cpT bs 0 0 0).vals.toArray:=by
 simp only [cpT,Cp.vals,Qmz,QhN,Nat.lt_irrefl,if_false,Nat.not_lt_zero];rfl
theorem Qga (bs:List Int) (k m:Nat) (p:Int):(cpT bs k m p).vals.toArray.size=11:=by simp [cpT,Cp.vals,QcY]
theorem QoF (bs:List Int) (k:Nat) (h:k<8) (p:Int):(cpT bs k 0 p).vals.toArray.setIfInBounds k (.int .u32 (atB bs (4*k) 4))=(cpT bs (k+1) 0 p).vals.toArray:=by
 have e:(cpT bs k 0 p).r.length=8:=QcY _ _;rw [List.setIfInBounds_toArray]
 congr 1
 unfold Cp.vals;rw [List.set_append_left _ _ (by rw [QM,e];exact h),← List.map_set];show ((Qjy bs k).set k _).map _++_=_;rw [QnV bs k h];rfl
theorem Qnb (bs:List Int) (p:Int):(cpT bs 8 0 p).vals.toArray.setIfInBounds 8 (.complex .f64 (fl (wrN (atB bs 32 4))) (fl (wrN (atB bs 36 4))))=(cpT bs 8 1 p).vals.toArray:=by
 have e:((cpT bs 8 0 p).r.map (Value.int .u32)).length=8:=by rw [QM];exact QcY _ _
 rw [List.setIfInBounds_toArray]
 congr 1
theorem Qnc (bs:List Int) (p:Int):(cpT bs 8 1 p).vals.toArray.setIfInBounds 9 (.complex .f64 (fl (wrN (atB bs 40 4))) (fl (wrN (atB bs 44 4))))=(cpT bs 8 2 p).vals.toArray:=by
 have e:((cpT bs 8 1 p).r.map (Value.int .u32)).length=8:=by rw [QM];exact QcY _ _
 rw [List.setIfInBounds_toArray]
 congr 1
theorem Qpi (bs:List Int) (p:Int):(cpT bs 8 2 0).vals.toArray.setIfInBounds 10 (.int .u32 p)=(cpT bs 8 2 p).vals.toArray:=by
 have e:((cpT bs 8 2 0).r.map (Value.int .u32)).length=8:=by rw [QM];exact QcY _ _
 rw [List.setIfInBounds_toArray]
 congr 1
theorem QoE (bs:List Int):cpT bs 8 2 (atB bs 48 4)=cpD bs:=by simp [cpT,cpD]
theorem QjR (W:World) (a:Option Addr) (len cap:Nat) (bs:List Int) (hr:QaL W.heap.size W (.slice a len cap) bs) (hl:bs.length≤100000) :
  Calls Tryz.prog 68 #[.slice a len cap] W fun e W'=>e=.returned (.agg (cpD bs).vals.toArray)∧Below W.heap.size W W':=by
 have hz:=hr.2
 have ka:=fun (V:World) (hV:Below W.heap.size W V)=>Qlj a len cap bs V ((hr.below hV).mono hV.size) hl
 have KA:=QQ ka;clear ka hr;go_enter Tryz.func68,Tryz.ntmps68;go_wp2;obtain ⟨V,hV⟩:∃ V,V=(W.alloc (.cells QeQ 45)).alloc (.cells QeQ 45):=⟨_,rfl⟩
 have sV:V.heap.size=W.heap.size+2:=by rw [hV];simp
 have bV:Below W.heap.size W V:=by rw [hV];exact ((QB _ _).alloc (QN _) _).alloc (by simp) _
 have eT:V.heap[W.heap.size+1]?=some (.cells QeQ 45):=by
  rw [hV];have:=QW (W.alloc (.cells QeQ 45)) (Obj.cells QeQ 45);simpa using this
 have eR:V.heap[W.heap.size]?=some (.cells QeQ 45):=by
  rw [hV,((QB _ _).alloc (QN _) _:Below _ _ _).block _ (by simp)];exact QW _ _
 rw [show (W.alloc (Obj.cells #[.int .u32 0,.int .u32 0,.int .u32 0,.int .u32 0,.int .u32 0,.int .u32 0,.int .u32 0,.int .u32 0,.complex .f64 0 0,.complex .f64 0 0,.int .u32 0] 45)).alloc (Obj.cells #[.int .u32 0,.int .u32 0,.int .u32 0,.int .u32 0,.int .u32 0,.int .u32 0,.int .u32 0,.int .u32 0,.complex .f64 0 0,.complex .f64 0 0,.int .u32 0] 45)=V from hV.symm];clear hV sV;rw [Qnd bs] at eT;go_loopw [4] (fun i wr=>∃ k:Nat,k≤8∧i=.int .i64 (k:Int)∧wr.heap[W.heap.size+1]?=some (.cells (cpT bs k 0 0).vals.toArray 45)∧wr.heap[W.heap.size]?=some (.cells QeQ 45)∧Below W.heap.size W wr) (fun i _=>8-(intOf i).toNat)
 case atStart=>exact ⟨0,by decide,rfl,eT,eR,bV⟩
 case round =>
  clear eT eR bV;obtain ⟨k,hk,rfl,eT,eR,bV⟩:=hrel;by_cases hlt:k<8
  ·have t1:decide ((k:Int)<8)=true:=by simp;omega
   go_wp2_with (go_at_call 26;refine Qau ?_);unfold Qag;refine ((QG KA) wr bV (4*(k:Int)) (4*k) (by omega) 4 4 rfl (by omega) (by decide)).mono ?_;rintro e w1 ⟨rfl,hw1⟩;subst hw1;have hb4:=Qbz hz (4*k);have hset:=QoF bs k hlt 0;have hsz:=Qga bs k 0 0;obtain ⟨x,hx⟩:∃ x,x=atB bs (4*k) 4:=⟨_,rfl⟩;rw [← hx] at hb4 hset ⊢;have wx:IntKind.u32.wrap x=x:=Qg6 hb4;have HS:=QQ hset;clear hset hx;go_wp2_with ((fail_if_success (unfold Qag));refine Qan (t:=40) rfl ?_);unfold Qag;refine Qar rfl 40 (.tmp 17) (.tmp 15) rfl (W.heap.size+1) k (by first | rfl | (simp;done)) (.int .u32 x) rfl rfl rfl 45 _ eT QcC (by rw [hsz];omega) ?_;rw [show (cpT bs k 0 0).vals.toArray.setIfInBounds k (.int .u32 x)=(cpT bs (k+1) 0 0).vals.toArray from HS];obtain ⟨V2,hV2⟩:∃ V2,V2=w1.setRow (W.heap.size+1) (cpT bs (k+1) 0 0).vals.toArray:=⟨_,rfl⟩
   have eT2:V2.heap[W.heap.size+1]?=some (.cells (cpT bs (k+1) 0 0).vals.toArray 45):=by rw [hV2];exact setRow_heap _ _ _ _ _ _ eT
   have eR2:V2.heap[W.heap.size]?=some (.cells QeQ 45):=by rw [hV2,setRow_other _ _ _ _ (by omega)];exact eR
   have b2:Below W.heap.size W V2:=by rw [hV2];exact Qaj bV (by omega) _
   rw [← hV2];clear hV2 eT eR bV HS hsz;go_wp2;go_roundw
   case rel=>exact ⟨k+1,by omega,by go_num,eT2,eR2,b2⟩
   case measure=>simp [intOf];omega
  ·obtain rfl:k=8:=by omega
   rw [show ((8:Nat):Int)=8 from rfl];go_wp2;go_loopw [5] (fun i wr=>∃ k:Nat,k≤2∧i=.int .i64 (k:Int)∧wr.heap[W.heap.size+1]?=some (.cells (cpT bs 8 k 0).vals.toArray 45)∧wr.heap[W.heap.size]?=some (.cells QeQ 45)∧Below W.heap.size W wr) (fun i _=>2-(intOf i).toNat)
   case atStart=>exact ⟨0,by decide,rfl,eT,eR,bV⟩
   case round =>
    clear eT eR bV;obtain ⟨k,hk,rfl,eT,eR,bV⟩:=hrel;by_cases hlt:k<2
    ·have t1:decide ((k:Int)<2)=true:=by simp;omega
     obtain ⟨x,y,hx,hy,hbx,hby,hset⟩:∃ x y,x=atB bs (32+8*k) 4∧y=atB bs (36+8*k) 4∧(0≤x∧x<4294967296)∧(0≤y∧y<4294967296)∧(cpT bs 8 k 0).vals.toArray.setIfInBounds (8+k) (.complex .f64 (fl (wrN x)) (fl (wrN y)))=(cpT bs 8 (k+1) 0).vals.toArray:=by
      refine ⟨_,_,rfl,rfl,Qbz hz _,Qbz hz _,?_⟩
      rcases (show k=0∨k=1 by omega) with rfl | rfl
      ·exact Qnb bs 0
      ·exact Qnc bs 0
     have wx:IntKind.u32.wrap x=x:=Qg6 hbx;have wy:IntKind.u32.wrap y=y:=Qg6 hby;have hsz:=Qga bs 8 k 0;have HS:=QQ hset;have HX:=QQ hx;have HY:=QQ hy;clear hset hx hy;go_wp2_with (go_at_call 26;refine Qau ?_);unfold Qag;have k1:=(QG KA) wr bV (32+8*(k:Int)) (32+8*k) (by omega) 4 4 rfl (by omega) (by decide);rw [show atB bs (32+8*k) 4=x from (QG HX).symm] at k1;refine k1.mono ?_;rintro e w1 ⟨rfl,hw1⟩;subst hw1;clear k1;go_wp2_with (go_at_call 26;refine Qau ?_);unfold Qag;have k1:=(QG KA) w1 bV (36+8*(k:Int)) (36+8*k) (by omega) 4 4 rfl (by omega) (by decide);rw [show atB bs (36+8*k) 4=y from (QG HY).symm] at k1;refine k1.mono ?_;rintro e w2 ⟨rfl,hw2⟩;subst hw2;clear k1;have kf:=QlI x y hbx hby w2;obtain ⟨fx,hfx⟩:∃ f,f=fl (wrN x):=⟨_,rfl⟩;obtain ⟨fy,hfy⟩:∃ f,f=fl (wrN y):=⟨_,rfl⟩;rw [← hfx,← hfy] at kf;have HFX:=QQ hfx;have HFY:=QQ hfy;clear hfx hfy;go_wp2_with (go_at_call 99;refine Qau ?_);unfold Qag;refine kf.mono ?_;rintro e w3 ⟨rfl,hw3⟩;subst hw3;clear kf;go_wp2_with ((fail_if_success (unfold Qag));refine Qan (t:=42) rfl ?_);unfold Qag;refine Qar rfl 42 (.tmp 37) (.tmp 35) rfl (W.heap.size+1) (8+k) (by first | rfl | (simp;done)) (.complex .f64 fx fy) rfl rfl rfl 45 _ eT QgK (by rw [hsz];omega) ?_;rw [show fx=fl (wrN x) from HFX,show fy=fl (wrN y) from HFY,show (cpT bs 8 k 0).vals.toArray.setIfInBounds (8+k) (.complex .f64 (fl (wrN x)) (fl (wrN y)))=(cpT bs 8 (k+1) 0).vals.toArray from HS];obtain ⟨V2,hV2⟩:∃ V2,V2=w3.setRow (W.heap.size+1) (cpT bs 8 (k+1) 0).vals.toArray:=⟨_,rfl⟩
     have eT2:V2.heap[W.heap.size+1]?=some (.cells (cpT bs 8 (k+1) 0).vals.toArray 45):=by rw [hV2];exact setRow_heap _ _ _ _ _ _ eT
     have eR2:V2.heap[W.heap.size]?=some (.cells QeQ 45):=by rw [hV2,setRow_other _ _ _ _ (by omega)];exact eR
     have b2:Below W.heap.size W V2:=by rw [hV2];exact Qaj bV (by omega) _
     rw [← hV2];clear hV2 eT eR bV HS hsz HX HY HFX HFY;go_wp2;go_roundw
     case rel=>exact ⟨k+1,by omega,by go_num,eT2,eR2,b2⟩
     case measure=>simp [intOf];omega
    ·obtain rfl:k=2:=by omega
     rw [show ((2:Nat):Int)=2 from rfl];go_wp2_with (go_at_call 26;refine Qau ?_);unfold Qag;refine ((QG KA) wr bV 48 48 rfl 4 4 rfl (by decide) (by decide)).mono ?_;rintro e w1 ⟨rfl,hw1⟩;subst hw1;have hb4:=Qbz hz 48;have hall:=QoE bs;have hpc:=Qpi bs (atB bs 48 4);rw [hall] at hpc;have hsz:=Qga bs 8 2 0
     have hsd:(cpD bs).vals.toArray.size=11:=by rw [← hall];exact Qga _ _ _ _
     have hone:=Qgz (cpD bs);obtain ⟨x,hx⟩:∃ x,x=atB bs 48 4:=⟨_,rfl⟩;obtain ⟨R,hR⟩:∃ R,R=(cpD bs).vals.toArray:=⟨_,rfl⟩;rw [← hx] at hb4 hpc ⊢;rw [← hR] at hpc hsd hone;have wx:IntKind.u32.wrap x=x:=Qg6 hb4;have HR:=QQ hR;have HPC:=QQ hpc;clear hall hpc hx hR;go_wp2_with ((fail_if_success (unfold Qag));refine Qan (t:=40) rfl ?_);unfold Qag;refine Qar rfl 40 (.tmp 41) (.tmp 40) rfl (W.heap.size+1) 10 rfl (.int .u32 x) rfl rfl rfl 45 _ eT QcC (by rw [hsz];omega) ?_;rw [show (cpT bs 8 2 0).vals.toArray.setIfInBounds 10 (.int .u32 x)=R from HPC];obtain ⟨V2,hV2⟩:∃ V2,V2=w1.setRow (W.heap.size+1) R:=⟨_,rfl⟩
     have gT:V2.heap[W.heap.size+1]?=some (.cells R 45):=by rw [hV2];exact setRow_heap _ _ _ _ _ _ eT
     have gR:V2.heap[W.heap.size]?=some (.cells QeQ 45):=by rw [hV2,setRow_other _ _ _ _ (by omega)];exact eR
     have b2:Below W.heap.size W V2:=by rw [hV2];exact Qaj bV (by omega) _
     rw [← hV2]
     have hiR:(Tryz.prog.info? 45).map (·.size)=some R.size:=by rw [hsd];exact Qbv
     clear hV2 eT eR bV hsz HPC
     go_wp2_with first
      | (refine Qai (by rfl) 45 (.tmp 3) rfl (W.heap.size+1) 0 rfl R R _ gT (by rw [List.drop_zero,List.take_of_length_le (by simp)]) _ Tryz.underlying45 rfl hiR ?_)
      | ((fail_if_success (unfold Qag));refine Qan (t:=45) rfl ?_)
     unfold Qag;refine Qab rfl 45 (.tmp 2) (.tmp 42) rfl W.heap.size R rfl rfl 45 QeQ gR hiR (by rw [hsd];rfl) hone ?_;obtain ⟨V6,hV6⟩:∃ V6,V6=V2.setRow W.heap.size R:=⟨_,rfl⟩
     have e6:V6.heap[W.heap.size]?=some (.cells R 45):=by rw [hV6];exact setRow_heap _ _ _ _ _ _ gR
     have b6:Below W.heap.size W V6:=by rw [hV6];exact Qaj b2 (QN _) _
     rw [← hV6];clear hV6 gR gT b2;go_wp2;refine bodyPost_ret (results_cell_row rfl _ _ W.heap.size 45 R (0,0) _ rfl e6 Tryz.underlying45 rfl hiR) rfl ?_;exact ⟨by rw [show R=_ from HR],b6⟩
end Go.Proofs.YtejcandhijdnhaaGreat
