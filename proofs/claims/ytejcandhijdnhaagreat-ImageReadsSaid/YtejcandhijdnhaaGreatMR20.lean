/- Own texts of this seat, one behind the other, without needless spaces (part 20 of 26). -/
import Derived.Test.YtejcandhijdnhaaGreatMR01
import Derived.Test.YtejcandhijdnhaaGreatMR02
import Derived.Test.YtejcandhijdnhaaGreatMR11
import Derived.Test.YtejcandhijdnhaaGreatMR13
import Derived.Test.YtejcandhijdnhaaGreatMR14
import Derived.Test.YtejcandhijdnhaaGreatMR15
import Derived.Test.YtejcandhijdnhaaGreatMR19
namespace Go.Proofs.YtejcandhijdnhaaGreat
open Go Go.RowKit
set_option linter.unusedVariables false
set_option linter.unusedSimpArgs false
set_option linter.unnecessarySimpa false
set_option maxRecDepth 100000
set_option maxHeartbeats 16000000
section
attribute [local go_sem] QaB QaJ QaA
theorem QqJ (W:World) (p:Pr) (fa:Option Addr) (fc:Nat) (pa:Option Addr) (pc:Nat) (X:Array Value) (B:Nat) (F:List Int) (hx:0≤p.pid∧p.pid<4294967296)
  (hn:Qbs W (p,⟨fa,fc,pa,pc⟩) X B (tl 2 (Tryz.f72.body.getD .skip)) (Qa5 7 (Qa7 p.pid.toNat)) F) (t3 u4 u5 u6 u7 u8 u9 u10 u11 u12 u13 u14 u15 u16 u17 u18 u19 u20 u21 u22 u23 u24 u25 u26 u27 u28 u29 u30 u31 u32 u33 u34 u35 u36 u37 u38 u39 u40 u41 u42 u43 u44 u45 u46 u47 u48 u49 u50 u51 u52 u53 u54 u55 u56 u57 u58 u59 u60 u61 u62 u63 u64 u65 u66 u67 u68 u69 u70 u71 u72 u73 u74 u75 u76 u77 u78 u79 u80 u81 u82 u83 u84 u85 u86 u87 u88 u89 u90 u91 u92 u93 u94 u95 u96 u97 u98 u99 u100 u101 u102 u103 u104 u105 u106 u107 u108 u109 u110 u111 u112 u113 u114 u115 u116 u117 u118 u119 u120 u121 u122 u123 u124 u125 u126 u127 u128 u129 u130 u131 u132 u133 u134 u135 u136 u137 u138 u139 u140 u141 u142 u143 u144 u145 u146 u147 u148 u149 u150 u151 u152 u153 u154 u155 u156 u157 u158 u159 u160 u161 u162 u163 u164 u165 u166 u167:Value) (V:World) (h:Qad W (p,⟨fa,fc,pa,pc⟩) X B V):(tl 1 (Tryz.f72.body.getD .skip)).wp Tryz.prog (OnQ W F) { tmps:=#[.agg X,.pointer (some ⟨B,0,none⟩),.slice none 0 0,t3,u4,u5,u6,u7,u8,u9,u10,u11,u12,u13,u14,u15,u16,u17,u18,u19,u20,u21,u22,u23,u24,u25,u26,u27,u28,u29,u30,u31,u32,u33,u34,u35,u36,u37,u38,u39,u40,u41,u42,u43,u44,u45,u46,u47,u48,u49,u50,u51,u52,u53,u54,u55,u56,u57,u58,u59,u60,u61,u62,u63,u64,u65,u66,u67,u68,u69,u70,u71,u72,u73,u74,u75,u76,u77,u78,u79,u80,u81,u82,u83,u84,u85,u86,u87,u88,u89,u90,u91,u92,u93,u94,u95,u96,u97,u98,u99,u100,u101,u102,u103,u104,u105,u106,u107,u108,u109,u110,u111,u112,u113,u114,u115,u116,u117,u118,u119,u120,u121,u122,u123,u124,u125,u126,u127,u128,u129,u130,u131,u132,u133,u134,u135,u136,u137,u138,u139,u140,u141,u142,u143,u144,u145,u146,u147,u148,u149,u150,u151,u152,u153,u154,u155,u156,u157,u158,u159,u160,u161,u162,u163,u164,u165,u166,u167],defers:=[] } V:=by
 have c1:=Qad.cell h (Qaf p (Qad.fine h).ok fa fc pa pc).1.1;have H:=QQ h;have HN:=QQ hn;obtain ⟨x,hxx⟩:∃ x,x=p.pid:=⟨_,rfl⟩;rw [← hxx] at c1 hx;have HX:=QQ hxx;have wx:IntKind.u64.wrap x=x:=Qcx ⟨hx.1,by omega⟩;have kc:=QdX 7 (by decide) x ⟨hx.1,by omega⟩ V;clear h hn hxx
 conv=>arg 2;whnf
 refine wp_seq_k (fun K aK=>?_);have AK:=QQ aK;clear aK;go_wp2_with (go_at_call 70;refine Qau ?_);unfold Qag;refine kc.mono ?_;rintro e w1 ⟨v1,rfl,o1,b1⟩;have hp:=(QG H)
 have o2:=QaI o1 (show W.heap.size+1≤V.heap.size from hp.lB) fun _ _=>rfl
 have inv9:Qa6 W (p,⟨fa,fc,pa,pc⟩) X B v1 (Qa5 7 (Qa7 x.toNat)) w1:=⟨hp.grow b1,by rw [QaX,QaG];exact o2⟩;have INV9:=QQ inv9;clear inv9 hp o1 o2 b1 c1 kc;go_wp2;refine (QG AK) _ _ ?_;have inv:=(QG INV9);rw [show x=_ from HX] at inv;apply (QG HN);exact inv
theorem QqM (W:World) (p:Pr) (fa:Option Addr) (fc:Nat) (pa:Option Addr) (pc:Nat) (X:Array Value) (B:Nat) (o F:List Int) (ho:o.length≤5000) (hx:0≤p.status∧p.status<4294967296) (hz:p.state=2→F=o++Qa5 10 (Qa7 p.status.toNat))
  (hn:¬ p.state=2→Qbs W (p,⟨fa,fc,pa,pc⟩) X B (tl 5 (Tryz.f72.body.getD .skip)) o F):Qbs W (p,⟨fa,fc,pa,pc⟩) X B (tl 4 (Tryz.f72.body.getD .skip)) o F:=by
 intro t3
 iterate 60 intro
 intro u64
 iterate 103 intro
 intro V h;obtain ⟨i0,hi,hz0,hz1,hz2⟩:=info_parts QbB;have c1:=Qad.cell (Qa6.pc h) (Qaf p (Qad.fine (Qa6.pc h)).ok fa fc pa pc).1.2.2.2;have c2:=Qad.cell (Qa6.pc h) (Qaf p (Qad.fine (Qa6.pc h)).ok fa fc pa pc).1.2.2.1;have H:=QQ h;have HN:=QQ hn;have HZ:=QQ hz;obtain ⟨x,hxx⟩:∃ x,x=p.status:=⟨_,rfl⟩;obtain ⟨st,hst⟩:∃ x,x=p.state:=⟨_,rfl⟩;rw [← hxx] at c1 hx;rw [← hst] at c2;have HX:=QQ hxx;have HS:=QQ hst;have wx:IntKind.u64.wrap x=x:=Qcx ⟨hx.1,by omega⟩;have kc:=QdX 10 (by decide) x ⟨hx.1,by omega⟩ V;clear h hn hz hxx hst
 conv=>arg 2;whnf
 refine wp_seq_k (fun K aK=>?_);have AK:=QQ aK;clear aK
 cases t1:(st == 2) with
 | false =>
  go_wp2;refine (QG AK) _ _ ?_;apply (QG HN) (fun h=>by rw [show st=_ from HS,h] at t1;simp at t1);exact (QG H)
 | true =>
  go_wp2_with (go_at_call 70;refine Qau ?_);unfold Qag;refine kc.mono ?_;rintro e w1 ⟨v1,rfl,o1,b1⟩;obtain ⟨a1,c1',rfl,_⟩:=Qaa o1;have r1:=Qav o1 (QaW 10 _ (Qbr _ (by omega)) (by rw [QaG];decide));have inv2:=(QG H).grow b1;clear kc o1 b1 c1 c2;go_wp2_with (at_builtin;refine Qau ?_);unfold Qag;refine Qae rfl _ _ 22 rfl (W.heap.size+1) 5 i0 Tryz.underlying22 hi hz0 hz1 hz2 t3 o.length o rfl inv2.own _ 13 c1' w1.heap.size (Qa5 10 (Qa7 x.toNat)) rfl r1 (by omega) (by have:=inv2.pc.lB;omega) ?_;intro v9 w9 o9 g9 _;have inv9:Qa6 W (p,⟨fa,fc,pa,pc⟩) X B v9 (o++(Qa5 10 (Qa7 x.toNat))) w9:=⟨inv2.pc.grown g9 fun b hb=>(inv2.own.lt b hb).1,by rw [QL,show (Qa5 10 (Qa7 x.toNat)).length=13 by rw [QaX,QaG]];exact o9⟩;have INV9:=QQ inv9;clear inv9 inv2 o9 g9 r1;go_wp2
  all_goals go_ret
  have inv:=(QG INV9);rw [show x=_ from HX,← (QG HZ) (by rw [← (QG HS)];simpa using t1)] at inv;exact ⟨_,rfl,inv.own,inv.pc.below⟩
theorem Qou (x:Int) (h:-1≤x∧x≤1000):IntKind.i64.wrap (x+256)=x+256∧wrap64 (x+256)=x+256∧(x+256).tmod 256=x % 256∧IntKind.i64.wrap (x % 256)=x % 256∧wrap64 (x % 256)=x % 256∧IntKind.u8.wrap (x % 256)=x % 256:=by
 have e:(x+256).tmod 256=x % 256:=by rw [Int.tmod_eq_emod_of_nonneg (by omega)];omega
 refine ⟨by rw [IntKind.wrap_i64];omega,by simp only [wrap64];omega,e,by rw [IntKind.wrap_i64];omega,by simp only [wrap64];omega,?_⟩;rw [QbW];omega
theorem Qp8 (W:World) (p:Pr) (fa:Option Addr) (fc:Nat) (pa:Option Addr) (pc:Nat) (X:Array Value) (B:Nat) (o F:List Int) (ho:o.length≤5000) (hfd:∀ x∈p.fds,-1≤x∧x≤1000)
  (hn:Qbs W (p,⟨fa,fc,pa,pc⟩) X B (tl 19 (Tryz.f72.body.getD .skip)) (o++Qa5 17 (fdB p.fds)) F):Qbs W (p,⟨fa,fc,pa,pc⟩) X B (tl 16 (Tryz.f72.body.getD .skip)) o F:=by
 intro t3 u4 u5 u6 u7 u8
 iterate 159 intro
 intro V h;obtain ⟨i0,hi,hz0,hz1,hz2⟩:=info_parts QbB;have hfl:=h.pc.fine.fds;have hrow:=(h.pc.fds.below h.pc.below).mono h.pc.below.size
 have hc51:∀ w,Below V.heap.size V w→w.cell? ⟨B,51,none⟩=some (.slice fa p.fds.length fc):=fun w hb=>(h.grow hb).pc.cell (Qaf p h.pc.fine.ok fa fc pa pc).2.2.1.2.1
 obtain ⟨fds,hfds⟩:∃ l,l=p.fds:=⟨_,rfl⟩;simp only at hrow;rw [← hfds] at hfl hrow hfd hc51;obtain ⟨n,hnn⟩:∃ n,n=fds.length:=⟨_,rfl⟩;rw [← hnn] at hfl hrow hc51;have HNN:=QQ hnn;have HFD:=QQ hfds;have HROW:=QQ hrow;have HC:=QQ (QA hc51 hfd);have H:=QQ h;have HN:=QQ hn;clear h hn hfds hrow hc51 hfd hnn
 conv=>arg 2;whnf
 refine wp_seq_k (fun K aK=>?_);have AK:=QQ aK;clear aK;go_wp2;refine (QG AK) _ _ ?_;clear AK K;refine wp_seq_k (fun K aK=>?_);have AK:=QQ aK;clear aK;go_wp2;go_loopw [7,8] (fun v i wr=>∃ (k:Nat),i=.int .i64 (k:Int)∧k≤n∧wr.ownsRow V.heap.size 5 1 v k ((fdB (fds.take k)).map (Value.int .u8))∧Below V.heap.size V wr) (fun _ i _=>n-(intOf i).toNat)
 case atStart=>exact ⟨0,rfl,Nat.zero_le _,World.ownsRow_nil _ _ _ _,QB _ _⟩
 case round =>
  obtain ⟨k,rfl,hk,own,hb⟩:=hrel;have c51:=(QG HC).1 _ hb
  rcases Nat.lt_or_ge k n with hx | hx
  ·rcases (QG HROW) with h0 | ⟨b,off,rfl,hbn,hlc,hcm,hc⟩
   ·omega
   have hsz:=hb.size
   have hx2:k<fds.length:=by rw [← (QG HNN)];exact hx
   obtain ⟨x,hxx⟩:∃ x,x=fds[k]:=⟨_,rfl⟩;have e0:wr.cell? ⟨b,off+k,none⟩=some (.int .i64 x):=(hb.cell (p:=⟨b,off+k,none⟩) hbn).trans (hc k _ (by rw [List.getElem?_map,List.getElem?_eq_getElem hx2,hxx];rfl))
   have t0:((k:Int)<(n:Int)):=by omega
   have t1:decide ((k:Int)<(n:Int))=true:=by simp;omega
   obtain ⟨a1,a2,a3,a4,a5,a6⟩:=Qou x ((QG HC).2 x (by rw [hxx];exact List.getElem_mem hx2))
   have hcat:(fdB (fds.take (k+1))).map (Value.int .u8)=(fdB (fds.take k)).map (Value.int .u8)++[.int .u8 (x % 256)]:=by
    unfold fdB;rw [List.take_succ_eq_append_getElem hx2,List.map_append,List.map_append,hxx];rfl
   have HCAT:=QQ hcat;have OWN:=QQ own;have hnew:=QQ (QbR wr #[.int .u8 (x % 256)] 5);clear hc hcat own hxx;go_wp2_with (at_builtin;refine Qau ?_);unfold Qag;have own:=(QG OWN)
   refine QaH rfl _ _ 22 rfl V.heap.size 5 i0 (.int .u8 0) 1 1 Tryz.underlying22 hi hz0 hz1 hz2 rfl (by decide) _ k _ rfl (own.alloc _) (some ⟨wr.heap.size,0,none⟩) 1 1 [.int .u8 (x % 256)] rfl rfl (by simp [Value.oneCell']) (.inr ⟨_,_,rfl,fun j u hj=>by
    have:=hnew j u hj;rw [show (⟨wr.heap.size,0,none⟩:Addr).add j=⟨wr.heap.size,0+j,none⟩ from Addr.add_lit ..] at this
    exact this⟩) (by omega) (by simp only [maxLen];omega) (by simp;omega) ?_
   intro v9 w9 o9 g9 hv9
   have hb9:Below V.heap.size V w9:=(hb.trans ((QB _ _).alloc hsz _)).grown g9 (by simp;omega) fun b' hb'=>(own.lt b' hb').1
   rw [← (QG HCAT)] at o9;have O9:=QQ o9;clear own hnew o9 g9 hv9 OWN;go_wp2;go_roundw
   case rel=>exact ⟨k+1,by go_num,by omega,O9,hb9⟩
   case measure=>simp [intOf];omega
  ·have hk2:k=n:=by omega
   subst hk2
   have t1:decide ((k:Int)<(k:Int))=false:=by simp
   rw [List.take_of_length_le (by rw [← (QG HNN)];exact QN _)] at own;clear hx hk;have OWN:=QQ own;clear own;go_wp2;refine (QG AK) _ _ ?_;refine wp_seq_k (fun K2 aK=>?_);have AK2:=QQ aK;clear aK;have own:=(QG OWN);obtain ⟨fb,hfb⟩:∃ b,b=fdB fds:=⟨_,rfl⟩
   have hlen:fb.length=k:=by rw [hfb,show k=_ from HNN];simp [fdB]
   have hbb:∀ z∈fb,0≤z∧z≤255:=by rw [hfb];exact QgF _
   rw [← hfb] at own;have HX:=QQ hfb;obtain ⟨a1,c1,rfl,_⟩:=Qaa own;have r1:=Qav own hbb;have kf:=Qca 17 (by decide) a1 k c1 fb wr ⟨r1,hbb⟩ (by omega);have inv1:=(QG H).grow hb;have INV1:=QQ inv1;clear inv1 r1 hfb own;go_wp2_with (go_at_call 71;refine Qau ?_);unfold Qag;refine kf.mono ?_;rintro e w2 ⟨v1,rfl,o1,b1⟩;obtain ⟨a1,c1,rfl,_⟩:=Qaa o1;have r1:=Qav o1 (QaW 17 fb hbb (by omega));have inv2:=(QG INV1).grow b1;clear kf o1 b1 c51;go_wp2_with (at_builtin;refine Qau ?_);unfold Qag;refine Qae rfl _ _ 22 rfl (W.heap.size+1) 5 i0 Tryz.underlying22 hi hz0 hz1 hz2 t3 o.length o rfl inv2.own _ (k+5) c1 w2.heap.size (Qa5 17 fb) rfl r1 (by omega) (by have:=inv2.pc.lB;omega) ?_;intro v9 w9 o9 g9 _;have inv9:Qa6 W (p,⟨fa,fc,pa,pc⟩) X B v9 (o++(Qa5 17 fb)) w9:=⟨inv2.pc.grown g9 fun b hb=>(inv2.own.lt b hb).1,by rw [QL,show (Qa5 17 fb).length=k+5 by rw [QaX,hlen]];exact o9⟩;have INV9:=QQ inv9;clear inv9 inv2 o9 g9 r1;go_wp2;refine (QG AK2) _ _ ?_;have inv:=(QG INV9);rw [show fb=_ from HX,show fds=_ from HFD] at inv;apply (QG HN);exact inv
end
section
attribute [local go_sem] QaB QaJ QaA
theorem Qp9 (W:World) (p:Pr) (fa:Option Addr) (fc:Nat) (pa:Option Addr) (pc:Nat) (X:Array Value) (B:Nat) (o F:List Int) (ho:o.length≤5000) (hF:F=o++Qa5 18 (pgB p.pages)):Qbs W (p,⟨fa,fc,pa,pc⟩) X B (tl 19 (Tryz.f72.body.getD .skip)) o F:=by
 intro t3 u4 u5 u6 u7 u8
 iterate 159 intro
 intro V h;obtain ⟨i0,hi,hz0,hz1,hz2⟩:=info_parts QbB;have hpl:=h.pc.fine.pages;have hrow:=(h.pc.pages.below h.pc.below).mono h.pc.below.size
 have hc54:∀ w,Below V.heap.size V w→w.cell? ⟨B,54,none⟩=some (.slice pa p.pages.length pc):=fun w hb=>(h.grow hb).pc.cell (Qaf p h.pc.fine.ok fa fc pa pc).2.2.1.2.2.2.2
 have lB:B<V.heap.size:=(QI.1 h.pc.eB).1;obtain ⟨l,hll⟩:∃ l,l=p.pages:=⟨_,rfl⟩;simp only at hrow;rw [← hll] at hpl hrow hc54 hF;obtain ⟨n,hnn⟩:∃ n,n=l.length:=⟨_,rfl⟩;rw [← hnn] at hpl hrow hc54;have HNN:=QQ hnn;have HROW:=QQ hrow;have HC:=QQ hc54;have HF:=QQ hF;have H:=QQ h;clear h hll hrow hc54 hF hnn
 conv=>arg 2;whnf
 refine wp_seq_k (fun K aK=>?_);have AK:=QQ aK;clear aK;go_wp2;refine (QG AK) _ _ ?_;clear AK K;refine wp_seq_k (fun K aK=>?_);have AK:=QQ aK;clear aK;go_wp2;go_loopw [9,10,11,12] (fun vv i _ _ wr=>∃ (k:Nat) (v:Value),i=.int .i64 (k:Int)∧v=vv∧k≤n∧wr.ownsRow V.heap.size 5 1 v (k*4) ((pgB (l.take k)).map (Value.int .u8))∧Below V.heap.size V wr) (fun _ i _ _ _=>n-(intOf i).toNat)
 case atStart=>exact ⟨0,_,rfl,rfl,Nat.zero_le _,World.ownsRow_nil _ _ _ _,QB _ _⟩
 case round =>
  obtain ⟨k,v,rfl,rfl,hk,own,hb⟩:=hrel;have c54:=(QG HC) _ hb
  rcases Nat.lt_or_ge k n with hx | hx
  ·rcases (QG HROW) with h0 | ⟨b,off,rfl,hbn,hlc,hcm,hc⟩
   ·omega
   have hx2:k<l.length:=by rw [← (QG HNN)];exact hx
   have e:∀ j v,(Pg.vals l[k])[j]?=some v→wr.cell? ⟨b,off+k*6+j,none⟩=some v:=fun j v hj=>by
    have:=hc (k*6+j) v (Qb Pg.vals 6 l (fun _ _=>rfl) k hx2 j v hj);rw [show off+k*6+j=off+(k*6+j) by omega];exact (hb.cell (p:=⟨b,off+(k*6+j),none⟩) hbn).trans this
   have hsz:=hb.size;clear hc
   have t0:((k:Int)<(n:Int)):=by omega
   have t1:decide ((k:Int)<(n:Int))=true:=by simp;omega
   obtain ⟨mg,hmg⟩:∃ mg,mg=l[k]:=⟨_,rfl⟩
   have hcat:(pgB (l.take (k+1))).map (Value.int .u8)=(pgB (l.take k)).map (Value.int .u8)++(QkW mg).map (Value.int .u8):=by
    unfold pgB;rw [List.take_succ_eq_append_getElem hx2,List.flatMap_append,List.map_append,hmg];simp
   rw [← hmg] at e;clear hmg;obtain ⟨pg,f,w,s,c⟩:=mg;obtain ⟨ub,hub⟩:∃ ub,ub=(QkW ⟨pg,f,w,s,c⟩).map (Value.int .u8):=⟨_,rfl⟩;rw [← hub] at hcat;have HUB:=QQ hub;clear hub;have e0:wr.cell? ⟨b,off+k*6,none⟩=some (.int .i64 pg):=e 0 _ rfl
   have e1:∀ j u,([.int .i64 f,.bool w,.bool s,.bool c,.bool false]:List Value)[j]?=some u→wr.cell? ⟨b,off+k*6+1+j,none⟩=some u:=fun j u hj=>by
    rw [show off+k*6+1+j=off+k*6+(j+1) by omega];exact e (j+1) u (by rw [show Pg.vals ⟨pg,f,w,s,c⟩=.int .i64 pg::[.int .i64 f,.bool w,.bool s,.bool c,.bool false] from rfl,List.getElem?_cons_succ];exact hj)
   have HCAT:=QQ hcat;have OWN:=QQ own;have own0:=own.lt;have E0:=QQ e0;clear hcat own e e0
   go_wp2_with first
    | (refine QaC (by rfl) 108 (.tmp 136) rfl b (off+k*6+1) rfl [.int .i64 f,.bool w,.bool s,.bool c,.bool false] _ e1 Tryz.underlying108 rfl QfK ?_)
    | ((fail_if_success (unfold Qag));refine Qan (t:=108) rfl ?_)
   unfold Qag;refine Qab rfl 108 (.tmp 11) (.tmp 137) rfl wr.heap.size #[.int .i64 f,.bool w,.bool s,.bool c,.bool false] rfl rfl 108 _ (QW _ _) QfK rfl (by simp [Value.oneCell']) ?_;rw [World.setRow_alloc_new];obtain ⟨V2,hV2⟩:∃ V,V=wr.alloc (.cells #[.int .i64 f,.bool w,.bool s,.bool c,.bool false] 108):=⟨_,rfl⟩
   have eV2:V2.heap[wr.heap.size]?=some (.cells #[.int .i64 f,.bool w,.bool s,.bool c,.bool false] 108):=by rw [hV2];exact QW _ _
   have bV2:Below wr.heap.size wr V2:=by rw [hV2];exact (QB _ _).alloc (QN _) _
   have l2:wr.heap.size<V2.heap.size:=(QI.1 eV2).1;rw [← hV2]
   have g1:V2.cell? ⟨wr.heap.size,1,none⟩=some (.bool w):=by rw [cell_of_row V2 _ 1 _ _ _ eV2];rfl
   have g2:V2.cell? ⟨wr.heap.size,2,none⟩=some (.bool s):=by rw [cell_of_row V2 _ 2 _ _ _ eV2];rfl
   have g3:V2.cell? ⟨wr.heap.size,3,none⟩=some (.bool c):=by rw [cell_of_row V2 _ 3 _ _ _ eV2];rfl
   obtain ⟨Rg,hRg⟩:∃ Rg:Nat→Prop,Rg=fun b=>v.ownBlock=some b:=⟨_,rfl⟩
   have HX:=QQ (show ∀ W',Qa Rg V2.drew W'→W'.cell? ⟨B,54,none⟩=some (.slice (some ⟨b,off,none⟩) n pc)∧W'.cell? ⟨b,off+k*6,none⟩=some (.int .i64 pg)∧W'.cell? ⟨wr.heap.size,0,none⟩=some (.int .i64 f) from fun W' hW=>by
    have hB1:B<wr.heap.size:=by omega
    have hb1:b<wr.heap.size:=by have:b<V.heap.size:=hbn;omega
    have h0:=(hW.block B (show B<V2.heap.size by omega) (by rw [hRg];intro e;have:=(own0 _ e).1;omega)).trans (bV2.block B hB1);have h1:=(hW.block b (show b<V2.heap.size by omega) (by rw [hRg];intro e;have:=(own0 _ e).1;have:b<V.heap.size:=hbn;omega)).trans (bV2.block b hb1);have h2:=(hW.block wr.heap.size l2 (by rw [hRg];intro e;have:=(own0 _ e).2;omega)).trans (show V2.drew.heap[wr.heap.size]?=_ from eV2)
    exact ⟨QaF (p:=⟨B,54,none⟩) h0 c54,QaF (p:=⟨b,off+k*6,none⟩) h1 (QG E0),by rw [cell_of_row W' _ 0 _ _ _ h2];rfl⟩)
   have HRG:=QQ hRg;have BV:=QQ bV2;clear hV2 e1 eV2 bV2 hRg c54 E0
   cases w <;> cases s <;> cases c
   all_goals
    go_wp2;refine Qas (Qa Rg) (by kernel_rfl) 15 rfl ?_;refine Qam [0,1,2,3,4,5,6,7,8,9,10,11] (by kernel_rfl) (by kernel_rfl) ?_
    iterate 12
     first
     | (refine Qax (Qa.pre Rg) rfl (by rfl) (v:=?_) (fun W hW=>?_) (fun K hK=>?_);rotate_left;· (obtain ⟨q0,q1,q2⟩:=(QG HX) W hW;go_simp;first | done | rfl))
     | refine Qap (Qa.pre Rg) rfl (by rfl) (fun K hK=>?_)
     go_simp;refine hK _ ?_;clear hK K
    refine Qaw ?_;refine Qaq 12 rfl (by kernel_rfl) (by rfl) (fun K hK=>?_);go_simp;generalize hw6:World.drew (World.alloc V2 _)=w6;obtain ⟨us,hus⟩:∃ us:List Value,w6=(V2.alloc (Obj.cells us.toArray 5)).drew∧us=ub∧us.length=4∧∀ u∈us,u.oneCell'=true:=⟨[_,_,_,_],hw6.symm,by rw [show ub=_ from HUB,QbW pg,QbW f];rfl,rfl,by simp [Value.oneCell']⟩;clear hw6;obtain ⟨hw6,husP,husl,hus1⟩:=hus
    have b6:Below V2.heap.size V2 w6:=by
     rw [hw6];have h20:Below V2.heap.size V2 (V2.alloc (Obj.cells us.toArray 5)):=(QB _ _).alloc (QN _) _;exact ⟨h20.os,h20.tape,h20.output,h20.size,h20.block⟩
    have x6:w6.heap[V2.heap.size]?=some (.cells us.toArray 5):=by rw [hw6];exact QW _ _
    have s6:w6.heap.size=V2.heap.size+1:=by rw [hw6];show (V2.alloc _).heap.size=_;simp
    have hD:Below V2.drew.heap.size V2.drew w6:=⟨b6.os,b6.tape,b6.output,b6.size,b6.block⟩;refine hK _ _ (Wr.of_below hD) ?_;have HUS:=QQ husP;have B6:=QQ b6;clear hw6 husP b6 hD;clear hK K;refine Qal (fun K hK=>?_);go_simp;refine hK _ ?_;clear hK K;refine Qaq 13 rfl (by kernel_rfl) (by rfl) (fun K hK=>?_);have own:=(QG OWN);have b6:=(QG B6);have bV2:=(QG BV);have kk:Below wr.heap.size wr w6:=bV2.trans (b6.mono (Nat.le_of_lt l2))
    have own6:=Qac (B:=w6) own fun b hb'=>kk.block b (own.lt b hb').2
    refine QaQ (.tmp 150) (.tmp 162) 22 rfl V.heap.size 5 i0 _ 1 1 Tryz.underlying22 hi hz0 hz1 hz2 rfl (by decide) v (k*4) _ rfl own6 (some ⟨V2.heap.size,0,none⟩) 4 4 us rfl husl hus1 (.inr ⟨_,_,rfl,fun j u hj=>by
     rw [Nat.zero_add,cell_of_row w6 _ j _ _ _ x6,List.getElem?_toArray];exact hj⟩) (by omega) (by simp only [maxLen];omega) (by have:=kk.size;omega) ?_
    intro v10 w10 o10 g10 hat
    have hb10:Below V.heap.size V w10:=(hb.trans (kk.mono hsz)).grown g10 (by have:=kk.size;omega) fun b' hb'=>(own.lt b' hb').1
    rw [show us=_ from HUS,← (QG HCAT),show k*4+4=(k+1)*4 by omega] at o10;have O10:=QQ (QA o10 hb10)
    have hw10:Qa Rg w6 w10:=Wr.grown (Wr.refl Rg w6) g10 fun b hb=>.inl (by rw [show Rg=_ from HRG];exact hb)
    clear o10 hb10 g10 hat own own6 kk b6 bV2 x6;refine hK _ _ hw10 ?_;clear hK K;refine Qal (fun K hK=>?_);go_simp;refine hK _ ?_;clear hK K;refine Qam [14] (by kernel_rfl) (by kernel_rfl) ?_
    iterate 1
     first
     | (refine Qax (Qa.pre Rg) rfl (by rfl) (v:=?_) (fun W hW=>?_) (fun K hK=>?_);rotate_left;· (go_simp;first | done | rfl))
     | refine Qap (Qa.pre Rg) rfl (by rfl) (fun K hK=>?_)
     go_simp;refine hK _ ?_;clear hK K
    refine Qaw ?_;refine QaR (by kernel_rfl) ?_;go_wp2;go_roundw
    case rel=>exact ⟨k+1,_,by go_num,rfl,by omega,(QG O10).1,(QG O10).2⟩
    case measure=>simp [intOf];omega
  ·have hk2:k=n:=by omega
   subst hk2
   have t1:decide ((k:Int)<(k:Int))=false:=by simp
   rw [List.take_of_length_le (by rw [← (QG HNN)];exact QN _)] at own;clear hx hk;have OWN:=QQ own;clear own;go_wp2;refine (QG AK) _ _ ?_;have own:=(QG OWN);obtain ⟨fb,hfb⟩:∃ b,b=pgB l:=⟨_,rfl⟩
   have hlen:fb.length=k*4:=by rw [hfb,QfN,show k=_ from HNN]
   have hbb:∀ z∈fb,0≤z∧z≤255:=by rw [hfb];exact QgU _
   rw [← hfb] at own;have HX:=QQ hfb;obtain ⟨a1,c1,rfl,_⟩:=Qaa own;have r1:=Qav own hbb;have kf:=Qca 18 (by decide) a1 (k*4) c1 fb wr ⟨r1,hbb⟩ (by omega);have inv1:=(QG H).grow hb;have INV1:=QQ inv1;clear inv1 r1 hfb own;go_wp2_with (go_at_call 71;refine Qau ?_);unfold Qag;refine kf.mono ?_;rintro e w2 ⟨v1,rfl,o1,b1⟩;obtain ⟨a1,c1,rfl,_⟩:=Qaa o1;have r1:=Qav o1 (QaW 18 fb hbb (by omega));have inv2:=(QG INV1).grow b1;clear kf o1 b1 c54;go_wp2_with (at_builtin;refine Qau ?_);unfold Qag;refine Qae rfl _ _ 22 rfl (W.heap.size+1) 5 i0 Tryz.underlying22 hi hz0 hz1 hz2 t3 o.length o rfl inv2.own _ (k*4+5) c1 w2.heap.size (Qa5 18 fb) rfl r1 (by omega) (by have:=inv2.pc.lB;omega) ?_;intro v9 w9 o9 g9 _;have inv9:Qa6 W (p,⟨fa,fc,pa,pc⟩) X B v9 (o++(Qa5 18 fb)) w9:=⟨inv2.pc.grown g9 fun b hb=>(inv2.own.lt b hb).1,by rw [QL,show (Qa5 18 fb).length=k*4+5 by rw [QaX,hlen]];exact o9⟩;have INV9:=QQ inv9;clear inv9 inv2 o9 g9 r1;go_wp2
   all_goals go_ret
   have inv:=(QG INV9);rw [show fb=_ from HX,← (QG HF)] at inv;exact ⟨_,rfl,inv.own,inv.pc.below⟩
end
theorem Qbi (t:Int) (b:List Int) (r:Forest) (ht:t<128) (hl:b.length<4294967296):(Forest.cons t b .nil r).layF=Qa5 t b++r.layF:=by
 rw [Forest.layF,if_neg (by omega:¬ 128≤t),Qa5,QfD _ hl];simp only [List.append_assoc]
theorem Qj4 (t:Int) (k r:Forest) (ht:128≤t) (hl:k.layF.length<4294967296):(Forest.cons t [] k r).layF=Qa5 t k.layF++r.layF:=by
 rw [Forest.layF,if_pos ht,Qa5,QfD _ hl];simp only [List.append_assoc]
theorem Qdg (n:Nat):(Qa7 n).length<4294967296:=by rw [QaG];decide
theorem QnA (p:Pr):(Qff p).layF=Qa5 7 (Qa7 p.pid.toNat)++Qa5 8 (Qa7 p.parent.toNat)++Qa5 9 (Qa7 p.state.toNat):=by
 unfold Qff;rw [Qbi _ _ _ (by decide) (Qdg _),Qbi _ _ _ (by decide) (Qdg _),Qbi _ _ _ (by decide) (Qdg _),Forest.layF];simp only [List.append_assoc,List.append_nil]
theorem QnB (p:Pr) (h1:(cpB p.cpu).length<4294967296) (h2:(cpB p.saved).length<4294967296) (h3:(sgB p.sig).length<4294967296) (h4:(fdB p.fds).length<4294967296) (h5:(pgB p.pages).length<4294967296) :
  (QkR p).layF=Qa5 11 (cpB p.cpu)++(Qa5 12 (cpB p.saved)++(Qa5 13 (sgB p.sig)++(Qa5 14 (Qa7 p.wait.toNat)++(Qa5 15 (Qa7 p.pipe.toNat)++(Qa5 16 (Qa7 p.left.toNat)++(Qa5 17 (fdB p.fds)++Qa5 18 (pgB p.pages))))))):=by
 unfold QkR;rw [Qbi _ _ _ (by decide) h1,Qbi _ _ _ (by decide) h2,Qbi _ _ _ (by decide) h3,Qbi _ _ _ (by decide) (Qdg _),Qbi _ _ _ (by decide) (Qdg _),Qbi _ _ _ (by decide) (Qdg _),Qbi _ _ _ (by decide) h4,Qbi _ _ _ (by decide) h5,Forest.layF];simp only [List.append_nil]
theorem QoX (q:Pr × QcJ) (hf:q.1.Fine) (hm:Qbj q.1=true) (W:World) (h1:Qc W.heap.size W q.2.fa q.1.fds.length q.2.fc (q.1.fds.map (Value.int .i64))) (h2:Qc W.heap.size W q.2.pa q.1.pages.length q.2.pc (q.1.pages.flatMap Pg.vals)) :
  Calls Tryz.prog 72 #[.agg (QaP q).toArray] W fun e W'=>∃ v,e=.returned v∧W'.ownsRow (W.heap.size+1) 5 1 v (Qbl q.1).layF.length ((Qbl q.1).layF.map (Value.int .u8))∧Below W.heap.size W W':=by
 obtain ⟨p,⟨fa,fc,pa,pc⟩⟩:=q
 have hm':(decide (1≤p.pid∧p.pid≤65535)=true∧decide (0≤p.parent∧p.parent≤65535)=true)∧(if p.state=2 then Qa8 p else Qbq p)=true:=by
  have:=hm;unfold Qbj at this;simpa only [Bool.and_eq_true] using this
 simp only [decide_eq_true_eq] at hm';obtain ⟨⟨hpid,hpar⟩,hrest⟩:=hm';obtain ⟨X,hX⟩:∃ X,X=(QaP (p,⟨fa,fc,pa,pc⟩)).toArray:=⟨_,rfl⟩;obtain ⟨F,hF⟩:∃ F,F=(Qbl p).layF:=⟨_,rfl⟩
 have hst:0≤p.state∧p.state<4294967296:=by
  by_cases h:p.state=2
  ·omega
  ·rw [if_neg h] at hrest
   unfold Qbq at hrest;simp only [Bool.and_eq_true,beq_iff_eq] at hrest;omega
 have hk:(Qbl p).layF=(Qff p).layF++(if p.state=2 then (Forest.cons 10 (Qa7 p.status.toNat) .nil .nil).layF else (QkR p).layF):=by
  unfold Qbl;rw [Forest.layF_app]
  split <;> rfl
 rw [← hX,← hF];have hl1:=Qd9 hf.ok.1;have hl2:=Qd9 hf.ok.2.1;have hl3:=Qh2 hf.ok.2.2;simp only at hl1 hl2 hl3
 have L3:(Qa5 7 (Qa7 p.pid.toNat)++Qa5 8 (Qa7 p.parent.toNat)++Qa5 9 (Qa7 p.state.toNat)).length=39:=by simp only [QL,QaX,QaG]
 obtain ⟨o3,ho3⟩:∃ o,o=Qa5 7 (Qa7 p.pid.toNat)++Qa5 8 (Qa7 p.parent.toNat)++Qa5 9 (Qa7 p.state.toNat):=⟨_,rfl⟩;rw [← ho3] at L3
 have hF3:F=o3++(if p.state=2 then (Forest.cons 10 (Qa7 p.status.toNat) .nil .nil).layF else (QkR p).layF):=by rw [hF,hk,QnA,ho3]
 have g4:∀ B,Qbs W (p,⟨fa,fc,pa,pc⟩) X B (tl 4 (Tryz.f72.body.getD .skip)) o3 F:=fun B=>by
  refine QqM W p fa fc pa pc X B o3 F (by omega) hf.status (fun h=>?_) (fun h=>?_)
  ·rw [hF3,if_pos h,Qbi _ _ _ (by decide) (Qdg _),Forest.layF,List.append_nil]
  ·rw [if_neg h] at hrest hF3
   unfold Qbq Qdc Qci at hrest;simp only [Bool.and_eq_true,beq_iff_eq,decide_eq_true_eq,List.all_eq_true] at hrest;obtain ⟨⟨⟨⟨_,_⟩,⟨⟨⟨hw,hpi⟩,_⟩,_⟩⟩,⟨hfl,hfa⟩⟩,hpg⟩:=hrest
   have hfd:∀ x∈p.fds,-1≤x∧x≤1000:=fun x hx=>by
    have:=hfa x hx;unfold Qf1 at this;simp only [decide_eq_true_eq] at this;omega
   have hl4:(fdB p.fds).length=8:=by simp [fdB,hfl]
   have hl5:=QfN p.pages;have hpp:=hf.pages;simp only at hpp;rw [QnB p (by omega) (by omega) (by omega) (by omega) (by omega)] at hF3;refine QqN W p fa fc pa pc X B _ F (by omega) ?_;refine QqO W p fa fc pa pc X B _ F (by simp only [QL,QaX];omega) ?_;refine QqP W p fa fc pa pc X B _ F (by simp only [QL,QaX];omega) ?_;refine Qp5 W p fa fc pa pc X B _ F (by simp only [QL,QaX];omega) (by omega) ?_;refine Qp6 W p fa fc pa pc X B _ F (by simp only [QL,QaX,QaG];omega) (by omega) ?_;refine Qp7 W p fa fc pa pc X B _ F (by simp only [QL,QaX,QaG];omega) hf.left ?_;refine Qp8 W p fa fc pa pc X B _ F (by simp only [QL,QaX,QaG];omega) hfd ?_;refine Qp9 W p fa fc pa pc X B _ F (by simp only [QL,QaX,QaG];omega) ?_;rw [hF3];simp only [List.append_assoc]
 have g1:∀ B,Qbs W (p,⟨fa,fc,pa,pc⟩) X B (tl 2 (Tryz.f72.body.getD .skip)) (Qa5 7 (Qa7 p.pid.toNat)) F:=fun B=>by
  refine QqK W p fa fc pa pc X B _ F (by simp only [QL,QaX,QaG];omega) (by omega) ?_;refine QqL W p fa fc pa pc X B _ F (by simp only [QL,QaX,QaG];omega) hst ?_;rw [← ho3];exact g4 B
 have hpd:0≤p.pid∧p.pid<4294967296:=by omega
 clear g4 hF hF3 hk hl1 hl2 hl3 L3 ho3 hst hrest hpid hpar;have G:=QQ (QA g1 (QA hX (QA hf (QA h1 h2))));clear g1 hX hf h1 h2 hm;go_enter Tryz.func72,Tryz.ntmps72;refine wp_seq_k (fun K aK=>?_);have AK:=QQ aK;clear aK;go_wp2;refine (QG AK) _ _ ?_;obtain ⟨g1,hX,hf,h1,h2⟩:=(QG G);obtain ⟨V,hV⟩:∃ V,V=W.alloc (.cells X 54):=⟨_,rfl⟩;have H0:Qad W (p,⟨fa,fc,pa,pc⟩) X W.heap.size V:=⟨hf,hX,rfl,by rw [hV];exact QW _ _,by rw [hV];exact (QB _ _).alloc (QN _) _,h1,h2⟩;rw [← hV];apply QqJ W p fa fc pa pc X W.heap.size F hpd (g1 _);exact H0
section
attribute [local go_sem] QaB QaJ QaA
def DbQ (W:World) (F:List Int):Exit→Act→World→Prop:=bodyPost Tryz.prog Tryz.f28 fun e W'=>∃ v,e=.returned (.tuple #[v,.int .i64 0])∧W'.ownsRow W.heap.size 5 1 v (F++QaE (Qe3 F)).length ((F++QaE (Qe3 F)).map (Value.int .u8))∧Below W.heap.size W W'
theorem Qa1.lB {W:World} {x:Mem} {s:Sl5} {X:Array Value} {B:Nat} {V:World} (h:Qa1 W x s X B V):W.heap.size<V.heap.size:=by
 have h1:=(QI.1 h.eB).1;have h2:=h.hB;omega
theorem Qa1.grown {W:World} {x:Mem} {s:Sl5} {X:Array Value} {B:Nat} {V V':World} (h:Qa1 W x s X B V) {row:Option Nat} (g:V.grownBy V' row) (hr:∀ b,row=some b→W.heap.size+1≤b):Qa1 W x s X B V':=by
 have h2:=h.hB;have h3:=h.lB;exact ⟨h.hX,h.hB,(g.block B (by omega) (fun e=>by have:=hr B e.symm;omega)).trans h.eB,h.below.grown g (by omega) fun b hb=>by have:=hr b hb;omega,h.at_,h.fine⟩
structure QbH (W:World) (x:Mem) (s:Sl5) (X:Array Value) (B:Nat) (t5:Value) (o:List Int) (V:World):Prop where
 my:Qa1 W x s X B V
 own:V.ownsRow (W.heap.size+1) 5 1 t5 o.length (o.map (Value.int .u8))
theorem QbH.grow {W:World} {x:Mem} {s:Sl5} {X:Array Value} {B:Nat} {t5:Value} {o:List Int} {V V':World} (h:QbH W x s X B t5 o V) (b:Below V.heap.size V V'):QbH W x s X B t5 o V' :=
 ⟨h.my.grow b,Qac h.own fun y hy=>b.block y (h.own.lt y hy).2⟩
theorem QbH.other {W:World} {x:Mem} {s:Sl5} {X:Array Value} {B:Nat} {t5:Value} {o:List Int} {V V':World} (h:QbH W x s X B t5 o V) {row:Option Nat} (g:V.grownBy V' row) {Hs:Nat} (h1:∀ b,t5.ownBlock=some b→b<Hs) (h2:W.heap.size+1≤Hs) (hr:∀ b,row=some b→Hs≤b):QbH W x s X B t5 o V' :=
 ⟨h.my.grown g fun b hb=>Nat.le_trans h2 (hr b hb),Qac h.own fun y hy=>g.block y (h.own.lt y hy).2 (fun e=>by have:=hr y e.symm;have:=h1 y hy;omega)⟩
def QcP (W:World) (x:Mem) (s:Sl5) (X:Array Value) (B:Nat) (cd:Code) (o F:List Int):Prop :=
 ∀ (t5 u6 u7 u8 u9 u10 u11 u12 u13 u14 u15 u16 u17 u18 u19 u20 u21 u22 u23 u24 u25 u26 u27 u28 u29 u30 u31 u32 u33 u34 u35 u36 u37 u38 u39 u40 u41 u42 u43 u44 u45 u46 u47 u48 u49 u50 u51 u52 u53 u54 u55 u56 u57 u58 u59 u60 u61 u62 u63 u64 u65 u66 u67 u68 u69 u70 u71 u72 u73 u74 u75 u76 u77 u78 u79 u80 u81 u82 u83 u84 u85 u86 u87 u88 u89 u90 u91 u92 u93 u94 u95 u96 u97 u98 u99 u100 u101 u102 u103 u104 u105 u106 u107 u108 u109 u110 u111 u112 u113 u114 u115 u116 u117 u118 u119 u120 u121 u122 u123 u124 u125 u126 u127 u128 u129 u130 u131 u132 u133 u134 u135 u136 u137 u138 u139 u140 u141 u142 u143 u144 u145 u146 u147 u148 u149 u150 u151 u152 u153 u154 u155 u156 u157 u158:Value) (V:World),QbH W x s X B t5 o V→cd.wp Tryz.prog (DbQ W F) { tmps:=#[.agg X,.pointer (some ⟨B,0,none⟩),.slice none 0 0,.int .i64 0,.bool true,t5,u6,u7,u8,u9,u10,u11,u12,u13,u14,u15,u16,u17,u18,u19,u20,u21,u22,u23,u24,u25,u26,u27,u28,u29,u30,u31,u32,u33,u34,u35,u36,u37,u38,u39,u40,u41,u42,u43,u44,u45,u46,u47,u48,u49,u50,u51,u52,u53,u54,u55,u56,u57,u58,u59,u60,u61,u62,u63,u64,u65,u66,u67,u68,u69,u70,u71,u72,u73,u74,u75,u76,u77,u78,u79,u80,u81,u82,u83,u84,u85,u86,u87,u88,u89,u90,u91,u92,u93,u94,u95,u96,u97,u98,u99,u100,u101,u102,u103,u104,u105,u106,u107,u108,u109,u110,u111,u112,u113,u114,u115,u116,u117,u118,u119,u120,u121,u122,u123,u124,u125,u126,u127,u128,u129,u130,u131,u132,u133,u134,u135,u136,u137,u138,u139,u140,u141,u142,u143,u144,u145,u146,u147,u148,u149,u150,u151,u152,u153,u154,u155,u156,u157,u158],defers:=[] } V
theorem Qfg {α:Type} (g:α→Forest):∀ l:List α,(Qay g l).layF=l.flatMap fun x=>(g x).layF
 | []=>rfl
 | x::l=>by rw [Qay,Forest.layF_app,Qfg g l];rfl
theorem QeB {α:Type} (g:α→Forest) (l:List α) (k:Nat) (hk:k<l.length):(Qay g (l.take (k+1))).layF=(Qay g (l.take k)).layF++(g l[k]).layF:=by
 rw [Qex g l k hk,Forest.layF_app]
theorem QeC {α:Type} (g:α→Forest) (l:List α) (k:Nat):(Qay g (l.take k)).layF.length≤(Qay g l).layF.length:=by
 have h:(Qay g l).layF=(Qay g (l.take k)).layF++(Qay g (l.drop k)).layF:=by
  rw [Qfg,Qfg,Qfg,← List.flatMap_append,List.take_append_drop]
 rw [h,QL];omega
theorem Qfh {α:Type} (g:α→Forest) (l:List α) (q:α) (h:q∈l):(g q).layF.length≤(Qay g l).layF.length:=by
 obtain ⟨k,hk,rfl⟩:=List.mem_iff_getElem.1 h;have h1:=QeC g l (k+1);rw [QeB g l k hk,QL] at h1;omega
theorem QpL (W:World) (x:Mem) (s:Sl5) (X:Array Value) (B:Nat) (F:List Int) (hl:F.length≤40000) (hb:∀ z∈F,0≤z∧z≤255):QcP W x s X B (tl 9 (Tryz.f28.body.getD .skip)) F F:=by
 iterate 154 intro
 intro V h;obtain ⟨a1,c1,rfl,_⟩:=Qaa h.own;have r1:QaL V.heap.size V (.slice a1 F.length c1) F:=⟨Qav h.own hb,hb⟩;have ks:=QiQ a1 F.length c1 F V r1 hl;have H:=QQ h;clear h r1
 conv=>arg 2;whnf
 refine wp_seq_k (fun K aK=>?_);have AK:=QQ aK;clear aK;go_wp2_with (go_at_call 66;refine Qau ?_);unfold Qag;refine ks.mono ?_;rintro e w1 ⟨v1,rfl,o1,b1⟩;have h:=(QG H)
 have o2:=QaI o1 (show W.heap.size≤V.heap.size from h.my.below.size) fun _ _=>rfl
 have bW:=(h.grow b1).my.below
 have L:(F++QaE (Qe3 F)).length=F.length+4:=by rw [QL];rfl
 clear h b1 o1 ks;go_wp2;refine (QG AK) _ _ ?_;go_wp2;go_ret2;exact ⟨_,rfl,by rw [L];exact o2,bW⟩
end
section
attribute [local go_sem] QaB QaJ QaA
theorem Qqk (W:World) (x:Mem) (s:Sl5) (X:Array Value) (B:Nat) (o F:List Int) (ho:o.length+(Qay QeG x.O).layF.length≤100000) (hmay:Qcb x.im=true)
  (hn:QcP W x s X B (tl 5 (Tryz.f28.body.getD .skip)) (o++(Qay QeG x.O).layF) F):QcP W x s X B (tl 4 (Tryz.f28.body.getD .skip)) o F:=by
 iterate 154 intro
 intro V h;obtain ⟨i0,hi,hz0,hz1,hz2⟩:=info_parts QbB
 have hsm:x.O.length≤20000:=by have:=h.my.fine.small;simp only [Mem.im,QM] at this;exact this.2.1
 have HP:=QQ (fun (V:World) (hV:Below W.heap.size W V) (k:Nat) (hk:k<x.O.length)=>QbP (m:=1) h.my.at_.O rfl (fun _ _=>rfl) hV k hk);have HLEN:=QQ (fun k=>show (o++(Qay QeG (x.O.take k)).layF).length≤100000 by rw [QL];have:=QeC QeG x.O k;omega);have HPRT:=QQ (fun q hq=>show (QeG q).layF.length≤100000 from Nat.le_trans (Qfh QeG x.O q hq) (by omega));have HN:=QQ hn;have H:=QQ h;have HMAY:=QQ hmay;clear h hn ho hmay;obtain ⟨n,hn⟩:∃ n,n=x.O.length:=⟨_,rfl⟩;have HNN:=QQ hn;rw [← hn] at hsm;clear hn
 conv=>arg 2;whnf
 refine wp_seq_k (fun K aK=>?_);have AK:=QQ aK;clear aK;go_wp2;go_loopw [5,6] (fun vv i  wr=>∃ (k:Nat) (v:Value) (ok:List Int),i=.int .i64 (k:Int)∧v=vv∧k≤n∧Hid (ok=o++(Qay QeG (x.O.take k)).layF)∧QbH W x s X B v ok wr) (fun _ i _=>n-(intOf i).toNat)
 case atStart=>exact ⟨0,_,o,rfl,rfl,Nat.zero_le _,(show o=o++[] from (List.append_nil o).symm),H⟩
 case round =>
  clear H;obtain ⟨k,v,ok,rfl,rfl,hk,hok,inv⟩:=hrel;have H:=QQ inv
  have hokl:ok.length≤100000:=by rw [show ok=_ from hok];exact (QG HLEN) k
  have cc:=inv.my.cell (i:=1) rfl;rw [show x.O.length=n from (QG HNN).symm] at cc
  rcases Nat.lt_or_ge k n with hx | hx
  rotate_left
  ·have t1:decide ((k:Int)<(n:Int))=false:=by simp;omega
   have h8:ok=o++(Qay QeG x.O).layF:=by rw [show ok=_ from hok,List.take_of_length_le (by rw [← (QG HNN)];exact hx)]
   have H8:=QQ h8;clear inv hok h8;go_wp2;refine (QG AK) _ _ ?_;have inv:=(QG H);rw [show ok=_ from H8] at inv;apply (QG HN);exact inv
  have t1:decide ((k:Int)<(n:Int))=true:=by simp;omega
  have t0:(k:Int)<(n:Int):=by omega
  have hx2:k<x.O.length:=by rw [← (QG HNN)];exact hx
  obtain ⟨b,off,ha,hbn,e⟩:=(QG HP) wr inv.my.below k hx2;obtain ⟨sa,hsa⟩:∃ sa,sa=s.o.1:=⟨_,rfl⟩;rw [← hsa] at ha cc;subst ha;clear hsa;have hsz:=inv.my.below.size;have hlB:=inv.my.lB
  have hvown:=fun b hb=>(inv.own.lt b hb).2
  obtain ⟨q,hq⟩:∃ q,q=x.O[k]:=⟨_,rfl⟩;rw [← hq] at e
  have hmem:q∈x.O:=by rw [hq];exact List.getElem_mem hx2
  have hcat:o++(Qay QeG (x.O.take (k+1))).layF=ok++(QeG q).layF:=by rw [QeB _ _ _ hx2,← List.append_assoc,← (show ok=_ from hok),hq]
  have HCAT:=QQ hcat;have hprt:=(QG HPRT) q hmem;clear hq hok hcat;have hob:=inv.my.fine.objs q hmem
  have e0:wr.cell? ⟨b,off+k,none⟩=some (.string (strOfNums q)):=by
   have:=e 0 _ rfl;rw [Nat.mul_one,Nat.add_zero] at this;exact this
  obtain ⟨st,hst⟩:∃ st,st=strOfNums q:=⟨_,rfl⟩;rw [← hst] at e0;obtain ⟨cp,hcp⟩:∃ cp,cp=grownCap wr st.size 0 5:=⟨_,rfl⟩;obtain ⟨sz,hsz9⟩:∃ sz,sz=st.size:=⟨_,rfl⟩
  have hsq:sz=q.length:=by rw [hsz9,hst];exact Qc2 q
  obtain ⟨V2,hV2⟩:∃ V2,V2=bw wr st:=⟨_,rfl⟩
  have bV2:Below wr.heap.size wr V2:=by rw [hV2];exact QjO _ _
  have sV2:V2.heap.size=wr.heap.size+1:=by rw [hV2];exact Qlo _ _
  have rV2:QaL V2.heap.size V2 (.slice (some ⟨wr.heap.size,0,none⟩) sz cp) q:=by
   rw [sV2,hV2,hsz9,hcp,hst];exact Qoc wr q (by omega) hob.2
  have hcv:(convert 9 22 (.string st)).run Tryz.prog wr=.ok (.slice (some ⟨wr.heap.size,0,none⟩) sz cp) V2:=by
   rw [hsz9,hcp,hV2];exact Qon wr st
  have kf:=Qca 2 (by decide) (some ⟨wr.heap.size,0,none⟩) sz cp q V2 rV2 (by omega);have BV:=QQ bV2;have HSQ:=QQ hsq;clear hV2 hsz9 hcp hst inv rV2 bV2 e hsq;go_wp2_with (go_at_call 71;refine Qau ?_);unfold Qag;refine kf.mono ?_;rintro e' w2 ⟨v1,rfl,o1,b1⟩;obtain ⟨a1,c1,rfl,_⟩:=Qaa o1;have r1:=Qav o1 (QaW 2 q hob.2 (by omega));have inv2:=((QG H).grow (QG BV)).grow b1;clear kf o1 b1 e0 hcv cc;go_wp2_with (at_builtin;refine Qau ?_);unfold Qag;have hsq:=(QG HSQ);refine Qae rfl _ _ 22 rfl (W.heap.size+1) 5 i0 Tryz.underlying22 hi hz0 hz1 hz2 v ok.length ok rfl inv2.own _ (sz+5) c1 w2.heap.size (Qa5 2 q) rfl r1 (by omega) (by have:=inv2.my.lB;omega) ?_;intro v9 w9 o9 g9 _;have inv9:QbH W x s X B v9 (ok++Qa5 2 q) w9:=⟨inv2.my.grown g9 fun b hb=>(inv2.own.lt b hb).1,by rw [QL,show (Qa5 2 q).length=(sz+5) by rw [QaX,← (QG HSQ)]];exact o9⟩;have INV9:=QQ inv9;clear hsq inv9 inv2 o9 g9 r1;go_wp2;go_roundw
  case rel=>exact ⟨k+1,v9,_,by go_num,rfl,by omega,(by rw [show o++_=_ from HCAT];exact (show ok++Qa5 2 q=ok++(QeG q).layF by unfold QeG;rw [Qbi _ _ _ (by decide) (by omega),Forest.layF,List.append_nil])),(QG INV9)⟩
  case measure=>simp [intOf];omega
theorem Qqm (W:World) (x:Mem) (s:Sl5) (X:Array Value) (B:Nat) (o F:List Int) (ho:o.length+(Qay Qb9 x.F).layF.length≤100000) (hmay:Qcb x.im=true)
  (hn:QcP W x s X B (tl 7 (Tryz.f28.body.getD .skip)) (o++(Qay Qb9 x.F).layF) F):QcP W x s X B (tl 6 (Tryz.f28.body.getD .skip)) o F:=by
 iterate 59 intro
 intro u64
 iterate 94 intro
 intro V h;obtain ⟨i0,hi,hz0,hz1,hz2⟩:=info_parts QbB
 have hsm:x.F.length≤20000:=by have:=h.my.fine.small;simp only [Mem.im,QM] at this;exact this.2.2.2.1
 have HP:=QQ (fun (V:World) (hV:Below W.heap.size W V) (k:Nat) (hk:k<x.F.length)=>QbP (m:=2) h.my.at_.F rfl (fun _ _=>rfl) hV k hk);have HLEN:=QQ (fun k=>show (o++(Qay Qb9 (x.F.take k)).layF).length≤100000 by rw [QL];have:=QeC Qb9 x.F k;omega);have HPRT:=QQ (fun q hq=>show (Qb9 q).layF.length≤100000 from Nat.le_trans (Qfh Qb9 x.F q hq) (by omega));have HN:=QQ hn;have H:=QQ h;have HMAY:=QQ hmay;clear h hn ho hmay;obtain ⟨n,hn⟩:∃ n,n=x.F.length:=⟨_,rfl⟩;have HNN:=QQ hn;rw [← hn] at hsm;clear hn
 conv=>arg 2;whnf
 refine wp_seq_k (fun K aK=>?_);have AK:=QQ aK;clear aK;go_wp2;go_loopw [5,9,10] (fun vv i _ wr=>∃ (k:Nat) (v:Value) (ok:List Int),i=.int .i64 (k:Int)∧v=vv∧k≤n∧Hid (ok=o++(Qay Qb9 (x.F.take k)).layF)∧QbH W x s X B v ok wr) (fun _ i _ _=>n-(intOf i).toNat)
 case atStart=>exact ⟨0,_,o,rfl,rfl,Nat.zero_le _,(show o=o++[] from (List.append_nil o).symm),H⟩
 case round =>
  clear H;obtain ⟨k,v,ok,rfl,rfl,hk,hok,inv⟩:=hrel;have H:=QQ inv
  have hokl:ok.length≤100000:=by rw [show ok=_ from hok];exact (QG HLEN) k
  have cc:=inv.my.cell (i:=3) rfl;rw [show x.F.length=n from (QG HNN).symm] at cc
  rcases Nat.lt_or_ge k n with hx | hx
  rotate_left
  ·have t1:decide ((k:Int)<(n:Int))=false:=by simp;omega
   have h8:ok=o++(Qay Qb9 x.F).layF:=by rw [show ok=_ from hok,List.take_of_length_le (by rw [← (QG HNN)];exact hx)]
   have H8:=QQ h8;clear inv hok h8;go_wp2;refine (QG AK) _ _ ?_;have inv:=(QG H);rw [show ok=_ from H8] at inv;apply (QG HN);exact inv
  have t1:decide ((k:Int)<(n:Int))=true:=by simp;omega
  have t0:(k:Int)<(n:Int):=by omega
  have hx2:k<x.F.length:=by rw [← (QG HNN)];exact hx
  obtain ⟨b,off,ha,hbn,e⟩:=(QG HP) wr inv.my.below k hx2;obtain ⟨sa,hsa⟩:∃ sa,sa=s.f.1:=⟨_,rfl⟩;rw [← hsa] at ha cc;subst ha;clear hsa;have hsz:=inv.my.below.size;have hlB:=inv.my.lB
  have hvown:=fun b hb=>(inv.own.lt b hb).2
  obtain ⟨q,hq⟩:∃ q,q=x.F[k]:=⟨_,rfl⟩;rw [← hq] at e
  have hmem:q∈x.F:=by rw [hq];exact List.getElem_mem hx2
  have hcat:o++(Qay Qb9 (x.F.take (k+1))).layF=ok++(Qb9 q).layF:=by rw [QeB _ _ _ hx2,← List.append_assoc,← (show ok=_ from hok),hq]
  have HCAT:=QQ hcat;have hprt:=(QG HPRT) q hmem;clear hq hok hcat;have hmf:=(Qc7 (QG HMAY)).2.2.2.2.1 q hmem;obtain ⟨z,bb⟩:=q;unfold Qce at hmf;simp only [decide_eq_true_eq] at hmf;have e0:wr.cell? ⟨b,off+k*2,none⟩=some (.int .i64 z):=e 0 _ rfl;have e1:wr.cell? ⟨b,off+k*2+1,none⟩=some (.bool bb):=e 1 _ rfl
  have w0:IntKind.i64.wrap (2*z)=2*z:=by rw [IntKind.wrap_i64];omega
  have w1:wrap64 (2*z)=2*z:=by simp only [wrap64];omega
  have w2:IntKind.u64.wrap (2*z)=2*z:=Qcx (by omega);have w3:IntKind.u64.wrap (2*z+1)=2*z+1:=Qcx (by omega)
  cases bb with
  | false =>
   have kc:=QdX 6 (by decide) (2*z) (by omega) wr;clear inv e;go_wp2_with (go_at_call 70;refine Qau ?_);unfold Qag;refine kc.mono ?_;rintro e' w1 ⟨v1,rfl,o1,b1⟩;obtain ⟨a1,c1,rfl,_⟩:=Qaa o1;have r1:=Qav o1 (QaW 6 _ (Qbr _ (by omega)) (by rw [QaG];decide));have inv2:=(QG H).grow b1;clear kc o1 b1 e0 e1 cc;go_wp2_with (at_builtin;refine Qau ?_);unfold Qag;refine Qae rfl _ _ 22 rfl (W.heap.size+1) 5 i0 Tryz.underlying22 hi hz0 hz1 hz2 v ok.length ok rfl inv2.own _ 13 c1 w1.heap.size (Qa5 6 (Qa7 (2*z).toNat)) rfl r1 (by omega) (by have:=inv2.my.lB;omega) ?_;intro v9 w9 o9 g9 _;have inv9:QbH W x s X B v9 (ok++Qa5 6 (Qa7 (2*z).toNat)) w9:=⟨inv2.my.grown g9 fun b hb=>(inv2.own.lt b hb).1,by rw [QL,show (Qa5 6 (Qa7 (2*z).toNat)).length=13 by rw [QaX,QaG]];exact o9⟩;have INV9:=QQ inv9;clear inv9 inv2 o9 g9 r1;go_wp2;go_roundw
   case rel=>exact ⟨k+1,v9,_,by go_num,rfl,by omega,(by rw [show o++_=_ from HCAT];exact (show ok++Qa5 6 (Qa7 (2*z).toNat)=ok++(Qb9 (z,false)).layF by unfold Qb9;rw [Qbi _ _ _ (by decide) (Qdg _),Forest.layF,List.append_nil,show 2*(z,false).1+Qb6 (z,false).2=(2*z) by simp [Qb6]])),(QG INV9)⟩
   case measure=>simp [intOf];omega
  | true =>
   have kc:=QdX 6 (by decide) (2*z+1) (by omega) wr;clear inv e;go_wp2_with (go_at_call 70;refine Qau ?_);unfold Qag;refine kc.mono ?_;rintro e' w1 ⟨v1,rfl,o1,b1⟩;obtain ⟨a1,c1,rfl,_⟩:=Qaa o1;have r1:=Qav o1 (QaW 6 _ (Qbr _ (by omega)) (by rw [QaG];decide));have inv2:=(QG H).grow b1;clear kc o1 b1 e0 e1 cc;go_wp2_with (at_builtin;refine Qau ?_);unfold Qag;refine Qae rfl _ _ 22 rfl (W.heap.size+1) 5 i0 Tryz.underlying22 hi hz0 hz1 hz2 v ok.length ok rfl inv2.own _ 13 c1 w1.heap.size (Qa5 6 (Qa7 (2*z+1).toNat)) rfl r1 (by omega) (by have:=inv2.my.lB;omega) ?_;intro v9 w9 o9 g9 _;have inv9:QbH W x s X B v9 (ok++Qa5 6 (Qa7 (2*z+1).toNat)) w9:=⟨inv2.my.grown g9 fun b hb=>(inv2.own.lt b hb).1,by rw [QL,show (Qa5 6 (Qa7 (2*z+1).toNat)).length=13 by rw [QaX,QaG]];exact o9⟩;have INV9:=QQ inv9;clear inv9 inv2 o9 g9 r1;go_wp2;go_roundw
   case rel=>exact ⟨k+1,v9,_,by go_num,rfl,by omega,(by rw [show o++_=_ from HCAT];exact (show ok++Qa5 6 (Qa7 (2*z+1).toNat)=ok++(Qb9 (z,true)).layF by unfold Qb9;rw [Qbi _ _ _ (by decide) (Qdg _),Forest.layF,List.append_nil,show 2*(z,true).1+Qb6 (z,true).2=(2*z+1) by simp [Qb6]])),(QG INV9)⟩
   case measure=>simp [intOf];omega
end
section
attribute [local go_sem] QaB QaJ QaA
def QiM:Forest→Prop
 | .nil=>True
 | .cons _ b k r=>(∀ z∈b,0≤z∧z≤255)∧QiM k∧QiM r
theorem Qdj:∀ f g:Forest,QiM f→QiM g→QiM (f.app g)
 | .nil,_,_,h=>h
 | .cons _ _ _ r,g,h,k=>⟨h.1,h.2.1,Qdj r g h.2.2 k⟩
theorem Qfl:∀ f:Forest,QiM f→∀ z∈f.layF,0≤z∧z≤255
 | .nil,_,z,hz=>by cases hz
 | .cons t b k r,h,z,hz=>by
  rw [Forest.layF] at hz
  rcases List.mem_append.1 hz with hz | hz
  ·rcases List.mem_append.1 hz with hz | hz
   ·rcases List.mem_append.1 hz with hz | hz
    ·rw [List.mem_singleton.1 hz];omega
    ·simp only [List.mem_cons,List.not_mem_nil,or_false] at hz
     rcases hz with rfl | rfl | rfl | rfl <;> omega
   ·by_cases ht:128≤t
    ·rw [if_pos ht] at hz;exact Qfl k h.2.1 z hz
    ·rw [if_neg ht] at hz;exact h.1 z hz
  ·exact Qfl r h.2.2 z hz
theorem QdF {α:Type} (g:α→Forest):∀ l:List α,(∀ x∈l,QiM (g x))→QiM (Qay g l)
 | [],_=>trivial
 | x::l,h=>Qdj _ _ (h x (List.mem_cons_self ..)) (QdF g l fun y hy=>h y (List.mem_cons_of_mem _ hy))
theorem QiN (p:Pr) (hf:p.Fine) (hm:Qbj p=true):QiM (Qbl p):=by
 unfold Qbj at hm;simp only [Bool.and_eq_true,decide_eq_true_eq] at hm;obtain ⟨⟨h1,h2⟩,h3⟩:=hm;have h4:=hf.status;have h5:=hf.left;unfold Qbl;by_cases hs:p.state=2
 ·rw [if_pos hs]
  exact Qdj _ _ ⟨Qbr _ (by omega),trivial,Qbr _ (by omega),trivial,Qbr _ (by omega),trivial,trivial⟩ ⟨Qbr _ (by omega),trivial,trivial⟩
 ·rw [if_neg hs] at h3 ⊢
  unfold Qbq Qdc at h3;simp only [Bool.and_eq_true,beq_iff_eq,decide_eq_true_eq] at h3;obtain ⟨⟨⟨⟨hst,_⟩,⟨⟨⟨hw,hpi⟩,_⟩,_⟩⟩,_⟩,_⟩:=h3;exact Qdj _ _ ⟨Qbr _ (by omega),trivial,Qbr _ (by omega),trivial,Qbr _ (by omega),trivial,trivial⟩ ⟨QdC _,trivial,QdC _,trivial,Qg1 _,trivial,Qbr _ (by omega),trivial,Qbr _ (by omega),trivial,Qbr _ (by omega),trivial,QgF _,trivial,QgU _,trivial,trivial⟩
theorem Qqn (W:World) (x:Mem) (s:Sl5) (X:Array Value) (B:Nat) (o F:List Int) (ho:o.length+(Qay (fun q:Pr × QcJ=>Qcj q.1) x.P).layF.length≤100000) (hmay:Qcb x.im=true)
  (hn:QcP W x s X B (tl 8 (Tryz.f28.body.getD .skip)) (o++(Qay (fun q:Pr × QcJ=>Qcj q.1) x.P).layF) F):QcP W x s X B (tl 7 (Tryz.f28.body.getD .skip)) o F:=by
 iterate 154 intro
 intro V h;obtain ⟨i0,hi,hz0,hz1,hz2⟩:=info_parts QbB
 have hsm:x.P.length≤20000:=by have:=h.my.fine.small;simp only [Mem.im,QM] at this;exact this.1
 have HP:=QQ (fun (V:World) (hV:Below W.heap.size W V) (k:Nat) (hk:k<x.P.length)=>QbP (m:=55) h.my.at_.P rfl (fun q hq=>Pr.vals_length (h.my.fine.procs q.1 (List.mem_map.2 ⟨q,hq,rfl⟩)).ok _ _ _ _) hV k hk);have HLEN:=QQ (fun k=>show (o++(Qay (fun q:Pr × QcJ=>Qcj q.1) (x.P.take k)).layF).length≤100000 by rw [QL];have:=QeC (fun q:Pr × QcJ=>Qcj q.1) x.P k;omega);have HPRT:=QQ (fun q hq=>show ((fun q:Pr × QcJ=>Qcj q.1) q).layF.length≤100000 from Nat.le_trans (Qfh (fun q:Pr × QcJ=>Qcj q.1) x.P q hq) (by omega));have HN:=QQ hn;have H:=QQ h;have HMAY:=QQ hmay;clear h hn ho hmay;obtain ⟨n,hn⟩:∃ n,n=x.P.length:=⟨_,rfl⟩;have HNN:=QQ hn;rw [← hn] at hsm;clear hn
 conv=>arg 2;whnf
 refine wp_seq_k (fun K aK=>?_);have AK:=QQ aK;clear aK;go_wp2;go_loopw [5,11] (fun vv i  wr=>∃ (k:Nat) (v:Value) (ok:List Int),i=.int .i64 (k:Int)∧v=vv∧k≤n∧Hid (ok=o++(Qay (fun q:Pr × QcJ=>Qcj q.1) (x.P.take k)).layF)∧QbH W x s X B v ok wr) (fun _ i _=>n-(intOf i).toNat)
 case atStart=>exact ⟨0,_,o,rfl,rfl,Nat.zero_le _,(show o=o++[] from (List.append_nil o).symm),H⟩
 case round =>
  clear H;obtain ⟨k,v,ok,rfl,rfl,hk,hok,inv⟩:=hrel;have H:=QQ inv
  have hokl:ok.length≤100000:=by rw [show ok=_ from hok];exact (QG HLEN) k
  have cc:=inv.my.cell (i:=0) rfl;rw [show x.P.length=n from (QG HNN).symm] at cc
  rcases Nat.lt_or_ge k n with hx | hx
  rotate_left
  ·have t1:decide ((k:Int)<(n:Int))=false:=by simp;omega
   have h8:ok=o++(Qay (fun q:Pr × QcJ=>Qcj q.1) x.P).layF:=by rw [show ok=_ from hok,List.take_of_length_le (by rw [← (QG HNN)];exact hx)]
   have H8:=QQ h8;clear inv hok h8;go_wp2;refine (QG AK) _ _ ?_;have inv:=(QG H);rw [show ok=_ from H8] at inv;apply (QG HN);exact inv
  have t1:decide ((k:Int)<(n:Int))=true:=by simp;omega
  have t0:(k:Int)<(n:Int):=by omega
  have hx2:k<x.P.length:=by rw [← (QG HNN)];exact hx
  obtain ⟨b,off,ha,hbn,e⟩:=(QG HP) wr inv.my.below k hx2;obtain ⟨sa,hsa⟩:∃ sa,sa=s.p.1:=⟨_,rfl⟩;rw [← hsa] at ha cc;subst ha;clear hsa;have hsz:=inv.my.below.size;have hlB:=inv.my.lB
  have hvown:=fun b hb=>(inv.own.lt b hb).2
  obtain ⟨q,hq⟩:∃ q,q=x.P[k]:=⟨_,rfl⟩;rw [← hq] at e
  have hmem:q∈x.P:=by rw [hq];exact List.getElem_mem hx2
  have hcat:o++(Qay (fun q:Pr × QcJ=>Qcj q.1) (x.P.take (k+1))).layF=ok++((fun q:Pr × QcJ=>Qcj q.1) q).layF:=by rw [QeB _ _ _ hx2,← List.append_assoc,← (show ok=_ from hok),hq]
  have HCAT:=QQ hcat;have hprt:=(QG HPRT) q hmem;clear hq hok hcat;have hqf:q.1.Fine:=inv.my.fine.procs q.1 (List.mem_map.2 ⟨q,hmem,rfl⟩);have hmq:Qbj q.1=true:=(Qc7 (QG HMAY)).2.1 q.1 (List.mem_map.2 ⟨q,hmem,rfl⟩);have kp:=QoX q hqf hmq wr (((inv.my.at_.fds q hmem).below inv.my.below).mono hsz) (((inv.my.at_.pages q hmem).below inv.my.below).mono hsz);have hl:(QaP q).length=55:=Pr.vals_length hqf.ok _ _ _ _
  have hpi:(Tryz.prog.info? 54).map (·.size)=some (QaP q).length:=by rw [hl];exact QdY
  obtain ⟨CL,hCL⟩:∃ CL,CL=QaP q:=⟨_,rfl⟩;obtain ⟨fb,hfb⟩:∃ b,b=(Qbl q.1).layF:=⟨_,rfl⟩
  have hbb:∀ z∈fb,0≤z∧z≤255:=by rw [hfb];exact Qfl _ (QiN q.1 hqf hmq)
  have hfl:fb.length≤544:=by rw [hfb];exact Qj5 q.1 hqf hmq
  obtain ⟨m,hm⟩:∃ m,m=fb.length:=⟨_,rfl⟩;rw [← hCL,← hfb,← hm] at kp;rw [← hCL] at e hpi;rw [← hm] at hfl;have HFB:=QQ hfb;have HM:=QQ hm;clear hCL hl hqf hmq inv hmem hfb hm
  go_wp2_with first
   | (go_at_call 72;refine Qau ?_)
   | (refine QaC (by rfl) 54 (.tmp 112) rfl b (off+k*55) rfl CL _ e Tryz.underlying54 rfl hpi ?_)
  unfold Qag;refine kp.mono ?_;rintro e' w1 ⟨v1,rfl,o1,b1⟩;obtain ⟨a1,c1,rfl,_⟩:=Qaa o1;have r1:=Qav o1 hbb;have kf:=Qca 132 (by decide) a1 m c1 fb w1 ⟨r1,hbb⟩ (by rw [← (QG HM)];omega);have INV1:=QQ ((QG H).grow b1);clear kp o1 b1 r1 e cc;go_wp2_with (go_at_call 71;refine Qau ?_);unfold Qag;refine kf.mono ?_;rintro e' w2 ⟨v1,rfl,o1,b1⟩;obtain ⟨a1,c1,rfl,_⟩:=Qaa o1;have r1:=Qav o1 (QaW 132 fb hbb (by rw [← (QG HM)];omega));have inv2:=(QG INV1).grow b1;clear kf o1 b1;go_wp2_with (at_builtin;refine Qau ?_);unfold Qag;refine Qae rfl _ _ 22 rfl (W.heap.size+1) 5 i0 Tryz.underlying22 hi hz0 hz1 hz2 v ok.length ok rfl inv2.own _ (m+5) c1 w2.heap.size (Qa5 132 fb) rfl r1 (by omega) (by have:=inv2.my.lB;omega) ?_;intro v9 w9 o9 g9 _;have inv9:QbH W x s X B v9 (ok++Qa5 132 fb) w9:=⟨inv2.my.grown g9 fun b hb=>(inv2.own.lt b hb).1,by rw [QL,show (Qa5 132 fb).length=(m+5) by rw [QaX,← (QG HM)]];exact o9⟩;have INV9:=QQ inv9;clear inv9 inv2 o9 g9 r1;go_wp2;go_roundw
  case rel=>exact ⟨k+1,v9,_,by go_num,rfl,by omega,(by rw [show o++_=_ from HCAT];exact (show ok++Qa5 132 fb=ok++(Qcj q.1).layF by unfold Qcj;rw [Qj4 _ _ _ (by decide) (by rw [← (QG HFB),← (QG HM)];omega),Forest.layF,List.append_nil,show fb=_ from HFB])),(QG INV9)⟩
  case measure=>simp [intOf];omega
end
theorem Qfm:∀ (m d:Nat) (bs:List Int) (f:Forest),bs.length≤m→(∀ z∈bs,0≤z∧z≤255)→Qa9 d bs=some f→QiM f
 | m,d,[],f,hm,hb,h=>by
  rw [Qdt] at h
  injection h with h
  rw [← h];trivial
 | 0,d,b::r,f,hm,hb,h=>by simp at hm
 | m+1,d,[b0],f,hm,hb,h=>by rw [Qbt _ _ (by simp) (by simp)] at h;cases h
 | m+1,d,[b0,b1],f,hm,hb,h=>by rw [Qbt _ _ (by simp) (by simp)] at h;cases h
 | m+1,d,[b0,b1,b2],f,hm,hb,h=>by rw [Qbt _ _ (by simp) (by simp)] at h;cases h
 | m+1,d,[b0,b1,b2,b3],f,hm,hb,h=>by rw [Qbt _ _ (by simp) (by simp)] at h;cases h
 | m+1,d,b0::b1::b2::b3::b4::rest,f,hm,hb,h=>by
  rw [QdG] at h;obtain ⟨L,hL⟩:∃ L,L=QfM b1 b2 b3 b4:=⟨_,rfl⟩;rw [← hL] at h;simp only [List.length_cons] at hm
  have hr0:∀ z∈rest,0≤z∧z≤255:=fun z hz=>hb z (by simp [hz])
  by_cases hc:8<d∨b0=0∨rest.length<L
  ·rw [if_pos hc] at h;cases h
  ·rw [if_neg hc] at h
   have htl:(rest.take L).length=L:=by rw [List.length_take];omega
   have hdl:(rest.drop L).length=rest.length-L:=by rw [List.length_drop]
   have b1':∀ z∈rest.take L,0≤z∧z≤255:=fun z hz=>hr0 z (List.mem_of_mem_take hz)
   have b2':∀ z∈rest.drop L,0≤z∧z≤255:=fun z hz=>hr0 z (List.mem_of_mem_drop hz)
   have i1:=fun (k:Forest)=>Qfm m (d+1) (rest.take L) k (by omega) b1'
   have i2:=fun (r:Forest)=>Qfm m d (rest.drop L) r (by omega) b2'
   by_cases ht:128≤b0
   ·rw [if_pos ht] at h
    cases hk:Qa9 (d+1) (rest.take L) with
    | none=>rw [hk] at h;cases h
    | some k =>
     cases hr:Qa9 d (rest.drop L) with
     | none=>rw [hk,hr] at h;cases h
     | some r =>
      rw [hk,hr] at h
      injection h with h
      rw [← h];exact ⟨fun z hz=>(by cases hz),i1 k hk,i2 r hr⟩
   ·rw [if_neg ht] at h
    cases hr:Qa9 d (rest.drop L) with
    | none=>rw [hr] at h;cases h
    | some r =>
     rw [hr] at h
     injection h with h
     rw [← h];exact ⟨b1',trivial,i2 r hr⟩
theorem Qeh {tag:Int}:∀ {f:Forest} {e:List Int × Forest},e∈f.sel tag→QiM f→(∀ z∈e.1,0≤z∧z≤255)∧QiM e.2∧e.1.length≤f.cnt
 | .nil,e,h,_=>by cases h
 | .cons t b k r,e,h,ho=>by
  rw [Forest.sel] at h
  have hc:b.length≤(Forest.cons t b k r).cnt∧r.cnt≤(Forest.cons t b k r).cnt:=by simp only [Forest.cnt];omega
  split at h
  ·rcases List.mem_cons.1 h with rfl | h
   ·exact ⟨ho.1,ho.2.1,hc.1⟩
   ·obtain ⟨h1,h2,h3⟩:=Qeh h ho.2.2
    exact ⟨h1,h2,Nat.le_trans h3 hc.2⟩
  ·obtain ⟨h1,h2,h3⟩:=Qeh h ho.2.2
   exact ⟨h1,h2,Nat.le_trans h3 hc.2⟩
theorem QdM {f:Forest} (ho:QiM f) (tag:Int):(∀ z∈Qao (Qah f tag 0),0≤z∧z≤255)∧(Qao (Qah f tag 0)).length≤f.cnt:=by
 rw [Qgc]
 cases h:f.sel tag with
 | nil=>exact ⟨fun z hz=>(by cases hz),Nat.zero_le _⟩
 | cons e l =>
  obtain ⟨h1,_,h3⟩:=Qeh (f:=f) (tag:=tag) (e:=e) (by rw [h];exact List.mem_cons_self ..) ho;exact ⟨h1,h3⟩
theorem Qhz:∀ k:Forest,((k.sel 18).flatMap fun e=>(Qbd e.1).map QdP).length≤k.cnt
 | .nil=>Nat.zero_le _
 | .cons t b k r=>by
  have ih:=Qhz r;rw [Forest.sel]
  split
  ·rw [List.flatMap_cons,QL,QM,Qbd,QdV,Forest.cnt]
   simp only;omega
  ·rw [Forest.cnt];omega
theorem Qjm {k:Forest} (h:QiM k) (hc:k.cnt≤20000):(Qbu k).Fine:=by
 have hok:=QhO (k:=k) (fun tag=>(QdM h tag).1);have hf:=Nat.le_trans (QdM h 17).2 hc;have hp:(QeR k).length≤20000:=Nat.le_trans (Qhz k) hc;refine ⟨hok,?_,?_,?_,?_⟩
 ·unfold Qbu;split
  ·show 0≤QcF (Qah k 10 0) % 4294967296∧QcF (Qah k 10 0) % 4294967296<4294967296;omega
  ·show 0≤QcF (Qah k 10 0) % 4294967296∧QcF (Qah k 10 0) % 4294967296<4294967296;omega
 ·unfold Qbu;split
  ·show (0:Int)≤0∧(0:Int)<4294967296;decide
  ·show 0≤QcF (Qah k 16 0) % 4294967296∧QcF (Qah k 16 0) % 4294967296<4294967296;omega
 ·unfold Qbu;split
  ·show ([]:List Int).length≤20000;decide
  ·show ((Qao (Qah k 17 0)).map QbJ).length≤20000;rw [QM];exact hf
 ·unfold Qbu;split
  ·show ([]:List Pg).length≤20000;decide
  ·exact hp
theorem Qjg {k:Forest} (h:QiM k) (hc:k.cnt≤20000):(Qb8 k).Fine:=by
 have hf:=Nat.le_trans (QdM h 17).2 hc;have hp:=Nat.le_trans (QdM h 18).2 hc;refine ⟨?_,?_,?_,?_,?_⟩
 ·unfold Qb8;split
  ·exact Qf4 ..
  ·exact ⟨Qhk (QdM h 11).1,Qhk (QdM h 12).1,QmI (QdM h 13).1⟩
 ·unfold Qb8;split
  ·show 0≤Qcy k 10 % 4294967296∧Qcy k 10 % 4294967296<4294967296;omega
  ·show (0:Int)≤0∧(0:Int)<4294967296;decide
 ·unfold Qb8;split
  ·show (0:Int)≤0∧(0:Int)<4294967296;decide
  ·show 0≤Qcy k 16 % 4294967296∧Qcy k 16 % 4294967296<4294967296;omega
 ·unfold Qb8;split
  ·show ([]:List Int).length≤20000;decide
  ·show ((Qao (Qah k 17 0)).map QbJ).length≤20000;rw [QM];exact hf
 ·unfold Qb8;split
  ·show ([]:List Pg).length≤20000;decide
  ·show (pgD (Qao (Qah k 18 0))).length≤20000;unfold pgD;rw [QM,List.length_range];omega
theorem Qpr {f:Forest} (h:QiM f) (hc:f.cnt≤20000):(QcV f).Fine∧(Qa4 f).Fine:=by
 have hl:=fun tag=>Nat.le_trans (Qcu (tag:=tag) f) hc
 refine ⟨⟨?_,?_,?_,?_⟩,⟨?_,?_,?_,?_⟩⟩
 ·intro p hp
  obtain ⟨e,he,rfl⟩:=List.mem_map.1 hp;exact Qjm (Qeh he h).2.1 (Nat.le_trans (Qdd he) hc)
 ·intro p hp
  obtain ⟨e,he,rfl⟩:=List.mem_map.1 hp;exact ⟨Nat.le_trans (Qeh he h).2.2 hc,(Qeh he h).1⟩
 ·intro p hp
  obtain ⟨e,he,rfl⟩:=List.mem_map.1 hp;have h5:=QdM (Qeh he h).2.1 3;exact ⟨Nat.le_trans h5.2 (Nat.le_trans (Qdd he) hc),h5.1⟩
 ·simp only [QcV,QM]
  exact ⟨hl 132,hl 2,hl 131,hl 6,hl 19⟩
 ·intro p hp
  obtain ⟨e,he,rfl⟩:=List.mem_map.1 hp;exact Qjg (Qeh he h).2.1 (Nat.le_trans (Qdd he) hc)
 ·intro p hp
  obtain ⟨e,he,rfl⟩:=List.mem_map.1 hp;exact ⟨Nat.le_trans (Qeh he h).2.2 hc,(Qeh he h).1⟩
 ·intro p hp
  obtain ⟨e,he,rfl⟩:=List.mem_map.1 hp;have h5:=QdM (Qeh he h).2.1 3;exact ⟨Nat.le_trans h5.2 (Nat.le_trans (Qdd he) hc),h5.1⟩
 ·simp only [Qa4,QM]
  exact ⟨hl 132,hl 2,hl 131,hl 6,hl 19⟩
theorem QfO {f:Forest} {zs:List Int} (hb:∀ z∈zs,0≤z∧z≤255) (hl:zs.length≤20000) (hr:Qa9 1 (zs.take (zs.length-4))=some f):(imB (QcV f)=some zs↔imB (Qa4 f)=some zs)∧(imB (QcV f)=some zs→QcV f=Qa4 f):=by
 have ho:=Qfm _ 1 _ f (QN _) (fun z hz=>hb z (List.mem_of_mem_take hz)) hr;have hc:=Qet _ 1 _ f (QN _) hr;obtain ⟨h1,h2⟩:=Qpr ho (Nat.le_trans hc (by rw [List.length_take];omega));exact Qjx h1 h2 hr
section
attribute [local go_sem] QaB QaJ QaA
theorem Qop (x:Int):(w4 x).length=4:=rfl
theorem Qmq (bs:List Int) (rd wt:Int) (h:bs.length<4294967296):(Forest.cons 3 bs .nil (.cons 4 (Qa7 rd.toNat) .nil (.cons 5 (Qa7 wt.toNat) .nil .nil))).layF=(Qa5 3 bs++Qa5 4 (Qa7 rd.toNat))++Qa5 5 (Qa7 wt.toNat):=by
 rw [Qbi _ _ _ (by decide) h,Qbi _ _ _ (by decide) (Qdg _),Qbi _ _ _ (by decide) (Qdg _),Forest.layF];simp only [List.append_assoc,List.append_nil]
theorem Qql (W:World) (x:Mem) (s:Sl5) (X:Array Value) (B:Nat) (o F:List Int) (ho:o.length+(Qay (fun q:Pp × (Option Addr × Nat)=>Qct q.1) x.B).layF.length≤100000) (hmay:Qcb x.im=true)
  (hn:QcP W x s X B (tl 6 (Tryz.f28.body.getD .skip)) (o++(Qay (fun q:Pp × (Option Addr × Nat)=>Qct q.1) x.B).layF) F):QcP W x s X B (tl 5 (Tryz.f28.body.getD .skip)) o F:=by
 intro t5 u6 u7 u8
 iterate 55 intro
 intro u64
 iterate 94 intro
 intro V h;obtain ⟨i0,hi,hz0,hz1,hz2⟩:=info_parts QbB
 have hsm:x.B.length≤20000:=by have:=h.my.fine.small;simp only [Mem.im,QM] at this;exact this.2.2.1
 have HP:=QQ (fun (V:World) (hV:Below W.heap.size W V) (k:Nat) (hk:k<x.B.length)=>QbP (m:=3) h.my.at_.B rfl (fun _ _=>rfl) hV k hk);have HLEN:=QQ (fun k=>show (o++(Qay (fun q:Pp × (Option Addr × Nat)=>Qct q.1) (x.B.take k)).layF).length≤100000 by rw [QL];have:=QeC (fun q:Pp × (Option Addr × Nat)=>Qct q.1) x.B k;omega);have HPRT:=QQ (fun q hq=>show ((fun q:Pp × (Option Addr × Nat)=>Qct q.1) q).layF.length≤100000 from Nat.le_trans (Qfh (fun q:Pp × (Option Addr × Nat)=>Qct q.1) x.B q hq) (by omega));have HN:=QQ hn;have H:=QQ h;have HMAY:=QQ hmay;clear h hn ho hmay;obtain ⟨n,hn⟩:∃ n,n=x.B.length:=⟨_,rfl⟩;have HNN:=QQ hn;rw [← hn] at hsm;clear hn
 conv=>arg 2;whnf
 refine wp_seq_k (fun K aK=>?_);have AK:=QQ aK;clear aK;go_wp2;go_loopw [5,7,8] (fun vv i _ wr=>∃ (k:Nat) (v:Value) (ok:List Int),i=.int .i64 (k:Int)∧v=vv∧k≤n∧Hid (ok=o++(Qay (fun q:Pp × (Option Addr × Nat)=>Qct q.1) (x.B.take k)).layF)∧QbH W x s X B v ok wr) (fun _ i _ _=>n-(intOf i).toNat)
 case atStart=>exact ⟨0,_,o,rfl,rfl,Nat.zero_le _,(show o=o++[] from (List.append_nil o).symm),H⟩
 case round =>
  clear H;obtain ⟨k,v,ok,rfl,rfl,hk,hok,inv⟩:=hrel;have H:=QQ inv
  have hokl:ok.length≤100000:=by rw [show ok=_ from hok];exact (QG HLEN) k
  have cc:=inv.my.cell (i:=2) rfl;rw [show x.B.length=n from (QG HNN).symm] at cc
  rcases Nat.lt_or_ge k n with hx | hx
  rotate_left
  ·have t1:decide ((k:Int)<(n:Int))=false:=by simp;omega
   have h8:ok=o++(Qay (fun q:Pp × (Option Addr × Nat)=>Qct q.1) x.B).layF:=by rw [show ok=_ from hok,List.take_of_length_le (by rw [← (QG HNN)];exact hx)]
   have H8:=QQ h8;clear inv hok h8;go_wp2;refine (QG AK) _ _ ?_;have inv:=(QG H);rw [show ok=_ from H8] at inv;apply (QG HN);exact inv
  have t1:decide ((k:Int)<(n:Int))=true:=by simp;omega
  have t0:(k:Int)<(n:Int):=by omega
  have hx2:k<x.B.length:=by rw [← (QG HNN)];exact hx
  obtain ⟨b,off,ha,hbn,e⟩:=(QG HP) wr inv.my.below k hx2;obtain ⟨sa,hsa⟩:∃ sa,sa=s.b.1:=⟨_,rfl⟩;rw [← hsa] at ha cc;subst ha;clear hsa;have hsz:=inv.my.below.size;have hlB:=inv.my.lB
  have hvown:=fun b hb=>(inv.own.lt b hb).2
  obtain ⟨q,hq⟩:∃ q,q=x.B[k]:=⟨_,rfl⟩;rw [← hq] at e
  have hmem:q∈x.B:=by rw [hq];exact List.getElem_mem hx2
  have hcat:o++(Qay (fun q:Pp × (Option Addr × Nat)=>Qct q.1) (x.B.take (k+1))).layF=ok++((fun q:Pp × (Option Addr × Nat)=>Qct q.1) q).layF:=by rw [QeB _ _ _ hx2,← List.append_assoc,← (show ok=_ from hok),hq]
  have HCAT:=QQ hcat;have hprt:=(QG HPRT) q hmem;clear hq hok hcat;have hqb:=inv.my.fine.pipes q.1 (List.mem_map.2 ⟨q,hmem,rfl⟩);have hmp:=(Qc7 (QG HMAY)).2.2.2.1 q.1 (List.mem_map.2 ⟨q,hmem,rfl⟩);have hrow:=((inv.my.at_.pipe q hmem).below inv.my.below).mono hsz;obtain ⟨⟨bs,rd,wt⟩,⟨qa,qc⟩⟩:=q;unfold QbK at hmp;simp only [Bool.and_eq_true,decide_eq_true_eq] at hmp;have d0:wr.cell? ⟨b,off+k*3,none⟩=some (.slice qa bs.length qc):=e 0 _ rfl;have d1:wr.cell? ⟨b,off+k*3+1,none⟩=some (.int .i64 rd):=e 1 _ rfl;have d2:wr.cell? ⟨b,off+k*3+2,none⟩=some (.int .i64 wt):=e 2 _ rfl;obtain ⟨m,hm⟩:∃ m,m=bs.length:=⟨_,rfl⟩;simp only at hrow hqb;rw [← hm] at d0 hrow;have hbs:=hqb.2
  have hml:m≤64:=by omega
  have HMB:=QQ hm;have wx:IntKind.u64.wrap rd=rd:=Qcx (by omega);have wy:IntKind.u64.wrap wt=wt:=Qcx (by omega);have kf:=Qca 3 (by decide) qa m qc bs wr hrow (by omega);obtain ⟨Hs,hHs⟩:∃ Hs,Hs=wr.heap.size:=⟨_,rfl⟩
  have hB0:B<Hs:=by rw [hHs];exact (QI.1 inv.my.eB).1
  have hb0:b<Hs:=by rw [hHs];exact Nat.lt_of_lt_of_le hbn hsz
  have HH:=QQ (show (∀ b,v.ownBlock=some b→b<Hs)∧W.heap.size+1≤Hs by rw [hHs];exact ⟨hvown,hlB⟩)
  have hrd:0≤rd∧rd<9223372036854775808:=by omega
  have hwt:0≤wt∧wt<9223372036854775808:=by omega
  clear inv hrow e hqb hmem hm hvown hmp;go_wp2_with (go_at_call 71;refine Qau ?_);unfold Qag;refine kf.mono ?_;rintro e' w1 ⟨v1,rfl,o1,b1⟩;rw [← hHs] at o1
  have s1:Hs≤w1.heap.size:=by have:=b1.size;omega
  replace cc:=(b1.cell (p:=⟨B,2,none⟩) (show B<_ by omega)).trans cc;replace d1:=(b1.cell (p:=⟨b,off+k*3+1,none⟩) (show b<_ by omega)).trans d1;replace d2:=(b1.cell (p:=⟨b,off+k*3+2,none⟩) (show b<_ by omega)).trans d2;have I1:=QQ (QA ((QG H).grow b1) o1);clear kf o1 b1 d0 hHs hsz hlB;go_wp2_with (go_at_call 70;refine Qau ?_);unfold Qag;refine (QdX 4 (by decide) rd hrd w1).mono ?_;rintro e' w2 ⟨v2,rfl,o2,b2⟩;obtain ⟨a2,c2,rfl,_⟩:=Qaa o2;have r2:=Qav o2 (QaW 4 _ (Qbr _ (by omega)) (Qdg _));obtain ⟨inv1,o1⟩:=(QG I1);have inv2:=inv1.grow b2
  have o1':=Qac (B:=w2) o1 fun z hz=>b2.block z (o1.lt z hz).2
  have s2:Hs≤w2.heap.size:=by have:=b2.size;omega
  obtain ⟨hH1,hH2⟩:=(QG HH);replace cc:=(b2.cell (p:=⟨B,2,none⟩) (show B<_ by omega)).trans cc;replace d1:=(b2.cell (p:=⟨b,off+k*3+1,none⟩) (show b<_ by omega)).trans d1;replace d2:=(b2.cell (p:=⟨b,off+k*3+2,none⟩) (show b<_ by omega)).trans d2;clear inv1 o1 o2 b2 I1 hH1;go_wp2_with (at_builtin;refine Qau ?_);unfold Qag;refine Qae rfl _ _ 22 rfl Hs 5 i0 Tryz.underlying22 hi hz0 hz1 hz2 v1 (m+5) (Qa5 3 bs) rfl o1' _ 13 c2 w2.heap.size (Qa5 4 (Qa7 rd.toNat)) rfl r2 (by omega) s2 ?_;intro v3 w3 o3 g3 _
  have inv3:=inv2.other g3 (QG HH).1 hH2 fun b hb=>(o1'.lt b hb).1
  have s3:Hs≤w3.heap.size:=by have:=g3.size;omega
  replace cc:=QaF (p:=⟨B,2,none⟩) (g3.block B (by omega) (fun e=>by have:=(o1'.lt _ e.symm).1;omega)) cc;replace d1:=QaF (p:=⟨b,off+k*3+1,none⟩) (g3.block b (by omega) (fun e=>by have:=(o1'.lt _ e.symm).1;omega)) d1;replace d2:=QaF (p:=⟨b,off+k*3+2,none⟩) (g3.block b (by omega) (fun e=>by have:=(o1'.lt _ e.symm).1;omega)) d2;have I3:=QQ (QA inv3 o3);clear inv2 inv3 o1' r2 o3 g3 hH2 s2;go_wp2_with (go_at_call 70;refine Qau ?_);unfold Qag;refine (QdX 5 (by decide) wt hwt w3).mono ?_;rintro e' w4 ⟨v2,rfl,o2,b2⟩;obtain ⟨a2,c2,rfl,_⟩:=Qaa o2;have r2:=Qav o2 (QaW 5 _ (Qbr _ (by omega)) (Qdg _));obtain ⟨inv1,o1⟩:=(QG I3);have inv2:=inv1.grow b2
  have o1':=Qac (B:=w4) o1 fun z hz=>b2.block z (o1.lt z hz).2
  have s2:Hs≤w4.heap.size:=by have:=b2.size;omega
  obtain ⟨hH1,hH2⟩:=(QG HH);replace cc:=(b2.cell (p:=⟨B,2,none⟩) (show B<_ by omega)).trans cc;replace d1:=(b2.cell (p:=⟨b,off+k*3+1,none⟩) (show b<_ by omega)).trans d1;replace d2:=(b2.cell (p:=⟨b,off+k*3+2,none⟩) (show b<_ by omega)).trans d2;clear inv1 o1 o2 b2 I3 hH1;go_wp2_with (at_builtin;refine Qau ?_);unfold Qag;refine Qae rfl _ _ 22 rfl Hs 5 i0 Tryz.underlying22 hi hz0 hz1 hz2 v3 (m+5+13) ((Qa5 3 bs++Qa5 4 (Qa7 rd.toNat))) rfl o1' _ 13 c2 w4.heap.size (Qa5 5 (Qa7 wt.toNat)) rfl r2 (by omega) s2 ?_;intro v5 w5 o3 g3 _
  have inv3:=inv2.other g3 (QG HH).1 hH2 fun b hb=>(o1'.lt b hb).1
  have s5:Hs≤w5.heap.size:=by have:=g3.size;omega
  replace cc:=QaF (p:=⟨B,2,none⟩) (g3.block B (by omega) (fun e=>by have:=(o1'.lt _ e.symm).1;omega)) cc;replace d1:=QaF (p:=⟨b,off+k*3+1,none⟩) (g3.block b (by omega) (fun e=>by have:=(o1'.lt _ e.symm).1;omega)) d1;replace d2:=QaF (p:=⟨b,off+k*3+2,none⟩) (g3.block b (by omega) (fun e=>by have:=(o1'.lt _ e.symm).1;omega)) d2;have I5:=QQ (QA inv3 o3);clear inv2 inv3 o1' r2 o3 g3 hH2 s2;clear cc d1 d2;obtain ⟨inv1,o1⟩:=(QG I5);obtain ⟨fb,hfb⟩:∃ fb,fb=((Qa5 3 bs++Qa5 4 (Qa7 rd.toNat))++Qa5 5 (Qa7 wt.toNat)):=⟨_,rfl⟩
  have hfl:fb.length=(m+5+13+13):=by rw [hfb,show m=_ from HMB];simp only [QL,QaX,QaG,Qop] <;> omega
  have hbb:∀ z∈fb,0≤z∧z≤255:=by
   rw [hfb];intro z hz
   rcases List.mem_append.1 hz with hz | hz
   ·rcases List.mem_append.1 hz with hz | hz
    ·exact QaW 3 bs hbs (by rw [← (QG HMB)];omega) z hz
    ·exact QaW 4 _ (Qbr _ (by omega)) (Qdg _) z hz
   ·exact QaW 5 _ (Qbr _ (by omega)) (Qdg _) z hz
  rw [← hfb] at o1;have HFB:=QQ hfb;obtain ⟨a1,c1,rfl,_⟩:=Qaa o1;have kf:=Qca 131 (by decide) a1 ((m+5+13+13)) c1 fb w5 ⟨Qav o1 hbb,hbb⟩ (by omega);have INV1:=QQ inv1;clear inv1 o1 hfb I5;go_wp2_with (go_at_call 71;refine Qau ?_);unfold Qag;refine kf.mono ?_;rintro e' w8 ⟨v1,rfl,o1,b1⟩;obtain ⟨a1,c1,rfl,_⟩:=Qaa o1;have r1:=Qav o1 (QaW 131 fb hbb (by omega));have inv2:=(QG INV1).grow b1;clear kf o1 b1;go_wp2_with (at_builtin;refine Qau ?_);unfold Qag;refine Qae rfl _ _ 22 rfl (W.heap.size+1) 5 i0 Tryz.underlying22 hi hz0 hz1 hz2 v ok.length ok rfl inv2.own _ ((m+5+13+13)+5) c1 w8.heap.size (Qa5 131 fb) rfl r1 (by omega) (by have:=inv2.my.lB;omega) ?_;intro v9 w9 o9 g9 _;have inv9:QbH W x s X B v9 (ok++Qa5 131 fb) w9:=⟨inv2.my.grown g9 fun b hb=>(inv2.own.lt b hb).1,by rw [QL,show (Qa5 131 fb).length=((m+5+13+13)+5) by rw [QaX,hfl]];exact o9⟩;have INV9:=QQ inv9;clear inv9 inv2 o9 g9 r1;go_wp2;go_roundw
  case rel=>exact ⟨k+1,v9,_,by go_num,rfl,by omega,(by rw [show o++_=_ from HCAT];exact (show ok++Qa5 131 fb=ok++(Qct ⟨bs,rd,wt⟩).layF by unfold Qct;rw [Qj4 _ _ _ (by decide) (by rw [Qmq _ _ _ (by rw [← (QG HMB)];omega),← (QG HFB),hfl];omega),Qmq _ _ _ (by rw [← (QG HMB)];omega),← (QG HFB),Forest.layF,List.append_nil])),(QG INV9)⟩
  case measure=>simp [intOf];omega
end
end Go.Proofs.YtejcandhijdnhaaGreat
