/- Own texts of this seat, one behind the other, without needless spaces (part 18 of 26). -/
import Derived.Test.YtejcandhijdnhaaGreatMR01
import Derived.Test.YtejcandhijdnhaaGreatMR02
import Derived.Test.YtejcandhijdnhaaGreatMR03
import Derived.Test.YtejcandhijdnhaaGreatMR06
import Derived.Test.YtejcandhijdnhaaGreatMR07
import Derived.Test.YtejcandhijdnhaaGreatMR14
import Derived.Test.YtejcandhijdnhaaGreatMR17
import Derived.Maps.AppendAt
import Derived.OwnWalk
import Derived.Laws.OwnMore
import Derived.BigRegion
namespace Go.Proofs.YtejcandhijdnhaaGreat
open Go Go.RowKit
set_option linter.unusedVariables false
set_option linter.unusedSimpArgs false
set_option linter.unnecessarySimpa false
set_option maxRecDepth 100000
set_option maxHeartbeats 16000000
section
attribute [local go_sem] QaB QaJ QaA
def Qia (Q:Exit→Act→World→Prop) (W:World) (vb:Value) (a:Option Addr) (len cap:Nat) (k:Forest) (T:Nat) (cd:Code) (x:Mem):Prop :=
 ∀ (u1 u4 u5 u7 u9 u10 u11 u12 u13 u14 u15 u16 u17 u18 u19 u20 u21 u22 u23 u24 u25 u26 u27 u28 u29 u30 u31 u32 u33 u34 u35 u36 u37 u38 u39 u40 u41 u42 u43 u44 u45 u46 u47 u48 u49 u50 u51 u52 u53 u54 u55 u56 u57 u58 u59 u60 u61 u62 u63 u64 u65 u66 u67 u68 u69 u70 u71 u72 u73 u74 u75 u76 u77 u78 u79 u80 u81 u82 u83 u84 u85 u86 u87 u88 u89 u90 u91 u92 u93 u94 u95 u96 u97 u98 u99 u100 u101 u102 u103 u104 u105 u106 u107 u108 u109 u110 u111 u112 u113 u114 u115 u116 u117 u118 u119 u120 u121 u122 u123 u124 u125 u126 u127 u128 u129 u130 u131 u132 u133 u134 u135 u136 u137 u138:Value) (V:World) (s:Sl5),Qbk W a len cap k T x V s →
  cd.wp Tryz.prog Q { tmps:=#[vb,u1,.pointer (some ⟨W.heap.size,0,none⟩),.int .i64 0,u4,u5,.slice a len cap,u7,.pointer (some ⟨T,0,none⟩),u9,u10,u11,u12,u13,u14,u15,u16,u17,u18,u19,u20,u21,u22,u23,u24,u25,u26,u27,u28,u29,u30,u31,u32,u33,u34,u35,u36,u37,u38,u39,u40,u41,u42,u43,u44,u45,u46,u47,u48,u49,u50,u51,u52,u53,u54,u55,u56,u57,u58,u59,u60,u61,u62,u63,u64,u65,u66,u67,u68,u69,u70,u71,u72,u73,u74,u75,u76,u77,u78,u79,u80,u81,u82,u83,u84,u85,u86,u87,u88,u89,u90,u91,u92,u93,u94,u95,u96,u97,u98,u99,u100,u101,u102,u103,u104,u105,u106,u107,u108,u109,u110,u111,u112,u113,u114,u115,u116,u117,u118,u119,u120,u121,u122,u123,u124,u125,u126,u127,u128,u129,u130,u131,u132,u133,u134,u135,u136,u137,u138],defers:=[] } V
theorem QdR {V:World} {B:Nat} {t t':TypeId} {sz n:Nat} {v:Value} {l:List Value} {D:Nat} {c:Array Value} (ho:V.ownsRow B t sz v n l) (hv:v.ownBlock=some D) (hD:V.heap[D]?=some (.cells c t')) (ht:t≠t'):False:=by
 rcases ho.2 with ⟨rfl,_⟩ | ⟨g,cp,cur,rfl,_,hg,_⟩
 ·cases hv
 ·simp only [Value.ownBlock,Option.some.injEq] at hv
  subst hv;rw [hD] at hg
  injection hg with e
  injection e with e1 e2
  exact ht e2.symm
theorem QjS {n:Nat} {W:World} {a:Option Addr} {len cap:Nat} {k:Forest} (h:SlF n W a len cap k):(Qb8 k).Ok:=by
 obtain ⟨fs,F1,_,_⟩:=h.fes;unfold Qb8
 split
 ·exact Qf4 ..
 ·exact ⟨Qhk (Qc6 F1 11),Qhk (Qc6 F1 12),QmI (Qc6 F1 13)⟩
theorem Qqp (Q:Exit→Act→World→Prop) (W:World) (vb:Value) (a:Option Addr) (len cap:Nat) (k:Forest) (T:Nat)
  (hn:∀ x:Mem,x.im=Qa4 k→Qia Q W vb a len cap k T (tl 7 (Tryz.f6.body.getD .skip)) x) :
  Qia Q W vb a len cap k T (tl 6 (Tryz.f6.body.getD .skip)) Mem.none:=by
 iterate 134 intro
 intro V s h;have HN:=QQ hn;have HH:=QQ h;obtain ⟨hlen,hkl⟩:=h.small;have HKL:=QQ hkl;clear hn h hkl
 conv=>arg 2;whnf
 refine wp_seq_k (fun K aK=>?_);have AK:=QQ aK;clear aK;go_wp2;go_loopw [9,10,11,12,13] (fun iv _ _ _ _ wr=>∃ (i:Nat) (x:Mem) (s:Sl5),i≤len∧iv=.int .i64 (i:Int)∧x.im=Qa4 (k.takeF i)∧Qbk W a len cap k T x wr s) (fun iv _ _ _ _ _=>len-(intOf iv).toNat)
 case atStart=>exact ⟨0,Mem.none,s,Nat.zero_le _,rfl,rfl,HH⟩
 case round =>
  clear HH;obtain ⟨i,x,s,hi,rfl,hx,inv⟩:=hrel;by_cases hlt:i<len
  rotate_left
  ·have t1:decide ((i:Int)<(len:Int))=false:=by simp;omega
   obtain rfl:i=len:=by omega
   rw [QiU k _ (Nat.le_of_eq (QG HKL))] at hx;have INV:=QQ (QA hx inv);clear hx inv;go_wp2;refine (QG AK) _ _ ?_;obtain ⟨hx,inv⟩:=(QG INV);apply (QG HN) x hx;exact inv
  have t1:decide ((i:Int)<(len:Int))=true:=by simp;omega
  obtain ⟨b,off,t,ba,bl,bc,ka,kl,kc,bs,kk,rfl,hb,e,hdoc,hrow,hkid,hsm⟩:=inv.nth i hlt
  have n0:(i:Int)<(len:Int):=by omega
  obtain ⟨Vt,hVt⟩:∃ V,V=wr.alloc (.cells #[.int .i64 t,.slice ba bl bc,.slice ka kl kc] 66):=⟨_,rfl⟩
  have eD:Vt.heap[wr.heap.size]?=some (.cells #[.int .i64 t,.slice ba bl bc,.slice ka kl kc] 66):=by rw [hVt];exact QW _ _
  have bVt:Below wr.heap.size wr Vt:=by rw [hVt];exact (QB _ _).alloc (QN _) _
  have hTw:=inv.lT;have inv3:=inv.grow bVt;have hrow3:QaL T Vt (.slice ba bl bc) bs:=hrow.below (bVt.mono (Nat.le_of_lt hTw));have hkid3:SlF T Vt ka kl kc kk:=hkid.below (bVt.mono (Nat.le_of_lt hTw));have HS:=QQ (QA hx (QA hdoc (QA inv3 (QA hrow3 hkid3))));have HVT:=QQ hVt;have HD:=QQ eD
  have d0:Vt.cell? ⟨wr.heap.size,0,none⟩=some (.int .i64 t):=by rw [cell_of_row Vt _ 0 _ _ _ eD];rfl
  have d1:Vt.cell? ⟨wr.heap.size,1,none⟩=some (.slice ba bl bc):=by rw [cell_of_row Vt _ 1 _ _ _ eD];rfl
  have d2:Vt.cell? ⟨wr.heap.size,2,none⟩=some (.slice ka kl kc):=by rw [cell_of_row Vt _ 2 _ _ _ eD];rfl
  have lD:wr.heap.size<Vt.heap.size:=(QI.1 eD).1;clear hx hdoc inv hrow hkid hb hVt eD bVt inv3 hrow3 hkid3
  go_wp2_with first
   | (refine QaC (by rfl) 66 (.tmp 40) rfl b (off+i*3) rfl [.int .i64 t,.slice ba bl bc,.slice ka kl kc] _ e Tryz.underlying66 rfl Qdi ?_)
   | ((fail_if_success (unfold Qag));refine Qan (t:=66) rfl ?_)
  unfold Qag;refine Qab rfl 66 (.tmp 10) (.tmp 41) rfl wr.heap.size #[.int .i64 t,.slice ba bl bc,.slice ka kl kc] rfl rfl 66 zT (QW _ _) QbO rfl (QaS ..) ?_;rw [World.setRow_alloc_new,show wr.alloc (.cells #[.int .i64 t,.slice ba bl bc,.slice ka kl kc] 66)=Vt from (QG HVT).symm];clear HVT e
  have hcase:t=2∨t=131∨t=6∨t=132∨t=19∨((t == 2)=false∧(t == 131)=false∧(t == 6)=false∧(t == 132)=false∧(t == 19)=false):=by
   simp only [beq_eq_false_iff_ne];omega
  rcases hcase with rfl | rfl | rfl | rfl | rfl | ⟨f1,f2,f3,f4,f5⟩
  ·obtain ⟨hx,hdoc,inv,hrow,hkid⟩:=(QG HS)
   obtain ⟨i0,hi0,hz0,hz1,hz2⟩:=info_parts Qj3;have q1:=inv.atO;have hcv:(convert 22 9 (.slice ba bl bc)).run Tryz.prog Vt=.ok (.string (strOfNums bs)) Vt:=Qdz hrow.1 22 5 9 Tryz.underlying22 Tryz.underlying5 Tryz.underlying9;obtain ⟨st,hst⟩:∃ st,st=strOfNums bs:=⟨_,rfl⟩;rw [← hst] at hcv;have HST:=QQ hst
   have hOl:x.O.length≤20000:=by
    have h1:x.O=(k.takeF i |>.sel 2).map (·.1):=congrArg Im.objs hx;rw [h1,QM];exact Nat.le_trans (Qcu _) (Nat.le_trans (QdI k i) inv.cnt)
   clear hst hx hdoc inv hrow hkid;go_wp2_with (at_builtin;refine Qau ?_);unfold Qag;obtain ⟨hx,hdoc,inv,hrow,hkid⟩:=(QG HS);have hal:Below Vt.heap.size Vt (Vt.alloc (.cells #[.string st] 9)):=(QB _ Vt).alloc (QN _) _;have invA:=inv.grow hal;have own:=invA.own.O;have hTV:=inv.lT
   refine QaH rfl _ _ 24 rfl (T+1) 9 i0 _ 1 16 Tryz.underlying24 hi0 hz0 hz1 hz2 rfl (by decide) (.slice s.o.1 x.O.length s.o.2) x.O.length _ rfl own (some ⟨Vt.heap.size,0,none⟩) 1 1 [.string st] rfl rfl (by simp [Value.oneCell']) (.inr ⟨_,_,rfl,fun j u hj=>by
    have:=QbR Vt #[.string st] 9 j u hj;rw [show (⟨Vt.heap.size,0,none⟩:Addr).add j=⟨Vt.heap.size,0+j,none⟩ from Addr.add_lit ..] at this
    exact this⟩) (by omega) (by simp only [maxLen];omega) (by simp;omega) ?_
   intro v' w3 ho hg _;obtain ⟨g,c,rfl,eT3,inv4⟩:=invA.putO bs (v':=v') (by rw [show QbQ bs=[.string st] by rw [show st=_ from HST];rfl];exact ho) hg
   have him:({ x with O:=x.O++[bs] }:Mem).im=Qa4 (k.takeF (i+1)):=by rw [hdoc,← hx];simp [Mem.im,QcB]
   have INV4:=QQ (QA him inv4);have hsz5:((x.cells s).toArray).size=5:=rfl;clear ho hg inv invA own inv4 him hx hdoc hal hrow hkid q1 d0 d1 d2 HS hcv;go_wp2_with ((fail_if_success (unfold Qag));refine Qan (t:=24) rfl ?_);unfold Qag;refine Qar rfl 24 (.tmp 53) (.tmp 52) rfl T 1 rfl (.slice (some ⟨g,0,none⟩) (x.O.length+1) c) rfl rfl rfl 29 _ eT3 QiC (by rw [hsz5];decide) ?_;obtain ⟨w4,hw4⟩:∃ w,w=w3.setRow T ((x.cells s).toArray.setIfInBounds 1 (.slice (some ⟨g,0,none⟩) (x.O.length+1) c)):=⟨_,rfl⟩;rw [← hw4];rw [← hw4] at INV4;clear hw4 eT3 hsz5;go_wp2;go_roundw
   case rel=>exact ⟨i+1,_,_,by omega,by go_num,(QG INV4).1,(QG INV4).2⟩
   case measure=>simp [intOf];omega
  ·obtain ⟨hx,hdoc,inv,hrow,hkid⟩:=(QG HS)
   obtain ⟨i0,hi0,hz0,hz1,hz2⟩:=info_parts QiG;have q0:=inv.atB;have hTV:=inv.lT;have eDx:Vt.heap[wr.heap.size]?=some (.cells #[.int .i64 131,.slice ba bl bc,.slice ka kl kc] 66):=HD
   have hBl:x.B.length≤20000:=by
    have h1:x.im.pipes.length=x.B.length:=by simp [Mem.im]
    rw [← h1,hx];unfold Qa4;simp only [QM];exact Nat.le_trans (Qcu _) (Nat.le_trans (QdI k i) inv.cnt)
   have kf:=QfP kk Vt T (Nat.le_of_lt hTV) ka kl kc hkid (by omega) 3 0;clear hx hdoc inv hrow hkid q0;go_wp2_with (go_at_call 24;refine Qau ?_);unfold Qag;refine kf.mono ?_;rintro e' w1 F1;obtain ⟨b1,t',a1,l1,c1,ka',kl',kc',ok',rfl,hr1,hbl⟩:=QcZ F1;clear kf F1;dsimp only;obtain ⟨V2,hV2⟩:∃ V,V=w1.alloc (.cells #[.int .i64 t',.slice a1 l1 c1,.slice ka' kl' kc'] 66):=⟨_,rfl⟩
   have bw1:Below w1.heap.size w1 V2:=by rw [hV2];exact (QB _ _).alloc (QN _) _
   have eE:V2.heap[w1.heap.size]?=some (.cells #[.int .i64 t',.slice a1 l1 c1,.slice ka' kl' kc'] 66):=by rw [hV2];exact QW _ _
   have HV2:=QQ hV2;have s1:=b1.size;have b2:Below Vt.heap.size Vt V2:=b1.trans (bw1.mono s1);have eDx2:=(b2.block _ lD).trans eDx;have lE:w1.heap.size<V2.heap.size:=(QI.1 eE).1;have hr2:QaL T V2 (.slice a1 l1 c1) (Qao (Qah kk 3 0)):=hr1.below (bw1.mono (by omega));have B2:=QQ (QA b2 (QA hr2 (QA eE eDx2)));clear hV2 bw1 eE hr1 hr2 b2 eDx2 b1 eDx d0 d1;go_wp2_with ((fail_if_success (unfold Qag));refine Qan (t:=66) rfl ?_);unfold Qag;refine Qab rfl 66 (.tmp 11) (.tmp 60) rfl w1.heap.size #[.int .i64 t',.slice a1 l1 c1,.slice ka' kl' kc'] rfl rfl 66 zT (QW _ _) QbO rfl (QaS ..) ?_;rw [World.setRow_alloc_new,show w1.alloc (.cells #[.int .i64 t',.slice a1 l1 c1,.slice ka' kl' kc'] 66)=V2 from (QG HV2).symm];clear HV2;obtain ⟨b2,hr2,eE,eDx⟩:=(QG B2);obtain ⟨hx,hdoc,inv,hrow,hkid⟩:=(QG HS);have inv2:=inv.grow b2;have q1:=inv2.atB;have hTV2:=inv2.lT
   have lD2:wr.heap.size<V2.heap.size:=by omega
   obtain ⟨Rg,hRg⟩:∃ Rg:Nat→Prop,Rg=fun y=>(Value.slice s.b.1 x.B.length s.b.2).ownBlock=some y:=⟨_,rfl⟩
   have hRF:∀ y,Rg y→T+1≤y∧y<V2.heap.size∧y≠wr.heap.size∧y≠w1.heap.size:=fun y hy=>by
    rw [hRg] at hy;have h1:=(inv2.own.B.lt y hy);refine ⟨h1.1,h1.2,?_,?_⟩
    ·intro e
     subst e;exact QdR inv2.own.B hy eDx (by decide)
    ·intro e
     subst e;exact QdR inv2.own.B hy eE (by decide)
   have HX:=QQ (show ∀ W',Qa Rg V2.drew W'→W'.cell? ⟨T,2,none⟩=some (.slice s.b.1 x.B.length s.b.2)∧W'.cell? ⟨w1.heap.size,1,none⟩=some (.slice a1 l1 c1)∧W'.cell? ⟨wr.heap.size,2,none⟩=some (.slice ka kl kc) from fun W' hW=>by
    refine ⟨QaF (p:=⟨T,2,none⟩) (hW.block T hTV2 (fun h=>by have:=hRF _ h;omega)) q1,?_,?_⟩
    ·rw [cell_of_row W' _ 1 _ _ _ ((hW.block w1.heap.size lE (fun h=>(hRF _ h).2.2.2 rfl)).trans (show V2.drew.heap[w1.heap.size]?=_ from eE))];rfl
    ·rw [cell_of_row W' _ 2 _ _ _ ((hW.block wr.heap.size lD2 (fun h=>(hRF _ h).2.2.1 rfl)).trans (show V2.drew.heap[wr.heap.size]?=_ from eDx))];rfl)
   have bD:Below V2.heap.size V2 V2.drew:=⟨rfl,rfl,rfl,QN _,fun _ _=>rfl⟩;have HK:=QQ (show ∀ W',Below V2.heap.size V2 W'→SlF W'.heap.size W' ka kl kc kk from fun W' hW=>(((hkid.below (b2.mono (Nat.le_of_lt hTV))).below (hW.mono (Nat.le_of_lt hTV2))).mono (Nat.le_trans (Nat.le_of_lt hTV2) hW.size)));have HRG:=QQ hRg
   have hkc:kk.cnt≤20000:=by omega
   have HR2:=QQ hr2;clear hx hdoc inv inv2 hrow hkid q1 d2 hRg hRF eDx eE hr2 b2;go_wp2;rename_i K3 aK3;have AK3:=QQ aK3;clear aK3;refine QbV (Qa Rg) 13 2 (by kernel_rfl) rfl ?_;refine QbI [0,1,2,3,4,5,7,8] (by kernel_rfl) (by kernel_rfl) ?_
   iterate 8
    first
    | (refine Qcr (Qa.pre Rg) rfl (by rfl) (v:=?_) (fun W hW=>?_) (fun K hK=>?_);rotate_left;· (obtain ⟨y1,y2,y3⟩:=(QG HX) W hW;go_simp;first | done | rfl))
    | refine Qb0 (Qa.pre Rg) rfl (by rfl) (fun K hK=>?_)
    go_simp;refine hK _ ?_;clear hK K
   refine Qcq ?_;refine QaU 6 rfl (by kernel_rfl) (by rfl) (fun K hK=>?_);go_simp;refine Calls.mono (Qgl kk hkc ka kl kc V2.drew ((QG HK) _ bD) 4) ?_;rintro e5 w5 ⟨rfl,b5⟩;refine ⟨_,rfl,hK _ _ (Wr.of_below b5) ?_⟩;have s5:V2.heap.size≤w5.heap.size:=b5.size;have B5:=QQ (show Below V2.heap.size V2 w5 from bD.trans b5);clear b5;clear hK K;refine QaN (fun K hK=>?_);go_simp;refine hK _ ?_;clear hK K;refine QaU 9 rfl (by kernel_rfl) (by rfl) (fun K hK=>?_);go_simp;refine Calls.mono (Qgl kk hkc ka kl kc w5 ((QG HK) _ B5) 5) ?_;rintro e6 w6 ⟨rfl,b6⟩;refine ⟨_,rfl,hK _ _ (Wr.of_below b6) ?_⟩;have s6:w5.heap.size≤w6.heap.size:=b6.size;have B6:=QQ (show Below V2.heap.size V2 w6 from (QG B5).trans (b6.mono s5));obtain ⟨r1,hr1⟩:∃ z,z=Qcy kk 4:=⟨_,rfl⟩;obtain ⟨r2,hr2⟩:∃ z,z=Qcy kk 5:=⟨_,rfl⟩;have HV:=QQ (QA hr1 hr2);rw [← hr1,← hr2];clear b6 hr1 hr2;clear hK K;refine QaN (fun K hK=>?_);go_simp;refine hK _ ?_;clear hK K;refine QbI [10] (by kernel_rfl) (by kernel_rfl) ?_
   iterate 1
    first
    | (refine Qcr (Qa.pre Rg) rfl (by rfl) (v:=?_) (fun W hW=>?_) (fun K hK=>?_);rotate_left;· (go_simp;first | done | rfl))
    | refine Qb0 (Qa.pre Rg) rfl (by rfl) (fun K hK=>?_)
    go_simp;refine hK _ ?_;clear hK K
   refine Qcq ?_;refine QaU 11 rfl (by kernel_rfl) (by rfl) (fun K hK=>?_);go_simp;obtain ⟨W7,hW7⟩:∃ W7,W7=w6.alloc (.cells #[.slice a1 l1 c1,.int .i64 r1,.int .i64 r2] 68):=⟨_,rfl⟩
   have b7:Below w6.heap.size w6 W7:=by rw [hW7];exact (QB _ _).alloc (QN _) _
   have x7:W7.heap[w6.heap.size]?=some (.cells #[.slice a1 l1 c1,.int .i64 r1,.int .i64 r2] 68):=by rw [hW7];exact QW _ _
   have s7:w6.heap.size+1=W7.heap.size:=by rw [hW7];simp
   rw [← hW7];refine hK _ _ (Wr.of_below b7) ?_;have H7:=QQ (QA b7 (QA x7 s7));clear b7 x7 s7 hW7;clear hK K;refine QaN (fun K hK=>?_);go_simp;refine hK _ ?_;clear hK K;refine QaU 12 rfl (by kernel_rfl) (by rfl) (fun K hK=>?_);obtain ⟨b7,x7,s7⟩:=(QG H7);obtain ⟨b2,hr2,eE,eDx⟩:=(QG B2);obtain ⟨e1,e2⟩:=(QG HV);obtain ⟨hx,hdoc,inv,hrow,hkid⟩:=(QG HS);have hB:Below V2.heap.size V2 W7:=(QG B6).trans (b7.mono (by omega));have invA:=(inv.grow b2).grow hB;have own:=invA.own.B
   refine QaQ (.tmp 63) (.tmp 73) 25 rfl (T+1) 68 i0 _ 3 40 Tryz.underlying25 hi0 hz0 hz1 hz2 rfl (by decide) (.slice s.b.1 x.B.length s.b.2) x.B.length _ rfl own (some ⟨w6.heap.size,0,none⟩) 1 1 [.slice a1 l1 c1,.int .i64 r1,.int .i64 r2] rfl rfl (by simp [Value.oneCell']) (.inr ⟨_,_,rfl,fun j u hj=>by
    rw [Nat.zero_add,cell_of_row W7 _ j _ _ _ x7,List.getElem?_toArray];exact hj⟩) (by omega) (by simp only [maxLen];omega) (by omega) ?_
   intro v' w3 ho hg _;have hl1:=hr2.1.open.1
   have hr3:QaL T W7 (.slice a1 (QhJ kk).bytes.length c1) (QhJ kk).bytes:=by
    show QaL T W7 (.slice a1 (Qao (Qah kk 3 0)).length c1) (Qao (Qah kk 3 0));rw [hl1];exact hr2.below (hB.mono (Nat.le_of_lt hTV2))
   have hcz:QbN (QhJ kk,(a1,c1))=[.slice a1 l1 c1,.int .i64 r1,.int .i64 r2]:=by
    rw [e1,e2,← hl1];rfl
   obtain ⟨g,c,rfl,eT3,inv4⟩:=invA.putB (QhJ kk,(a1,c1)) hr3 (v':=v') (by rw [hcz];exact ho) hg
   have him:({ x with B:=x.B++[(QhJ kk,(a1,c1))] }:Mem).im=Qa4 (k.takeF (i+1)):=by rw [hdoc,← hx];simp [Mem.im,QcB]
   have INV4:=QQ (QA him inv4);have ET3:=QQ eT3
   have hw3:Qa Rg W7 w3:=Wr.grown (Wr.refl Rg W7) hg fun y hy=>.inl (by rw [show Rg=_ from HRG];exact hy)
   clear hg ho inv4 own invA him hx hdoc hrow hkid b7 x7 s7 eT3 hl1 hr3 hcz e1 e2 hB b2 hr2 eE eDx;refine hK _ _ hw3 ?_;clear hK K;refine QaN (fun K hK=>?_);go_simp;refine hK _ ?_;clear hK K;refine Qcm (by kernel_rfl) ?_;refine QbA 13 rfl (by kernel_rfl) (by rfl) (fun K hK=>?_);go_simp;refine hK _ _ ?_;clear hK K;refine Qbo (fun K hK=>?_);go_simp;refine hK _ ?_;clear hK K;refine QbA 14 rfl (by kernel_rfl) (by rfl) (fun K hK=>?_);refine QbG 25 (.tmp 75) (.tmp 74) rfl T 2 rfl (.slice (some ⟨g,0,none⟩) (x.B.length+1) c) rfl rfl rfl 29 _ (QG ET3) Qhs (show 2+1≤5 by decide) ?_;obtain ⟨w4,hw4⟩:∃ w,w=w3.setRow T ((x.cells s).toArray.setIfInBounds 2 (.slice (some ⟨g,0,none⟩) (x.B.length+1) c)):=⟨_,rfl⟩;rw [← hw4];rw [← hw4] at INV4;clear hw4 ET3;refine hK _ _ ?_;clear hK K;refine Qbo (fun K hK=>?_);go_simp;refine hK _ ?_;clear hK K;refine Qc0 (by kernel_rfl) ?_;refine (QG AK3) _ _ ?_;clear inv;go_wp2;go_roundw
   case rel=>exact ⟨i+1,_,_,by omega,by go_num,(QG INV4).1,(QG INV4).2⟩
   case measure=>simp [intOf];omega
  ·obtain ⟨hx,hdoc,inv,hrow,hkid⟩:=(QG HS)
   obtain ⟨i0,hi0,hz0,hz1,hz2⟩:=info_parts QiD;have q1:=inv.atF;have ka:=QjN ba bl bc bs Vt (hrow.mono (Nat.le_of_lt inv.lT)) (by omega) 0 8 (by decide) (by decide)
   have hFl:x.F.length≤20000:=by
    have h1:x.F=(k.takeF i |>.sel 6).map (fun e=>Qim e.1):=congrArg Im.files hx;rw [h1,QM];exact Nat.le_trans (Qcu _) (Nat.le_trans (QdI k i) inv.cnt)
   have hab:=Qhh hrow.2 0 8;obtain ⟨n,hn⟩:∃ n,n=atB bs 0 8:=⟨_,rfl⟩;rw [← hn] at ka hab;have HNN:=QQ hn;clear hn hx hdoc inv hrow hkid;go_wp2_with (go_at_call 26;refine Qau ?_);unfold Qag;refine ka.mono ?_;rintro e' w2 ⟨rfl,hw2⟩;subst hw2;clear ka;go_wp2_with (at_builtin;refine Qau ?_);unfold Qag;obtain ⟨hx,hdoc,inv,hrow,hkid⟩:=(QG HS);have hal:Below w2.heap.size w2 (w2.alloc (.cells #[.int .i64 (n / 2),.bool (n % 2 == 1)] 76)):=(QB _ w2).alloc (QN _) _;have invA:=inv.grow hal;have own:=invA.own.F;have hTV:=inv.lT
   refine QaH rfl _ _ 26 rfl (T+1) 76 i0 _ 2 16 Tryz.underlying26 hi0 hz0 hz1 hz2 rfl (by decide) (.slice s.f.1 x.F.length s.f.2) x.F.length _ rfl own (some ⟨w2.heap.size,0,none⟩) 1 1 [.int .i64 (n / 2),.bool (n % 2 == 1)] rfl rfl (by simp [Value.oneCell']) (.inr ⟨_,_,rfl,fun j u hj=>by
    have:=QbR w2 #[.int .i64 (n / 2),.bool (n % 2 == 1)] 76 j u hj;rw [show (⟨w2.heap.size,0,none⟩:Addr).add j=⟨w2.heap.size,0+j,none⟩ from Addr.add_lit ..] at this
    exact this⟩) (by omega) (by simp only [maxLen];omega) (by simp;omega) ?_
   intro v' w3 ho hg _;obtain ⟨g,c,rfl,eT3,inv4⟩:=invA.putF (Qim bs) (v':=v') (by rw [show Qbm (Qim bs)=[.int .i64 (n / 2),.bool (n % 2 == 1)] by rw [show n=_ from HNN];rfl];exact ho) hg
   have him:({ x with F:=x.F++[Qim bs] }:Mem).im=Qa4 (k.takeF (i+1)):=by rw [hdoc,← hx];simp [Mem.im,QcB]
   have INV4:=QQ (QA him inv4);have hsz5:((x.cells s).toArray).size=5:=rfl;clear ho hg inv invA own inv4 him hx hdoc hal hrow hkid q1 d0 d1 d2 HS;go_wp2_with ((fail_if_success (unfold Qag));refine Qan (t:=26) rfl ?_);unfold Qag;refine Qar rfl 26 (.tmp 91) (.tmp 90) rfl T 3 rfl (.slice (some ⟨g,0,none⟩) (x.F.length+1) c) rfl rfl rfl 29 _ eT3 Qhr (by rw [hsz5];decide) ?_;obtain ⟨w4,hw4⟩:∃ w,w=w3.setRow T ((x.cells s).toArray.setIfInBounds 3 (.slice (some ⟨g,0,none⟩) (x.F.length+1) c)):=⟨_,rfl⟩;rw [← hw4];rw [← hw4] at INV4;clear hw4 eT3 hsz5;go_wp2;go_roundw
   case rel=>exact ⟨i+1,_,_,by omega,by go_num,(QG INV4).1,(QG INV4).2⟩
   case measure=>simp [intOf];omega
  ·obtain ⟨hx,hdoc,inv,hrow,hkid⟩:=(QG HS)
   obtain ⟨i0,hi0,hz0,hz1,hz2⟩:=info_parts Qj2;have q1:=inv.atP;have hTV:=inv.lT;have eDx:Vt.heap[wr.heap.size]?=some (.cells #[.int .i64 132,.slice ba bl bc,.slice ka kl kc] 66):=HD
   have hPl:x.P.length≤20000:=by
    have h1:x.im.procs.length=x.P.length:=by simp [Mem.im]
    rw [← h1,hx];unfold Qa4;simp only [QM];exact Nat.le_trans (Qcu _) (Nat.le_trans (QdI k i) inv.cnt)
   obtain ⟨Rg,hRg⟩:∃ Rg:Nat→Prop,Rg=fun y=>(Value.slice s.p.1 x.P.length s.p.2).ownBlock=some y:=⟨_,rfl⟩
   have hRF:∀ y,Rg y→T+1≤y∧y<Vt.heap.size∧y≠wr.heap.size:=fun y hy=>by
    rw [hRg] at hy;have h1:=(inv.own.P.lt y hy);refine ⟨h1.1,h1.2,?_⟩
    ·intro e
     subst e;exact QdR inv.own.P hy eDx (by decide)
   have HX:=QQ (show ∀ W',Qa Rg Vt.drew W'→W'.cell? ⟨T,0,none⟩=some (.slice s.p.1 x.P.length s.p.2)∧W'.cell? ⟨wr.heap.size,2,none⟩=some (.slice ka kl kc) from fun W' hW =>
    ⟨QaF (p:=⟨T,0,none⟩) (hW.block T hTV (fun h=>by have:=hRF _ h;omega)) q1,QaF (p:=⟨wr.heap.size,2,none⟩) (hW.block wr.heap.size lD (fun h=>(hRF _ h).2.2 rfl)) d2⟩)
   have bD:Below Vt.heap.size Vt Vt.drew:=⟨rfl,rfl,rfl,QN _,fun _ _=>rfl⟩;have HK:=QQ (show SlF Vt.drew.heap.size Vt.drew ka kl kc kk from (hkid.below (bD.mono (Nat.le_of_lt hTV))).mono (Nat.le_of_lt hTV));have HRG:=QQ hRg
   have hkc:kk.cnt≤20000:=by omega
   clear hx hdoc inv hrow hkid q1 d1 d2 hRg hRF eDx;go_wp2;rename_i K2 aK2;have AK2:=QQ aK2;clear aK2;refine QbV (Qa Rg) 7 2 (by kernel_rfl) rfl ?_;refine QbI [0,1,2,3] (by kernel_rfl) (by kernel_rfl) ?_
   iterate 4
    first
    | (refine Qcr (Qa.pre Rg) rfl (by rfl) (v:=?_) (fun W hW=>?_) (fun K hK=>?_);rotate_left;· (obtain ⟨y1,y2⟩:=(QG HX) W hW;go_simp;first | done | rfl))
    | refine Qb0 (Qa.pre Rg) rfl (by rfl) (fun K hK=>?_)
    go_simp;refine hK _ ?_;clear hK K
   refine Qcq ?_;refine QaU 4 rfl (by kernel_rfl) (by rfl) (fun K hK=>?_);go_simp;refine Calls.mono (QlN _ _ _ _ _ HK hkc) ?_;rintro e5 w5 ⟨fa,fc,pa,pc,rfl,own5,b5⟩;refine ⟨_,rfl,hK _ _ (Wr.of_below b5) ?_⟩;have hok:(Qb8 kk).Ok:=QjS (QG HK);have hl55:=Pr.vals_length hok fa fc pa pc;have hone:=Qdw (Qb8 kk) fa fc pa pc;obtain ⟨PV,hPV⟩:∃ PV,PV=((Qb8 kk).vals fa fc pa pc).toArray:=⟨_,rfl⟩
   have hP5:PV.size=55:=by rw [hPV,QS,hl55]
   have hP1:∀ u∈PV.toList,u.oneCell'=true:=by rw [hPV];exact fun u hu=>hone u (by simpa using hu)
   rw [← hPV];have HPV:=QQ (QA hPV (QA own5 (QA b5 hok)));have s5:Vt.heap.size≤w5.heap.size:=b5.size;clear hPV hone hl55 own5 b5 hok;clear hK K;refine QaN (fun K hK=>?_);go_simp;refine hK _ ?_;clear hK K;refine QaU 5 rfl (by kernel_rfl) (by rfl) (fun K hK=>?_);refine QfR 23 54 (.tmp 98) rfl (.agg PV) rfl PV rfl i0 _ Tryz.underlying23 hi0 hz0 (by rw [hz1,hP5]) (by rw [hP5];decide) (by rw [hP5];decide) ?_;obtain ⟨W6,hW6⟩:∃ W6,W6=w5.alloc (.cells PV 54):=⟨_,rfl⟩
   have b6:Below w5.heap.size w5 W6:=by rw [hW6];exact (QB _ _).alloc (QN _) _
   have x6:W6.heap[w5.heap.size]?=some (.cells PV 54):=by rw [hW6];exact QW _ _
   rw [← hW6];refine hK _ _ (Wr.of_below b6) ?_;clear hW6;have H6:=QQ (QA b6 x6);clear b6 x6;clear hK K;refine QaN (fun K hK=>?_);go_simp;refine hK _ ?_;clear hK K;refine QaU 6 rfl (by kernel_rfl) (by rfl) (fun K hK=>?_);obtain ⟨b6,x6⟩:=(QG H6);obtain ⟨hPV,own5,b5,hok⟩:=(QG HPV);obtain ⟨hx,hdoc,inv,hrow,hkid⟩:=(QG HS);have hB:Below Vt.heap.size Vt W6:=(bD.trans b5).trans (b6.mono s5);have invA:=inv.grow hB;have own:=invA.own.P;have s6:=b6.size
   refine QaQ (.tmp 95) (.tmp 99) 23 rfl (T+1) 54 i0 _ 55 368 Tryz.underlying23 hi0 hz0 hz1 hz2 rfl (by decide) (.slice s.p.1 x.P.length s.p.2) x.P.length _ rfl own (some ⟨w5.heap.size,0,none⟩) 1 1 PV.toList rfl (by rw [Array.length_toList,hP5]) hP1 (.inr ⟨_,_,rfl,fun j u hj=>by
    rw [Nat.zero_add,cell_of_row W6 _ j _ _ _ x6];simpa using hj⟩) (by omega) (by simp only [maxLen];omega) (by omega) ?_
   intro v' w3 ho hg _
   have hrow9:∀ y,(Value.slice s.p.1 x.P.length s.p.2).ownBlock=some y→T+1≤y∧y<Vt.heap.size:=fun y hy=>inv.own.P.lt y hy
   have pr7:Qb3 (T+1) w3 fa fc pa pc (Qb8 kk):=own5.low (show T+1≤Vt.heap.size from hTV) fun y h1 h2=>by
    rw [hg.block y (by omega) (fun e=>by have:=(hrow9 y e.symm).2;have h1:Vt.heap.size≤y:=h1;omega),b6.block y h2]
   have hpv:PV.toList=QaP (Qb8 kk,⟨fa,fc,pa,pc⟩):=by rw [hPV];rfl
   rw [hpv] at ho;obtain ⟨g,c,rfl,eT3,inv4⟩:=invA.putP (Qb8 kk,⟨fa,fc,pa,pc⟩) ⟨pr7,hok⟩ (v':=v') ho hg
   have him:({ x with P:=x.P++[(Qb8 kk,⟨fa,fc,pa,pc⟩)] }:Mem).im=Qa4 (k.takeF (i+1)):=by rw [hdoc,← hx];simp [Mem.im,QcB]
   have INV4:=QQ (QA him inv4);have ET3:=QQ eT3
   have hw3:Qa Rg W6 w3:=Wr.grown (Wr.refl Rg W6) hg fun y hy=>.inl (by rw [show Rg=_ from HRG];exact hy)
   clear hg ho inv4 own invA him hx hdoc hrow hkid b6 x6 hPV own5 b5 hok eT3 pr7 hB hpv hrow9;refine hK _ _ hw3 ?_;clear hK K;refine QaN (fun K hK=>?_);go_simp;refine hK _ ?_;clear hK K;refine Qcm (by kernel_rfl) ?_;refine QbA 7 rfl (by kernel_rfl) (by rfl) (fun K hK=>?_);go_simp;refine hK _ _ ?_;clear hK K;refine Qbo (fun K hK=>?_);go_simp;refine hK _ ?_;clear hK K;refine QbA 8 rfl (by kernel_rfl) (by rfl) (fun K hK=>?_);refine QbG 23 (.tmp 101) (.tmp 100) rfl T 0 rfl (.slice (some ⟨g,0,none⟩) (x.P.length+1) c) rfl rfl rfl 29 _ (QG ET3) QjZ (show 0+1≤5 by decide) ?_;obtain ⟨w4,hw4⟩:∃ w,w=w3.setRow T ((x.cells s).toArray.setIfInBounds 0 (.slice (some ⟨g,0,none⟩) (x.P.length+1) c)):=⟨_,rfl⟩;rw [← hw4];rw [← hw4] at INV4;clear hw4 ET3;refine hK _ _ ?_;clear hK K;refine Qbo (fun K hK=>?_);go_simp;refine hK _ ?_;clear hK K;refine Qc0 (by kernel_rfl) ?_;refine (QG AK2) _ _ ?_;clear inv;go_wp2;go_roundw
   case rel=>exact ⟨i+1,_,_,by omega,by go_num,(QG INV4).1,(QG INV4).2⟩
   case measure=>simp [intOf];omega
  ·obtain ⟨hx,hdoc,inv,hrow,hkid⟩:=(QG HS)
   obtain ⟨i0,hi0,hz0,hz1,hz2⟩:=info_parts QgM;have q1:=inv.atK;have hTV:=inv.lT;have eDx:Vt.heap[wr.heap.size]?=some (.cells #[.int .i64 19,.slice ba bl bc,.slice ka kl kc] 66):=HD
   have hKl:x.K.length≤20000:=by
    have h1:x.im.waits.length=x.K.length:=by simp [Mem.im]
    rw [← h1,hx];unfold Qa4;simp only [QM];exact Nat.le_trans (Qcu _) (Nat.le_trans (QdI k i) inv.cnt)
   obtain ⟨Rg,hRg⟩:∃ Rg:Nat→Prop,Rg=fun y=>(Value.slice s.k.1 x.K.length s.k.2).ownBlock=some y:=⟨_,rfl⟩
   have hRF:∀ y,Rg y→T+1≤y∧y<Vt.heap.size∧y≠wr.heap.size:=fun y hy=>by
    rw [hRg] at hy;have h1:=(inv.own.K.lt y hy);refine ⟨h1.1,h1.2,?_⟩
    ·intro e
     subst e;exact QdR inv.own.K hy eDx (by decide)
   have HX:=QQ (show ∀ W',Qa Rg Vt.drew W'→W'.cell? ⟨T,4,none⟩=some (.slice s.k.1 x.K.length s.k.2)∧W'.cell? ⟨wr.heap.size,1,none⟩=some (.slice ba bl bc) from fun W' hW =>
    ⟨QaF (p:=⟨T,4,none⟩) (hW.block T hTV (fun h=>by have:=hRF _ h;omega)) q1,QaF (p:=⟨wr.heap.size,1,none⟩) (hW.block wr.heap.size lD (fun h=>(hRF _ h).2.2 rfl)) d1⟩)
   have bD:Below Vt.heap.size Vt Vt.drew:=⟨rfl,rfl,rfl,QN _,fun _ _=>rfl⟩
   have kat:=fun (j:Nat) (hj:j≤100)=>QjN ba bl bc bs Vt.drew ((hrow.below (bD.mono (Nat.le_of_lt hTV))).mono (Nat.le_of_lt hTV)) (by omega) j 4 (by omega) (by decide)
   obtain ⟨x0,hx0⟩:∃ z,z=atB bs 0 4:=⟨_,rfl⟩;obtain ⟨x1,hx1⟩:∃ z,z=atB bs 4 4:=⟨_,rfl⟩;obtain ⟨x2,hx2⟩:∃ z,z=atB bs 8 4:=⟨_,rfl⟩;obtain ⟨x3,hx3⟩:∃ z,z=atB bs 12 4:=⟨_,rfl⟩;have k0:=kat 0 (by decide);have k1:=kat 4 (by decide);have k2:=kat 8 (by decide);have k3:=kat 12 (by decide);rw [← hx0] at k0;rw [← hx1] at k1;rw [← hx2] at k2;rw [← hx3] at k3
   have hwt:QhK bs=⟨x0,x1,x2,x3⟩:=by unfold QhK;rw [← hx0,← hx1,← hx2,← hx3]
   have HWT:=QQ hwt;have HRG:=QQ hRg;clear kat hx0 hx1 hx2 hx3 hwt hx hdoc inv hrow hkid q1 d1 d2 hRg hRF eDx;go_wp2;rename_i K2 aK2;have AK2:=QQ aK2;clear aK2;refine QbV (Qa Rg) 18 2 (by kernel_rfl) rfl ?_;refine QbI [0,1,2,3,5,6,8,9,11,12] (by kernel_rfl) (by kernel_rfl) ?_
   iterate 10
    first
    | (refine Qcr (Qa.pre Rg) rfl (by rfl) (v:=?_) (fun W hW=>?_) (fun K hK=>?_);rotate_left;· (obtain ⟨y1,y2⟩:=(QG HX) W hW;go_simp;first | done | rfl))
    | refine Qb0 (Qa.pre Rg) rfl (by rfl) (fun K hK=>?_)
    go_simp;refine hK _ ?_;clear hK K
   refine Qcq ?_;refine QaU 4 rfl (by kernel_rfl) (by rfl) (fun K hK=>?_);go_simp;refine k0.mono ?_;rintro e5 w5 ⟨rfl,rfl⟩;refine ⟨_,rfl,hK _ _ ((Qa.pre Rg).refl _) ?_⟩;clear hK K;refine QaN (fun K hK=>?_);go_simp;refine hK _ ?_;clear hK K;refine QaU 7 rfl (by kernel_rfl) (by rfl) (fun K hK=>?_);go_simp;refine k1.mono ?_;rintro e5 w5 ⟨rfl,rfl⟩;refine ⟨_,rfl,hK _ _ ((Qa.pre Rg).refl _) ?_⟩;clear hK K;refine QaN (fun K hK=>?_);go_simp;refine hK _ ?_;clear hK K;refine QaU 10 rfl (by kernel_rfl) (by rfl) (fun K hK=>?_);go_simp;refine k2.mono ?_;rintro e5 w5 ⟨rfl,rfl⟩;refine ⟨_,rfl,hK _ _ ((Qa.pre Rg).refl _) ?_⟩;clear hK K;refine QaN (fun K hK=>?_);go_simp;refine hK _ ?_;clear hK K;refine QaU 13 rfl (by kernel_rfl) (by rfl) (fun K hK=>?_);go_simp;refine k3.mono ?_;rintro e5 w5 ⟨rfl,rfl⟩;refine ⟨_,rfl,hK _ _ ((Qa.pre Rg).refl _) ?_⟩;clear hK K;refine QaN (fun K hK=>?_);go_simp;refine hK _ ?_;clear hK K;refine QbI [14,15] (by kernel_rfl) (by kernel_rfl) ?_
   iterate 2
    first
    | (refine Qcr (Qa.pre Rg) rfl (by rfl) (v:=?_) (fun W hW=>?_) (fun K hK=>?_);rotate_left;· (obtain ⟨y1,y2⟩:=(QG HX) W hW;go_simp;first | done | rfl))
    | refine Qb0 (Qa.pre Rg) rfl (by rfl) (fun K hK=>?_)
    go_simp;refine hK _ ?_;clear hK K
   refine Qcq ?_;refine QaU 16 rfl (by kernel_rfl) (by rfl) (fun K hK=>?_);go_simp;generalize hW6:World.alloc _ _=W6';obtain ⟨W6,hW7⟩:∃ W6,W6=(Vt.alloc (.cells #[.int .i64 x0,.int .i64 x1,.int .i64 x2,.int .i64 x3] 80)).drew:=⟨_,rfl⟩
   have b6:Below Vt.heap.size Vt W6:=by rw [hW7];exact ((QB _ Vt).alloc (QN _) _).drew
   have x6:W6.heap[Vt.heap.size]?=some (.cells #[.int .i64 x0,.int .i64 x1,.int .i64 x2,.int .i64 x3] 80):=by rw [hW7];exact QW _ _
   have s6:Vt.heap.size+1=W6.heap.size:=by rw [hW7];simp
   rw [← hW6];rw [show (Vt.alloc (.cells #[.int .i64 x0,.int .i64 x1,.int .i64 x2,.int .i64 x3] 80)).drew=W6 from hW7.symm];refine hK _ _ (Wr.of_below (⟨b6.os,b6.tape,b6.output,b6.size,b6.block⟩:Below Vt.drew.heap.size Vt.drew W6)) ?_;have H6:=QQ (QA b6 (QA x6 s6));clear b6 x6 s6 hW6 hW7 k0 k1 k2 k3;clear hK K;refine QaN (fun K hK=>?_);go_simp;refine hK _ ?_;clear hK K;refine QaU 17 rfl (by kernel_rfl) (by rfl) (fun K hK=>?_);obtain ⟨b6,x6,s6⟩:=(QG H6);obtain ⟨hx,hdoc,inv,hrow,hkid⟩:=(QG HS);have invA:=inv.grow b6;have own:=invA.own.K
   refine QaQ (.tmp 105) (.tmp 120) 27 rfl (T+1) 80 i0 _ 4 32 Tryz.underlying27 hi0 hz0 hz1 hz2 rfl (by decide) (.slice s.k.1 x.K.length s.k.2) x.K.length _ rfl own (some ⟨Vt.heap.size,0,none⟩) 1 1 [.int .i64 x0,.int .i64 x1,.int .i64 x2,.int .i64 x3] rfl rfl (by simp [Value.oneCell']) (.inr ⟨_,_,rfl,fun j u hj=>by
    rw [Nat.zero_add,cell_of_row W6 _ j _ _ _ x6,List.getElem?_toArray];exact hj⟩) (by omega) (by simp only [maxLen];omega) (by omega) ?_
   intro v' w3 ho hg _;have hwt:=(QG HWT);obtain ⟨g,c,rfl,eT3,inv4⟩:=invA.putK (QhK bs) (v':=v') (by rw [hwt];exact ho) hg
   have him:({ x with K:=x.K++[QhK bs] }:Mem).im=Qa4 (k.takeF (i+1)):=by rw [hdoc,← hx];simp [Mem.im,QcB]
   have INV4:=QQ (QA him inv4);have ET3:=QQ eT3
   have hw3:Qa Rg W6 w3:=Wr.grown (Wr.refl Rg W6) hg fun y hy=>.inl (by rw [show Rg=_ from HRG];exact hy)
   clear hg ho inv4 own invA him hx hdoc hrow hkid b6 x6 s6 eT3 hwt;refine hK _ _ hw3 ?_;clear hK K;refine QaN (fun K hK=>?_);go_simp;refine hK _ ?_;clear hK K;refine Qcm (by kernel_rfl) ?_;refine QbA 18 rfl (by kernel_rfl) (by rfl) (fun K hK=>?_);go_simp;refine hK _ _ ?_;clear hK K;refine Qbo (fun K hK=>?_);go_simp;refine hK _ ?_;clear hK K;refine QbA 19 rfl (by kernel_rfl) (by rfl) (fun K hK=>?_);refine QbG 27 (.tmp 122) (.tmp 121) rfl T 4 rfl (.slice (some ⟨g,0,none⟩) (x.K.length+1) c) rfl rfl rfl 29 _ (QG ET3) Qj0 (show 4+1≤5 by decide) ?_;obtain ⟨w4,hw4⟩:∃ w,w=w3.setRow T ((x.cells s).toArray.setIfInBounds 4 (.slice (some ⟨g,0,none⟩) (x.K.length+1) c)):=⟨_,rfl⟩;rw [← hw4];rw [← hw4] at INV4;clear hw4 ET3;refine hK _ _ ?_;clear hK K;refine Qbo (fun K hK=>?_);go_simp;refine hK _ ?_;clear hK K;refine Qc0 (by kernel_rfl) ?_;refine (QG AK2) _ _ ?_;clear inv;go_wp2;go_roundw
   case rel=>exact ⟨i+1,_,_,by omega,by go_num,(QG INV4).1,(QG INV4).2⟩
   case measure=>simp [intOf];omega
  ·obtain ⟨hx,hdoc,inv,hrow,hkid⟩:=(QG HS)
   have him:x.im=Qa4 (k.takeF (i+1)):=by
    simp only [beq_eq_false_iff_ne] at f1 f2 f3 f4 f5;rw [hdoc,← hx];simp [QcB,f1,f2,f3,f4,f5]
   have INV4:=QQ (QA him inv);clear hx hdoc inv hrow hkid him HS d1 d2;go_wp2;go_roundw
   case rel=>exact ⟨i+1,_,_,by omega,by go_num,(QG INV4).1,(QG INV4).2⟩
   case measure=>simp [intOf];omega
end
def Qkg (x:Nat):List Nat:=[x % 256,x / 256 % 256,x / 65536 % 256,x / 16777216]
def xpN (k:Nat):Nat:=Qbh k QqQ
theorem QpG (k:Nat):xpN k<4294967296:=Qgb k (by decide)
theorem Qm3 (k m:Nat):Qbh m (xpN k)=xpN (k+m):=by unfold xpN;rw [Qe]
theorem Qo9 (k:Nat) (h:k≤31):xpN k=2 ^ (31-k):=QlG k 31 h
def Qc8:List Nat→Nat
 | []=>0
 | c::r=>(if c=1 then xpN r.length else 0) ^^^ Qc8 r
theorem Qo7:∀ l:List Nat,Qc8 l<4294967296
 | []=>by decide
 | c::r=>Nat.xor_lt_two_pow (n:=32) (by split;exact QpG _;decide) (Qo7 r)
theorem QfS:∀ m,Qc8 (List.replicate m 0)=0
 | 0=>rfl
 | m+1=>by rw [List.replicate_succ,Qc8,if_neg (by decide),Nat.zero_xor,QfS m]
theorem Qh7:∀ (l:List Nat) (j b:Nat),j<l.length→(l.getD j 0=0∨l.getD j 0=1)→(b=0∨b=1) →
  Qc8 (l.set j ((l.getD j 0+b) % 2))=Qc8 l ^^^ (if b=1 then xpN (l.length-1-j) else 0)
 | [],j,b,h,_,_=>by simp at h
 | c::r,0,b,h,hc,hb=>by
  simp only [List.getD_cons_zero] at hc ⊢;rw [List.set_cons_zero,Qc8,Qc8,List.length_cons,show r.length+1-1-0=r.length by omega]
  have e:∀ x y z:Nat,x ^^^ y ^^^ z=x ^^^ z ^^^ y:=fun x y z=>by rw [Nat.xor_assoc,Nat.xor_comm y,← Nat.xor_assoc]
  rcases hc with rfl | rfl <;> rcases hb with rfl | rfl
  ·simp
  ·simp [Nat.xor_comm]
  ·simp
  ·simp only [Nat.reduceAdd,Nat.mod_self,Nat.zero_ne_one,↓reduceIte,Nat.zero_xor]
   rw [e,Nat.xor_self,Nat.zero_xor]
 | c::r,j+1,b,h,hc,hb=>by
  simp only [List.getD_cons_succ] at hc ⊢;simp only [List.length_cons] at h;rw [List.set_cons_succ,Qc8,Qc8,Qh7 r j b (by omega) hc hb,List.length_set,← Nat.xor_assoc,List.length_cons,show r.length+1-1-(j+1)=r.length-1-j by omega]
def byL:List Nat:=[1,0,0,0,0,0,1,0,0,1,1,0,0,0,0,0,1,0,0,0,1,1,1,0,1,1,0,1,1,0,1,1,1]
theorem Qlp (k:Nat) (h:k<33):byL.getD k 0=0∨byL.getD k 0=1:=by
 have:∀ k:Fin 33,byL.getD k.val 0=0∨byL.getD k.val 0=1:=by decide
 exact this ⟨k,h⟩
def Qe5 (l:List Nat) (top:Nat):Nat→Nat
 | 0=>0
 | k+1=>Qe5 l top k ^^^ (if l.getD k 0=1 then xpN (top-k) else 0)
theorem Qfz (l:List Nat) (top M:Nat):∀ k,k≤top+1→Qe5 l (top+M) k=Qbh M (Qe5 l top k)
 | 0,_=>(Qdo M).symm
 | k+1,h=>by
  rw [Qe5,Qe5,Qfz l top M k (by omega),QdD]
  congr 1
  split
  ·rw [Qm3,show top+M-k=top-k+M by omega]
  ·exact (Qdo M).symm
theorem Qot (M:Nat):Qe5 byL (32+M) 33=0:=by
 rw [Qfz byL 32 M 33 (by decide),show Qe5 byL 32 33=0 by kernel_rfl,Qdo]
def QcO:List Nat→Nat
 | []=>0
 | c::r=>c+2*QcO r
def Qdv (l:List Nat):Prop:=∀ c∈l,c=0∨c=1
theorem Qh8:∀ l:List Nat,Qdv l→QcO l<2 ^ l.length
 | [],_=>by decide
 | c::r,h=>by
  have h1:=Qh8 r (fun x hx=>h x (List.mem_cons_of_mem _ hx));have h2:=h c (List.mem_cons_self ..);rw [QcO,List.length_cons,Nat.pow_succ];omega
theorem QoZ (e v:Nat):2 ^ e ^^^ 2*2 ^ e*v=2 ^ e*(1+2*v):=by
 rw [show 2*2 ^ e*v=2 ^ (e+1)*v by rw [Nat.pow_succ,Nat.mul_comm 2]]
 refine Nat.eq_of_testBit_eq fun i=>?_
 rw [Nat.testBit_xor,Nat.testBit_two_pow,Nat.testBit_two_pow_mul,Nat.testBit_two_pow_mul];by_cases h1:i<e
 ·have a1:¬ e=i:=by omega
  have a2:¬ e+1≤i:=by omega
  have a3:¬ e≤i:=by omega
  simp [a1,a2,a3]
 ·by_cases h2:e=i
  ·subst h2
   have a2:¬ e+1≤e:=by omega
   simp [a2]
  ·obtain ⟨m,rfl⟩:∃ m,i=e+1+m:=⟨i-e-1,by omega⟩
   have a2:e+1≤e+1+m:=by omega
   have a3:e≤e+1+m:=by omega
   rw [show e+1+m-(e+1)=m by omega,show e+1+m-e=m+1 by omega,Nat.testBit_succ,show (1+2*v) / 2=v by omega];simp [h2,a2,a3]
theorem Qfr:∀ l:List Nat,Qdv l→l.length≤32→Qc8 l=2 ^ (32-l.length)*QcO l
 | [],_,_=>by simp [Qc8,QcO]
 | c::r,h,hl=>by
  simp only [List.length_cons] at hl;have h1:=Qfr r (fun x hx=>h x (List.mem_cons_of_mem _ hx)) (by omega);have h2:=h c (List.mem_cons_self ..)
  have e1:2 ^ (32-r.length)=2*2 ^ (32-(r.length+1)):=by rw [show 32-r.length=32-(r.length+1)+1 by omega,Nat.pow_succ,Nat.mul_comm]
  have e2:xpN r.length=2 ^ (32-(r.length+1)):=by rw [Qo9 _ (by omega),show 31-r.length=32-(r.length+1) by omega]
  rw [Qc8,QcO,h1,List.length_cons,e1,e2];generalize 32-(r.length+1)=P;generalize hPe:QcO r=v
  rcases h2 with rfl | rfl
  ·rw [if_neg (by decide),Nat.zero_xor,Nat.zero_add,← Nat.mul_assoc,Nat.mul_comm (2 ^ P) 2]
  ·rw [if_pos rfl,QoZ]
theorem Qh6:∀ (p l:List Nat),Qc8 (p++l)=Qbh l.length (Qc8 p) ^^^ Qc8 l
 | [],l=>by rw [List.nil_append,Qc8,Qdo,Nat.zero_xor]
 | c::r,l=>by
  rw [List.cons_append,Qc8,Qh6 r l,Qc8,QdD,QL,Nat.xor_assoc]
  congr 1
  split
  ·exact (Qm3 _ _).symm
  ·exact (Qdo _).symm
def QcA (n:Nat):Nat→List Nat
 | 0=>[]
 | m+1=>n % 2::QcA (n / 2) m
theorem QcG:∀ m n,(QcA n m).length=m
 | 0,_=>rfl
 | m+1,n=>by rw [QcA,List.length_cons,QcG m]
theorem Qe7:∀ m n,Qdv (QcA n m)
 | 0,_=>fun c h=>by simp [QcA] at h
 | m+1,n=>fun c h=>by
  rcases List.mem_cons.1 h with rfl | h
  ·omega
  ·exact Qe7 m _ c h
theorem QfB:∀ m n,QcO (QcA n m)=n % 2 ^ m
 | 0,n=>by rw [QcA,QcO,Nat.pow_zero,Nat.mod_one]
 | m+1,n=>by
  rw [QcA,QcO,QfB m,Nat.pow_succ,Nat.mul_comm (2 ^ m) 2,Nat.mod_mul]
theorem QfA:∀ m n,QcA n (m+1)=QcA n m++[n / 2 ^ m % 2]
 | 0,n=>by simp [QcA]
 | m+1,n=>by
  rw [QcA,QfA m (n / 2)];rw [show QcA n (m+1)=n % 2::QcA (n / 2) m from rfl,List.cons_append,Nat.div_div_eq_div_mul,Nat.pow_succ,Nat.mul_comm (2 ^ m) 2]
def QhI (b:List Nat):List Nat:=b.flatMap fun c=>QcA c 8
theorem QgB (b:List Nat):(QhI b).length=8*b.length:=by
 induction b with
 | nil=>rfl
 | cons c r ih=>rw [show QhI (c::r)=QcA c 8++QhI r from rfl,QL,QcG,ih,List.length_cons];omega
theorem Qnm (b:List Nat):Qdv (QhI b):=by
 intro c h;obtain ⟨x,_,hx⟩:=List.mem_flatMap.1 h;exact Qe7 8 x c hx
theorem Qk7 (c:Nat) (h:c<256):Qc8 (QcA c 8)=2 ^ 24*c:=by
 rw [Qfr _ (Qe7 8 c) (by rw [QcG];decide),QcG,QfB,Nat.mod_eq_of_lt h]
theorem QjQ:∀ (b:List Nat),(∀ x∈b,x<256)→∀ s,Qne s b=Qbh (8*b.length) s ^^^ Qc8 (QhI b++List.replicate 32 0)
 | [],_,s=>by rw [show QhI []++List.replicate 32 0=List.replicate 32 0 from rfl,QfS,Nat.xor_zero];rfl
 | c::r,hb,s=>by
  have hc:=hb c (List.mem_cons_self ..)
  rw [Qne,QjQ r (fun x hx=>hb x (List.mem_cons_of_mem _ hx)),show QhI (c::r)++List.replicate 32 0=QcA c 8++(QhI r++List.replicate 32 0) by rw [← List.append_assoc];rfl,
   Qh6 (QcA c 8),Qk7 c hc,← Nat.xor_assoc,QL,List.length_replicate,QgB,
   show 8*r.length+32=24+(8+8*r.length) by omega,Qe 24,Qeu,Qe 8,List.length_cons,show 8*(r.length+1)=8+8*r.length by omega,Qe 8 (8*r.length) s,QdD 8 s c,QdD]
def Qde (l:List Nat):List Nat:=l.map fun c=>1-c
theorem QfT:∀ l:List Nat,Qdv l→QcO (Qde l)+QcO l+1=2 ^ l.length
 | [],_=>rfl
 | c::r,h=>by
  have h1:=QfT r (fun x hx=>h x (List.mem_cons_of_mem _ hx));have h2:=h c (List.mem_cons_self ..);rw [show Qde (c::r)=(1-c)::Qde r from rfl,QcO,QcO,List.length_cons,Nat.pow_succ];omega
theorem Qg5 (l:List Nat):Qdv (Qde l):=by
 intro c h;obtain ⟨x,_,rfl⟩:=List.mem_map.1 h;omega
theorem Qj8 (n:Nat) (h:n<4294967296):n ^^^ QgS=4294967295-n:=by
 refine Nat.eq_of_testBit_eq fun i=>?_
 rw [show 4294967295-n=2 ^ 32-(n+1) by omega,Nat.testBit_two_pow_sub_succ (by omega),Nat.testBit_xor,QgS,Nat.testBit_two_pow_sub_one];by_cases hi:i<32
 ·simp [hi]
 ·rw [Nat.testBit_lt_two_pow (Nat.lt_of_lt_of_le h (show 2 ^ 32≤2 ^ i from Nat.pow_le_pow_right (by decide) (by omega)))]
  simp [hi]
theorem Qid (c:Nat) (r:List Nat) (top:Nat):∀ k,k≤top→Qe5 (c::r) top (k+1)=(if c=1 then xpN top else 0) ^^^ Qe5 r (top-1) k
 | 0,_=>by simp [Qe5]
 | k+1,h=>by
  rw [Qe5,Qid c r top k (by omega),Qe5,Nat.xor_assoc,List.getD_cons_succ,show top-(k+1)=top-1-k by omega]
theorem QjK:∀ l:List Nat,Qe5 l (l.length-1) l.length=Qc8 l
 | []=>rfl
 | c::r=>by
  rw [List.length_cons,Nat.add_sub_cancel,Qid c r r.length r.length (QN _),Qc8,QjK r]
def Qdy (n:Nat):List Nat:=Qde (QcA n 32)
theorem Qdm (n:Nat):(Qdy n).length=32:=by rw [Qdy,Qde,QM,QcG]
theorem Qk9 (n:Nat) (h:n<4294967296) (q:Nat):Qe5 (Qdy n) (q+31) 32=Qbh q (n ^^^ QgS):=by
 have h1:=QjK (Qdy n);rw [Qdm] at h1;rw [Nat.add_comm q 31,Qfz (Qdy n) 31 q 32 (by decide),h1,show Qc8 (Qdy n)=_ from Qfr (Qdy n) (Qg5 _) (by rw [Qdm];decide),Qdm];have h2:=QfT (QcA n 32) (Qe7 32 n);rw [QcG,QfB,Nat.mod_eq_of_lt h] at h2
 have h3:QcO (Qdy n)=4294967295-n:=by
  rw [show QcO (Qdy n)=QcO (Qde (QcA n 32)) from rfl];generalize QcO (Qde (QcA n 32))=v at h2 ⊢;omega
 rw [Qj8 n h,Nat.sub_self,Nat.pow_zero,Nat.one_mul,h3]
theorem QnU (ys:List Nat) (m:Nat) (hl:ys.length=m+32) (hd:Qdv ys) (h0:∀ j,j<m→ys.getD j 0=0):QcO (Qde (ys.drop m))=Qc8 ys ^^^ QgS:=by
 have hz:Qc8 (ys.take m)=0:=by
  have:ys.take m=List.replicate m 0:=by
   refine List.eq_replicate_iff.2 ⟨by rw [List.length_take];omega,fun b hb=>?_⟩;obtain ⟨j,hj,rfl⟩:=List.mem_iff_getElem.1 hb;rw [List.length_take] at hj;have:=h0 j (by omega);rw [List.getElem_take];simpa [List.getD,List.getElem?_eq_getElem (show j<ys.length by omega)] using this
  rw [this,QfS]
 have hv:Qc8 ys=Qc8 (ys.drop m):=by
  conv=>lhs;rw [← List.take_append_drop m ys,Qh6,hz,Qdo,Nat.zero_xor]
 have hd2:Qdv (ys.drop m):=fun c h=>hd c (List.mem_of_mem_drop h)
 have hl2:(ys.drop m).length=32:=by rw [List.length_drop];omega
 have h1:=QfT (ys.drop m) hd2;have h2:=Qfr (ys.drop m) hd2 (by omega);have h3:=Qh8 (ys.drop m) hd2;rw [hl2] at h1 h2 h3;rw [Nat.sub_self,Nat.pow_zero,Nat.one_mul] at h2;rw [hv,h2,Qj8 _ h3];omega
theorem Qge:(Tryz.prog.info? 3).map (fun i=>(i.zero,i.size,i.bytes))=some (some (.int .i64 0),1,8):=by kernel_rfl
def dv (l:List Nat):List Value:=l.map fun d:Nat=>Value.int .i64 (d:Int)
theorem QlQ (a b:List Nat):dv (a++b)=dv a++dv b:=List.map_append
def di (l:List Nat):List Int:=l.map fun d:Nat=>(d:Int)
theorem Qno (l:List Nat):dv l=(di l).map (Value.int .i64):=by simp [dv,di]
theorem QgA (l:List Nat):(di l).length=l.length:=QM ..
theorem QpN (l:List Nat) (j:Nat) (h:j<l.length):(di l).getD j 0=((l.getD j 0:Nat):Int):=by
 simp [di,List.getD,List.getElem?_eq_getElem h]
theorem Qjs (W:World) (x:Int):∀ j u,[Value.int .i64 x][j]?=some u→(W.alloc (.cells #[.int .i64 x] 3)).cell? ((⟨W.heap.size,0,none⟩:Addr).add j)=some u:=cell_one_new _ _ _
theorem Qm2 (n:Nat) (w:World) (hn:n<4294967296) :
  Calls Tryz.prog 115 #[.int .u32 n] w fun e w'=>∃ v,e=.returned v∧w'.ownsRow w.heap.size 3 1 v 32 (dv (Qdy n))∧Below w.heap.size w w':=by
 obtain ⟨i0,hi,hz0,hz1,hz2⟩:=info_parts Qge;go_enter Tryz.func115,Tryz.ntmps115;go_wp2;go_loopw [0,3,4] (fun x v i wr=>∃ (k:Nat),k≤32∧x=.int .u32 ((n / 2 ^ k:Nat):Int)∧i=.int .i64 (k:Int)∧wr.ownsRow w.heap.size 3 1 v k (dv (Qde (QcA n k)))∧Below w.heap.size w wr) (fun _ _ i _=>32-(intOf i).toNat)
 case atStart=>exact ⟨0,by omega,by simp,rfl,World.ownsRow_nil _ _ _ _,QB _ _⟩
 case round =>
  obtain ⟨k,hk,rfl,rfl,hown,hb⟩:=hrel;by_cases hlt:k<32
  ·have t1:decide ((k:Int)<32)=true:=by simp;omega
   obtain ⟨c,hc⟩:∃ c,c=n / 2 ^ k:=⟨_,rfl⟩
   have hcl:c<4294967296:=by rw [hc];exact Nat.lt_of_le_of_lt (Nat.div_le_self _ _) hn
   have hsn:=QfA k n
   have hd2:c / 2=n / 2 ^ (k+1):=by rw [hc,Nat.div_div_eq_div_mul,Nat.pow_succ]
   rw [← hc] at hsn ⊢;have HD:=QQ hd2;have HS:=QQ hsn;have hn1:=QQ (Qjs wr (1-(c:Int) % 2));have hbs:=hb.size;clear hc hd2 hsn;go_wp2_with (at_builtin;refine Qau ?_);unfold Qag;refine wpList_append_own _ rfl _ _ 51 rfl w.heap.size 3 i0 (.int .i64 0) 1 8 Tryz.underlying51 hi hz0 hz1 hz2 rfl (by decide) _ k _ (by rfl) (hown.alloc _) ⟨wr.heap.size,0,none⟩ 1 1 [.int .i64 (1-(c:Int) % 2)] (by rfl) rfl hn1 (by simp [Value.oneCell']) (by simp only [maxLen];omega) (by omega) (by simp;omega) ?_;intro v' w1 hown' hgrow hnil;have hb3:=(hb.alloc hbs (.cells #[.int .i64 (1-(c:Int) % 2)] 3)).grown hgrow (by simp;omega) (fun g hg=>(hown.lt g hg).1);clear hn1 hnil hgrow;go_wp2;go_roundw
   case rel =>
    have hd2:c / 2=n / 2 ^ (k+1):=HD;have hsn:QcA n (k+1)=QcA n k++[c % 2]:=HS;refine ⟨k+1,by omega,by rw [← hd2];rfl,by go_num,?_,hb3⟩;rw [hsn,Qde,List.map_append,QlQ]
    have e:(1-(c:Int) % 2)=((1-c % 2:Nat):Int):=by omega
    rw [e] at hown';exact hown'
   case measure=>simp [intOf];omega
  ·have t1:decide ((k:Int)<32)=false:=by simp;omega
   obtain rfl:k=32:=by omega
   go_wp2;go_ret;exact ⟨_,rfl,hown,hb⟩
theorem QkA (a:Option Addr) (len cap:Nat) (zs:List Int) (w:World) (hr:QaL w.heap.size w (.slice a len cap) zs) (hsm:zs.length≤1000000) :
  Calls Tryz.prog 114 #[.slice a len cap] w fun e w'=>∃ v,e=.returned v∧w'.ownsRow w.heap.size 3 1 v (8*len) (dv (QhI (zs.map Int.toNat)))∧Below w.heap.size w w':=by
 obtain ⟨i0,hi,hz0,hz1,hz2⟩:=info_parts Qge;obtain ⟨hlen,b,off,hopen,hc⟩:=hr.1.open;subst hlen;go_enter Tryz.func114,Tryz.ntmps114;go_wp2;go_loopw [3,4,5,6] (fun v i _ _ wr=>∃ (k:Nat),k≤zs.length∧i=.int .i64 (k:Int)∧wr.ownsRow w.heap.size 3 1 v (8*k) (dv (QhI ((zs.take k).map Int.toNat)))∧Below w.heap.size w wr) (fun _ i _ _ _=>zs.length-(intOf i).toNat)
 case atStart=>exact ⟨0,by omega,rfl,World.ownsRow_nil _ _ _ _,QB _ _⟩
 case round =>
  obtain ⟨k,hk,rfl,hown,hb⟩:=hrel;by_cases hlt:k<zs.length
  ·have t1:decide ((k:Int)<(zs.length:Int))=true:=by simp;omega
   obtain ⟨rfl,hbn,_,_⟩:=hopen (by omega);have hck:wr.cell? ⟨b,off+k,none⟩=some (.int .u8 (zs.getD k 0)):=(hb.cell (p:=⟨b,off+k,none⟩) hbn).trans (hc k hlt)
   obtain ⟨C,hC0,hC1⟩:∃ C:Nat,zs[k]=(C:Int)∧C≤255:=by
    have h:=hr.2 _ (List.getElem_mem hlt);exact ⟨zs[k].toNat,by omega,by omega⟩
   rw [Qba _ _ hlt,hC0] at hck
   have hs:(zs.take (k+1)).map Int.toNat=(zs.take k).map Int.toNat++[C]:=by
    rw [List.take_succ_eq_append_getElem hlt,List.map_append,List.map_cons,List.map_nil,hC0,Int.toNat_natCast]
   have hs2:QhI ((zs.take (k+1)).map Int.toNat)=QhI ((zs.take k).map Int.toNat)++QcA C 8:=by
    rw [hs,QhI,List.flatMap_append];simp [QhI]
   obtain ⟨D,hD⟩:∃ D,D=QhI ((zs.take k).map Int.toNat):=⟨_,rfl⟩;rw [← hD] at hown hs2;have HS:=QQ hs2;have HC:=QQ hc;clear hs hs2 hD hC0 hc;go_wp2_with fail;go_loopw [3,5,6] (fun v c i wx=>∃ (m:Nat),m≤8∧c=.int .i64 ((C / 2 ^ m:Nat):Int)∧i=.int .i64 (m:Int)∧wx.ownsRow w.heap.size 3 1 v (8*k+m) (dv (D++QcA C m))∧Below w.heap.size w wx) (fun _ _ i _=>8-(intOf i).toNat)
   case atStart=>exact ⟨0,by omega,by simp,rfl,by rw [show QcA C 0=[] from rfl,List.append_nil];exact hown,hb⟩
   case round =>
    clear hown hb hck;obtain ⟨m,hm,rfl,rfl,hown,hb⟩:=hrel;by_cases hlt2:m<8
    ·have t2:decide ((m:Int)<8)=true:=by simp;omega
     obtain ⟨c,hc⟩:∃ c,c=C / 2 ^ m:=⟨_,rfl⟩
     have hcl:c≤255:=by rw [hc];exact Nat.le_trans (Nat.div_le_self _ _) hC1
     have hsn:=QfA m C
     have hd2:c / 2=C / 2 ^ (m+1):=by rw [hc,Nat.div_div_eq_div_mul,Nat.pow_succ]
     rw [← hc] at hsn ⊢;have HD:=QQ hd2;have HS2:=QQ hsn;have hn1:=QQ (Qjs wr ((c:Int) % 2));have hbs:=hb.size;clear hc hd2 hsn;go_wp2_with (at_builtin;refine Qau ?_);unfold Qag;refine wpList_append_own _ rfl _ _ 51 rfl w.heap.size 3 i0 (.int .i64 0) 1 8 Tryz.underlying51 hi hz0 hz1 hz2 rfl (by decide) _ (8*k+m) _ (by rfl) (hown.alloc _) ⟨wr.heap.size,0,none⟩ 1 1 [.int .i64 ((c:Int) % 2)] (by rfl) rfl hn1 (by simp [Value.oneCell']) (by simp only [maxLen];omega) (by omega) (by simp;omega) ?_;intro v' w1 hown' hgrow hnil;have hb3:=(hb.alloc hbs (.cells #[.int .i64 ((c:Int) % 2)] 3)).grown hgrow (by simp;omega) (fun g hg=>(hown.lt g hg).1);clear hn1 hnil hgrow;go_wp2;go_roundw
     case rel =>
      have hd2:c / 2=C / 2 ^ (m+1):=HD;have hsn:QcA C (m+1)=QcA C m++[c % 2]:=HS2;refine ⟨m+1,by omega,by rw [← hd2];rfl,by go_num,?_,hb3⟩;rw [hsn,← List.append_assoc,QlQ];exact hown'
     case measure=>simp [intOf];omega
    ·have t2:decide ((m:Int)<8)=false:=by simp;omega
     obtain rfl:m=8:=by omega
     have hs2:QhI ((zs.take (k+1)).map Int.toNat)=D++QcA C 8:=HS;rw [← hs2] at hown;clear hs2;go_wp2;go_roundw
     case rel=>exact ⟨k+1,by omega,by go_num,hown,hb⟩
     case measure=>simp [intOf];omega
  ·have t1:decide ((k:Int)<(zs.length:Int))=false:=by simp;omega
   obtain rfl:k=zs.length:=by omega
   rw [List.take_length] at hown;go_wp2;go_ret;exact ⟨_,rfl,hown,hb⟩
theorem QkZ (a:Option Addr) (cap:Nat) (l:List Nat) (w:World) (hr:Qdb .i64 w.heap.size w (.slice a 32 cap) (di l)) (hd:Qdv l) :
  Calls Tryz.prog 116 #[.slice a 32 cap] w fun e w'=>e=.returned (.int .u32 (QcO (Qde l)))∧w=w':=by
 obtain ⟨hlen,b,off,hopen,hc⟩:=hr.open;obtain ⟨rfl,hbn,_,hcm⟩:=hopen (by decide);rw [QgA] at hlen;go_enter Tryz.func116,Tryz.ntmps116;go_wp2;go_loopw [3,4] (fun x i wr=>∃ (j:Nat),j≤32∧i=.int .i64 ((j:Int)-1)∧x=.int .u32 (QcO ((Qde l).drop j))∧w=wr) (fun _ i _=>(intOf i+1).toNat)
 case atStart=>exact ⟨32,by omega,rfl,by rw [List.drop_of_length_le (by rw [Qde,QM];omega)];rfl,rfl⟩
 case round =>
  obtain ⟨j,hj,rfl,rfl,rfl⟩:=hrel;by_cases h0:j=0
  ·subst h0
   go_wp2;go_ret;exact ⟨rfl,rfl⟩
  ·obtain ⟨i,rfl⟩:∃ i,j=i+1:=⟨j-1,by omega⟩
   have e1:((i+1:Nat):Int)-1=(i:Int):=by omega
   rw [e1]
   have t1:decide ((0:Int)≤(i:Int))=true:=by simp
   have hil:i<l.length:=by omega
   have hd':=hd _ (List.getElem_mem hil);obtain ⟨c,hc0⟩:∃ c,c=l[i]:=⟨_,rfl⟩;rw [← hc0] at hd'
   have hck:w.cell? ⟨b,off+i,none⟩=some (.int .i64 (c:Int)):=by
    rw [hc i (by omega),QpN l i hil,hc0];simp [List.getD,List.getElem?_eq_getElem hil]
   have hW:QcO ((Qde l).drop i)=(1-c)+2*QcO ((Qde l).drop (i+1)):=by
    have hi2:i<(Qde l).length:=by rw [Qde,QM];exact hil
    rw [List.drop_eq_getElem_cons hi2,QcO]
    congr 1
    rw [hc0];simp [Qde]
   have hB:=Qh8 ((Qde l).drop i) (fun x hx=>Qg5 l x (List.mem_of_mem_drop hx))
   have hB2:QcO ((Qde l).drop i)<4294967296:=Nat.lt_of_lt_of_le hB (by
    rw [List.length_drop,Qde,QM]
    exact (show 2 ^ _≤2 ^ 32 from Nat.pow_le_pow_right (by decide) (by omega)))
   obtain ⟨N,hN⟩:∃ N,N=QcO ((Qde l).drop (i+1)):=⟨_,rfl⟩;rw [← hN] at hW ⊢;have HW:=QQ hW
   have hNb:2*N+(1-c)<4294967296:=by omega
   have HC:=QQ hc;clear hN hW hB hB2 hc hc0 e1
   have v0:(1-(c:Int)) % 4294967296=1-(c:Int):=by omega
   have hcc:c≤1:=by omega
   go_wp2;go_roundw
   case rel =>
    refine ⟨i,by omega,rfl,?_,trivial⟩;have hW:QcO ((Qde l).drop i)=(1-c)+2*N:=HW;rw [hW];exact Qo8 (by omega)
   case measure=>simp [intOf]
section
section
variable {P : Program} {ops : Array Oper} {rest : List Oper} {o : Oper} {a : Act} {w : World} {Q : Exit → Act → World → Prop}
theorem QfW (hgd:o.guard=none) (s x:Operand) (t:TypeId) (ho:o.op=.call { callee:=.builtin .append,args:=#[s,x],argTypes:=#[t,t] })
  (base:Nat) (e:TypeId) (i:TypeInfo) (ht:P.underlying t=some (.slice e)) (hi:P.info? e=some i) (hz:i.zero=some (.int .i64 0)) (hsize:i.size=1) (hby:i.bytes=8)
  (v:Value) (n:Nat) (xs:List Int) (hs:a.eval s=v) (hown:w.ownsRow base e 1 v n (xs.map (Value.int .i64)))
  (p:Option Addr) (m c n₀:Nat) (zs:List Int) (hx:a.eval x=.slice p m c) (hr:Qdb .i64 n₀ w (.slice p m c) zs) (hsm:n+m≤1000000000) (hbase:base≤w.heap.size)
  (h:∀ v' w',w'.ownsRow base e 1 v' (n+m) ((xs++zs).map (Value.int .i64))→w.grownBy w' v.ownBlock→(v'.ownBlock=v.ownBlock∨v'.ownBlock=some w.heap.size)→wpList P ops Q rest (a.put o.dst v') w') :
  wpList P ops Q (o::rest) a w:=by
 have hlen:=hr.open.1
 have key:∀ ad,p=some ad→(∀ j u,(zs.map (Value.int .i64))[j]?=some u→w.cell? (ad.add j)=some u)→wpList P ops Q (o::rest) a w:=fun ad hp hc=>by
  subst hp;refine wpList_append_own_at (w:=w) hgd s x t ho base e i (.int .i64 0) 1 8 ht hi hz hsize hby rfl (by decide) v n _ hs hown ad m c (zs.map (Value.int .i64)) hx (by simp [hlen]) hc (fun u hu=>?_) (by simp only [maxLen];omega) (by omega) hbase (fun v' w' h2 h3 _ h5=>h v' w' ?_ h3 h5)
  ·obtain ⟨z,_,rfl⟩:=List.mem_map.1 hu
   rfl
  ·rw [List.map_append];exact h2
 rcases hr with ⟨a',c',he,rfl⟩ | ⟨b,off,c',he,hb,h3,h4,hc⟩
 ·injection he with e1 e2 e3
  subst e1 e2 e3
  cases p with
  | some ad=>exact key ad rfl (fun j u hj=>by simp at hj)
  | none =>
   refine wpList_plain hgd fun K hK=>?_
   have hr:(Builtin.append_ #[t,t] o.type #[v,.slice none 0 c]).run P w=.ok v w:=by
    rcases hown.2 with ⟨rfl,rfl⟩ | ⟨g,cap,cur,rfl,_,_,hnc,_⟩
    ·simp [Builtin.append_,run_underlying ht,sizeOf,typeInfo,hi,Builtin.lenOf,Builtin.firstCells]
    ·simp [Builtin.append_,run_underlying ht,sizeOf,typeInfo,hi,Builtin.lenOf,Builtin.firstCells,hnc,storeCells]
   unfold Oper.wp execOp;simp only [ho,resolve,invoke,builtin,Sem.run_bind,Sem.run_pure,Result.andThen_ok,List.map_toArray,List.map_cons,List.map_nil,hs,hx,hr];exact hK _ _ (h v w (by simpa using hown) ⟨rfl,rfl,rfl,QN _,fun _ _ _=>rfl⟩ (.inl rfl))
 ·injection he with e1 e2 e3
  refine key _ e1 (fun j u hj=>?_);rw [List.getElem?_map] at hj
  cases hz':zs[j]? with
  | none=>simp [hz'] at hj
  | some z =>
   have hjl:j<zs.length:=(List.getElem?_eq_some_iff.1 hz').1
   have:zs.getD j 0=z:=by simp [List.getD,hz']
   rw [Addr.add_lit,hc j hjl,this];simpa [hz'] using hj
end
end
theorem QlJ {l:List Nat} (h:Qdv l) (j x:Nat) (hx:x=0∨x=1):Qdv (l.set j x):=by
 intro c hc
 rcases List.mem_or_eq_of_mem_set hc with h2 | rfl
 ·exact h c h2
 ·exact hx
theorem QgC {l:List Nat} (h:Qdv l) (j:Nat):l.getD j 0=0∨l.getD j 0=1:=by
 by_cases hj:j<l.length
 ·rw [show l.getD j 0=l[j] from by simp [List.getD,List.getElem?_eq_getElem hj]];exact h _ (List.getElem_mem hj)
 ·left;simp [List.getD,List.getElem?_eq_none (Nat.le_of_not_lt hj)]
theorem QlR (l:List Nat) (j:Nat) (h:j<l.length):(dv l)[j]?=some (.int .i64 ((l.getD j 0:Nat):Int)):=by
 simp [dv,List.getD,List.getElem?_eq_getElem h]
theorem Qoe (l:List Nat) (j x:Nat):dv (l.set j x)=(dv l).set j (.int .i64 (x:Int)):=List.map_set ..
def byO:Obj:=.cells (dv byL).toArray 3
theorem QoC:Obj.cells #[.int .i64 1,.int .i64 0,.int .i64 0,.int .i64 0,.int .i64 0,.int .i64 0,.int .i64 1,.int .i64 0,.int .i64 0,.int .i64 1,.int .i64 1,.int .i64 0,.int .i64 0,.int .i64 0,.int .i64 0,.int .i64 0,.int .i64 1,.int .i64 0,.int .i64 0,.int .i64 0,.int .i64 1,.int .i64 1,.int .i64 1,.int .i64 0,.int .i64 1,.int .i64 1,.int .i64 0,.int .i64 1,.int .i64 1,.int .i64 0,.int .i64 1,.int .i64 1,.int .i64 1] 3=byO:=by kernel_rfl
theorem Qph {W:World} {b:Nat} (hW:W.heap[b]?=some byO) (k:Nat) (h:k<33):W.cell? ⟨b,k,none⟩=some (.int .i64 ((byL.getD k 0:Nat):Int)):=by
 unfold byO at hW;simp only [World.cell?,hW];rw [List.getElem?_toArray,QlR byL k h];rfl
theorem QmL {zs:List Nat} {N i k V:Nat} (hz:zs.length=N) (hd:Qdv zs) (hi:i+32<N) (hk:k<33) (hV:Qc8 zs=V ^^^ Qe5 byL (N-1-i) k) :
  Qc8 (zs.set (i+k) ((zs.getD (i+k) 0+byL.getD k 0) % 2))=V ^^^ Qe5 byL (N-1-i) (k+1):=by
 rw [Qh7 zs (i+k) _ (by omega) (QgC hd _) (Qlp k hk),hV,Qe5,Nat.xor_assoc,hz,show N-1-(i+k)=N-1-i-k by omega]
theorem QiR {zs:List Nat} {j i x:Nat} (h:j≠i):(zs.set i x).getD j 0=zs.getD j 0:=by
 simp [List.getD,Ne.symm h]
theorem QnZ {zs:List Nat} {i x:Nat} (h:i<zs.length):(zs.set i x).getD i 0=x:=by
 simp [List.getD,h]
theorem QoI (l:List Nat) (m:Nat):(di l).drop m=di (l.drop m):=by simp [di,List.map_drop]
theorem QnC (a:Option Addr) (cap:Nat) (l:List Nat) (m:Nat) (w:World) (hr:Qdb .i64 w.heap.size w (.slice a (m+32) cap) (di l)) (hd:Qdv l) (hm:m≤1000000) :
  Calls Tryz.prog 117 #[.slice a (m+32) cap] w fun e w'=>∃ (b:Option Addr) (c:Nat) (ys:List Nat),e=.returned (.slice b 32 c)∧Qdb .i64 w'.heap.size w' (.slice b 32 c) (di ys)∧Qdv ys∧QcO (Qde ys)=Qc8 l ^^^ QgS∧Below w.heap.size w w':=by
 obtain ⟨i0,hi,hz0,hz1,hz2⟩:=info_parts Qge;have hlen:=hr.open.1;rw [QgA] at hlen;go_enter Tryz.func117,Tryz.ntmps117;go_wp2_with (at_builtin;refine Qau ?_);unfold Qag;rw [QoC];obtain ⟨W1,hW1⟩:∃ W1,W1=w.alloc byO:=⟨_,rfl⟩
 have hby:W1.heap[w.heap.size]?=some byO:=by rw [hW1];exact QW w _
 have b1:Below w.heap.size w W1:=by rw [hW1];exact (QB _ w).alloc (QN _) _
 have s1:W1.heap.size=w.heap.size+1:=by rw [hW1];simp
 rw [← hW1];clear hW1;refine QfW rfl _ _ 51 rfl W1.heap.size 3 i0 Tryz.underlying51 hi hz0 hz1 hz2 (.slice none 0 0) 0 [] rfl (World.ownsRow_nil _ _ _ _) a (m+32) cap w.heap.size (di l) rfl (hr.below b1) (by omega) (QN _) ?_;intro v1 u1 o1 hg1 hv1;rw [Nat.zero_add,List.nil_append,← Qno] at o1;have hby1:u1.heap[w.heap.size]?=some byO:=(hg1.block _ (by omega) (by simp [Value.ownBlock])).trans hby;have b2:Below w.heap.size w u1:=b1.grown hg1 b1.size (by simp [Value.ownBlock]);have s2:=hg1.size;obtain ⟨ca,cc,rfl,hca⟩:=Qaa o1;obtain ⟨g,rfl,hg⟩:=hca.resolve_left (by omega);have hgB:=o1.lt g hg;have hcc:=(Qdb.of_own (by rw [Qno] at o1;exact o1)).2;have hcap:=hcc.cap
 have hcm:cc≤maxLen:=by
  rcases hcc with ⟨_,_,h,_⟩ | ⟨_,_,_,h,_,_,h6,_⟩
  ·injection h with _ h;omega
  ·injection h with _ _ h;omega
 obtain ⟨N,hN⟩:∃ N,N=m+32:=⟨_,rfl⟩;rw [← hN] at o1 hlen hcap ⊢
 have hNm:(N:Int)-32=(m:Int):=by omega
 have hNl:N≤1000032:=by omega
 have hg2:w.heap.size<g:=by omega
 have HN:=QQ hN;clear hN hg1 hv1 hby b1 s1 hca hcc hgB s2;simp only [maxLen] at hcm;go_wp2_with fail;go_loopw [5,6] (fun x _ wr=>∃ (i:Nat) (ys:List Nat),x=.int .i64 (i:Int)∧i≤m∧ys.length=N∧Qdv ys∧Hid (Qc8 ys=Qc8 l)∧Hid (∀ j,j<i→ys.getD j 0=0)∧wr.ownsRow W1.heap.size 3 1 (.slice (some ⟨g,0,none⟩) N cc) N (dv ys)∧wr.heap[w.heap.size]?=some byO∧Below w.heap.size w wr) (fun x _ _=>m-(intOf x).toNat)
 case atStart=>exact ⟨0,l,rfl,by omega,hlen,hd,rfl,fun j h=>by omega,o1,hby1,b2⟩
 case round =>
  clear o1 hby1 b2;obtain ⟨i,ys,rfl,hi2,hys,hyd,hV,hZ,hown,hby,hb⟩:=hrel;have hN:N=m+32:=HN;by_cases hlt:i<m
  ·have t1:decide ((i:Int)+32<(N:Int))=true:=by simp;omega
   have hi32:i+32<N:=by omega
   have ck:wr.cell? ⟨g,i,none⟩=some (.int .i64 ((ys.getD i 0:Nat):Int)):=by
    rw [hown.cellAt i (by omega),QlR ys i (by omega)]
   rcases QgC hyd i with h0 | h1
   ·rw [h0] at ck
    have H0:=QQ h0;clear h0 hN;go_wp2_with fail;go_roundw
    case rel =>
     refine ⟨i+1,ys,by go_num,by omega,hys,hyd,hV,?_,hown,hby,hb⟩;intro j hj;by_cases hji:j=i
     ·rw [hji];exact H0
     ·exact hZ j (by omega)
    case measure=>simp [intOf];omega
   ·rw [h1] at ck
    have H1:=QQ h1;clear h1 hN;go_wp2_with fail;go_loopw [6] (fun x wx=>∃ (k:Nat) (zs:List Nat),x=.int .i64 (k:Int)∧k≤33∧zs.length=N∧Qdv zs∧Hid (Qc8 zs=Qc8 l ^^^ Qe5 byL (N-1-i) k)∧Hid (∀ j,j<i→zs.getD j 0=0)∧Hid ((k=0→zs.getD i 0=1)∧(0<k→zs.getD i 0=0))∧wx.ownsRow W1.heap.size 3 1 (.slice (some ⟨g,0,none⟩) N cc) N (dv zs)∧wx.heap[w.heap.size]?=some byO∧Below w.heap.size w wx) (fun x _=>33-(intOf x).toNat)
    case atStart=>exact ⟨0,ys,rfl,by omega,hys,hyd,(by rw [Qe5,Nat.xor_zero];exact hV:Qc8 ys=Qc8 l ^^^ Qe5 byL (N-1-i) 0),hZ,⟨fun _=>H1,fun h=>by omega⟩,hown,hby,hb⟩
    case round =>
     clear hown hby hb ck hV hZ H1 hyd hys;obtain ⟨k,zs,rfl,hk,hzs,hzd,hV,hZ,hI,hown,hby,hb⟩:=hrel;by_cases hk2:k<33
     ·have t2:decide ((k:Int)≤32)=true:=by simp;omega
      have ck1:wr.cell? ⟨g,i+k,none⟩=some (.int .i64 ((zs.getD (i+k) 0:Nat):Int)):=by
       rw [hown.cellAt (i+k) (by omega),QlR zs (i+k) (by omega)]
      have ck2:=Qph hby k hk2;have fk:=hown.frozenAt (i+k);have hst:=QQ (fun u=>(hown.stored (i+k) u).1);have hA:=QgC hzd (i+k);have hB:=Qlp k hk2;have hStep:=QQ (QmL hzs hzd hi32 hk2 hV);obtain ⟨A,hAe⟩:∃ A,A=zs.getD (i+k) 0:=⟨_,rfl⟩;obtain ⟨B,hBe⟩:∃ B,B=byL.getD k 0:=⟨_,rfl⟩;rw [← hAe] at ck1 hA;rw [← hBe] at ck2 hB;have HA:=QQ hAe;have HB:=QQ hBe
      have hA1:A≤1:=by omega
      have hB1:B≤1:=by omega
      clear hAe hBe hA hB;have HBY:=QQ hby;clear hby;go_wp2_with fail;go_region;go_wp2;go_roundw
      case rel =>
       have hAe:A=zs.getD (i+k) 0:=HA;have hBe:B=byL.getD k 0:=HB;refine ⟨k+1,zs.set (i+k) ((zs.getD (i+k) 0+byL.getD k 0) % 2),by go_num,by omega,by rw [List.length_set];exact hzs,QlJ hzd _ _ (by omega),hStep,?_,?_,?_,?_,?_⟩
       ·intro j hj
        rw [QiR (by omega)];exact hZ j hj
       ·refine ⟨fun h=>by omega,fun _=>?_⟩
        by_cases h0:k=0
        ·subst h0
         have h1:=hI.1 rfl;rw [Nat.add_zero,QnZ (by omega),h1];rfl
        ·rw [QiR (by omega)];exact hI.2 (by omega)
       ·have h:=(QG hst) (.int .i64 (((A:Int)+(B:Int)) % 2))
        rw [Qoe,← hAe,← hBe,show (((A+B) % 2:Nat):Int)=((A:Int)+(B:Int)) % 2 by omega]
        exact Qac h fun b hb=>rfl
       ·exact (Below.heap_setCell wr ⟨g,i+k,none⟩ _ w.heap.size (by show ¬ w.heap.size=g;omega)).trans HBY
       ·have h4:=hb.setCell (p:=⟨g,i+k,none⟩) (by show w.heap.size≤g;omega) (.int .i64 (((A:Int)+(B:Int)) % 2))
        exact ⟨h4.os,h4.tape,h4.output,h4.size,h4.block⟩
      case measure=>simp [intOf];omega
     ·have t2:decide ((k:Int)≤32)=false:=by simp;omega
      obtain rfl:k=33:=by omega
      have hN:N=m+32:=HN
      have hV2:Qc8 zs=Qc8 l:=by
       have h:=show Qc8 zs=Qc8 l ^^^ Qe5 byL (N-1-i) 33 from hV
       rw [h,show N-1-i=32+(m-1-i) by omega,Qot,Nat.xor_zero]
      have HV2:=QQ hV2;clear hV2 hN hV;go_wp2_with fail;go_roundw
      case rel =>
       refine ⟨i+1,zs,by go_num,by omega,hzs,hzd,HV2,?_,hown,hby,hb⟩;intro j hj;by_cases hji:j=i
       ·rw [hji];exact hI.2 (by omega)
       ·exact hZ j (by omega)
      case measure=>simp [intOf];omega
  ·obtain rfl:i=m:=by omega
   have t1:decide ((i:Int)+32<(N:Int))=false:=by simp;omega
   have hcN:¬ cc=i:=by omega
   have hiN:i≤N:=by omega
   have h32:N-i=32:=by omega
   have hrow:=(Qdb.of_own (by rw [Qno] at hown;exact hown)).2;obtain ⟨hsub,_⟩:=hrow.sub i N hiN (QN _)
   have g1:sliced (some ⟨g,0,none⟩) i N cc 1=.slice (some ⟨g,i,none⟩) 32 (cc-i):=by
    unfold sliced;rw [if_neg (by omega),h32];simp [Addr.add_lit]
   rw [g1,List.take_of_length_le (by rw [List.length_drop,QgA];omega),QoI] at hsub;have hval:=QnU ys i (by omega) hyd hZ;rw [show Qc8 ys=Qc8 l from hV] at hval;have HS:=QQ hsub;have HVL:=QQ hval;clear hrow g1 hsub hval hN hZ hV;go_wp2;go_ret;exact ⟨_,_,ys.drop i,rfl,HS,fun c h=>hyd c (List.mem_of_mem_drop h),HVL,hb⟩
theorem Ql (k:Nat):List.replicate (k+1) 0=List.replicate k 0++[0]:=List.replicate_succ' ..
theorem QmK {zs l:List Nat} {N k V:Nat} (hz:zs.length=N) (hd:Qdv zs) (hl:Qdv l) (hk:k<N) (hV:Qc8 zs=V ^^^ Qe5 l (N-1) k) :
  Qc8 (zs.set k ((zs.getD k 0+l.getD k 0) % 2))=V ^^^ Qe5 l (N-1) (k+1):=by
 rw [Qh7 zs k _ (by omega) (QgC hd _) (QgC hl k),hV,Qe5,Nat.xor_assoc,hz]
theorem QnJ (n:Nat) (b:List Nat) (hb:∀ x∈b,x<256) (hn:n<4294967296) (V:Nat) (hV:V=Qc8 (QhI b++List.replicate 32 0) ^^^ Qe5 (Qdy n) (8*b.length+32-1) 32):V ^^^ QgS=Qhb n b:=by
 rw [hV,show 8*b.length+32-1=8*b.length+31 by omega,Qk9 n hn];unfold Qhb;rw [QjQ b hb,Nat.xor_comm (Qc8 _)]
theorem QmB (n:Nat) (a:Option Addr) (len cap:Nat) (zs:List Int) (w:World) (hn:n<4294967296) (hr:QaL w.heap.size w (.slice a len cap) zs) (hsm:zs.length≤40000) :
  Calls Tryz.prog 98 #[.int .u32 n,.slice a len cap] w fun e w'=>e=.returned (.int .u32 (Qhb n (zs.map Int.toNat)))∧Below w.heap.size w w':=by
 obtain ⟨i0,hi,hz0,hz1,hz2⟩:=info_parts Qge;have hlen:=hr.1.open.1;have hzb:=Qkd hr.2;have hfin:=QnJ n (zs.map Int.toNat) hzb hn;rw [QM,hlen] at hfin;have kd:=QkA a len cap zs w hr (by omega)
 have hDl:(QhI (zs.map Int.toNat)).length=8*len:=by rw [QgB,QM,hlen]
 have hDd:=Qnm (zs.map Int.toNat);obtain ⟨D,hD⟩:∃ D,D=QhI (zs.map Int.toNat):=⟨_,rfl⟩;obtain ⟨ANS,hANS⟩:∃ A,A=Qhb n (zs.map Int.toNat):=⟨_,rfl⟩;rw [← hD] at kd hDl hDd hfin;rw [← hANS] at hfin ⊢;have HF:=QQ hfin;clear hfin hD hANS hzb
 have hl1:len≤40000:=by omega
 go_enter Tryz.func98,Tryz.ntmps98;go_wp2_with (go_at_call 114;refine Qau ?_);unfold Qag;refine kd.mono ?_;rintro e w1 ⟨v1,rfl,o1,b1⟩;go_wp2_with fail;go_loopw [5,6] (fun v x wr=>∃ (k:Nat),x=.int .i64 (k:Int)∧k≤32∧wr.ownsRow w.heap.size 3 1 v (8*len+k) (dv (D++List.replicate k 0))∧Below w.heap.size w wr) (fun _ x _=>32-(intOf x).toNat)
 case atStart=>exact ⟨0,rfl,by omega,by rw [List.replicate_zero,List.append_nil];exact o1,b1⟩
 case round =>
  clear o1 b1 kd;obtain ⟨k,rfl,hk,hown,hb⟩:=hrel;by_cases hlt:k<32
  ·have t1:decide ((k:Int)<32)=true:=by simp;omega
   have hn1:=QQ (Qjs wr 0);have hbs:=hb.size;go_wp2_with (at_builtin;refine Qau ?_);unfold Qag;refine wpList_append_own _ rfl _ _ 51 rfl w.heap.size 3 i0 (.int .i64 0) 1 8 Tryz.underlying51 hi hz0 hz1 hz2 rfl (by decide) _ (8*len+k) _ (by rfl) (hown.alloc _) ⟨wr.heap.size,0,none⟩ 1 1 [.int .i64 0] (by rfl) rfl hn1 (by simp [Value.oneCell']) (by simp only [maxLen];omega) (by omega) (by simp;omega) ?_;intro v' w2 hown' hgrow hnil;have hb3:=(hb.alloc hbs (.cells #[.int .i64 0] 3)).grown hgrow (by simp;omega) (fun g hg=>(hown.lt g hg).1);clear hn1 hnil hgrow;go_wp2;go_roundw
   case rel =>
    refine ⟨k+1,by go_num,by omega,?_,hb3⟩;rw [Ql,← List.append_assoc,QlQ];exact hown'
   case measure=>simp [intOf];omega
  ·have t1:decide ((k:Int)<32)=false:=by simp;omega
   obtain rfl:k=32:=by omega
   have hEl:(D++List.replicate 32 0).length=8*len+32:=by rw [QL,hDl,List.length_replicate]
   have hEd:Qdv (D++List.replicate 32 0):=fun c h=>(List.mem_append.1 h).elim (hDd c) (fun h=>.inl (List.mem_replicate.1 h).2)
   obtain ⟨E,hE⟩:∃ E,E=D++List.replicate 32 0:=⟨_,rfl⟩
   have HF2:Hid (∀ V,V=Qc8 E ^^^ Qe5 (Qdy n) (8*len+32-1) 32→V ^^^ QgS=ANS):=by rw [hE];exact HF
   rw [← hE] at hown hEl hEd;clear hE hlt HF hDl hDd;obtain ⟨ca,cc,rfl,hca⟩:=Qaa hown;obtain ⟨g,rfl,hg⟩:=hca.resolve_left (by omega);have hgB:=hown.lt g hg;go_wp2_with (go_at_call 115;refine Qau ?_);unfold Qag;refine (Qm2 n wr hn).mono ?_;rintro e w3 ⟨v3,rfl,o3,b3⟩
   have hown3:=Qac hown fun b hb=>b3.block b (hown.lt b hb).2
   have hb3:=hb.trans (b3.mono hb.size);obtain ⟨la,lc,rfl,hla⟩:=Qaa o3;obtain ⟨h,rfl,hh⟩:=hla.resolve_left (by omega);have hhB:=o3.lt h hh;obtain ⟨N,hN⟩:∃ N,N=8*len+32:=⟨_,rfl⟩;have HN:=QQ hN
   have hN32:32≤N:=by omega
   have hNl:N≤400000:=by omega
   have hgw:w.heap.size≤g:=hgB.1
   have hgh:g≠h:=by omega
   rw [← hN] at hown3 hEl HF2 ⊢;have hWl:=Qdm n;have hWd:Qdv (Qdy n):=Qg5 _;obtain ⟨L,hL⟩:∃ L,L=Qdy n:=⟨_,rfl⟩;rw [← hL] at o3 HF2 hWl hWd;have hrB:=wr.heap.size;obtain ⟨S0,hS0⟩:∃ S0,S0=wr.heap.size:=⟨_,rfl⟩;rw [← hS0] at o3;clear hN hL hS0 hown hb b3 hca hla hg hh hgB hhB hrB;go_wp2_with fail;go_loopw [8] (fun x wx=>∃ (k:Nat) (ys:List Nat),x=.int .i64 (k:Int)∧k≤32∧ys.length=N∧Qdv ys∧Hid (Qc8 ys=Qc8 E ^^^ Qe5 L (N-1) k)∧wx.ownsRow w.heap.size 3 1 (.slice (some ⟨g,0,none⟩) N cc) N (dv ys)∧wx.ownsRow S0 3 1 (.slice (some ⟨h,0,none⟩) 32 lc) 32 (dv L)∧Below w.heap.size w wx) (fun x _=>32-(intOf x).toNat)
   case atStart=>exact ⟨0,E,rfl,by omega,hEl,hEd,(by rw [Qe5,Nat.xor_zero]:Qc8 E=Qc8 E ^^^ Qe5 L (N-1) 0),hown3,o3,hb3⟩
   case round =>
    clear hown3 o3 hb3 hEl hEd;obtain ⟨k,ys,rfl,hk,hys,hyd,hV,hown,ho3,hb⟩:=hrel;by_cases hlt:k<32
    ·have t1:decide ((k:Int)<32)=true:=by simp;omega
     have ck1:wr.cell? ⟨g,k,none⟩=some (.int .i64 ((ys.getD k 0:Nat):Int)):=by
      rw [hown.cellAt k (by omega),QlR ys k (by omega)]
     have ck2:wr.cell? ⟨h,k,none⟩=some (.int .i64 ((L.getD k 0:Nat):Int)):=by
      rw [ho3.cellAt k (by omega),QlR L k (by omega)]
     have fk:=hown.frozenAt k;have hst:=QQ (fun u=>(hown.stored k u).1);have hA:=QgC hyd k;have hB:=QgC hWd k;have hStep:=QQ (QmK hys hyd hWd (by omega) hV);obtain ⟨A,hAe⟩:∃ A,A=ys.getD k 0:=⟨_,rfl⟩;obtain ⟨B,hBe⟩:∃ B,B=L.getD k 0:=⟨_,rfl⟩;rw [← hAe] at ck1 hA;rw [← hBe] at ck2 hB;have HA:=QQ hAe;have HB:=QQ hBe
     have hA1:A≤1:=by omega
     have hB1:B≤1:=by omega
     have hkN:k<N:=by omega
     clear hAe hBe hA hB;go_wp2_with fail;go_region;go_wp2;go_roundw
     case rel =>
      have hAe:A=ys.getD k 0:=HA;have hBe:B=L.getD k 0:=HB;refine ⟨k+1,ys.set k ((ys.getD k 0+L.getD k 0) % 2),by go_num,by omega,by rw [List.length_set];exact hys,QlJ hyd _ _ (by omega),hStep,?_,?_,?_⟩
      ·have h:=(QG hst) (.int .i64 (((A:Int)+(B:Int)) % 2))
       rw [Qoe,← hAe,← hBe,show (((A+B) % 2:Nat):Int)=((A:Int)+(B:Int)) % 2 by omega]
       exact Qac h fun b hb=>rfl
      ·exact Qac ho3 fun b hb=>by
        have:b=h:=by simpa [Value.ownBlock] using hb.symm
        exact Below.heap_setCell wr ⟨g,k,none⟩ _ b (by show ¬ b=g;omega)
      ·have h4:=hb.setCell (p:=⟨g,k,none⟩) hgw (.int .i64 (((A:Int)+(B:Int)) % 2))
       exact ⟨h4.os,h4.tape,h4.output,h4.size,h4.block⟩
     case measure=>simp [intOf];omega
    ·have t1:decide ((k:Int)<32)=false:=by simp;omega
     obtain rfl:k=32:=by omega
     have hrow:Qdb .i64 wr.heap.size wr (.slice (some ⟨g,0,none⟩) N cc) (di ys):=(Qdb.of_own (by rw [Qno] at hown;exact hown)).2;have hN:N=8*len+32:=HN;have hfin:Qc8 ys ^^^ QgS=ANS:=HF2 _ hV;have kl:=QnC (some ⟨g,0,none⟩) cc ys (8*len) wr (by rw [← hN];exact hrow) hyd (by omega);rw [← hN,hfin] at kl;clear hrow hN hfin HN HF2 hV hown ho3;go_wp2_with (go_at_call 117;refine Qau ?_);unfold Qag;refine kl.mono ?_;rintro e w4 ⟨lb,lc2,xs,rfl,hx,hxd,hval,b4⟩;have kr:=QkZ lb lc2 xs w4 hx hxd;rw [hval] at kr;replace b4:=hb.trans (b4.mono hb.size);clear kl hx hxd hval hb;go_wp2_with (go_at_call 116;refine Qau ?_);unfold Qag;refine kr.mono ?_;rintro e w5 ⟨rfl,rfl⟩;clear kr;go_wp2;go_ret;exact ⟨rfl,b4⟩
end Go.Proofs.YtejcandhijdnhaaGreat
