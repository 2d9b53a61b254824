/- Own texts of this seat, one behind the other, without needless spaces (part 13 of 26). -/
import Derived.Test.YtejcandhijdnhaaGreatMR01
import Derived.Test.YtejcandhijdnhaaGreatMR02
import Derived.Test.YtejcandhijdnhaaGreatMR12
namespace Go.Proofs.YtejcandhijdnhaaGreat
open Go Go.RowKit
set_option linter.unusedVariables false
set_option linter.unusedSimpArgs false
set_option linter.unnecessarySimpa false
set_option maxRecDepth 100000
set_option maxHeartbeats 16000000
section
attribute [local go_sem] QaB QaJ QaA
theorem QiP (p:Pr) (h:p.Ok) (fa:Option Addr) (fc:Nat) (pa:Option Addr) (pc:Nat) :
  (p.vals fa fc pa pc)[26]?=some (.int .u32 p.sig.pend)∧(p.vals fa fc pa pc)[27]?=some (.int .u32 p.sig.mask)∧(p.vals fa fc pa pc)[44]?=some (.bool p.sig.busy) ∧
  ∀ j u,(p.sig.hand.map (Value.int .u32))[j]?=some u→(p.vals fa fc pa pc)[28+j]?=some u:=by
 have g:=(Qaf p h fa fc pa pc).2.2.2.2.2;have hh:=h.2.2.2.2.1
 have at_:∀ i u,i<19→p.sig.vals[i]?=some u→(p.vals fa fc pa pc)[26+i]?=some u:=fun i u hi hu=>by
  rw [← g,List.getElem?_take,if_pos hi,List.getElem?_drop] at hu;exact hu
 refine ⟨at_ 0 _ (by decide) rfl,at_ 1 _ (by decide) rfl,at_ 18 _ (by decide) ?_,fun j u hj=>?_⟩
 ·unfold Sg.vals
  rw [List.getElem?_append_right (by simp [hh])];simp [hh]
 ·have hlt:=(List.getElem?_eq_some_iff.1 hj).1
  rw [QM,hh] at hlt
  have:=at_ (2+j) u (by omega) (by
   unfold Sg.vals;rw [List.getElem?_append_left (by simp [hh];omega),List.getElem?_append_right (by simp)]
   simpa using hj)
  rw [show 28+j=26+(2+j) by omega];exact this
theorem Qqz (W:World) (p:Pr) (fa:Option Addr) (fc:Nat) (pa:Option Addr) (pc:Nat) (X:Array Value) (B:Nat) (t3 t4 t5 t6:Value) (hm:Qbj p=true) (hst:¬ p.state=2) (h3:Nat) (u7 u8 u9 u10 u11 u12 u13 u14 u15 u16 u17 u18 u19 u20 u21 u22 u23 u24 u25 u26 u27 u28 u29 u30 u31 u32 u33 u34 u35 u36 u37 u38 u39 u40 u41 u42 u43 u44 u45 u46 u47 u48 u49 u50 u51 u52 u53 u54 u55 u56 u57 u58 u59 u60 u61 u62 u63 u64 u65 u66 u67 u68 u69 u70 u71 u72 u73 u74 u75 u76 u77 u78 u79 u80 u81 u82 u83 u84 u85 u86 u87 u88 u89 u90 u91 u92 u93 u94 u95 u96 u97 u98 u99 u100 u101 u102 u103 u104 u105 u106 u107 u108 u109 u110 u111 u112 u113 u114 u115 u116 u117 u118 u119 u120 u121 u122 u123 u124:Value) (V:World)
  (h:Qad W (p,⟨fa,fc,pa,pc⟩) X B V) (hl:QbY W.heap.size h3 (W.heap.size+1) V t3 3 (Qff p)) (b4:Nat) (hb4:h3≤b4) (hb5:W.heap.size≤b4) (hr:V.ownsRow b4 5 1 t4 72 ((wsB (p.sig.pend::p.sig.mask::p.sig.hand)).map (Value.int .u8))) :
  (tl 4 (Tryz.f95.body.getD .skip)).wp Tryz.prog (KdQ W p) { tmps:=#[.agg X,.pointer (some ⟨B,0,none⟩),.slice none 0 0,t3,t4,t5,t6,u7,u8,u9,u10,u11,u12,u13,u14,u15,u16,u17,u18,u19,u20,u21,u22,u23,u24,u25,u26,u27,u28,u29,u30,u31,u32,u33,u34,u35,u36,u37,u38,u39,u40,u41,u42,u43,u44,u45,u46,u47,u48,u49,u50,u51,u52,u53,u54,u55,u56,u57,u58,u59,u60,u61,u62,u63,u64,u65,u66,u67,u68,u69,u70,u71,u72,u73,u74,u75,u76,u77,u78,u79,u80,u81,u82,u83,u84,u85,u86,u87,u88,u89,u90,u91,u92,u93,u94,u95,u96,u97,u98,u99,u100,u101,u102,u103,u104,u105,u106,u107,u108,u109,u110,u111,u112,u113,u114,u115,u116,u117,u118,u119,u120,u121,u122,u123,u124],defers:=[] } V:=by
 obtain ⟨i0,hi0,hz0,hz1,hz2⟩:=info_parts Qgf;have c44:=Qad.cell h (QiP p h.fine.ok fa fc pa pc).2.2.1;obtain ⟨bz,hbz⟩:∃ b,b=p.sig.busy:=⟨_,rfl⟩;rw [← hbz] at c44;have HBZ:=QQ hbz;have H:=QQ (QA h (QA hl (QA hr (QA hm (QA hst (QA hb4 hb5))))));clear h hl hr hm hst hbz hb4 hb5
 conv=>arg 2;whnf
 refine wp_seq_k (fun K' aK=>?_);have AK:=QQ aK;clear aK;go_wp2_with (go_at_call 94;refine Qau ?_);unfold Qag;refine (Qgw bz V).mono ?_;rintro e1 w1 ⟨rfl,hw⟩;rw [hw];clear hw w1 c44;obtain ⟨y,hy⟩:∃ y,y=Qb6 bz:=⟨_,rfl⟩
 have hwy:IntKind.u8.wrap y=y:=by rw [hy];cases bz <;> decide
 rw [← hy];have HY:=QQ hy;clear hy;go_wp2_with (at_builtin;refine Qau ?_);unfold Qag;obtain ⟨h,hl,hr,hm,hst,hb4,hb5⟩:=(QG H);have hnew:=QbR V #[.int .u8 y] 5
 have hb4V:b4≤V.heap.size:=by
  rcases hr.2 with ⟨_,h0⟩ | ⟨g,_,_,rfl,_⟩
  ·omega
  ·have:=hr.lt g rfl;omega
 refine QaH rfl _ _ 22 rfl b4 5 i0 _ 1 1 Tryz.underlying22 hi0 hz0 hz1 hz2 rfl (by decide) t4 72 _ rfl (hr.alloc _) (some ⟨V.heap.size,0,none⟩) 1 1 [.int .u8 y] rfl rfl (by simp [Value.oneCell']) (.inr ⟨_,_,rfl,fun j u hj=>by
  have:=hnew j u hj;rw [show (⟨V.heap.size,0,none⟩:Addr).add j=⟨V.heap.size,0+j,none⟩ from Addr.add_lit ..] at this
  exact this⟩) (by decide) (by decide) (by simp;omega) ?_
 intro v9 w9 o9 g9 hv9;have s9:=g9.size;simp at s9
 have hk:∀ x,x<V.heap.size→t4.ownBlock≠some x→w9.heap[x]?=V.heap[x]?:=fun x h1 h2=>(g9.block x (by simp;omega) (fun e=>h2 e.symm)).trans (((QB _ V).alloc (QN _) _:Below V.heap.size V _).block x h1)
 have hnb:∀ x,t4.ownBlock=some x→b4≤x∧x<V.heap.size:=fun x hx=>hr.lt x hx
 have hBB:t4.ownBlock≠some B:=fun e=>by
  rcases hr.2 with ⟨rfl,h0⟩ | ⟨g,_,cur,rfl,_,hg,_⟩
  ·cases e
  ·simp only [Value.ownBlock,Option.some.injEq] at e
   subst e;have:=h.eB;rw [hg] at this
   injection this with this
   injection this with _ this
   exact absurd this (by decide)
 have hW9:Below W.heap.size W w9:=⟨g9.os.trans h.below.os,g9.tape.trans h.below.tape,g9.output.trans h.below.output,by have:=h.below.size;omega,fun x hx=>(hk x (by have:=h.below.size;omega) (fun e=>by have:=(hnb x e).1;omega)).trans (h.below.block x hx)⟩;have h':Qad W (p,⟨fa,fc,pa,pc⟩) X B w9:=⟨h.fine,h.hX,h.hB,(hk B (QI.1 h.eB).1 hBB).trans h.eB,hW9,h.fds,h.pages⟩;obtain ⟨hh0,vs0,q1,q2,q3⟩:=id hl
 have hl':=hl.keep (W':=w9) (by omega) fun x hx=>by
  rcases hx with hx | hx
  ·exact hk x (by omega) (fun e=>by have:=(hnb x e).1;omega)
  ·exact hk x (q1.lt x hx).2 (fun e=>(QaK (by decide) hr q1).elim (fun h0=>by rw [h0] at hx;cases hx) (fun h0=>h0 (by rw [hx,e])))
 have hr':w9.ownsRow W.heap.size 5 1 v9 73 ((sgB p.sig).map (Value.int .u8)):=by
  unfold sgB;rw [← (QG HBZ),← (QG HY),List.map_append]
  exact QaI o9 hb5 fun _ _=>rfl
 have HH:=QQ (QA h' (QA hl' (QA hr' (QA hm hst))));clear h hl hr hm hst hnew o9 g9 hv9 hk hnb hBB hW9 h' hl' hr' q1 q2 q3 H s9;go_wp2;refine (QG AK) _ _ ?_;clear AK;refine wp_seq_k (fun K2 aK=>?_);have AK:=QQ aK;clear aK;go_wp2;refine (QG AK) _ _ ?_;obtain ⟨h,hl,hr,hm,hst⟩:=(QG HH);apply Qp0 W p fa fc pa pc X B t3 v9 hm hst h3;exact h;exact hl;exact hr
end
section
attribute [local go_sem] QaB QaJ QaA
theorem Qqy (W:World) (p:Pr) (fa:Option Addr) (fc:Nat) (pa:Option Addr) (pc:Nat) (X:Array Value) (B:Nat) (t3 t4 t5 t6:Value) (hm:Qbj p=true) (hst:¬ p.state=2) (h3:Nat) (u7 u8 u9 u10 u11 u12 u13 u14 u15 u16 u17 u18 u19 u20 u21 u22 u23 u24 u25 u26 u27 u28 u29 u30 u31 u32 u33 u34 u35 u36 u37 u38 u39 u40 u41 u42 u43 u44 u45 u46 u47 u48 u49 u50 u51 u52 u53 u54 u55 u56 u57 u58 u59 u60 u61 u62 u63 u64 u65 u66 u67 u68 u69 u70 u71 u72 u73 u74 u75 u76 u77 u78 u79 u80 u81 u82 u83 u84 u85 u86 u87 u88 u89 u90 u91 u92 u93 u94 u95 u96 u97 u98 u99 u100 u101 u102 u103 u104 u105 u106 u107 u108 u109 u110 u111 u112 u113 u114 u115 u116 u117 u118 u119 u120 u121 u122 u123 u124:Value) (V:World)
  (h:Qad W (p,⟨fa,fc,pa,pc⟩) X B V) (hl:QbY W.heap.size h3 (W.heap.size+1) V t3 3 (Qff p)) :
  (tl 3 (Tryz.f95.body.getD .skip)).wp Tryz.prog (KdQ W p) { tmps:=#[.agg X,.pointer (some ⟨B,0,none⟩),.slice none 0 0,t3,t4,t5,t6,u7,u8,u9,u10,u11,u12,u13,u14,u15,u16,u17,u18,u19,u20,u21,u22,u23,u24,u25,u26,u27,u28,u29,u30,u31,u32,u33,u34,u35,u36,u37,u38,u39,u40,u41,u42,u43,u44,u45,u46,u47,u48,u49,u50,u51,u52,u53,u54,u55,u56,u57,u58,u59,u60,u61,u62,u63,u64,u65,u66,u67,u68,u69,u70,u71,u72,u73,u74,u75,u76,u77,u78,u79,u80,u81,u82,u83,u84,u85,u86,u87,u88,u89,u90,u91,u92,u93,u94,u95,u96,u97,u98,u99,u100,u101,u102,u103,u104,u105,u106,u107,u108,u109,u110,u111,u112,u113,u114,u115,u116,u117,u118,u119,u120,u121,u122,u123,u124],defers:=[] } V:=by
 obtain ⟨i0,hi0,hz0,hz1,hz2⟩:=info_parts QgL;obtain ⟨d1,d2,_,d4⟩:=QiP p h.fine.ok fa fc pa pc;have hhl:p.sig.hand.length=16:=h.fine.ok.2.2.2.2.1;have lB:B<V.heap.size:=(QI.1 h.eB).1;obtain ⟨pe,hpe⟩:∃ x,x=p.sig.pend:=⟨_,rfl⟩;obtain ⟨mk,hmk⟩:∃ x,x=p.sig.mask:=⟨_,rfl⟩;obtain ⟨hd,hhd⟩:∃ x,x=p.sig.hand:=⟨_,rfl⟩;rw [← hpe] at d1;rw [← hmk] at d2;rw [← hhd] at d4 hhl
 obtain ⟨Rg,hRg⟩:∃ Rg:Nat→Prop,Rg=fun b=>V.heap.size≤b:=⟨_,rfl⟩
 have HX:=QQ (show ∀ W',Qa Rg V.drew W'→W'.cell? ⟨B,26,none⟩=some (.int .u32 pe)∧W'.cell? ⟨B,27,none⟩=some (.int .u32 mk)∧∀ j u,(hd.map (Value.int .u32))[j]?=some u→W'.cell? ⟨B,28+j,none⟩=some u from fun W' hW=>by
  have e:=(hW.block B lB (by rw [hRg];show ¬ V.heap.size≤B;omega)).trans (show V.drew.heap[B]?=_ from h.eB)
  have hc:∀ i v,(p.vals fa fc pa pc)[i]?=some v→W'.cell? ⟨B,i,none⟩=some v:=fun i v hv=>by rw [cell_of_row W' _ i _ _ _ e,h.hX,List.getElem?_toArray];exact hv
  exact ⟨hc 26 _ d1,hc 27 _ d2,fun j u hj=>hc _ _ (d4 j u hj)⟩)
 have HRG:=QQ hRg;have H:=QQ (QA h (QA hl (QA hm hst)));have HP:=QQ (QA hpe (QA hmk hhd));clear h hl hm hst hpe hmk hhd d1 d2 d4 hRg
 conv=>arg 2;whnf
 refine wp_seq_k (fun K' aK=>?_);have AK:=QQ aK;clear aK;refine Qas (Qa Rg) (by kernel_rfl) 13 rfl ?_;refine Qam [0,1,2,3,4,5,7,8,9] (by kernel_rfl) (by kernel_rfl) ?_
 iterate 9
  first
  | (refine Qax (Qa.pre Rg) rfl (by rfl) (v:=?_) (fun W hW=>?_) (fun K hK=>?_);rotate_left;· (obtain ⟨q0,q1,_⟩:=(QG HX) W hW;go_simp;first | done | rfl))
  | refine Qap (Qa.pre Rg) rfl (by rfl) (fun K hK=>?_)
  go_simp;refine hK _ ?_;clear hK K
 refine Qaw ?_;refine Qaq 6 rfl (by kernel_rfl) (by rfl) (fun K hK=>?_);go_simp;obtain ⟨w6,hw6⟩:∃ w6,w6=V.drew.alloc (Obj.cells #[.int .u32 pe,.int .u32 mk] 40):=⟨_,rfl⟩
 have b6:Below V.heap.size V w6:=by
  rw [hw6];have h20:Below V.drew.heap.size V.drew (V.drew.alloc (Obj.cells #[.int .u32 pe,.int .u32 mk] 40)):=(QB _ _).alloc (QN _) _;exact ⟨h20.os,h20.tape,h20.output,h20.size,h20.block⟩
 have o6:w6.ownsRow V.heap.size 40 1 (.slice (some ⟨V.heap.size,0,none⟩) 2 2) 2 [.int .u32 pe,.int .u32 mk]:=by
  rw [hw6];exact World.ownsRow_lit (base:=V.heap.size) (e:=40) (size:=1) V.drew #[.int .u32 pe,.int .u32 mk] 2 (QN _) (by decide) rfl
 have s6:V.heap.size<w6.heap.size:=by rw [hw6];show V.heap.size<(V.drew.alloc _).heap.size;simp
 have hD:Wr Rg Rg V.drew w6:=Wr.of_below ⟨b6.os,b6.tape,b6.output,b6.size,b6.block⟩
 try rw [show (V.alloc (Obj.cells #[.int .u32 pe,.int .u32 mk] 40)).drew=w6 from hw6.symm]
 try rw [← hw6]
 refine hK _ _ hD ?_;have HD:=QQ hD;clear hw6 hD;clear hK K;refine Qal (fun K hK=>?_);go_simp;refine hK _ ?_;clear hK K;refine Qaq 10 rfl (by kernel_rfl) (by rfl) (fun K hK=>?_);obtain ⟨_,_,hcc⟩:=(QG HX) w6 HD
 refine QaQ (.tmp 38) (.tmp 41) 78 rfl V.heap.size 40 i0 _ 1 4 Tryz.underlying78 hi0 hz0 hz1 hz2 rfl (by decide) (.slice (some ⟨V.heap.size,0,none⟩) 2 2) 2 _ rfl o6 (some ⟨B,28,none⟩) 16 16 (hd.map (Value.int .u32)) rfl (by rw [QM,hhl]) (fun u hu=>by
  obtain ⟨x,_,rfl⟩:=List.mem_map.1 hu
  rfl) (.inr ⟨_,_,rfl,hcc⟩) (by decide) (by decide) (Nat.le_of_lt s6) ?_
 intro v7 w7 o7 g7 hat
 have hb7:Below V.heap.size V w7:=b6.grown g7 (Nat.le_of_lt s6) fun b' hb'=>(o6.lt b' hb').1
 have hw7:Qa Rg w6 w7:=Wr.grown (Wr.refl Rg w6) g7 fun b hb=>.inl (by rw [show Rg=_ from HRG];exact (o6.lt b hb).1)
 obtain ⟨a7,c7,rfl,_⟩:=Qaa o7;have kw:=Qg7 (pe::mk::hd) w7 a7 18 c7 (Qbn (show w7.ownsRow V.heap.size 40 1 (.slice a7 18 c7) 18 ((pe::mk::hd).map (Value.int .u32)) from o7)) (by rw [List.length_cons,List.length_cons,hhl]) (by decide);have s7:w6.heap.size≤w7.heap.size:=g7.size;clear o7 g7 hat b6 o6 hcc;refine hK _ _ hw7 ?_;clear hK K;refine Qal (fun K hK=>?_);go_simp;refine hK _ ?_;clear hK K;refine Qaq 11 rfl (by kernel_rfl) (by rfl) (fun K hK=>?_);go_simp;refine kw.mono ?_;rintro e8 w8 ⟨v8,rfl,o8,b8⟩;refine ⟨_,rfl,hK _ _ (Wr.of_below b8) ?_⟩;have O8:=QQ (QA o8 (hb7.trans (b8.mono (by omega))));clear o8 b8 kw hb7;clear hK K;refine Qal (fun K hK=>?_);go_simp;refine hK _ ?_;clear hK K;refine Qam [12] (by kernel_rfl) (by kernel_rfl) ?_
 iterate 1
  first
  | (refine Qax (Qa.pre Rg) rfl (by rfl) (v:=?_) (fun W hW=>?_) (fun K hK=>?_);rotate_left;· (go_simp;first | done | rfl))
  | refine Qap (Qa.pre Rg) rfl (by rfl) (fun K hK=>?_)
  go_simp;refine hK _ ?_;clear hK K
 refine Qaw ?_;refine QaR (by kernel_rfl) ?_;refine (QG AK) _ _ ?_;obtain ⟨h,hl,hm,hst⟩:=(QG H);obtain ⟨o8,b8⟩:=(QG O8);obtain ⟨e1,e2,e3⟩:=(QG HP);rw [e1,e2,e3] at o8;have h0:=hl.1;have hlow:=h.below.size;exact Qqz W p fa fc pa pc X B t3 v8 t5 t6 hm hst h3 _ _ _ _ _ _ _ _ _ _ _ _ _ _ _ _ _ _ _ _ _ _ _ _ _ _ _ _ _ _ _ _ _ _ _ _ _ _ _ _ _ _ _ _ _ _ _ _ _ _ _ _ _ _ _ _ _ _ _ _ _ _ _ _ _ _ _ _ _ _ _ _ _ _ _ _ _ _ _ _ _ _ _ _ _ _ _ _ _ _ _ _ _ _ _ _ _ _ _ _ _ _ _ _ _ _ _ _ _ _ _ _ _ _ _ _ _ _ w8 (h.grow b8) (hl.grow b8) w7.heap.size (by omega) (by omega) o8
end
section
attribute [local go_sem] QaB QaJ QaA
theorem Qnz (q:Pr × QcJ) (hf:q.1.Fine) (hm:Qbj q.1=true) (W:World) (h1:Qc W.heap.size W q.2.fa q.1.fds.length q.2.fc (q.1.fds.map (Value.int .i64))) (h2:Qc W.heap.size W q.2.pa q.1.pages.length q.2.pc (q.1.pages.flatMap Pg.vals)) :
  Calls Tryz.prog 95 #[.agg (QaP q).toArray] W fun e W'=>∃ v n,e=.returned v∧QbY W.heap.size W'.heap.size W.heap.size W' v n (Qbl q.1)∧Below W.heap.size W W':=by
 obtain ⟨p,⟨fa,fc,pa,pc⟩⟩:=q;obtain ⟨i0,hi,hz0,hz1,hz2⟩:=info_parts Qc1
 have hm':(decide (1≤p.pid∧p.pid≤65535)=true∧decide (0≤p.parent∧p.parent≤65535)=true)∧(if p.state=2 then Qa8 p else Qbq p)=true:=by
  have:=hm;unfold Qbj at this;simpa only [Bool.and_eq_true] using this
 simp only [decide_eq_true_eq] at hm'
 have hstate:p.state=1∨p.state=2:=by
  by_cases h:p.state=2
  ·exact .inr h
  ·left
   have:=hm'.2;rw [if_neg h] at this;unfold Qbq at this;simp only [Bool.and_eq_true,beq_iff_eq] at this;exact this.1.1.1.1.1
 obtain ⟨n7,hn7⟩:∃ n:Nat,n=p.pid.toNat:=⟨_,rfl⟩;obtain ⟨n8,hn8⟩:∃ n:Nat,n=p.parent.toNat:=⟨_,rfl⟩;obtain ⟨n9,hn9⟩:∃ n:Nat,n=p.state.toNat:=⟨_,rfl⟩;obtain ⟨n10,hn10⟩:∃ n:Nat,n=p.status.toNat:=⟨_,rfl⟩;have hst2:0≤p.status∧p.status<4294967296:=hf.status
 have e7:p.pid=(n7:Int):=by omega
 have e8:p.parent=(n8:Int):=by omega
 have e9:p.state=(n9:Int):=by omega
 have e10:p.status=(n10:Int):=by omega
 have l7:n7<9223372036854775808:=by omega
 have l8:n8<9223372036854775808:=by omega
 have l9:n9<9223372036854775808:=by omega
 have l10:n10<18446744073709551616:=by omega
 have hs9:n9=2↔p.state=2:=by omega
 obtain ⟨X,hX⟩:∃ X,X=(QaP (p,⟨fa,fc,pa,pc⟩)).toArray:=⟨_,rfl⟩;rw [← hX];have HX:=QQ hX;have HF:=QQ (QA hf (QA h1 (QA h2 hm)));have HN:=QQ (QA hn7 (QA hn8 (QA hn9 hn10)));have HE:=QQ (QA e7 (QA e8 (QA e9 e10)));have HS9:=QQ hs9;have hw10:=Qby n10 l10;clear hX hf h1 h2 hm hm' hstate hn7 hn8 hn9 hn10 hst2 e7 e8 e9 e10 hs9;go_enter Tryz.func95,Tryz.ntmps95
 go_upto_region 1 with fail
 generalize hV':World.alloc _ _=V;have hV:V=W.alloc (.cells X 54):=hV'.symm;clear hV';have H0:Qad W (p,⟨fa,fc,pa,pc⟩) X W.heap.size V:=⟨(QG HF).1,HX,rfl,by rw [hV];exact QW _ _,by rw [hV];exact (QB _ _).alloc (QN _) _,(QG HF).2.1,(QG HF).2.2.1⟩
 have sV:V.heap.size=W.heap.size+1:=by rw [hV];simp
 clear hV;rename_i K1 k1;have AK:=QQ k1;clear k1
 have hVl:W.heap.size<V.heap.size:=by omega
 have g:=Qaf p H0.fine.ok fa fc pa pc;obtain ⟨E7,E8,E9,E10⟩:=(QG HE)
 have HC:=QQ (show ∀ W',Qaz V W'→W'.cell? ⟨W.heap.size,0,none⟩=some (.int .i64 (n7:Int))∧W'.cell? ⟨W.heap.size,1,none⟩=some (.int .i64 (n8:Int))∧W'.cell? ⟨W.heap.size,2,none⟩=some (.int .i64 (n9:Int))∧W'.cell? ⟨W.heap.size,3,none⟩=some (.int .u32 (n10:Int)) from fun W' hW=>by
  have z:=H0.grow hW
  exact ⟨by rw [← E7];exact z.cell g.1.1,by rw [← E8];exact z.cell g.1.2.1,by rw [← E9];exact z.cell g.1.2.2.1,by rw [← E10];exact z.cell g.1.2.2.2⟩)
 have H:=QQ H0;have SV:=QQ sV;clear H0 g E7 E8 E9 E10 sV;refine Qas Qaz (by kernel_rfl) 11 rfl ?_;refine Qam [0,1,3,4,6,7] (by kernel_rfl) (by kernel_rfl) ?_
 iterate 6
  first
  | (refine Qax (Qaz.pre) rfl (by rfl) (v:=?_) (fun W hW=>?_) (fun K hK=>?_);rotate_left;· (obtain ⟨q0,q1,q2,q3⟩:=(QG HC) W (QbE hW);go_simp;first | done | rfl))
  | refine Qap (Qaz.pre) rfl (by rfl) (fun K hK=>?_)
  go_simp;refine hK _ ?_;clear hK K
 refine Qaw ?_;refine Qaq 2 rfl (by kernel_rfl) (by rfl) (fun K hK=>?_);go_simp;refine (Qcn 7 n7 l7 V.drew).mono ?_;rintro e1 w1 ⟨a1,c1,rfl,r1,g1,b1⟩;refine ⟨_,rfl,hK _ _ b1 ?_⟩;have b1':Below V.heap.size V w1:=QbE b1;clear hK K;refine Qal (fun K hK=>?_);go_simp;refine hK _ ?_;clear hK K;refine Qaq 5 rfl (by kernel_rfl) (by rfl) (fun K hK=>?_);go_simp;refine (Qcn 8 n8 l8 w1).mono ?_;rintro e2 w2 ⟨a2,c2,rfl,r2,g2,b2⟩;refine ⟨_,rfl,hK _ _ b2 ?_⟩;have b2':Below V.heap.size V w2:=b1'.trans (b2.mono b1'.size);clear hK K;refine Qal (fun K hK=>?_);go_simp;refine hK _ ?_;clear hK K;refine Qaq 8 rfl (by kernel_rfl) (by rfl) (fun K hK=>?_);go_simp;refine (Qcn 9 n9 l9 w2).mono ?_;rintro e3 w3 ⟨a3,c3,rfl,r3,g3,b3⟩;refine ⟨_,rfl,hK _ _ b3 ?_⟩;have b3':Below V.heap.size V w3:=b2'.trans (b3.mono b2'.size);clear hK K;refine Qal (fun K hK=>?_);go_simp;refine hK _ ?_;clear hK K;refine Qaq 9 rfl (by kernel_rfl) (by rfl) (fun K hK=>?_);go_simp;obtain ⟨W6,hW6⟩:∃ W6,W6=w3.alloc (Obj.cells #[.int .i64 7,.slice a1 8 c1,.slice none 0 0,.int .i64 8,.slice a2 8 c2,.slice none 0 0,.int .i64 9,.slice a3 8 c3,.slice none 0 0] 66):=⟨_,rfl⟩
 have b6:Below w3.heap.size w3 W6:=by rw [hW6];exact (QB _ _).alloc (QN _) _
 have o6:W6.ownsRow w3.heap.size 66 3 (.slice (some ⟨w3.heap.size,0,none⟩) 3 3) 3 [.int .i64 7,.slice a1 8 c1,.slice none 0 0,.int .i64 8,.slice a2 8 c2,.slice none 0 0,.int .i64 9,.slice a3 8 c3,.slice none 0 0]:=by
  rw [hW6];exact World.ownsRow_lit (base:=w3.heap.size) (e:=66) (size:=3) w3 #[.int .i64 7,.slice a1 8 c1,.slice none 0 0,.int .i64 8,.slice a2 8 c2,.slice none 0 0,.int .i64 9,.slice a3 8 c3,.slice none 0 0] 3 (QN _) (by decide) rfl
 rw [← hW6];refine hK _ _ b6 ?_;clear hW6;clear hK K;refine Qal (fun K hK=>?_);go_simp;refine hK _ ?_;clear hK K;refine Qam [10] (by kernel_rfl) (by kernel_rfl) ?_
 iterate 1
  first
  | (refine Qax (Qaz.pre) rfl (by rfl) (v:=?_) (fun W hW=>?_) (fun K hK=>?_);rotate_left;· (go_simp;first | done | rfl))
  | refine Qap (Qaz.pre) rfl (by rfl) (fun K hK=>?_)
  go_simp;refine hK _ ?_;clear hK K
 refine Qaw ?_;refine QaR (by kernel_rfl) ?_;have b6':Below V.heap.size V W6:=b3'.trans (b6.mono b3'.size);have h01:V.heap.size≤w1.heap.size:=b1.size;have h12:=b2.size;have h23:=b3.size;have h36:=b6.size;have k2:Below w2.heap.size w2 W6:=b3.trans (b6.mono h23);have k1:Below w1.heap.size w1 W6:=b2.trans (k2.mono h12);obtain ⟨hn7,hn8,hn9,hn10⟩:=(QG HN);have sV:=(QG SV)
 have hl:QbY W.heap.size W6.heap.size (W.heap.size+1) W6 (.slice (some ⟨w3.heap.size,0,none⟩) 3 3) 3 (Qff p):=by
  refine ⟨QN _,_,QaI o6 (by omega) fun _ _=>rfl,?_,rfl⟩
  have hne:∀ {b},b<w3.heap.size→(Value.slice (some ⟨w3.heap.size,0,none⟩) 3 3).ownBlock≠some b:=fun hb e=>by
   simp only [Value.ownBlock,Option.some.injEq] at e;omega
  unfold Qff;rw [← hn7,← hn8,← hn9];refine Qat.cons8 (by decide) (by decide) (by rw [QaG];decide) ((r1.below k1).mono k1.size) (fun b hb=>?_) ?_
  ·have h1:V.heap.size<b:=g1 b hb
   have h2:=r1.lt b hb;exact ⟨by omega,by have:=k1.size;omega,hne (by omega)⟩
  refine Qat.cons8 (by decide) (by decide) (by rw [QaG];decide) ((r2.below k2).mono k2.size) (fun b hb=>?_) ?_
  ·have h1:=g2 b hb
   have h2:=r2.lt b hb;exact ⟨by omega,by have:=k2.size;omega,hne (by omega)⟩
  refine Qat.cons8 (by decide) (by decide) (by rw [QaG];decide) ((r3.below b6).mono b6.size) (fun b hb=>?_) Qat.nil
  ·have h1:=g3 b hb
   have h2:=r3.lt b hb;exact ⟨by omega,by have:=b6.size;omega,hne (by omega)⟩
 have HL:=QQ hl;have H6:=QQ (Qad.grow (QG H) b6');obtain ⟨_,_,q2,q3⟩:=(QG HC) W6 b6';clear hl o6 r1 r2 r3 g1 g2 g3 b1 b2 b3 b6 b1' b2' b3' k1 k2 b6' hn7 hn8 hn9 hn10 HC sV;refine (QG AK) _ _ ?_;clear AK;refine wp_seq_k (fun K' aK=>?_);have AK:=QQ aK;clear aK;by_cases h9:n9=2
 ·have t1:((n9:Int) == 2)=true:=by simp;omega
  have hst:=(QG HS9).1 h9;have HST:=QQ hst;clear hst h9;have k4:=QeF 10 n10 l10 W6;go_wp2_with (go_at_call 93;refine Qau ?_);unfold Qag;refine k4.mono ?_;rintro e4 w7 ⟨a4,c4,rfl,r4,g4,b7⟩;have s67:=b7.size;have B7:=QQ (QA r4 (QA g4 b7));clear k4 r4 g4 b7;go_wp2_with (at_builtin;refine Qau ?_);unfold Qag;obtain ⟨r4,g4,b7⟩:=(QG B7);obtain ⟨W8,hW8⟩:∃ W8,W8=w7.alloc (Obj.cells #[.int .i64 10,.slice a4 8 c4,.slice none 0 0] 66):=⟨_,rfl⟩
  have b8:Below w7.heap.size w7 W8:=by rw [hW8];exact (QB _ _).alloc (QN _) _
  have e8:W8.heap[w7.heap.size]?=some (.cells #[.int .i64 10,.slice a4 8 c4,.slice none 0 0] 66):=by rw [hW8];exact QW _ _
  have s8:W8.heap.size=w7.heap.size+1:=by rw [hW8];simp
  rw [← hW8];clear hW8;have hl:=(QG HL);have k68:Below W6.heap.size W6 W8:=b7.trans (b8.mono s67);have h6:=(QG H6);have hlow:=h6.below.size;obtain ⟨_,vs0,q1',q2',q3'⟩:=id hl;obtain ⟨hh,vs,g1,g2,g3⟩:=(hl.grow k68).lift (hi':=W8.heap.size) (by omega) (QN _)
  refine QaH rfl _ _ 59 rfl (W.heap.size+1) 66 i0 _ 3 56 Tryz.underlying59 hi hz0 hz1 hz2 rfl (by decide) (.slice (some ⟨w3.heap.size,0,none⟩) 3 3) 3 vs rfl g1 (some ⟨w7.heap.size,0,none⟩) 1 1 [.int .i64 10,.slice a4 8 c4,.slice none 0 0] rfl rfl (by simp [Value.oneCell']) (.inr ⟨_,_,rfl,fun j u hj=>by
   rw [Nat.zero_add,cell_of_row W8 _ j _ _ _ e8,List.getElem?_toArray]
   exact hj⟩) (by decide) (by decide) (by omega) ?_
  intro v10 w10 o10 g10 hat
  have relU:Qat (FlS W.heap.size W8.heap.size (.slice (some ⟨w3.heap.size,0,none⟩) 3 3)) W8 (.cons 10 (Qa7 p.status.toNat) .nil .nil) [.int .i64 10,.slice a4 8 c4,.slice none 0 0]:=by
   rw [← (QG HN).2.2.2];refine Qat.cons8 (by decide) (by decide) (by rw [QaG];decide) ((r4.below b8).mono b8.size) (fun b hb=>?_) Qat.nil;have h1:=g4 b hb;have h2:=r4.lt b hb;exact ⟨by omega,by omega,fun e=>by have:=(q1'.lt b e).2;omega⟩
  have hF:=QbY.put hh g1 g2 g3 o10 g10 hat relU rfl
  have B10:Below W.heap.size W w10:=(h6.below.trans (k68.mono hlow)).grown g10 (by omega) fun b hb=>by have:=(q1'.lt b hb).1;omega
  have HFF:=QQ (QA hF B10);clear hF B10 relU o10 g10 hat g1 g2 g3 hl q1' q2' q3' r4 g4 b7 b8 e8 k68 h6;go_wp2;go_ret;obtain ⟨hF,B10⟩:=(QG HFF);refine ⟨v10,4,rfl,?_,B10⟩;rw [show Qbl p=(Qff p).app (.cons 10 (Qa7 p.status.toNat) .nil .nil) by unfold Qbl;rw [if_pos (QG HST)]];exact (hF.lift hF.1 (QN _)).low (Nat.le_succ _)
 ·have t1:((n9:Int) == 2)=false:=by simp;omega
  have hst:¬ p.state=2:=fun h=>h9 ((QG HS9).2 h)
  have HST:=QQ hst;clear hst h9;go_wp2;refine (QG AK) _ _ ?_;apply Qqy W p fa fc pa pc X W.heap.size _ _ _ _ ((QG HF).2.2.2) HST W6.heap.size;exact H6;exact HL
end
def Qgp (f:Forest):Prop:=∀ (W:World) (a:Option Addr) (len cap deep:Nat),SlF W.heap.size W a len cap f→deep≤8→f.cnt≤40000 →
 Calls Tryz.prog 111 #[.slice a len cap,.int .i64 deep] W fun e W'=>e=.returned (.int .i64 (f.sizeL deep 0))∧Below W.heap.size W W'
theorem Qk3 (f:Forest) (hk:f.AllKids Qgp):Qgp f:=by
 intro W a len cap deep h hd hcnt;have hs:=h.small;obtain ⟨hl,hc⟩:=h;go_enter Tryz.func111,Tryz.ntmps111;go_wp2;go_loopw [5,7,8,9,12] (fun n _ _ _ i wr=>∃ (N:Int) (i':Nat) (G:Forest),n=.int .i64 N∧i=.int .i64 (i':Int)∧i'+G.length=len∧0≤N∧N≤1048576∧G.cnt≤40000∧Hid (G.sizeL deep N=f.sizeL deep 0)∧G.AllKids Qgp∧(∀ b off,a=some ⟨b,off,none⟩→0<len→b<W.heap.size∧QcR W.heap.size W G b (off+i'*3))∧Below W.heap.size W wr) (fun _ _ _ _ i _=>len-(intOf i).toNat)
 case atStart =>
  refine ⟨0,0,f,rfl,rfl,by omega,by omega,by omega,hcnt,rfl,hk,fun b off ha hlen=>?_,QB _ _⟩
  rcases hc with h0 | ⟨b',off',ha',hb',_,_,hrow⟩
  ·omega
  ·rw [ha] at ha';injection ha' with ha';injection ha' with e1 e2
   subst e1 e2;exact ⟨hb',by simpa using hrow⟩
 case round =>
  obtain ⟨N,i,G,rfl,rfl,hiG,hN0,hN1,hcG,hV,hkG,hrow,hb0⟩:=hrel;by_cases hlt:i<len
  rotate_left
  ·have t1:decide ((i:Int)<(len:Int))=false:=by simp;omega
   have hG:G.sizeL deep N=N:=by
    cases G with
    | nil=>rfl
    | cons t bs k r=>simp [Forest.length] at hiG;omega
   have hV2:N=f.sizeL deep 0:=by rw [← hG];exact hV
   have HV:=QQ hV2;clear hV2 hV hG hrow;go_wp2;go_ret;exact ⟨by rw [show N=f.sizeL deep 0 from HV];rfl,hb0⟩
  have t1:decide ((i:Int)<(len:Int))=true:=by simp;omega
  obtain h0 | ⟨b,off,rfl,hbn,hlc,hcm,_⟩:=hc
  ·omega
  obtain ⟨_,hrow2⟩:=hrow b off rfl (by omega);obtain ⟨t,bs,k,r,ba,blen,bcap,ka,kl,kc,rfl,c0,c1,c2,ht1,ht2,⟨hb,hbl⟩,hkids,hr⟩:=(QcR.below hb0 G b _ hbn hrow2).open (by omega)
  have hr':QcR W.heap.size W r b (off+i*3+3):=by
   obtain ⟨_,_,_,_,_,_,_,_,_,_,_,_,_,_,h⟩:=hrow2;exact h
  have hbe:=hb.1.open.1;obtain ⟨hkG1,hkG2⟩:=hkG;have hlw:=hb0.size;have hL:(Forest.cons t bs k r).length=r.length+1:=rfl;have hC:(Forest.cons t bs k r).cnt=1+bs.length+k.cnt+r.cnt:=rfl;have hkl:=hkids.1;have HR:=QQ hr'
  have b1:=fun o=>hb0.alloc hlw o
  clear hr hr' hrow hrow2;by_cases hn:128≤t
  ·have t2:decide ((128:Int)≤t)=true:=by simpa using hn
   have t3:decide (t<1)=false:=by simp;omega
   by_cases hd8:deep<8
   ·have t4:decide ((deep:Int)<8)=true:=by simp;omega
    have kk:=hkG1 (wr.alloc (.cells #[.int .i64 t,.slice ba blen bcap,.slice ka kl kc] 66)) ka kl kc (deep+1) ((hkids.below ((QB _ wr).alloc hlw _)).mono (by simp;omega)) (by omega) (by omega);rw [Int.natCast_add] at kk;have hks1:=Forest.sizeL_ge k (deep+1) 0 (Int.le_refl _);have hks2:=Forest.sizeL_le k (deep+1) 0 (Int.le_refl _);obtain ⟨KS,hKS⟩:∃ KS,KS=k.sizeL (deep+1) 0:=⟨_,rfl⟩;rw [← hKS] at kk hks1 hks2;have bx:=b1 (.cells #[.int .i64 t,.slice ba blen bcap,.slice ka kl kc] 66)
    have x0:(wr.alloc (.cells #[.int .i64 t,.slice ba blen bcap,.slice ka kl kc] 66)).cell? ⟨wr.heap.size,0,none⟩=some (.int .i64 t):=by rw [World.cell?_alloc_mark];rfl
    have x1:(wr.alloc (.cells #[.int .i64 t,.slice ba blen bcap,.slice ka kl kc] 66)).cell? ⟨wr.heap.size,1,none⟩=some (.slice ba blen bcap):=by rw [World.cell?_alloc_mark];rfl
    have x2:(wr.alloc (.cells #[.int .i64 t,.slice ba blen bcap,.slice ka kl kc] 66)).cell? ⟨wr.heap.size,2,none⟩=some (.slice ka kl kc):=by rw [World.cell?_alloc_mark];rfl
    have HKS:=QQ hKS;clear hKS;go_wp2_with (go_at_call 111;refine Qau ?_);unfold Qag;refine kk.mono ?_;rintro e W2 ⟨rfl,b2⟩;have y0:=QaF (p:=⟨wr.heap.size,0,none⟩) (b2.block wr.heap.size (by simp)) x0;have y1:=QaF (p:=⟨wr.heap.size,1,none⟩) (b2.block wr.heap.size (by simp)) x1;have y2:=QaF (p:=⟨wr.heap.size,2,none⟩) (b2.block wr.heap.size (by simp)) x2;have b3:Below W.heap.size W W2:=bx.trans (b2.mono (by simp;omega));clear x0 x1 x2 b2 bx kk;have hKS:KS=k.sizeL (deep+1) 0:=HKS;by_cases h255:255<t
    ·have t5:decide ((255:Int)<t)=true:=by simpa using h255
     have hbad:Forest.bad t bs k.length deep (k.sizeL (deep+1) 0):=.inr (.inr (.inl h255));clear hKS;have HM:=QQ (Forest.sizeL_bad (r:=r) (n:=N) hbad);clear hbad;go_wp2;go_ret;exact ⟨by rw [← (show (Forest.cons t bs k r).sizeL deep N=f.sizeL deep 0 from hV),show (Forest.cons t bs k r).sizeL deep N = -1 from HM];rfl,b3⟩
    have t5:decide ((255:Int)<t)=false:=by simp;omega
    by_cases hbl0:0<blen
    ·have t6:decide (0<blen)=true:=by simpa using hbl0
     have hbad:Forest.bad t bs k.length deep (k.sizeL (deep+1) 0):=.inr (.inr (.inr (.inl ⟨hn,by omega⟩)));clear hKS;have HM:=QQ (Forest.sizeL_bad (r:=r) (n:=N) hbad);clear hbad;go_wp2;go_ret;exact ⟨by rw [← (show (Forest.cons t bs k r).sizeL deep N=f.sizeL deep 0 from hV),show (Forest.cons t bs k r).sizeL deep N = -1 from HM];rfl,b3⟩
    have t6:decide (0<blen)=false:=by simp;omega
    by_cases hks:KS<0
    ·have t7:decide (KS<0)=true:=by simpa using hks
     have hbad:Forest.bad t bs k.length deep (k.sizeL (deep+1) 0):=.inr (.inr (.inr (.inr (.inr (by unfold Forest.innerOf;rw [if_pos hn,if_pos hd8,← hKS];exact hks)))));clear hKS;have HM:=QQ (Forest.sizeL_bad (r:=r) (n:=N) hbad);clear hbad;go_wp2;go_ret;exact ⟨by rw [← (show (Forest.cons t bs k r).sizeL deep N=f.sizeL deep 0 from hV),show (Forest.cons t bs k r).sizeL deep N = -1 from HM];rfl,b3⟩
    have t7:decide (KS<0)=false:=by simp;omega
    have hnb:¬ Forest.bad t bs k.length deep (k.sizeL (deep+1) 0):=by unfold Forest.bad Forest.innerOf;rw [if_pos hn,if_pos hd8,← hKS];omega
    have hI:Forest.innerOf t bs k.length deep (k.sizeL (deep+1) 0)=KS:=by unfold Forest.innerOf;rw [if_pos hn,if_pos hd8,← hKS]
    by_cases hbig:1048576<N+(5+KS)
    ·have t9:decide ((1048576:Int)<N+(5+KS))=true:=by simp;omega
     have HM:=QQ (Forest.sizeL_big (r:=r) hnb hI hbig);clear hnb hI hbig hKS;go_wp2;go_ret;exact ⟨by rw [← (show (Forest.cons t bs k r).sizeL deep N=f.sizeL deep 0 from hV),show (Forest.cons t bs k r).sizeL deep N = -1 from HM];rfl,b3⟩
    ·have t9:decide ((1048576:Int)<N+(5+KS))=false:=by simp;omega
     have hnx:=Forest.sizeL_next (r:=r) hnb hI hbig
     have hV2:r.sizeL deep (N+(5+KS))=f.sizeL deep 0:=by rw [← hnx];exact hV
     have HV2:=QQ hV2
     have hI0:0≤KS:=by omega
     have hbg:N+(5+KS)≤1048576:=by omega
     clear hnb hI hbig hnx hV2 hKS;go_wp2;go_roundw
     case rel =>
      refine ⟨N+(5+KS),i+1,r,QmT (by omega),by go_num,by omega,by omega,hbg,by omega,HV2,hkG2,fun b' off' ha hlen=>?_,b3⟩
      injection ha with ha;injection ha with q1 q2;subst q1 q2
      refine ⟨hbn,?_⟩;rw [show off+(i+1)*3=off+i*3+3 by omega];exact HR
     case measure=>simp [intOf];omega
   ·have t4:decide ((deep:Int)<8)=false:=by simp;omega
    have bx:=b1 (.cells #[.int .i64 t,.slice ba blen bcap,.slice ka kl kc] 66);by_cases hk0:0<kl
    ·have t8:decide (0<kl)=true:=by simpa using hk0
     have hbad:Forest.bad t bs k.length deep (k.sizeL (deep+1) 0):=.inl ⟨hn,hd8,by omega⟩;have HM:=QQ (Forest.sizeL_bad (r:=r) (n:=N) hbad);clear hbad;go_wp2;go_ret;exact ⟨by rw [← (show (Forest.cons t bs k r).sizeL deep N=f.sizeL deep 0 from hV),show (Forest.cons t bs k r).sizeL deep N = -1 from HM];rfl,bx⟩
    have t8:decide (0<kl)=false:=by simp;omega
    by_cases h255:255<t
    ·have t5:decide ((255:Int)<t)=true:=by simpa using h255
     have hbad:Forest.bad t bs k.length deep (k.sizeL (deep+1) 0):=.inr (.inr (.inl h255));have HM:=QQ (Forest.sizeL_bad (r:=r) (n:=N) hbad);clear hbad;go_wp2;go_ret;exact ⟨by rw [← (show (Forest.cons t bs k r).sizeL deep N=f.sizeL deep 0 from hV),show (Forest.cons t bs k r).sizeL deep N = -1 from HM];rfl,bx⟩
    have t5:decide ((255:Int)<t)=false:=by simp;omega
    by_cases hbl0:0<blen
    ·have t6:decide (0<blen)=true:=by simpa using hbl0
     have hbad:Forest.bad t bs k.length deep (k.sizeL (deep+1) 0):=.inr (.inr (.inr (.inl ⟨hn,by omega⟩)));have HM:=QQ (Forest.sizeL_bad (r:=r) (n:=N) hbad);clear hbad;go_wp2;go_ret;exact ⟨by rw [← (show (Forest.cons t bs k r).sizeL deep N=f.sizeL deep 0 from hV),show (Forest.cons t bs k r).sizeL deep N = -1 from HM];rfl,bx⟩
    have t6:decide (0<blen)=false:=by simp;omega
    have hnb:¬ Forest.bad t bs k.length deep (k.sizeL (deep+1) 0):=by unfold Forest.bad Forest.innerOf;rw [if_pos hn,if_neg hd8];omega
    have hI:Forest.innerOf t bs k.length deep (k.sizeL (deep+1) 0)=0:=by unfold Forest.innerOf;rw [if_pos hn,if_neg hd8]
    by_cases hbig:1048576<N+(5+0)
    ·have t9:decide ((1048576:Int)<N+5)=true:=by simp;omega
     have HM:=QQ (Forest.sizeL_big (r:=r) hnb hI hbig);clear hnb hI hbig;go_wp2;go_ret;exact ⟨by rw [← (show (Forest.cons t bs k r).sizeL deep N=f.sizeL deep 0 from hV),show (Forest.cons t bs k r).sizeL deep N = -1 from HM];rfl,bx⟩
    ·have t9:decide ((1048576:Int)<N+5)=false:=by simp;omega
     have hnx:=Forest.sizeL_next (r:=r) hnb hI hbig
     have hV2:r.sizeL deep (N+(5+0))=f.sizeL deep 0:=by rw [← hnx];exact hV
     have HV2:=QQ hV2
     have hI0:0≤0:=by omega
     have hbg:N+(5+0)≤1048576:=by omega
     clear hnb hI hbig hnx hV2;go_wp2;go_roundw
     case rel =>
      refine ⟨N+(5+0),i+1,r,QmT (by omega),by go_num,by omega,by omega,hbg,by omega,HV2,hkG2,fun b' off' ha hlen=>?_,bx⟩
      injection ha with ha;injection ha with q1 q2;subst q1 q2
      refine ⟨hbn,?_⟩;rw [show off+(i+1)*3=off+i*3+3 by omega];exact HR
     case measure=>simp [intOf];omega
  ·have t2:decide ((128:Int)≤t)=false:=by simp;omega
   have bx:=b1 (.cells #[.int .i64 t,.slice ba blen bcap,.slice ka kl kc] 66);by_cases h1:t<1
   ·have t3:decide (t<1)=true:=by simpa using h1
    have hbad:Forest.bad t bs k.length deep (k.sizeL (deep+1) 0):=.inr (.inl h1);have HM:=QQ (Forest.sizeL_bad (r:=r) (n:=N) hbad);clear hbad;go_wp2;go_ret;exact ⟨by rw [← (show (Forest.cons t bs k r).sizeL deep N=f.sizeL deep 0 from hV),show (Forest.cons t bs k r).sizeL deep N = -1 from HM];rfl,bx⟩
   have t3:decide (t<1)=false:=by simp;omega
   have t5:decide ((255:Int)<t)=false:=by simp;omega
   by_cases hk0:0<kl
   ·have t8:decide (0<kl)=true:=by simpa using hk0
    have hbad:Forest.bad t bs k.length deep (k.sizeL (deep+1) 0):=.inr (.inr (.inr (.inr (.inl ⟨hn,by omega⟩))));have HM:=QQ (Forest.sizeL_bad (r:=r) (n:=N) hbad);clear hbad;go_wp2;go_ret;exact ⟨by rw [← (show (Forest.cons t bs k r).sizeL deep N=f.sizeL deep 0 from hV),show (Forest.cons t bs k r).sizeL deep N = -1 from HM];rfl,bx⟩
   have t8:decide (0<kl)=false:=by simp;omega
   have hnb:¬ Forest.bad t bs k.length deep (k.sizeL (deep+1) 0):=by unfold Forest.bad Forest.innerOf;rw [if_neg hn];omega
   have hI:Forest.innerOf t bs k.length deep (k.sizeL (deep+1) 0)=(blen:Int):=by unfold Forest.innerOf;rw [if_neg hn,hbe]
   by_cases hbig:1048576<N+(5+(blen:Int))
   ·have t9:decide ((1048576:Int)<N+(5+(blen:Int)))=true:=by simp;omega
    have HM:=QQ (Forest.sizeL_big (r:=r) hnb hI hbig);clear hnb hI hbig;go_wp2;go_ret;exact ⟨by rw [← (show (Forest.cons t bs k r).sizeL deep N=f.sizeL deep 0 from hV),show (Forest.cons t bs k r).sizeL deep N = -1 from HM];rfl,bx⟩
   ·have t9:decide ((1048576:Int)<N+(5+(blen:Int)))=false:=by simp;omega
    have hnx:=Forest.sizeL_next (r:=r) hnb hI hbig
    have hV2:r.sizeL deep (N+(5+(blen:Int)))=f.sizeL deep 0:=by rw [← hnx];exact hV
    have HV2:=QQ hV2
    have hI0:0≤(blen:Int):=by omega
    have hbg:N+(5+(blen:Int))≤1048576:=by omega
    clear hnb hI hbig hnx hV2;go_wp2;go_roundw
    case rel =>
     refine ⟨N+(5+(blen:Int)),i+1,r,QmT (by omega),by go_num,by omega,by omega,hbg,by omega,HV2,hkG2,fun b' off' ha hlen=>?_,bx⟩
     injection ha with ha;injection ha with q1 q2;subst q1 q2
     refine ⟨hbn,?_⟩;rw [show off+(i+1)*3=off+i*3+3 by omega];exact HR
    case measure=>simp [intOf];omega
theorem Qn1 (f:Forest):Qgp f:=Forest.all Qgp Qk3 f
theorem Qlu (f:Forest) (W:World) (a:Option Addr) (len cap:Nat) (h:SlF W.heap.size W a len cap f) (hc:f.cnt≤40000) :
  Calls Tryz.prog 90 #[.slice a len cap] W fun e W'=>e=.returned (.int .i64 (QmP f))∧Below W.heap.size W W':=by
 have ks:=Qn1 f W a len cap 1 h (by decide) hc;unfold QmP;obtain ⟨S,hS⟩:∃ S,S=f.sizeL 1 0:=⟨_,rfl⟩;rw [← hS] at ks ⊢;clear hS;go_enter Tryz.func90,Tryz.ntmps90;go_wp2_with (go_at_call 111;refine Qau ?_);unfold Qag;refine ks.mono ?_;rintro e w1 ⟨rfl,b1⟩;by_cases h0:S<0
 ·have t1:decide (S<0)=true:=by simpa using h0
  go_wp2;go_ret;exact ⟨rfl,b1⟩
 ·have t1:decide (S<0)=false:=by simpa using h0
  go_wp2;go_ret;exact ⟨rfl,b1⟩
def Qib (f:Forest):Prop:=∀ (W:World) (a:Option Addr) (len cap:Nat),SlF W.heap.size W a len cap f→f.cnt≤40000 →
 Calls Tryz.prog 91 #[.slice none 0 0,.slice a len cap] W fun e W'=>∃ v,e=.returned v∧W'.ownsRow W.heap.size 5 1 v f.layF.length (f.layF.map (Value.int .u8))∧Below W.heap.size W W'
theorem Qmb (f:Forest) (hk:f.AllKids Qib):Qib f:=by
 intro W a len cap h hcnt;obtain ⟨i0,hi,hz0,hz1,hz2⟩:=info_parts QbB;have hs:=h.small;obtain ⟨hl,hc⟩:=h;go_enter Tryz.func91,Tryz.ntmps91;go_wp2;go_loopw [0,6,7,10] (fun out _ _ i wr=>∃ (i':Nat) (G:Forest) (P:List Int),i=.int .i64 (i':Int)∧i'+G.length=len∧G.cnt≤40000∧P.length+5*G.cnt≤200000∧Hid (P++G.layF=f.layF)∧G.AllKids Qib∧(∀ b off,a=some ⟨b,off,none⟩→0<len→b<W.heap.size∧QcR W.heap.size W G b (off+i'*3))∧wr.ownsRow W.heap.size 5 1 out P.length (P.map (Value.int .u8))∧Below W.heap.size W wr) (fun _ _ _ i _=>len-(intOf i).toNat)
 case atStart =>
  refine ⟨0,f,[],rfl,by omega,hcnt,by simp;omega,rfl,hk,fun b off ha hlen=>?_,World.ownsRow_nil _ _ _ _,QB _ _⟩
  rcases hc with h0 | ⟨b',off',ha',hb',_,_,hrow⟩
  ·omega
  ·rw [ha] at ha';injection ha' with ha';injection ha' with e1 e2
   subst e1 e2;exact ⟨hb',by simpa using hrow⟩
 case round =>
  obtain ⟨i,G,P,rfl,hiG,hcG,hPG,hV,hkG,hrow,hown,hb0⟩:=hrel;by_cases hlt:i<len
  rotate_left
  ·have t1:decide ((i:Int)<(len:Int))=false:=by simp;omega
   have hG:G=.nil:=by
    cases G with
    | nil=>rfl
    | cons t bs k r=>simp [Forest.length] at hiG;omega
   subst hG
   have hP:P=f.layF:=by rw [← (show P++Forest.nil.layF=f.layF from hV),Forest.layF,List.append_nil]
   rw [hP] at hown;clear hV hrow hP;go_wp2;go_ret;exact ⟨_,rfl,hown,hb0⟩
  have t1:decide ((i:Int)<(len:Int))=true:=by simp;omega
  obtain h0 | ⟨b,off,rfl,hbn,hlc,hcm,_⟩:=hc
  ·omega
  obtain ⟨_,hrow2⟩:=hrow b off rfl (by omega);obtain ⟨t,bs,k,r,ba,blen,bcap,ka,kl,kc,rfl,c0,c1,c2,ht1,ht2,⟨hb,hbl⟩,hkids,hr⟩:=(QcR.below hb0 G b _ hbn hrow2).open (by omega)
  have hr':QcR W.heap.size W r b (off+i*3+3):=by
   obtain ⟨_,_,_,_,_,_,_,_,_,_,_,_,_,_,h⟩:=hrow2;exact h
  have hbe:=hb.1.open.1;obtain ⟨hkG1,hkG2⟩:=hkG;have hlw:=hb0.size;have hL:(Forest.cons t bs k r).length=r.length+1:=rfl;have hC:(Forest.cons t bs k r).cnt=1+bs.length+k.cnt+r.cnt:=rfl;have hlk:=Forest.layF_le k;have HR:=QQ hr';obtain ⟨X,hX⟩:∃ X,X=Obj.cells #[.int .i64 t,.slice ba blen bcap,.slice ka kl kc] 66:=⟨_,rfl⟩;have bx:Below W.heap.size W (wr.alloc X):=hb0.alloc hlw _;have hownx:=hown.alloc X
  have hownx0:=fun q hq=>(hown.lt q hq).2
  have hownx0:=fun q hq=>(hown.lt q hq).2
  have hownx0:=fun q hq=>(hown.lt q hq).2
  have hownx0:=fun q hq=>(hown.lt q hq).2
  have x0:(wr.alloc X).cell? ⟨wr.heap.size,0,none⟩=some (.int .i64 t):=by rw [hX,World.cell?_alloc_mark];rfl
  have hVL:P++(([t % 256]++QaE ((if 128≤t then k.layF else bs).length)++(if 128≤t then k.layF else bs))++r.layF)=f.layF:=by
   rw [← (show P++(Forest.cons t bs k r).layF=f.layF from hV),Forest.layF,QfD _ (by split <;> omega)]
  have hsx:(wr.alloc X).heap.size=wr.heap.size+1:=by simp
  clear hr hr' hrow hrow2 hV hown;by_cases hn:128≤t
  ·have t2:decide ((128:Int)≤t)=true:=by simpa using hn
   rw [if_pos hn] at hVL;have HVL:=QQ hVL;have kk:=hkG1 (wr.alloc X) ka kl kc ((hkids.below ((QB _ wr).alloc hlw _)).mono (by simp;omega)) (by omega);have kx:(wr.alloc X).cell? ⟨wr.heap.size,0,none⟩=some (.int .i64 t):=x0;clear hVL;go_wp2_with (go_at_call 91;refine Qau ?_);unfold Qag;rw [← hX];refine kk.mono ?_;rintro e w2 ⟨v7,rfl,o7,b7⟩;obtain ⟨va,vc,rfl,hva⟩:=Qaa o7;have hvr:=(Qdb.of_own o7).2
   have hvb:∀ q,QaO (.slice va k.layF.length vc) q→wr.heap.size+1≤q:=fun q hq=>by
    rcases hva with h0 | ⟨g',rfl,hg'⟩
    ·cases va with
     | none=>exact hq.elim
     | some x=>have:=hq.1;omega
    ·have h2:=(o7.lt g' hg').1
     have h3:q=g':=hq.2;omega
   have own2:=Qac hownx fun q hq=>b7.block q (hownx.lt q hq).2
   have bel2:Below W.heap.size W w2:=bx.trans (b7.mono (by omega));have y0:=QaF (p:=⟨wr.heap.size,0,none⟩) (b7.block wr.heap.size (by omega)) x0
   have hownw:=fun q hq=>(hownx0 q hq)
   have b7s:=b7.size;clear kk kx o7 b7 x0;have nb0:∀ q,QaO (.slice va k.layF.length vc) q→u0.ownBlock≠some q:=(fun q hq e=>by have h1:=hvb q hq;have h2:=hownw q e;omega);have hn1:=QQ (Qj7 (w2) (t % 256));have hsw:=bel2.size;go_wp2_with (at_builtin;refine Qau ?_);unfold Qag
   try skip
   refine wpList_append_own_at _ rfl _ _ 22 rfl W.heap.size 5 i0 (.int .u8 0) 1 1 Tryz.underlying22 hi hz0 hz1 hz2 rfl (by decide) _ P.length _ (by rfl) (own2.alloc _) ⟨(w2).heap.size,0,none⟩ 1 1 [.int .u8 (t % 256)] (by rfl) rfl hn1 (by simp [Value.oneCell']) (by simp only [maxLen];omega) (by omega) (by simp;omega) ?_;intro v1 u1 o1 g1 _ hv1;have d1:Below W.heap.size W u1:=(bel2.alloc hsw (.cells #[.int .u8 (t % 256)] 5)).grown g1 (by simp;omega) (fun q hq=>(own2.lt q hq).1)
   have r1:Qdb .u8 (w2).heap.size u1 (.slice va k.layF.length vc) k.layF:=hvr.same fun q hq=>(g1.block q (by have:=hvr.lt q hq;simp;omega) (fun e=>nb0 q hq e.symm)).trans (Below.heap_alloc _ _ _ (hvr.lt q hq))
   have s1:=d1.size
   have s1':(w2).heap.size≤u1.heap.size:=by have:=g1.size;simp at this;omega
   clear hn1;go_wp2_with (go_at_call 31;refine Qau ?_);unfold Qag;refine (Qe9 (k.layF.length) u1 (by omega)).mono ?_;rintro e u2 ⟨rfl,hu2⟩
   have bq:Below u1.heap.size u1 u2:=by rw [hu2];exact ((QB _ u1).alloc (QN _) _).alloc (by simp) _
   have hrB:QaL u2.heap.size u2 (.slice (some ⟨u1.heap.size+1,0,none⟩) 4 4) (QaE (k.layF.length)):=by
    have:=QaL.built (u1.alloc (Qd7 (k.layF.length))) 138 (0,0) (QaE (k.layF.length)) (Qb7 _ (by omega)) (by simp [QaE,maxLen]) _ rfl 4 rfl;rw [hu2,show u1.heap.size+1=(u1.alloc (Qd7 (k.layF.length))).heap.size from (World.size_alloc ..).symm];exact this
   have o2:=Qac o1 fun q hq=>bq.block q (o1.lt q hq).2
   have d2:Below W.heap.size W u2:=d1.trans (bq.mono s1)
   have r2:Qdb .u8 (w2).heap.size u2 (.slice va k.layF.length vc) k.layF:=r1.same fun q hq=>bq.block q (by have:=r1.lt q hq;omega)
   have s2:=d2.size;have bqs:=bq.size;clear hu2;go_wp2_with (at_builtin;refine Qau ?_);unfold Qag;refine Qae rfl _ _ 22 rfl W.heap.size 5 i0 Tryz.underlying22 hi hz0 hz1 hz2 v1 (P.length+1) (P++[t % 256]) rfl (by rw [List.map_append];exact o2) _ 4 4 u2.heap.size (QaE (k.layF.length)) rfl hrB.1 (by omega) s2 ?_;intro v2 u3 o3 g3 hv3;have d3:Below W.heap.size W u3:=d2.grown g3 s2 (fun q hq=>(o2.lt q hq).1)
   have nb1:∀ q,QaO (.slice va k.layF.length vc) q→v1.ownBlock≠some q:=fun q hq e=>by
    have h1:=hvb q hq;have h2:=hvr.lt q hq
    rcases hv1 with h3 | h3
    ·rw [h3] at e;have h4:=hownw q e;omega
    ·rw [h3] at e;injection e with e;simp at e;omega
   have r3:Qdb .u8 (w2).heap.size u3 (.slice va k.layF.length vc) k.layF:=r2.same fun q hq=>g3.block q (by have:=r2.lt q hq;omega) (fun e=>nb1 q hq e.symm)
   have s3:=d3.size;clear hrB o2 bq;go_wp2_with (at_builtin;refine Qau ?_);unfold Qag;refine Qae rfl _ _ 22 rfl W.heap.size 5 i0 Tryz.underlying22 hi hz0 hz1 hz2 v2 (P.length+1+4) ((P++[t % 256])++QaE (k.layF.length)) rfl o3 va k.layF.length vc (w2).heap.size k.layF rfl r3 (by omega) s3 ?_;intro v3 u4 o4 g4 hv4;have d4:Below W.heap.size W u4:=d3.grown g4 s3 (fun q hq=>(o3.lt q hq).1)
   have hPl:(((P++[t % 256])++QaE (k.layF.length))++k.layF).length=P.length+1+4+k.layF.length:=by
    rw [QL,QL,QL];rfl
   have hVf:(((P++[t % 256])++QaE (k.layF.length))++k.layF)++r.layF=f.layF:=by
    rw [← HVL];simp only [List.append_assoc]
   have HVF:=QQ hVf;have HPL:=QQ hPl;clear o3 g4 hv4 g3 hv3 hVf hPl;go_wp2;go_roundw
   case rel =>
    have hPl:(((P++[t % 256])++QaE (k.layF.length))++k.layF).length=P.length+1+4+k.layF.length:=HPL;refine ⟨i+1,r,((P++[t % 256])++QaE (k.layF.length))++k.layF,by go_num,by omega,by omega,by omega,HVF,hkG2,fun b' off' ha hlen=>?_,by rw [hPl];exact o4,d4⟩
    injection ha with ha;injection ha with q1 q2;subst q1 q2
    refine ⟨hbn,?_⟩;rw [show off+(i+1)*3=off+i*3+3 by omega];exact HR
   case measure=>simp [intOf];omega
  ·have t2:decide ((128:Int)≤t)=false:=by simp;omega
   rw [if_neg hn] at hVL;rw [hbe] at hVL;have HVL:=QQ hVL;have hvr:Qdb .u8 (wr.alloc X).heap.size (wr.alloc X) (.slice ba blen bcap) bs:=(hb.1.below ((QB _ wr).alloc hlw X)).mono (by simp;omega);clear hVL;have nb0:∀ q,QaO (.slice ba blen bcap) q→u0.ownBlock≠some q:=(fun q hq e=>by have h1:=hb.1.lt q hq;have h2:=(hownx.lt q e).1;omega);have hn1:=QQ (Qj7 (wr.alloc X) (t % 256));have hsw:=bx.size;go_wp2_with (at_builtin;refine Qau ?_);unfold Qag;rw [← hX,← hsx];refine wpList_append_own_at _ rfl _ _ 22 rfl W.heap.size 5 i0 (.int .u8 0) 1 1 Tryz.underlying22 hi hz0 hz1 hz2 rfl (by decide) _ P.length _ (by rfl) (hownx.alloc _) ⟨(wr.alloc X).heap.size,0,none⟩ 1 1 [.int .u8 (t % 256)] (by rfl) rfl hn1 (by simp [Value.oneCell']) (by simp only [maxLen];omega) (by omega) (by simp;omega) ?_;intro v1 u1 o1 g1 _ hv1;have d1:Below W.heap.size W u1:=(bx.alloc hsw (.cells #[.int .u8 (t % 256)] 5)).grown g1 (by simp;omega) (fun q hq=>(hownx.lt q hq).1)
   have r1:Qdb .u8 (wr.alloc X).heap.size u1 (.slice ba blen bcap) bs:=hvr.same fun q hq=>(g1.block q (by have:=hvr.lt q hq;simp;omega) (fun e=>nb0 q hq e.symm)).trans (Below.heap_alloc _ _ _ (hvr.lt q hq))
   have s1:=d1.size
   have s1':(wr.alloc X).heap.size≤u1.heap.size:=by have:=g1.size;simp at this;omega
   clear hn1;go_wp2_with (go_at_call 31;refine Qau ?_);unfold Qag;refine (Qe9 (blen) u1 (by omega)).mono ?_;rintro e u2 ⟨rfl,hu2⟩
   have bq:Below u1.heap.size u1 u2:=by rw [hu2];exact ((QB _ u1).alloc (QN _) _).alloc (by simp) _
   have hrB:QaL u2.heap.size u2 (.slice (some ⟨u1.heap.size+1,0,none⟩) 4 4) (QaE (blen)):=by
    have:=QaL.built (u1.alloc (Qd7 (blen))) 138 (0,0) (QaE (blen)) (Qb7 _ (by omega)) (by simp [QaE,maxLen]) _ rfl 4 rfl;rw [hu2,show u1.heap.size+1=(u1.alloc (Qd7 (blen))).heap.size from (World.size_alloc ..).symm];exact this
   have o2:=Qac o1 fun q hq=>bq.block q (o1.lt q hq).2
   have d2:Below W.heap.size W u2:=d1.trans (bq.mono s1)
   have r2:Qdb .u8 (wr.alloc X).heap.size u2 (.slice ba blen bcap) bs:=r1.same fun q hq=>bq.block q (by have:=r1.lt q hq;omega)
   have s2:=d2.size;have bqs:=bq.size;clear hu2;go_wp2_with (at_builtin;refine Qau ?_);unfold Qag;refine Qae rfl _ _ 22 rfl W.heap.size 5 i0 Tryz.underlying22 hi hz0 hz1 hz2 v1 (P.length+1) (P++[t % 256]) rfl (by rw [List.map_append];exact o2) _ 4 4 u2.heap.size (QaE (blen)) rfl hrB.1 (by omega) s2 ?_;intro v2 u3 o3 g3 hv3;have d3:Below W.heap.size W u3:=d2.grown g3 s2 (fun q hq=>(o2.lt q hq).1)
   have nb1:∀ q,QaO (.slice ba blen bcap) q→v1.ownBlock≠some q:=fun q hq e=>by
    have h1:=hb.1.lt q hq;have h2:=(o1.lt q e).1;omega
   have r3:Qdb .u8 (wr.alloc X).heap.size u3 (.slice ba blen bcap) bs:=r2.same fun q hq=>g3.block q (by have:=r2.lt q hq;omega) (fun e=>nb1 q hq e.symm)
   have s3:=d3.size;clear hrB o2 bq;go_wp2_with (at_builtin;refine Qau ?_);unfold Qag;refine Qae rfl _ _ 22 rfl W.heap.size 5 i0 Tryz.underlying22 hi hz0 hz1 hz2 v2 (P.length+1+4) ((P++[t % 256])++QaE (blen)) rfl o3 ba blen bcap (wr.alloc X).heap.size bs rfl r3 (by omega) s3 ?_;intro v3 u4 o4 g4 hv4;have d4:Below W.heap.size W u4:=d3.grown g4 s3 (fun q hq=>(o3.lt q hq).1)
   have hPl:(((P++[t % 256])++QaE (blen))++bs).length=P.length+1+4+blen:=by
    rw [QL,QL,QL,hbe];rfl
   have hVf:(((P++[t % 256])++QaE (blen))++bs)++r.layF=f.layF:=by
    rw [← HVL];simp only [List.append_assoc]
   have HVF:=QQ hVf;have HPL:=QQ hPl;clear o3 g4 hv4 g3 hv3 hVf hPl;go_wp2;go_roundw
   case rel =>
    have hPl:(((P++[t % 256])++QaE (blen))++bs).length=P.length+1+4+blen:=HPL;refine ⟨i+1,r,((P++[t % 256])++QaE (blen))++bs,by go_num,by omega,by omega,by omega,HVF,hkG2,fun b' off' ha hlen=>?_,by rw [hPl];exact o4,d4⟩
    injection ha with ha;injection ha with q1 q2;subst q1 q2
    refine ⟨hbn,?_⟩;rw [show off+(i+1)*3=off+i*3+3 by omega];exact HR
   case measure=>simp [intOf];omega
theorem QoW (f:Forest):Qib f:=Forest.all Qib Qmb f
theorem Qk4 (f:Forest) (W:World) (a:Option Addr) (len cap:Nat) (h:SlF W.heap.size W a len cap f) (hc:f.cnt≤40000) :
  Calls Tryz.prog 64 #[.slice a len cap] W fun e W'=>∃ v,e=.returned (.tuple #[v,.int .i64 (QmP f)])∧W'.ownsRow W.heap.size 5 1 v (QeI f).length ((QeI f).map (Value.int .u8))∧Below W.heap.size W W':=by
 have kc:=Qlu f W a len cap h hc
 have kl:=fun (W1:World) (hb:Below W.heap.size W W1)=>QoW f W1 a len cap ((h.below hb).mono hb.size) hc
 go_enter Tryz.func64,Tryz.ntmps64;go_wp2_with (go_at_call 90;refine Qau ?_);unfold Qag;refine kc.mono ?_;rintro e w1 ⟨rfl,b1⟩;by_cases h0:f.sizeL 1 0<0
 ·have e1:QmP f=220:=by unfold QmP;rw [if_pos h0]
  have e2:QeI f=[]:=by unfold QeI;rw [if_pos h0]
  rw [e1];have E1:=QQ e1;have E2:=QQ e2;clear e1 e2;go_wp2;go_ret2;have e1:QmP f=220:=E1;have e2:QeI f=[]:=E2;exact ⟨_,by rw [e1];rfl,by rw [e2];exact World.ownsRow_nil _ _ _ _,b1⟩
 ·have e1:QmP f=0:=by unfold QmP;rw [if_neg h0]
  have e2:QeI f=f.layF:=by unfold QeI;rw [if_neg h0]
  rw [e1];have E1:=QQ e1;have E2:=QQ e2;have k2:=kl w1 b1;clear kl kc e1 e2;go_wp2_with (go_at_call 91;refine Qau ?_);unfold Qag;refine k2.mono ?_;rintro e w2 ⟨v,rfl,o2,b2⟩
  have o3:w2.ownsRow W.heap.size 5 1 v f.layF.length (f.layF.map (Value.int .u8)):=by
   have hb:=b1.size;refine ⟨o2.1,?_⟩
   rcases o2.2 with h | ⟨g,cap,cur,h0,h1,h2⟩
   ·exact .inl h
   ·exact .inr ⟨g,cap,cur,h0,by omega,h2⟩
  have b3:=Qbg b1 b2;clear k2 o2;go_wp2;go_ret2;have e1:QmP f=0:=E1;have e2:QeI f=f.layF:=E2;exact ⟨_,by rw [e1];rfl,by rw [e2];exact o3,b3⟩
theorem Forest.app_assoc:∀ f g h:Forest,(f.app g).app h=f.app (g.app h)
 | .nil,_,_=>rfl
 | .cons t b k r,g,h=>by show Forest.cons t b k ((r.app g).app h)=Forest.cons t b k (r.app (g.app h));rw [Forest.app_assoc r g h]
def Qay {α:Type} (g:α→Forest):List α→Forest
 | []=>.nil
 | x::l=>(g x).app (Qay g l)
theorem Qew {α:Type} (g:α→Forest) (x:α):∀ l:List α,Qay g (l++[x])=(Qay g l).app (g x)
 | []=>by show (g x).app .nil=g x;exact Forest.app_nil _
 | y::l=>by show (g y).app (Qay g (l++[x]))=((g y).app (Qay g l)).app (g x);rw [Qew g x l,Forest.app_assoc]
theorem Qex {α:Type} (g:α→Forest) (l:List α) (k:Nat) (h:k<l.length):Qay g (l.take (k+1))=(Qay g (l.take k)).app (g l[k]):=by
 rw [List.take_succ_eq_append_getElem h,Qew]
def QeG (o:List Int):Forest:=.cons 2 o .nil .nil
def Qct (p:Pp):Forest:=.cons 131 [] (.cons 3 p.bytes .nil (.cons 4 (Qa7 p.rd.toNat) .nil (.cons 5 (Qa7 p.wr.toNat) .nil .nil))) .nil
def Qb9 (f:Int × Bool):Forest:=.cons 6 (Qa7 (2*f.1+Qb6 f.2).toNat) .nil .nil
def Qcj (p:Pr):Forest:=.cons 132 [] (Qbl p) .nil
def Qck (w:Wt):Forest:=.cons 19 (wsB [w.pid,w.kp,w.kf,w.ko]) .nil .nil
def Qb1 (X:Im):Forest:=(((((Forest.cons 1 (Qa7 1) .nil .nil).app (Qay QeG X.objs)).app (Qay Qct X.pipes)).app (Qay Qb9 X.files)).app (Qay Qcj X.procs)).app (Qay Qck X.waits)
structure QbZ (W:World) (x:Mem) (s:Sl5) (X:Array Value) (B:Nat) (V:World):Prop where
 hX:X=(x.cells s).toArray
 hB:B=W.heap.size
 eB:V.heap[B]?=some (.cells X 29)
 below:Below W.heap.size W V
 at_:Qb2 W.heap.size W x s
 fine:x.im.Fine
 may:Qcb x.im=true
theorem QbZ.grow {W:World} {x:Mem} {s:Sl5} {X:Array Value} {B:Nat} {V V':World} (h:QbZ W x s X B V) (hs:Below W.heap.size W V') (he:V'.heap[B]?=V.heap[B]?):QbZ W x s X B V' :=
 ⟨h.hX,h.hB,he.trans h.eB,hs,h.at_,h.fine,h.may⟩
theorem QbZ.cell {W:World} {x:Mem} {s:Sl5} {X:Array Value} {B:Nat} {V:World} (h:QbZ W x s X B V) {i:Nat} {v:Value} (hv:(x.cells s)[i]?=some v):V.cell? ⟨B,i,none⟩=some v:=by
 rw [cell_of_row V _ i _ _ _ h.eB,h.hX,List.getElem?_toArray];exact hv
def FsQ (W:World) (F:Forest):Exit→Act→World→Prop:=bodyPost Tryz.prog Tryz.f65 fun e W'=>∃ v n,e=.returned v∧QbY 0 W'.heap.size W.heap.size W' v n F∧Below W.heap.size W W'
theorem QdW {x:Int} (h:0≤x∧x<4294967296):IntKind.u32.wrap x=x:=by rw [Qda];omega
theorem QoQ (W:World) (x:Mem) (s:Sl5) (X:Array Value) (B:Nat) (t3:Value) (u4 u5 u6 u7 u8 u9 u10 u11 u12 u13 u14 u15 u16 u17 u18 u19 u20 u21 u22 u23 u24 u25 u26 u27 u28 u29 u30 u31 u32 u33 u34 u35 u36 u37 u38 u39 u40 u41 u42 u43 u44 u45 u46 u47 u48 u49 u50 u51 u52 u53 u54 u55 u56 u57 u58 u59 u60 u61 u62 u63 u64 u65 u66 u67 u68 u69 u70 u71 u72 u73 u74 u75 u76 u77 u78 u79 u80 u81 u82 u83 u84 u85 u86 u87 u88 u89 u90 u91 u92 u93 u94 u95 u96 u97 u98 u99 u100 u101 u102 u103 u104 u105 u106 u107 u108 u109 u110 u111 u112 u113 u114 u115:Value) (V:World) (n:Nat) (f:Forest) (hn:n≤100000)
  (h:QbZ W x s X B V) (hl:QbY 0 V.heap.size (W.heap.size+1) V t3 n f) :
  (tl 6 (Tryz.f65.body.getD .skip)).wp Tryz.prog (FsQ W (f.app (Qay Qck x.K))) { tmps:=#[.agg X,.pointer (some ⟨B,0,none⟩),.slice none 0 0,t3,u4,u5,u6,u7,u8,u9,u10,u11,u12,u13,u14,u15,u16,u17,u18,u19,u20,u21,u22,u23,u24,u25,u26,u27,u28,u29,u30,u31,u32,u33,u34,u35,u36,u37,u38,u39,u40,u41,u42,u43,u44,u45,u46,u47,u48,u49,u50,u51,u52,u53,u54,u55,u56,u57,u58,u59,u60,u61,u62,u63,u64,u65,u66,u67,u68,u69,u70,u71,u72,u73,u74,u75,u76,u77,u78,u79,u80,u81,u82,u83,u84,u85,u86,u87,u88,u89,u90,u91,u92,u93,u94,u95,u96,u97,u98,u99,u100,u101,u102,u103,u104,u105,u106,u107,u108,u109,u110,u111,u112,u113,u114,u115],defers:=[] } V:=by
 obtain ⟨i0,hi,hz0,hz1,hz2⟩:=info_parts Qc1;have c4:=h.cell (i:=4) rfl
 have hsm:x.K.length≤20000:=by have:=h.fine.small;simpa [Mem.im] using this.2.2.2.2
 have hmay:∀ w∈x.K,(0≤w.pid∧w.pid<4294967296)∧(0≤w.kp∧w.kp<4294967296)∧(0≤w.kf∧w.kf<4294967296)∧0≤w.ko∧w.ko<4294967296:=fun w hw=>by
  have hm:=h.may;unfold Qcb at hm;simp only [Bool.and_eq_true] at hm;have:=List.all_eq_true.1 hm.2 w hw;unfold QbU at this;rw [Qdp] at this;simp only [Bool.and_eq_true,decide_eq_true_eq] at this;unfold Qcf at this;omega
 have HK:=QQ h.at_.K;have HM:=QQ hmay;obtain ⟨l,hll⟩:∃ l,l=x.K:=⟨_,rfl⟩;rw [← hll] at c4 hsm;obtain ⟨ka,hka⟩:∃ a,a=s.k.1:=⟨_,rfl⟩;rw [← hka] at c4;have HKA:=QQ hka;clear hka;have HL:=QQ hll;have H:=QQ (QA h hl);clear h hl hmay
 conv=>arg 2;whnf
 refine wp_seq_k (fun K' aK=>?_);have AK:=QQ aK;clear aK;rw [← hll];clear hll;go_wp2;go_loopw [3,13,89] (fun vv _ i wr=>∃ (k:Nat) (v:Value),i=.int .i64 (k:Int)∧v=vv∧k≤l.length∧QbY 0 wr.heap.size (W.heap.size+1) wr v (n+k) (f.app (Qay Qck (l.take k)))∧QbZ W x s X B wr) (fun _ _ i _=>l.length-(intOf i).toNat)
 case atStart =>
  obtain ⟨h,hl⟩:=(QG H);exact ⟨0,_,rfl,rfl,Nat.zero_le _,by rw [List.take_zero];show QbY _ _ _ _ _ _ (f.app .nil);rw [Forest.app_nil];exact hl,h⟩
 case round =>
  clear c4;obtain ⟨k,v,rfl,rfl,hk,hfl,hinv⟩:=hrel
  rcases Nat.lt_or_ge k l.length with hx | hx
  ·obtain ⟨mg,hmg⟩:∃ mg,mg=l[k]:=⟨_,rfl⟩
   have hmem:mg∈x.K:=by rw [← (QG HL),hmg];exact List.getElem_mem hx
   obtain ⟨r1,r2,r3,r4⟩:=(QG HM) mg hmem
   have hcat:Qay Qck (l.take (k+1))=(Qay Qck (l.take k)).app (Qck mg):=by rw [Qex Qck l k hx,hmg]
   have hb:=hinv.below;have hsz:=hb.size
   have hrow:∃ b off,ka=some ⟨b,off,none⟩∧∀ j v,mg.vals[j]?=some v→wr.cell? ⟨b,off+k*4+j,none⟩=some v:=by
    have HK':=(QG HK);rw [← (QG HL),← (QG HKA)] at HK'
    rcases HK' with h0 | ⟨b,off,e0,hbn,hlc,hcm,hc⟩
    ·omega
    refine ⟨b,off,e0,fun j v hj=>?_⟩;have:=hc (k*4+j) v (Qb Qbp 4 l (fun _ _=>rfl) k hx j v (by rw [← hmg];exact hj));rw [show off+k*4+j=off+(k*4+j) by omega];exact (hb.cell (p:=⟨b,off+(k*4+j),none⟩) hbn).trans this
   obtain ⟨b,off,rfl,e⟩:=hrow;clear hmg hmem;obtain ⟨pid,kp,kf,ko⟩:=mg;have w1:=QdW r1;have w2:=QdW r2;have w3:=QdW r3;have w4:=QdW r4;simp only at w1 w2 w3 w4;have HCAT:=QQ hcat;have HF:=QQ (QA hfl hinv)
   have t0:((k:Int)<(l.length:Int)):=by omega
   clear hcat hfl hinv r1 r2 r3 r4 hb
   go_wp2_with first
    | (refine QaC (by rfl) 80 (.tmp 91) rfl b (off+k*4) rfl (Wt.vals ⟨pid,kp,kf,ko⟩) _ e Tryz.underlying80 rfl QcL ?_)
    | ((fail_if_success (unfold Qag));refine Qan (t:=80) rfl ?_)
   unfold Qag;refine Qab rfl 80 (.tmp 13) (.tmp 92) rfl wr.heap.size #[.int .i64 pid,.int .i64 kp,.int .i64 kf,.int .i64 ko] rfl rfl 80 _ (QW _ _) QcL rfl (by simp [Value.oneCell']) ?_;rw [World.setRow_alloc_new];obtain ⟨V1,hV1⟩:∃ V,V=wr.alloc (.cells #[.int .i64 pid,.int .i64 kp,.int .i64 kf,.int .i64 ko] 80):=⟨_,rfl⟩
   have eV1:V1.heap[wr.heap.size]?=some (.cells #[.int .i64 pid,.int .i64 kp,.int .i64 kf,.int .i64 ko] 80):=by rw [hV1];exact QW _ _
   have bV1:Below wr.heap.size wr V1:=by rw [hV1];exact (QB _ _).alloc (QN _) _
   rw [← hV1];clear hV1 e
   have c0:V1.cell? ⟨wr.heap.size,0,none⟩=some (.int .i64 pid):=by rw [cell_of_row V1 _ 0 _ _ _ eV1];rfl
   have c1:V1.cell? ⟨wr.heap.size,1,none⟩=some (.int .i64 kp):=by rw [cell_of_row V1 _ 1 _ _ _ eV1];rfl
   have c2:V1.cell? ⟨wr.heap.size,2,none⟩=some (.int .i64 kf):=by rw [cell_of_row V1 _ 2 _ _ _ eV1];rfl
   have c3:V1.cell? ⟨wr.heap.size,3,none⟩=some (.int .i64 ko):=by rw [cell_of_row V1 _ 3 _ _ _ eV1];rfl
   clear eV1;go_wp2_with (go_at_call 96;refine Qau ?_);unfold Qag;obtain ⟨V2,hV2⟩:∃ V2,V2=V1.alloc (.cells #[.int .u32 pid,.int .u32 kp,.int .u32 kf,.int .u32 ko] 40):=⟨_,rfl⟩
   have bV2:Below V1.heap.size V1 V2:=by rw [hV2];exact (QB _ _).alloc (QN _) _
   have sV2:V1.heap.size<V2.heap.size:=by rw [hV2];simp
   have hnew:∀ j u,([.int .u32 pid,.int .u32 kp,.int .u32 kf,.int .u32 ko]:List Value)[j]?=some u→V2.cell? ⟨V1.heap.size,0+j,none⟩=some u:=fun j u hj=>by
    have e2:V2.heap[V1.heap.size]?=some (.cells #[.int .u32 pid,.int .u32 kp,.int .u32 kf,.int .u32 ko] 40):=by rw [hV2];exact QW _ _
    rw [Nat.zero_add,cell_of_row V2 _ j _ _ _ e2,List.getElem?_toArray];exact hj
   rw [← hV2];clear hV2;refine (Qg7 [pid,kp,kf,ko] V2 (some ⟨V1.heap.size,0,none⟩) 4 4 (.inr ⟨_,0,rfl,sV2,QN _,by decide,hnew⟩) rfl (by decide)).mono ?_;rintro e8 w8 ⟨v8,rfl,o8,b8⟩;obtain ⟨a8,c8,rfl,_⟩:=Qaa o8;have O8:=QQ (QA o8 (QA b8 (QA bV1 (QA bV2 sV2))));clear o8 b8 bV1 bV2 sV2 hnew c0 c1 c2 c3;go_wp2_with (at_builtin;refine Qau ?_);unfold Qag;obtain ⟨o8,b8,bV1,bV2,sV2⟩:=(QG O8);obtain ⟨W9,hW9⟩:∃ W9,W9=w8.alloc (Obj.cells #[.int .i64 19,.slice a8 (4*4) c8,.slice none 0 0] 66):=⟨_,rfl⟩
   have b9:Below w8.heap.size w8 W9:=by rw [hW9];exact (QB _ _).alloc (QN _) _
   have e9:W9.heap[w8.heap.size]?=some (.cells #[.int .i64 19,.slice a8 (4*4) c8,.slice none 0 0] 66):=by rw [hW9];exact QW _ _
   have s9:W9.heap.size=w8.heap.size+1:=by rw [hW9];simp
   rw [← hW9];clear hW9;obtain ⟨hfl,hinv⟩:=(QG HF);have z1:=bV1.size;have z2:=bV2.size;have z3:=b8.size;have k9:Below wr.heap.size wr W9:=bV1.trans ((bV2.trans ((b8.trans (b9.mono z3)).mono z2)).mono z1);obtain ⟨_,vs0,q1,_,_⟩:=id hfl;obtain ⟨hh,vs,g1,g2,g3⟩:=(hfl.grow k9).lift (hi':=W9.heap.size) (by omega) (QN _)
   refine QaH rfl _ _ 59 rfl (W.heap.size+1) 66 i0 _ 3 56 Tryz.underlying59 hi hz0 hz1 hz2 rfl (by decide) v (n+k) vs rfl g1 (some ⟨w8.heap.size,0,none⟩) 1 1 [.int .i64 19,.slice a8 (4*4) c8,.slice none 0 0] rfl rfl (by simp [Value.oneCell']) (.inr ⟨_,_,rfl,fun j u hj=>by
    rw [Nat.zero_add,cell_of_row W9 _ j _ _ _ e9,List.getElem?_toArray]
    exact hj⟩) (by omega) (by simp only [maxLen];omega) (by omega) ?_
   intro v10 w10 o10 g10 hat
   have relU:Qat (FlS 0 W9.heap.size v) W9 (Qck ⟨pid,kp,kf,ko⟩) [.int .i64 19,.slice a8 (4*4) c8,.slice none 0 0]:=by
    refine Qat.cons8 (by decide) (by decide) (by rw [Qe2];show 4*4≤_;decide) (((QbM o8 (Qfy _) w8 w8.heap.size fun b hb=>⟨rfl,(o8.lt b hb).2⟩).below b9).mono b9.size) (fun b hb=>?_) Qat.nil;have h1:=o8.lt b (QcE o8 hb);exact ⟨Nat.zero_le _,by omega,fun e=>by have:=(q1.lt b e).2;omega⟩
   have hF:=QbY.put hh g1 g2 g3 o10 g10 hat relU rfl;rw [Forest.app_assoc,← (QG HCAT)] at hF;have hB:=hinv.hB;have hlow:=hinv.below.size
   have B10:Below W.heap.size W w10:=(hinv.below.trans (k9.mono hlow)).grown g10 (by omega) fun b hb=>by have:=(q1.lt b hb).1;omega
   have hinv':QbZ W x s X B w10:=hinv.grow B10 ((g10.block B (by have:=(QI.1 hinv.eB).1;omega) (fun e=>by have:=(q1.lt B e.symm).1;omega)).trans (k9.block B (QI.1 hinv.eB).1));have HFF:=QQ (QA (hF.lift hF.1 (QN _)) hinv');clear hF B10 relU o10 g10 hat g1 g2 g3 hfl hinv hinv' q1 b8 bV1 bV2 sV2 b9 e9 k9 o8 hB;go_wp2;go_roundw
   case rel =>
    exact ⟨k+1,v10,by go_num,rfl,by omega,(QG HFF).1,(QG HFF).2⟩
   case measure=>simp [intOf];omega
  ·have hk2:k=l.length:=by omega
   subst hk2;rw [List.take_length] at hfl;have HF:=QQ (QA hfl hinv);clear hx hk hfl hinv;go_wp2;refine (QG AK) _ _ ?_;go_wp2;go_ret;obtain ⟨hfl,hinv⟩:=(QG HF);exact ⟨v,_,rfl,by rw [← (QG HL)];exact hfl.low (Nat.le_succ _),hinv.below⟩
theorem QoP (W:World) (x:Mem) (s:Sl5) (X:Array Value) (B:Nat) (t3:Value) (u4 u5 u6 u7 u8 u9 u10 u11 u12 u13 u14 u15 u16 u17 u18 u19 u20 u21 u22 u23 u24 u25 u26 u27 u28 u29 u30 u31 u32 u33 u34 u35 u36 u37 u38 u39 u40 u41 u42 u43 u44 u45 u46 u47 u48 u49 u50 u51 u52 u53 u54 u55 u56 u57 u58 u59 u60 u61 u62 u63 u64 u65 u66 u67 u68 u69 u70 u71 u72 u73 u74 u75 u76 u77 u78 u79 u80 u81 u82 u83 u84 u85 u86 u87 u88 u89 u90 u91 u92 u93 u94 u95 u96 u97 u98 u99 u100 u101 u102 u103 u104 u105 u106 u107 u108 u109 u110 u111 u112 u113 u114 u115:Value) (V:World) (n:Nat) (f:Forest) (hn:n≤70000)
  (h:QbZ W x s X B V) (hl:QbY 0 V.heap.size (W.heap.size+1) V t3 n f) :
  (tl 5 (Tryz.f65.body.getD .skip)).wp Tryz.prog (FsQ W ((f.app (Qay Qcj (x.P.map (·.1)))).app (Qay Qck x.K))) { tmps:=#[.agg X,.pointer (some ⟨B,0,none⟩),.slice none 0 0,t3,u4,u5,u6,u7,u8,u9,u10,u11,u12,u13,u14,u15,u16,u17,u18,u19,u20,u21,u22,u23,u24,u25,u26,u27,u28,u29,u30,u31,u32,u33,u34,u35,u36,u37,u38,u39,u40,u41,u42,u43,u44,u45,u46,u47,u48,u49,u50,u51,u52,u53,u54,u55,u56,u57,u58,u59,u60,u61,u62,u63,u64,u65,u66,u67,u68,u69,u70,u71,u72,u73,u74,u75,u76,u77,u78,u79,u80,u81,u82,u83,u84,u85,u86,u87,u88,u89,u90,u91,u92,u93,u94,u95,u96,u97,u98,u99,u100,u101,u102,u103,u104,u105,u106,u107,u108,u109,u110,u111,u112,u113,u114,u115],defers:=[] } V:=by
 obtain ⟨i0,hi,hz0,hz1,hz2⟩:=info_parts Qc1;have c0:=h.cell (i:=0) rfl
 have hsm:x.P.length≤20000:=by have:=h.fine.small;simpa [Mem.im] using this.1
 have hmay:∀ q∈x.P,Qbj q.1=true∧q.1.Fine:=fun q hq=>by
  have hm:=h.may;unfold Qcb at hm;simp only [Bool.and_eq_true] at hm;have:=List.all_eq_true.1 hm.1.1.1.1.2 q.1 (List.mem_map.2 ⟨q,hq,rfl⟩);exact ⟨this,h.fine.procs q.1 (List.mem_map.2 ⟨q,hq,rfl⟩)⟩
 have HK:=QQ h.at_.P;have HM:=QQ hmay;have HRR:=QQ (QA h.at_.fds h.at_.pages);obtain ⟨l,hll⟩:∃ l,l=x.P:=⟨_,rfl⟩;rw [← hll] at c0 hsm;obtain ⟨ka,hka⟩:∃ a,a=s.p.1:=⟨_,rfl⟩;rw [← hka] at c0;have HKA:=QQ hka;clear hka;have HL:=QQ hll;have H:=QQ (QA h hl);clear h hl hmay
 conv=>arg 2;whnf
 refine wp_seq_k (fun K' aK=>?_);have AK:=QQ aK;clear aK;clear hll;go_wp2;go_loopw [3,11,75] (fun vv _ i wr=>∃ (k:Nat) (v:Value),i=.int .i64 (k:Int)∧v=vv∧k≤l.length∧QbY 0 wr.heap.size (W.heap.size+1) wr v (n+k) (f.app (Qay Qcj ((l.take k).map (·.1))))∧QbZ W x s X B wr) (fun _ _ i _=>l.length-(intOf i).toNat)
 case atStart =>
  obtain ⟨h,hl⟩:=(QG H);exact ⟨0,_,rfl,rfl,Nat.zero_le _,by rw [List.take_zero];show QbY _ _ _ _ _ _ (f.app .nil);rw [Forest.app_nil];exact hl,h⟩
 case round =>
  clear c0;obtain ⟨k,v,rfl,rfl,hk,hfl,hinv⟩:=hrel
  rcases Nat.lt_or_ge k l.length with hx | hx
  ·obtain ⟨mg,hmg⟩:∃ mg,mg=l[k]:=⟨_,rfl⟩
   have hmem:mg∈x.P:=by rw [← (QG HL),hmg];exact List.getElem_mem hx
   obtain ⟨hmy,hfn⟩:=(QG HM) mg hmem
   have hcat:Qay Qcj ((l.take (k+1)).map (·.1))=(Qay Qcj ((l.take k).map (·.1))).app (Qcj mg.1):=by
    rw [List.take_succ_eq_append_getElem hx,List.map_append,List.map_singleton,Qew,hmg]
   have hb:=hinv.below;have hsz:=hb.size;have h55:(QaP mg).length=55:=Pr.vals_length hfn.ok _ _ _ _;have h1c:=Qdw mg.1 mg.2.fa mg.2.fc mg.2.pa mg.2.pc
   have hrow:∃ b off,ka=some ⟨b,off,none⟩∧∀ j v,(QaP mg)[j]?=some v→wr.cell? ⟨b,off+k*55+j,none⟩=some v:=by
    have HK':=(QG HK);rw [← (QG HL),← (QG HKA)] at HK'
    rcases HK' with h0 | ⟨b,off,e0,hbn,hlc,hcm,hc⟩
    ·omega
    refine ⟨b,off,e0,fun j v hj=>?_⟩;have:=hc (k*55+j) v (Qb QaP 55 l (fun q hq=>Pr.vals_length ((QG HM) q (by rw [← (QG HL)];exact hq)).2.ok _ _ _ _) k hx j v (by rw [← hmg];exact hj));rw [show off+k*55+j=off+(k*55+j) by omega];exact (hb.cell (p:=⟨b,off+(k*55+j),none⟩) hbn).trans this
   obtain ⟨b,off,rfl,e⟩:=hrow;obtain ⟨hR1,hR2⟩:=(QG HRR)
   have kk:=fun (U:World) (hU:Below W.heap.size W U)=>Qnz mg hfn hmy U (((hR1 mg hmem).below hU).mono hU.size) (((hR2 mg hmem).below hU).mono hU.size)
   obtain ⟨cs,hcs⟩:∃ cs,cs=QaP mg:=⟨_,rfl⟩;rw [← hcs] at e h55 kk
   have h1c':∀ v∈cs,v.oneCell'=true:=by rw [hcs];exact h1c
   have hi55:(Tryz.prog.info? 54).map (·.size)=some cs.length:=by rw [h55];exact QdY
   have HCAT:=QQ hcat;have HF:=QQ (QA hfl hinv);have KK:=QQ kk
   have t0:((k:Int)<(l.length:Int)):=by omega
   clear hcat hfl hmg hmem hmy hfn h1c hR1 hR2 kk hcs
   go_wp2_with first
    | (refine QaC (by rfl) 54 (.tmp 77) rfl b (off+k*55) rfl cs _ e Tryz.underlying54 rfl hi55 ?_)
    | ((fail_if_success (unfold Qag));refine Qan (t:=54) rfl ?_)
   unfold Qag;refine Qab rfl 54 (.tmp 11) (.tmp 78) rfl wr.heap.size cs.toArray rfl rfl 54 _ (QW _ _) (by rw [QS];exact hi55) (by show 55=cs.toArray.size;rw [QS,h55]) (by rw [Array.all_eq_true_iff_forall_mem];exact fun v hv=>h1c' v (by simpa using hv)) ?_;rw [World.setRow_alloc_new];obtain ⟨V1,hV1⟩:∃ V,V=wr.alloc (.cells cs.toArray 54):=⟨_,rfl⟩
   have eV1:V1.heap[wr.heap.size]?=some (.cells cs.toArray 54):=by rw [hV1];exact QW _ _
   have bV1:Below wr.heap.size wr V1:=by rw [hV1];exact (QB _ _).alloc (QN _) _
   rw [← hV1];clear hV1 e
   have hc1:∀ j v,cs[j]?=some v→V1.cell? ⟨wr.heap.size,0+j,none⟩=some v:=fun j v hj=>by
    rw [Nat.zero_add,cell_of_row V1 _ j _ _ _ eV1,List.getElem?_toArray];exact hj
   have hbV1:Below W.heap.size W V1:=hb.trans (bV1.mono hsz)
   go_wp2_with first
    | (refine QaC (by rfl) 54 (.tmp 11) rfl wr.heap.size 0 rfl cs _ hc1 Tryz.underlying54 rfl hi55 ?_)
    | (go_at_call 95;refine Qau ?_)
   unfold Qag;refine ((QG KK) V1 hbV1).mono ?_;rintro e8 w8 ⟨v8,n8,rfl,f8,b8⟩
   obtain ⟨a8,c8,rfl,_⟩:∃ a c,v8=.slice a n8 c∧True:=by
    obtain ⟨_,vs,g1,_,_⟩:=f8;obtain ⟨a,c,h,_⟩:=Qaa g1;exact ⟨a,c,h,trivial⟩
   have O8:=QQ (QA f8 (QA b8 bV1));clear f8 b8 bV1 hc1 eV1;go_wp2_with (at_builtin;refine Qau ?_);unfold Qag;obtain ⟨f8,b8,bV1⟩:=(QG O8);obtain ⟨W9,hW9⟩:∃ W9,W9=w8.alloc (Obj.cells #[.int .i64 132,.slice none 0 0,.slice a8 n8 c8] 66):=⟨_,rfl⟩
   have b9:Below w8.heap.size w8 W9:=by rw [hW9];exact (QB _ _).alloc (QN _) _
   have e9:W9.heap[w8.heap.size]?=some (.cells #[.int .i64 132,.slice none 0 0,.slice a8 n8 c8] 66):=by rw [hW9];exact QW _ _
   have s9:W9.heap.size=w8.heap.size+1:=by rw [hW9];simp
   rw [← hW9];clear hW9;obtain ⟨hfl,hinv⟩:=(QG HF);have z1:=bV1.size;have z3:=b8.size;have k9:Below wr.heap.size wr W9:=bV1.trans ((b8.trans (b9.mono z3)).mono z1);obtain ⟨_,vs0,q1,_,_⟩:=id hfl;obtain ⟨hh,vs,g1,g2,g3⟩:=(hfl.grow k9).lift (hi':=W9.heap.size) (by omega) (QN _);have f9:=f8.grow b9;have f9b:=f8
   refine QaH rfl _ _ 59 rfl (W.heap.size+1) 66 i0 _ 3 56 Tryz.underlying59 hi hz0 hz1 hz2 rfl (by decide) v (n+k) vs rfl g1 (some ⟨w8.heap.size,0,none⟩) 1 1 [.int .i64 132,.slice none 0 0,.slice a8 n8 c8] rfl rfl (by simp [Value.oneCell']) (.inr ⟨_,_,rfl,fun j u hj=>by
    rw [Nat.zero_add,cell_of_row W9 _ j _ _ _ e9,List.getElem?_toArray]
    exact hj⟩) (by omega) (by simp only [maxLen];omega) (by omega) ?_
   intro v10 w10 o10 g10 hat
   have relU:Qat (FlS 0 W9.heap.size v) W9 (Qcj mg.1) [.int .i64 132,.slice none 0 0,.slice a8 n8 c8]:=by
    refine QnM (by decide) (by decide) f9 fun y hy=>?_
    obtain ⟨_,vs8,p1,_,_⟩:=f8
    rcases hy with hy | hy
    ·exact ⟨Nat.zero_le _,by have:=hy.2.1;omega,fun e=>by have:=(q1.lt y e).2;have:=hy.1;omega⟩
    ·have:=p1.lt y hy
     exact ⟨Nat.zero_le _,by omega,fun e=>by have:=(q1.lt y e).2;omega⟩
   have hF:=QbY.put hh g1 g2 g3 o10 g10 hat relU rfl;rw [Forest.app_assoc,← (QG HCAT)] at hF;have hB:=hinv.hB;have hlow:=hinv.below.size
   have B10:Below W.heap.size W w10:=(hinv.below.trans (k9.mono hlow)).grown g10 (by omega) fun b hb=>by have:=(q1.lt b hb).1;omega
   have hinv':QbZ W x s X B w10:=hinv.grow B10 ((g10.block B (by have:=(QI.1 hinv.eB).1;omega) (fun e=>by have:=(q1.lt B e.symm).1;omega)).trans (k9.block B (QI.1 hinv.eB).1));have HFF:=QQ (QA (hF.lift hF.1 (QN _)) hinv');clear hF B10 relU o10 g10 hat g1 g2 g3 hfl hinv hinv' q1 b8 bV1 b9 e9 k9 f8 f9 f9b hB hbV1 hb;go_wp2;go_roundw
   case rel=>exact ⟨k+1,v10,by go_num,rfl,by omega,(QG HFF).1,(QG HFF).2⟩
   case measure=>simp [intOf];omega
  ·have hk2:k=l.length:=by omega
   subst hk2;rw [List.take_length] at hfl;have HF:=QQ (QA hfl hinv);clear hx hk hfl hinv;go_wp2;refine (QG AK) _ _ ?_;obtain ⟨hfl,hinv⟩:=(QG HF);rw [show Qay Qcj (l.map (·.1))=Qay Qcj (x.P.map (·.1)) by rw [show l=x.P from HL]] at hfl;exact QoQ W x s X B v _ _ _ _ _ _ _ _ _ _ _ _ _ _ _ _ _ _ _ _ _ _ _ _ _ _ _ _ _ _ _ _ _ _ _ _ _ _ _ _ _ _ _ _ _ _ _ _ _ _ _ _ _ _ _ _ _ _ _ _ _ _ _ _ _ _ _ _ _ _ _ _ _ _ _ _ _ _ _ _ _ _ _ _ _ _ _ _ _ _ _ _ _ _ _ _ _ _ _ _ _ _ _ _ _ _ _ _ _ _ _ _ wr (n+l.length) _ (by omega) hinv hfl
end Go.Proofs.YtejcandhijdnhaaGreat
