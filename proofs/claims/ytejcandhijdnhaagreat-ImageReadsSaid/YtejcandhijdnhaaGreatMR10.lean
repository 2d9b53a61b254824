/- Own texts of this seat, one behind the other, without needless spaces (part 10 of 26). -/
import Derived.Test.YtejcandhijdnhaaGreatMR01
import Derived.Test.YtejcandhijdnhaaGreatMR02
import Derived.Test.YtejcandhijdnhaaGreatMR09
import Derived.Laws.StructEq
import Derived.ChangeKeysEq
import Derived.Laws.Tables
namespace Go.Proofs.YtejcandhijdnhaaGreat
open Go Go.RowKit
set_option linter.unusedVariables false
set_option linter.unusedSimpArgs false
set_option linter.unnecessarySimpa false
set_option maxRecDepth 100000
set_option maxHeartbeats 16000000
section
attribute [local go_sem] Oper.semAt_some
theorem Qoj {x:Mem} {s:Sl5} {L:List Wt} {o:Option Addr × Nat} {b:Nat} (h:Qd3 { x with K:=L } { s with k:=o } b):Qd3 x s b∨(Value.slice o.1 L.length o.2).ownBlock=some b:=by
 rcases h with h | h | h | h | h | h | h
 ·exact .inl (.inl h)
 ·exact .inl (.inr (.inl h))
 ·exact .inl (.inr (.inr (.inl h)))
 ·exact .inl (.inr (.inr (.inr (.inl h))))
 ·exact .inr h
 ·exact .inl (.inr (.inr (.inr (.inr (.inr (.inl h))))))
 ·exact .inl (.inr (.inr (.inr (.inr (.inr (.inr h))))))
def Qgn (w:List Int):Wt:=⟨(w++[0,0,0,0]).getD 0 0,(w++[0,0,0,0]).getD 1 0,(w++[0,0,0,0]).getD 2 0,(w++[0,0,0,0]).getD 3 0⟩
theorem Qh9 {bs:List Int} (hz:∀ z∈bs,0≤z∧z≤255):∀ z∈Qbd bs,0≤z∧z<4294967296:=by
 intro z h2;unfold Qbd Qc9 at h2;obtain ⟨i,_,rfl⟩:=List.mem_map.1 h2;have:=Qhu bs hz (4*i) (min 4 (bs.length-4*i));have h4:(256:Nat) ^ (min 4 (bs.length-4*i))≤256 ^ 4:=Nat.pow_le_pow_right (by decide) (Nat.min_le_left _ _)
 have h5:(256:Nat) ^ 4=4294967296:=by decide
 omega
theorem Qgo {w:List Int} (hz:∀ z∈w,0≤z∧z<4294967296) (j:Nat) (hj:j<4):∃ y,(w++[0,0,0,0])[j]?=some y∧y=(w++[0,0,0,0]).getD j 0∧0≤y∧y<4294967296:=by
 have hl:j<(w++[0,0,0,0]).length:=by simp;omega
 refine ⟨(w++[0,0,0,0])[j],List.getElem?_eq_getElem hl,by rw [List.getD_eq_getElem?_getD,List.getElem?_eq_getElem hl];rfl,?_⟩
 rcases List.mem_append.1 (List.getElem_mem hl) with h | h
 ·exact hz _ h
 ·simp at h;omega
theorem QgM:(Tryz.prog.info? 80).map (fun i=>(i.zero,i.size,i.bytes))=some (some (.agg #[.int .i64 0,.int .i64 0,.int .i64 0,.int .i64 0]),4,32):=by kernel_rfl
theorem Ql8:(Tryz.prog.info? 40).map (fun i=>(i.zero,i.size,i.bytes))=some (some (.int .u32 0),1,4):=by kernel_rfl
theorem Qj0:(Tryz.prog.info? 27).map (·.size)=some 1:=by kernel_rfl
theorem Qqc (Q:Exit→Act→World→Prop) (W:World) (v0:Value) (a:Option Addr) (len cap:Nat) (k:Forest) (T:Nat) (x:Mem) (hx:x.K=[])
  (hn:QcQ Q W v0 a len cap k T (tl 11 (Tryz.f5.body.getD .skip)) { x with K:=(k.sel 19).map (fun e=>Qgn (Qbd e.1)) }) :
  QcQ Q W v0 a len cap k T (tl 10 (Tryz.f5.body.getD .skip)) x:=by
 intro v1 v4 v5 u8 u9 u10 u11 u12 u13 u14 u15 u16 u17 u18 u19 u20 u21 u22 u23 u24 u25 u26 u27 u28 u29 u30 u31 u32 u33 u34 u35 u36 u37 u38 u39 u40 u41 u42 u43 u44 u45 u46 u47 u48 u49 u50 u51 u52 u53 u54 u55 u56 u57 u58 u59 u60 u61 u62 u63 u64 u65 u66 u67 u68 u69 u70 u71 u72 u73 u74 u75 u76 u77 u78 u79 u80 u81 u82 u83 u84 u85 u86 u87 u88 u89 u90 u91 u92 u93 u94 u95 u96 u97 u98 u99 u100 u101 u102 u103 u104 u105 u106 u107 u108 u109 u110 u111 u112 u113 u114 u115 u116 u117 u118 u119 u120 u121 u122 u123 u124 u125 u126 u127 u128 u129 u130 u131 u132 u133 u134 u135 u136 u137 u138 u139 u140 u141 u142 u143 u144 u145 u146 u147 u148 u149 u150 u151 u152 u153 u154 u155 u156 u157 u158 u159 u160 u161 u162 u163 u164 u165 u166 u167 u168 u169 u170 u171 u172 u173 u174 u175 u176 u177 u178 u179 u180 u181 u182 u183 u184 u185 u186 V s ds h;have HN:=QQ hn;clear hn;obtain ⟨fs,F1,F2,F3⟩:=h.fields.fes;subst F3;have hcnt:=h.cnt;have lT:=h.lT;have hT:=h.hT
 have hsm:fs.length≤1000000:=by have:=Fes.length fs k F1;have:=Forest.length_le_cnt k;omega
 have hbs:∀ e∈fs,e.2.length≤1048576:=fun e he=>by have:=Fes.small fs k F1 e he;omega
 have hby:∀ e∈fs,QaL T V (.slice e.1.a e.1.l e.1.c) e.2:=fun e he=>Fes.rows fs k F1 e he
 have hch3:Fence.wide.fn 16:=trivial;have HH:=QQ h;clear h
 conv=>arg 4;whnf
 refine wpIn_seq_k (fun K' aK=>?_);have AK:=QQ aK;clear aK
 gi_wp2_with (gi_at_call 16;refine (QeV Fence.wide _ trivial rfl _ _ _ _ _).mono ?_;rintro e w' ⟨rfl,rfl⟩)
 obtain ⟨Y,hY⟩:∃ Y,Y=(V.alloc (.cells #[.slice a fs.length cap] 59)).alloc (.cells #[.int .i64 19] 3):=⟨_,rfl⟩
 have bwX:Below V.heap.size V Y:=by rw [hY];exact ((QB _ _).alloc (QN _) _).alloc (by simp) _
 have sY:V.heap.size+2=Y.heap.size:=by rw [hY];simp
 rw [← hY];have h:=(QG HH)
 have hmb:∀ b,Qd3 x s b→b<V.heap.size:=fun b hb=>(h.own.lt b hb).2
 have hdl:∀ D∈ds,D<V.heap.size:=fun D hD=>h.markLt hD
 have hso:s.k=(none,0):=h.own.empty.2.2.2.2 hx;have hsel:(Qak 19 fs).length=(k.sel 19).length:=(F1.hits 19).1
 have hlen:(k.sel 19).length≤1000000:=by
  have:=List.length_filter_le (fun x:Fe × List Int=>x.1.t == 19) fs;rw [← hsel];unfold Qak;omega
 clear h
 refine QcX V T (Nat.le_of_lt lT) a fs.length cap 19 fs hY rfl rfl F2 hby hsm hbs rfl
  (fun i S A=>∃ (o:Option Addr × Nat) (L:List Wt),L=((k.sel 19).take i).map (fun e=>Qgn (Qbd e.1))∧QaZ W a fs.length cap k T { x with K:=L } A { s with k:=o } ds∧Below T V A∧A.ownsRow Y.heap.size 80 4 (.slice o.1 L.length o.2) L.length (L.flatMap Qbp)∧S=fun b=>b=T∨(Value.slice o.1 L.length o.2).ownBlock=some b)
  (fun c i S A=>False) (fun b=>b=T∨(Value.slice none 0 0).ownBlock=some b) (fun b hb=>by rcases hb with rfl | hb;exact ⟨QN _,lT⟩;cases hb) ?hI ?hIx ?hlt ?h0 (fun _ _ _=>True) (fun _ _ _ _ _ _=>trivial)
  (fun args m=>{ tmps:=#[v0,v1,.pointer (some ⟨W.heap.size,0,none⟩),.int .i64 0,v4,v5,.slice a fs.length cap,.pointer (some ⟨T,0,none⟩),u8,u9,u10,u11,u12,u13,u14,u15,u16,u17,u18,u19,u20,u21,u22,u23,u24,u25,args.getD 1 undef,u27,u28,u29,u30,u31,u32,u33,u34,u35,u36,u37,u38,u39,u40,u41,u42,u43,u44,u45,u46,u47,u48,u49,u50,u51,u52,u53,u54,u55,u56,u57,u58,u59,u60,u61,u62,u63,u64,u65,u66,u67,u68,u69,u70,u71,u72,u73,u74,u75,u76,u77,u78,u79,u80,u81,u82,u83,u84,u85,u86,u87,u88,u89,u90,u91,u92,u93,u94,u95,u96,u97,u98,u99,u100,u101,u102,u103,u104,u105,u106,u107,u108,u109,u110,u111,u112,u113,u114,u115,u116,u117,u118,u119,u120,u121,u122,u123,u124,u125,u126,u127,u128,u129,u130,u131,u132,u133,u134,u135,u136,u137,u138,u139,u140,.slice a fs.length cap,.func (.func 57) #[] #[.pointer (some ⟨V.heap.size,0,none⟩),.pointer (some ⟨V.heap.size+1,0,none⟩)],args.getD 0 undef,args.getD 1 undef,u145,u146,u147,u148,u149,u150,u151,u152,u153,u154,u155,u156,u157,u158,u159,u160,u161,u162,u163,u164,u165,u166,u167,u168,u169,u170,u171,u172,u173,u174,u175,u176,u177,u178,u179,u180,u181,u182,u183,u184,u185,u186],defers:=[] }) ?assign ?body ?done ?stop
 case hI =>
  rintro i S A A' ⟨o,L,hL,inv,bT,own,rfl⟩ hs;refine ⟨o,L,hL,inv.same hs.os hs.tape hs.output hs.size (fun b hb=>hs.block b ?_),bT.trans ⟨hs.os,hs.tape,hs.output,hs.size,fun b hb=>hs.block b (.inl (by omega))⟩,Qac own (fun b hb=>hs.block b (.inr (.inr hb))),rfl⟩
  rcases hb with hb | hb | hb
  ·left;omega
  ·exact (Qoj hb).elim (fun h=>.inl (by have:=hmb b h;omega)) (fun h=>.inr (.inr h))
  ·left;have:=hdl b hb;omega
 case hIx=>intro c i S A A' h;exact h.elim
 case hlt =>
  rintro i S A ⟨o,L,hL,inv,bT,own,rfl⟩ b hb
  rcases hb with rfl | hb
  ·exact inv.lT
  ·exact (own.lt b hb).2
 case h0 =>
  have h:=(QG HH).grow bwX
  have e:({ x with K:=[] }:Mem)=x:=by cases x;simp at hx;subst hx;rfl
  have e2:({ s with k:=(none,0) }:Sl5)=s:=by rw [← hso]
  exact ⟨(none,0),[],by simp,by rw [e,e2];exact h,bwX.mono (Nat.le_of_lt lT),World.ownsRow_nil _ _ _ _,rfl⟩
 case assign =>
  rintro l i hi A args G K ⟨v,rfl,_⟩ hK
  gi_wp2
  exact hK A (QB _ _) trivial
 case body =>
  rintro l i hi S A m args G ⟨o,L,hL,inv,bT,own,rfl⟩ hm1 hm2 hm3 hm4 _ ⟨v,rfl,q4,rfl⟩ hG
  have hi2:i<(k.sel 19).length:=by omega
  obtain ⟨g1,g2,g3,g4⟩:=(F1.hits 19).2 i hi hi2;obtain ⟨bs,hbs2⟩:∃ bs,bs=((k.sel 19)[i]).1:=⟨_,rfl⟩;rw [g1,← hbs2] at q4;rw [← hbs2] at g3
  have hcat:((k.sel 19).take (i+1)).map (fun e=>Qgn (Qbd e.1))=((k.sel 19).take i).map (fun e=>Qgn (Qbd e.1))++[Qgn (Qbd bs)]:=by rw [List.take_succ_eq_append_getElem hi2,List.map_append,hbs2];rfl
  have hLl:L.length=i:=by have:=congrArg List.length hL;rw [QM,List.length_take] at this;omega
  have hwb:=Qh9 g3.2
  have hbl:bs.length≤1048576:=by rw [hbs2,← g1];exact hbs _ (List.mem_filter.1 (show (Qak 19 fs)[i]∈Qak 19 fs from List.getElem_mem _)).1
  have hwl:=QfU bs;rw [← hwl] at q4;obtain ⟨ws,hws⟩:∃ ws,ws=Qbd bs:=⟨_,rfl⟩;rw [← hws] at q4 hwb hcat hwl;obtain ⟨n,hn⟩:∃ n,n=ws.length:=⟨_,rfl⟩;rw [← hn] at q4
  have hn6:n≤1000000:=by omega
  obtain ⟨ag,hag⟩:∃ ag:Value,ag=.agg (((Qak 19 fs)[i]).1.cells).toArray:=⟨_,rfl⟩;rw [← hag]
  have hi5:i≤1000000:=by omega
  have lTA:=inv.lT
  have hTm:T+1≤Y.heap.size:=by omega
  have hYA:Y.heap.size≤A.heap.size:=by omega
  rw [hLl] at own;have INV:=QQ inv;have OWN:=QQ own;have BT:=QQ bT;have HCAT:=QQ hcat;have HLL:=QQ (QA hLl hL);have HN2:=QQ hn;have HG:=QQ hG;have Q4:=QQ q4;clear hbs2 hag inv own bT hG hcat g1 g2 g3 g4 hLl hL hm1 hm2 hm3 hm4 hwl hbl hws hn q4;obtain ⟨i0,hi0,hz0,hz1,hz2⟩:=info_parts Ql8;obtain ⟨i1,hi1,hy0,hy1,hy2⟩:=info_parts QgM
  gi_wp2_with (gi_at_builtin;refine Qau ?_)
  unfold Qag;refine wpListIn_append_own_at _ rfl _ _ 78 rfl 0 40 i0 _ 1 4 Tryz.underlying78 hi0 hz0 hz1 hz2 rfl (by decide) v n _ (by rfl) ((QG Q4).alloc _) ⟨A.heap.size,0,none⟩ 4 4 [.int .u32 0,.int .u32 0,.int .u32 0,.int .u32 0] (by rfl) rfl (QbR A #[.int .u32 0,.int .u32 0,.int .u32 0,.int .u32 0] 40) (by simp [Value.oneCell']) (by simp only [maxLen];omega) (by omega) (by omega) ?_;intro v2 w3 ho hg _ hat;obtain ⟨g2,c2,rfl⟩:=Qbx (n:=n+3) ho;have hal:Below A.heap.size A (A.alloc (.cells #[.int .u32 0,.int .u32 0,.int .u32 0,.int .u32 0] 40)):=(QB _ A).alloc (QN _) _
  have sal:(A.alloc (.cells #[.int .u32 0,.int .u32 0,.int .u32 0,.int .u32 0] 40)).heap.size=A.heap.size+1:=by simp
  have s3:=hg.size;rw [sal] at s3
  have k3:∀ b,b<A.heap.size→v.ownBlock≠some b→w3.heap[b]?=A.heap[b]?:=fun b h1 h2=>(hg.block b (by omega) (fun e=>h2 e.symm)).trans (hal.block b h1)
  have e3:w3.os=A.os∧w3.tape=A.tape∧w3.output=A.output:=⟨hg.os,hg.tape,hg.output⟩
  have hvb:∀ b,v.ownBlock=some b→Y.heap.size≤b∧b<A.heap.size∧b≠T∧(Value.slice o.1 i o.2).ownBlock≠some b:=fun b hb=>by
   obtain ⟨h1,h2,h3⟩:=(QG HG) b hb;rw [(QG HLL).1] at h3;exact ⟨h1,h2,fun e=>h3 (.inl e),fun e=>h3 (.inr e)⟩
  have hg2:v.ownBlock=some g2∨g2=A.heap.size+1:=by
   rcases hat with h | h
   ·exact .inl (h.symm.trans rfl)
   ·right;have h20:some g2=some _:=h;injection h20 with h20;omega
  have lg2:g2<w3.heap.size:=(ho.lt g2 rfl).2;have ownA:=(QG OWN)
  have hrow:∀ b,(Value.slice o.1 i o.2).ownBlock=some b→Y.heap.size≤b∧b<A.heap.size:=fun b hb=>ownA.lt b hb
  have own3:w3.ownsRow Y.heap.size 80 4 (.slice o.1 i o.2) i (L.flatMap Qbp):=Qac ownA fun b hb=>k3 b (hrow b hb).2 (fun e=>(hvb b e).2.2.2 hb)
  have inv3:=(QG INV).same (V':=w3) e3.1 e3.2.1 e3.2.2 (by omega) (fun b hb=>by
   have hb2:b<A.heap.size∧v.ownBlock≠some b:=by
    rcases hb with hb | hb | hb
    ·exact ⟨by omega,fun e=>by have:=(hvb b e).1;omega⟩
    ·rcases Qoj hb with h | h
     ·exact ⟨by have:=hmb b h;have:=bwX.size;omega,fun e=>by have:=(hvb b e).1;have:=hmb b h;have:=bwX.size;omega⟩
     ·rw [(QG HLL).1] at h
      exact ⟨(hrow b h).2,fun e=>(hvb b e).2.2.2 h⟩
    ·exact ⟨by have:=hdl b hb;have:=bwX.size;omega,fun e=>by have:=(hvb b e).1;have:=hdl b hb;have:=bwX.size;omega⟩
   exact k3 b hb2.1 hb2.2)
  have hcg:∀ j y,(ws++[0,0,0,0])[j]?=some y→w3.cell? ⟨g2,j,none⟩=some (.int .u32 y):=fun j y hj=>by
   have hlt:=(List.getElem?_eq_some_iff.1 hj).1;rw [ho.cellAt j (by rw [QL] at hlt;have:ws.length=n:=(QG HN2).symm;have h4:([0,0,0,0]:List Int).length=4:=rfl;omega)]
   have:(ws.map (Value.int .u32)++[.int .u32 0,.int .u32 0,.int .u32 0,.int .u32 0])[j]?=some (.int .u32 y):=by
    rw [show ws.map (Value.int .u32)++[.int .u32 0,.int .u32 0,.int .u32 0,.int .u32 0]=(ws++[0,0,0,0]).map (Value.int .u32) by simp,List.getElem?_map,hj];rfl
   exact this
  obtain ⟨x0,hx0,hy00,hb0⟩:=Qgo hwb 0 (by decide);obtain ⟨x1,hx1,hy11,hb1⟩:=Qgo hwb 1 (by decide);obtain ⟨x2,hx2,hy22,hb2⟩:=Qgo hwb 2 (by decide);obtain ⟨x3,hx3,hy33,hb3⟩:=Qgo hwb 3 (by decide)
  have hwt:Qbp (Qgn ws)=[.int .i64 x0,.int .i64 x1,.int .i64 x2,.int .i64 x3]:=by rw [hy00,hy11,hy22,hy33];rfl
  have cx0:=hcg 0 x0 hx0;have cx1:=hcg 1 x1 hx1;have cx2:=hcg 2 x2 hx2;have cx3:=hcg 3 x3 hx3;have cK:w3.cell? ⟨T,4,none⟩=some (.slice o.1 i o.2):=inv3.atK.trans (congrArg (fun n=>some (Value.slice o.1 n o.2)) (QG HLL).1)
  have hTr:(Value.slice o.1 i o.2).ownBlock≠some T:=fun e=>by have:=(hrow T e).1;omega
  have hgr:(Value.slice o.1 i o.2).ownBlock≠some g2:=fun e=>by
   rcases hg2 with h | h
   ·exact (hvb g2 h).2.2.2 e
   ·have:=(hrow g2 e).2;omega
  obtain ⟨Rg,hRg⟩:∃ Rg:Nat→Prop,Rg=fun b=>(Value.slice o.1 i o.2).ownBlock=some b:=⟨_,rfl⟩
  obtain ⟨Sg,hSg⟩:∃ Sg:Nat→Prop,Sg=fun b=>b=T∨(Value.slice o.1 i o.2).ownBlock=some b:=⟨_,rfl⟩
  have lT3:T<w3.heap.size:=by omega
  have HX:=QQ (show ∀ W',Qa Rg w3.drew W'→W'.cell? ⟨T,4,none⟩=some (.slice o.1 i o.2)∧W'.cell? ⟨g2,0,none⟩=some (.int .u32 x0)∧W'.cell? ⟨g2,1,none⟩=some (.int .u32 x1)∧W'.cell? ⟨g2,2,none⟩=some (.int .u32 x2)∧W'.cell? ⟨g2,3,none⟩=some (.int .u32 x3) from fun W' hW=>by
   have h1:=hW.block T lT3 (by rw [hRg];exact hTr);have h2:=hW.block g2 lg2 (by rw [hRg];exact hgr)
   exact ⟨(QcU h1 4).trans cK,(QcU h2 0).trans cx0,(QcU h2 1).trans cx1,(QcU h2 2).trans cx2,(QcU h2 3).trans cx3⟩)
  have HRG:=QQ hRg;have HSG:=QQ hSg;have I3:=QQ inv3;have O3:=QQ own3;have HWT:=QQ hwt;have K3:=QQ k3;have E3:=QQ e3;have HVB:=QQ hvb
  have hw0:IntKind.i64.wrap x0=x0:=by rw [Qcp x0 ⟨by omega,by omega⟩];unfold Qd1;rw [if_neg (by omega)]
  have hw1:IntKind.i64.wrap x1=x1:=by rw [Qcp x1 ⟨by omega,by omega⟩];unfold Qd1;rw [if_neg (by omega)]
  have hw2:IntKind.i64.wrap x2=x2:=by rw [Qcp x2 ⟨by omega,by omega⟩];unfold Qd1;rw [if_neg (by omega)]
  have hw3:IntKind.i64.wrap x3=x3:=by rw [Qcp x3 ⟨by omega,by omega⟩];unfold Qd1;rw [if_neg (by omega)]
  obtain ⟨n4,hn4⟩:∃ n4,n4=n+3+1:=⟨_,rfl⟩
  have hl0:(0:Int)<(n4:Int):=by omega
  have hl0n:0<n4:=by omega
  have hl1:(1:Int)<(n4:Int):=by omega
  have hl2:(2:Int)<(n4:Int):=by omega
  have hl3:(3:Int)<(n4:Int):=by omega
  rw [show n+4=n4 from hn4.symm];clear hg ho hat hal sal k3 e3 hvb ownA own3 inv3 hcg hx0 hx1 hx2 hx3 hy00 hy11 hy22 hy33 hwt cx0 cx1 cx2 cx3 cK hTr hgr hRg hSg hn4
  gi_wp2
  have bD:Below w3.heap.size w3 w3.drew:=⟨rfl,rfl,rfl,QN _,fun _ _=>rfl⟩;refine Qcw (Qa Rg) (Qa Sg) 22 2 (by kernel_rfl) rfl (by kernel_rfl) ?_;refine QbI [0,1,2,3,4,5,6,7,8,9,10,11,12,13,14,15,16,17,18,19] (by kernel_rfl) (by kernel_rfl) ?_
  iterate 20
   first
   | (refine Qcr (Qa.pre Rg) rfl (by rfl) (v:=?_) (fun W hW=>?_) (fun K hK=>?_);rotate_left;· (obtain ⟨q0,q1,q2,q3,q4⟩:=(QG HX) W hW;go_simp;first | done | rfl))
   | refine Qb0 (Qa.pre Rg) rfl (by rfl) (fun K hK=>?_)
   go_simp;refine hK _ ?_;clear hK K
  refine Qcq ?_;refine QaU 20 rfl (by kernel_rfl) (by rfl) (fun K hK=>?_);refine QfR 27 80 (.tmp 167) rfl (.agg #[.int .i64 x0,.int .i64 x1,.int .i64 x2,.int .i64 x3]) rfl #[.int .i64 x0,.int .i64 x1,.int .i64 x2,.int .i64 x3] rfl i1 _ Tryz.underlying27 hi1 hy0 (by rw [hy1];rfl) (by show 0<4;decide) (by show 4≤1000;decide) ?_;obtain ⟨W6,hW6⟩:∃ W6,W6=w3.drew.alloc (.cells #[.int .i64 x0,.int .i64 x1,.int .i64 x2,.int .i64 x3] 80):=⟨_,rfl⟩
  have b6:Below w3.drew.heap.size w3.drew W6:=by rw [hW6];exact (QB _ _).alloc (QN _) _
  have x6:W6.heap[w3.drew.heap.size]?=some (.cells #[.int .i64 x0,.int .i64 x1,.int .i64 x2,.int .i64 x3] 80):=by rw [hW6];exact QW _ _
  rw [← hW6];refine hK _ _ (Wr.of_below b6) ?_;clear hW6;have hB:Below w3.heap.size w3 W6:=bD.trans b6;have inv:=(QG I3).grow hB;have own3:=(QG O3)
  have ownP:W6.ownsRow Y.heap.size 80 4 (.slice o.1 i o.2) i (L.flatMap Qbp):=Qac own3 fun b hb=>hB.block b (own3.lt b hb).2
  have H6:=QQ (QA hB inv);have s6:=b6.size;have s6':w3.heap.size≤W6.heap.size:=s6;clear hB inv own3 b6;clear hK K;refine QaN (fun K hK=>?_);go_simp;refine hK _ ?_;clear hK K;refine QaU 21 rfl (by kernel_rfl) (by rfl) (fun K hK=>?_)
  refine QaQ (.tmp 149) (.tmp 168) 27 rfl Y.heap.size 80 i1 _ 4 32 Tryz.underlying27 hi1 hy0 hy1 hy2 rfl (by decide) (.slice o.1 i o.2) i (L.flatMap Qbp) rfl ownP (some ⟨w3.drew.heap.size,0,none⟩) 1 1 [.int .i64 x0,.int .i64 x1,.int .i64 x2,.int .i64 x3] rfl rfl (by simp [Value.oneCell']) (.inr ⟨_,_,rfl,fun j u hj=>by
   rw [Nat.zero_add,cell_of_row W6 _ j _ _ _ x6];simpa using hj⟩) (by omega) (by simp only [maxLen];omega) (by omega) ?_
  intro v7 w7 o7 gr7 hv7;obtain ⟨hB,inv⟩:=(QG H6);obtain ⟨hLl,hL⟩:=(QG HLL)
  have hrow:∀ b,(Value.slice o.1 i o.2).ownBlock=some b→Y.heap.size≤b∧b<A.heap.size:=fun b hb=>by
   have:=(QG OWN);exact this.lt b hb
  rw [show [Value.int .i64 x0,.int .i64 x1,.int .i64 x2,.int .i64 x3]=Qbp (Qgn ws) from (QG HWT).symm] at o7;obtain ⟨g,c7,hv',eT7,inv7⟩:=inv.putK (Qgn ws) (v':=v7) (by rw [show ({ x with K:=L }:Mem).K.length=i from hLl];exact QaI o7 hTm (fun _ _=>rfl)) (by rw [show ({ x with K:=L }:Mem).K.length=i from hLl];exact gr7);rw [show ({ x with K:=L }:Mem).K.length+1=i+1 from congrArg (·+1) hLl] at hv';subst hv';obtain ⟨w8,hw8⟩:∃ w,w=(w7.setRow T (((({ x with K:=L }:Mem).cells { s with k:=o }).toArray).setIfInBounds 4 (.slice (some ⟨g,0,none⟩) (i+1) c7))):=⟨_,rfl⟩
  have hoth:∀ b,b≠T→w8.heap[b]?=w7.heap[b]?:=fun b hb=>by rw [hw8];exact setRow_other _ _ _ _ hb
  have s8:w8.heap.size=w7.heap.size:=by rw [hw8,size_setRow]
  have s7:=gr7.size;rw [← hw8] at inv7
  have hL8:L++[Qgn ws]=((k.sel 19).take (i+1)).map (fun e=>Qgn (Qbd e.1)):=by rw [hL,show ((k.sel 19).take (i+1)).map (fun e=>Qgn (Qbd e.1))=_ from HCAT]
  have hl8:(L++[Qgn ws]).length=i+1:=by rw [QL,hLl];rfl
  have own8:w8.ownsRow Y.heap.size 80 4 (.slice (some ⟨g,0,none⟩) (L++[Qgn ws]).length c7) (L++[Qgn ws]).length ((L++[Qgn ws]).flatMap Qbp):=by
   rw [hl8,List.flatMap_append,show [Qgn ws].flatMap Qbp=Qbp (Qgn ws) by simp]
   exact Qac o7 fun b hb=>hoth b (by have:=(o7.lt b hb).1;omega)
  have bT:=(QG BT);have sbT:=bT.size;obtain ⟨e31,e32,e33⟩:=(QG E3);have k3:=(QG K3);have hvb:=(QG HVB);have sW6:=hB.size
  have bT8:Below T V w8:=⟨by rw [hw8];exact gr7.os.trans (hB.os.trans (e31.trans bT.os)),by rw [hw8];exact gr7.tape.trans (hB.tape.trans (e32.trans bT.tape)),by rw [hw8];exact gr7.output.trans (hB.output.trans (e33.trans bT.output)),by omega,fun b hb=>by
   rw [hoth b (by omega),gr7.block b (by omega) (fun e=>by have:=(hrow b e.symm).1;omega),hB.block b (by omega),k3 b (by omega) (fun e=>by have:=(hvb b e).1;omega)]
   exact bT.block b hb⟩
  have hw7:Wr Rg Rg W6 w7:=Wr.grown (Wr.refl Rg W6) gr7 fun b hb=>.inl (by rw [show Rg=_ from HRG];exact hb)
  have hw78:Wr Sg Sg w7 w8:=by rw [hw8];exact (Wr.refl Sg w7).setRow (.inl (by rw [show Sg=_ from HSG];exact .inl rfl)) _
  have wr8:Wr (fun b=>(b=T∨(Value.slice o.1 L.length o.2).ownBlock=some b)∨v.ownBlock=some b) (fun b=>b=T∨(Value.slice (some ⟨g,0,none⟩) (L++[Qgn ws]).length c7).ownBlock=some b) A w8:=by
   refine ⟨by rw [hw8];exact gr7.os.trans (hB.os.trans e31),by rw [hw8];exact gr7.tape.trans (hB.tape.trans e32),by rw [hw8];exact gr7.output.trans (hB.output.trans e33),by omega,fun b hb hs=>?_,fun b hb=>?_⟩
   ·rw [hoth b (fun e=>hs (.inl (.inl e))),gr7.block b (by omega) (fun e=>hs (.inl (.inr (by rw [hLl];exact e.symm)))),hB.block b (by omega),k3 b hb (fun e=>hs (.inr e))]
   ·rcases hb with hb | hb
    ·exact .inl (.inl (.inl hb))
    ·rcases hv7 with h1 | h1
     ·exact .inl (.inl (.inr (by rw [hLl];exact h1.symm.trans hb)))
     ·right
      have:some b=some W6.heap.size:=hb.symm.trans h1
      injection this with this
      omega
  have IALL:=QQ (QA inv7 (QA bT8 (QA own8 (QA hL8 wr8))));have HW8:=QQ (QA hw8 hw78);clear inv7 own8 bT8 wr8 hL8 hw8 hw78 inv hB hLl hL hrow hoth s8 bT sbT o7 gr7 hv7 x6 ownP hl8 hvb k3 e31 e32 e33;refine hK _ _ hw7 ?_;clear hw7;clear hK K;refine QaN (fun K hK=>?_);go_simp;refine hK _ ?_;clear hK K;refine Qcm (by kernel_rfl) ?_;refine Qal (fun K hK=>?_);go_simp;refine hK _ ?_;clear hK K;refine Qam [22] (by kernel_rfl) (by kernel_rfl) ?_
  iterate 1
   first
   | (refine Qax (Qa.pre Sg) rfl (by rfl) (v:=?_) (fun W hW=>?_) (fun K hK=>?_);rotate_left;· (go_simp;first | done | rfl))
   | refine Qap (Qa.pre Sg) rfl (by rfl) (fun K hK=>?_)
   go_simp;refine hK _ ?_;clear hK K
  refine Qaw ?_;refine Qaq 23 rfl (by kernel_rfl) (by rfl) (fun K hK=>?_);refine QbG 27 (.tmp 170) (.tmp 169) rfl T 4 rfl (.slice (some ⟨g,0,none⟩) (i+1) c7) rfl rfl rfl 29 _ eT7 Qj0 (by simp [Mem.cells]) ?_;obtain ⟨hw8,hw78⟩:=(QG HW8);rw [← hw8];refine hK _ _ hw78 ?_;clear eT7 hw8 hw78;clear hK K;refine Qal (fun K hK=>?_);go_simp;refine hK _ ?_;clear hK K;refine QaR (by kernel_rfl) ?_
  gi_wp2
  obtain ⟨inv4,bT4,own4,hL4,wr4⟩:=(QG IALL);exact ⟨_,⟨(some ⟨g,0,none⟩,c7),_,hL4,inv4,bT4,own4,rfl⟩,wr4⟩
 case done =>
  rintro D S A hD hS ⟨o,L,hL,inv,bT,own,rfl⟩ hK;refine (QG AK) _ _ ?_;rw [hsel,List.take_length] at hL;subst hL
  have hnd:D ∉ ds:=fun h=>by have:=hdl D h;omega
  have inv':QaZ W a fs.length cap k T { x with K:=(k.sel 19).map (fun e=>Qgn (Qbd e.1)) } A { s with k:=o } (D::ds):=⟨inv.fields,inv.cnt,inv.below,inv.eR,inv.eT,inv.hT,inv.own,fun D' hD'=>(List.mem_cons.1 hD').elim (fun e=>by rw [e];exact ⟨by omega,hK⟩) (fun h=>inv.marks D' h),List.nodup_cons.2 ⟨hnd,inv.nodup⟩⟩;exact (QG HN) _ _ _ _ _ _ _ _ _ _ _ _ _ _ _ _ _ _ _ _ _ _ _ _ _ _ _ _ _ _ _ _ _ _ _ _ _ _ _ _ _ _ _ _ _ _ _ _ _ _ _ _ _ _ _ _ _ _ _ _ _ _ _ _ _ _ _ _ _ _ _ _ _ _ _ _ _ _ _ _ _ _ _ _ _ _ _ _ _ _ _ _ _ _ _ _ _ _ _ _ _ _ _ _ _ _ _ _ _ _ _ _ _ _ _ _ _ _ _ _ _ _ _ _ _ _ _ _ _ _ _ _ _ _ _ _ _ _ _ _ _ _ _ _ _ _ _ _ _ _ _ _ _ _ _ _ _ _ _ _ _ _ _ _ _ _ _ _ _ _ _ _ _ _ _ _ _ _ _ _ _ _ A _ (D::ds) inv'
 case stop =>
  rintro D c i S A hD hS hk h hK;exact h.elim
end
section
attribute [local go_sem] Oper.semAt_some
theorem Qpx {x:Mem} {s:Sl5} {L:List (Pp × (Option Addr × Nat))} {o:Option Addr × Nat} {b:Nat} (h:Qd3 { x with B:=L } { s with b:=o } b):Qd3 x s b∨Qd3 { Mem.none with B:=L } { Sl5.none with b:=o } b:=by
 rcases h with h | h | h | h | h | h | h
 ·exact .inl (.inl h)
 ·exact .inl (.inr (.inl h))
 ·exact .inr (.inr (.inr (.inl h)))
 ·exact .inl (.inr (.inr (.inr (.inl h))))
 ·exact .inl (.inr (.inr (.inr (.inr (.inl h)))))
 ·exact .inl (.inr (.inr (.inr (.inr (.inr (.inl h))))))
 ·exact .inr (.inr (.inr (.inr (.inr (.inr (.inr h))))))
theorem QkV {L:List (Pp × (Option Addr × Nat))} {z:Pp × (Option Addr × Nat)} {o o':Option Addr × Nat} {b:Nat} (h:Qd3 { Mem.none with B:=L++[z] } { Sl5.none with b:=o' } b) :
  Qd3 { Mem.none with B:=L } { Sl5.none with b:=o } b∨(Value.slice o'.1 (L++[z]).length o'.2).ownBlock=some b∨(Value.slice z.2.1 z.1.bytes.length z.2.2).ownBlock=some b:=by
 rcases h with h | h | h | h | h | ⟨q,hq,h⟩ | ⟨q,hq,h⟩
 ·cases h
 ·cases h
 ·exact .inr (.inl h)
 ·cases h
 ·cases h
 ·cases hq
 ·rcases List.mem_append.1 hq with hq | hq
  ·exact .inl (.inr (.inr (.inr (.inr (.inr (.inr ⟨q,hq,h⟩))))))
  ·rw [List.mem_singleton.1 hq] at h;exact .inr (.inr h)
def QgV (k:Forest):Pp:=⟨Qao (Qah k 3 0),QcF (Qah k 4 0),QcF (Qah k 5 0)⟩
theorem QgG {W w1:World} {r:Option (List Int × Forest)} {tag:Int} (ht:tag<128) {e:Ending} (h:QcD W r tag e w1) :
  Below W.heap.size W w1∧∃ (t:Int) (a1:Option Addr) (l1 c1:Nat) (ka:Option Addr) (kl kc:Nat) (ok:Bool),e=.returned (.tuple #[.agg #[.int .i64 t,.slice a1 l1 c1,.slice ka kl kc],.bool ok])∧(QaL w1.heap.size w1 (.slice a1 l1 c1) (Qao r)∧(Qao r).length≤20000) ∧
   (Qd1 (if t<128∧(Qao r).length=8 then Qek (Qao r) else 0)=QcF r∧0≤(if t<128∧(Qao r).length=8 then Qek (Qao r) else 0)∧(if t<128∧(Qao r).length=8 then Qek (Qao r) else 0)<18446744073709551616):=by
 obtain ⟨b1,F1⟩:=h;refine ⟨b1,?_⟩
 cases r with
 | none=>exact ⟨0,none,0,0,none,0,0,false,F1,⟨Qdu _ _,by simp [Qao]⟩,by simp [QcF,Qd1,Qao],by simp [Qao],by simp [Qao]⟩
 | some p =>
  obtain ⟨bs,k⟩:=p;obtain ⟨a1,l1,c1,ka,kl,kc,rfl,F2⟩:=F1;have hb:=Qe0 F2.row.2
  have e1:(if tag<128∧bs.length=8 then Qek bs else 0)=QiW bs:=by unfold QiW;simp [ht]
  exact ⟨tag,a1,l1,c1,ka,kl,kc,true,rfl,⟨F2.row,by have:=F2.small;show bs.length≤20000;omega⟩,by show Qd1 (if tag<128∧bs.length=8 then Qek bs else 0)=_;rw [e1];rfl,by show 0≤(if tag<128∧bs.length=8 then Qek bs else 0);rw [e1];exact hb.1,by show (if tag<128∧bs.length=8 then Qek bs else 0)<_;rw [e1];exact hb.2⟩
theorem QiG:(Tryz.prog.info? 68).map (fun i=>(i.zero,i.size,i.bytes))=some (some (.agg #[.slice none 0 0,.int .i64 0,.int .i64 0]),3,40):=by kernel_rfl
theorem Qds:(Tryz.prog.info? 68).map (·.size)=some 3:=by kernel_rfl
theorem Qny:(Tryz.prog.info? 22).map (·.size)=some 1:=by kernel_rfl
theorem Qhs:(Tryz.prog.info? 25).map (·.size)=some 1:=by kernel_rfl
theorem QqU (Q:Exit→Act→World→Prop) (W:World) (v0:Value) (a:Option Addr) (len cap:Nat) (k:Forest) (T:Nat) (x:Mem) (hx:x.B=[])
  (hn:∀ L:List (Pp × (Option Addr × Nat)),L.map (·.1)=(k.sel 131).map (fun e=>QgV e.2)→QcQ Q W v0 a len cap k T (tl 8 (Tryz.f5.body.getD .skip)) { x with B:=L }) :
  QcQ Q W v0 a len cap k T (tl 7 (Tryz.f5.body.getD .skip)) x:=by
 intro v1 v4 v5 u8 u9 u10 u11 u12 u13 u14 u15 u16 u17 u18 u19 u20 u21 u22 u23 u24 u25 u26 u27 u28 u29 u30 u31 u32 u33 u34 u35 u36 u37 u38 u39 u40 u41 u42 u43 u44 u45 u46 u47 u48 u49 u50 u51 u52 u53 u54 u55 u56 u57 u58 u59 u60 u61 u62 u63 u64 u65 u66 u67 u68 u69 u70 u71 u72 u73 u74 u75 u76 u77 u78 u79 u80 u81 u82 u83 u84 u85 u86 u87 u88 u89 u90 u91 u92 u93 u94 u95 u96 u97 u98 u99 u100 u101 u102 u103 u104 u105 u106 u107 u108 u109 u110 u111 u112 u113 u114 u115 u116 u117 u118 u119 u120 u121 u122 u123 u124 u125 u126 u127 u128 u129 u130 u131 u132 u133 u134 u135 u136 u137 u138 u139 u140 u141 u142 u143 u144 u145 u146 u147 u148 u149 u150 u151 u152 u153 u154 u155 u156 u157 u158 u159 u160 u161 u162 u163 u164 u165 u166 u167 u168 u169 u170 u171 u172 u173 u174 u175 u176 u177 u178 u179 u180 u181 u182 u183 u184 u185 u186 V s ds h;have HN:=QQ hn;clear hn;obtain ⟨fs,F1,F2,F3⟩:=h.fields.fes;subst F3;have hcnt:=h.cnt;have lT:=h.lT;have hT:=h.hT
 have hsm:fs.length≤1000000:=by have:=Fes.length fs k F1;have:=Forest.length_le_cnt k;omega
 have hbs:∀ e∈fs,e.2.length≤1048576:=fun e he=>by have:=Fes.small fs k F1 e he;omega
 have hby:∀ e∈fs,QaL T V (.slice e.1.a e.1.l e.1.c) e.2:=fun e he=>Fes.rows fs k F1 e he
 have hch3:Fence.wide.fn 16:=trivial;have HH:=QQ h;clear h
 conv=>arg 4;whnf
 refine wpIn_seq_k (fun K' aK=>?_);have AK:=QQ aK;clear aK
 gi_wp2_with (gi_at_call 16;refine (QeV Fence.wide _ trivial rfl _ _ _ _ _).mono ?_;rintro e w' ⟨rfl,rfl⟩)
 obtain ⟨Y,hY⟩:∃ Y,Y=(V.alloc (.cells #[.slice a fs.length cap] 59)).alloc (.cells #[.int .i64 131] 3):=⟨_,rfl⟩
 have bwX:Below V.heap.size V Y:=by rw [hY];exact ((QB _ _).alloc (QN _) _).alloc (by simp) _
 have sY:V.heap.size+2=Y.heap.size:=by rw [hY];simp
 rw [← hY];have h:=(QG HH)
 have hmb:∀ b,Qd3 x s b→b<V.heap.size:=fun b hb=>(h.own.lt b hb).2
 have hdl:∀ D∈ds,D<V.heap.size:=fun D hD=>h.markLt hD
 have hso:s.b=(none,0):=h.own.empty.2.2.1 hx;have hsel:(Qak 131 fs).length=(k.sel 131).length:=(F1.hits 131).1
 have hlen:(k.sel 131).length≤1000000:=by
  have:=List.length_filter_le (fun x:Fe × List Int=>x.1.t == 131) fs;rw [← hsel];unfold Qak;omega
 clear h
 refine QcX V T (Nat.le_of_lt lT) a fs.length cap 131 fs hY rfl rfl F2 hby hsm hbs rfl
  (fun i S A=>∃ (o:Option Addr × Nat) (L:List (Pp × (Option Addr × Nat))),L.map (·.1)=((k.sel 131).take i).map (fun e=>QgV e.2)∧QaZ W a fs.length cap k T { x with B:=L } A { s with b:=o } ds∧Below T V A∧Qbf Y.heap.size A { Mem.none with B:=L } { Sl5.none with b:=o }∧S=fun b=>b=T∨Qd3 { Mem.none with B:=L } { Sl5.none with b:=o } b)
  (fun c i S A=>False) (fun b=>b=T∨Qd3 Mem.none Sl5.none b) (fun b hb=>by rcases hb with rfl | hb;exact ⟨QN _,lT⟩;exact (QiL hb).elim) ?hI ?hIx ?hlt ?h0 (fun args m A=>∀ cs,args.getD 0 undef=.agg cs→A.heap[m]?=some (.cells cs 66)) (fun _ _ _ _ he hA cs hcs=>he.trans (hA cs hcs))
  (fun args m=>{ tmps:=#[v0,v1,.pointer (some ⟨W.heap.size,0,none⟩),.int .i64 0,v4,v5,.slice a fs.length cap,.pointer (some ⟨T,0,none⟩),u8,.pointer (some ⟨m,0,none⟩),u10,u11,u12,u13,u14,u15,u16,u17,u18,u19,u20,u21,u22,u23,u24,u25,u26,u27,u28,u29,u30,u31,u32,u33,u34,u35,u36,u37,u38,u39,u40,u41,u42,u43,u44,u45,u46,u47,u48,u49,u50,u51,u52,u53,u54,u55,u56,u57,u58,.slice a fs.length cap,.func (.func 57) #[] #[.pointer (some ⟨V.heap.size,0,none⟩),.pointer (some ⟨V.heap.size+1,0,none⟩)],args.getD 0 undef,args.getD 1 undef,u63,u64,u65,u66,u67,u68,u69,u70,u71,u72,u73,u74,u75,u76,u77,u78,u79,u80,u81,u82,u83,u84,u85,u86,u87,u88,u89,u90,u91,u92,u93,u94,u95,u96,u97,u98,u99,u100,u101,u102,u103,u104,u105,u106,u107,u108,u109,u110,u111,u112,u113,u114,u115,u116,u117,u118,u119,u120,u121,u122,u123,u124,u125,u126,u127,u128,u129,u130,u131,u132,u133,u134,u135,u136,u137,u138,u139,u140,u141,u142,u143,u144,u145,u146,u147,u148,u149,u150,u151,u152,u153,u154,u155,u156,u157,u158,u159,u160,u161,u162,u163,u164,u165,u166,u167,u168,u169,u170,u171,u172,u173,u174,u175,u176,u177,u178,u179,u180,u181,u182,u183,u184,u185,u186],defers:=[] }) ?assign ?body ?done ?stop
 case hI =>
  rintro i S A A' ⟨o,L,hL,inv,bT,own,rfl⟩ hs;refine ⟨o,L,hL,inv.same hs.os hs.tape hs.output hs.size (fun b hb=>hs.block b ?_),bT.trans ⟨hs.os,hs.tape,hs.output,hs.size,fun b hb=>hs.block b (.inl (by omega))⟩,own.keep (QN _) (fun b hb=>hs.block b (.inr (.inr hb))),rfl⟩
  rcases hb with hb | hb | hb
  ·left;omega
  ·exact (Qpx hb).elim (fun h=>.inl (by have:=hmb b h;omega)) (fun h=>.inr (.inr h))
  ·left;have:=hdl b hb;omega
 case hIx=>intro c i S A A' h;exact h.elim
 case hlt =>
  rintro i S A ⟨o,L,hL,inv,bT,own,rfl⟩ b hb
  rcases hb with rfl | hb
  ·exact inv.lT
  ·exact (own.lt b hb).2
 case h0 =>
  have h:=(QG HH).grow bwX
  have e:({ x with B:=[] }:Mem)=x:=by cases x;simp at hx;subst hx;rfl
  have e2:({ s with b:=(none,0) }:Sl5)=s:=by rw [← hso]
  exact ⟨(none,0),[],by simp,by rw [e,e2];exact h,bwX.mono (Nat.le_of_lt lT),Qbf.nil _ _,rfl⟩
 case assign =>
  rintro l i hi A args G K ⟨v,rfl,_⟩ hK
  gi_wp2_with ((fail_if_success (unfold Qag));refine QaV (t:=66) rfl ?_)
  unfold Qag;obtain ⟨cs,hcs⟩:∃ cs:Array Value,cs=((Qak 131 fs)[i]).1.cells.toArray:=⟨_,rfl⟩
  have hc3:cs.size=3:=by rw [hcs];rfl
  have hc1:cs.all (·.oneCell')=true:=by rw [hcs];simp [Fe.cells,Value.oneCell']
  refine QaD rfl 66 (.tmp 9) (.tmp 61) rfl A.heap.size cs rfl (by rw [hcs];rfl) 66 _ (QW _ _) (by rw [hc3];exact Qdi) (by rw [hc3];rfl) hc1 ?_
  gi_wp2
  refine hK _ (Qaj ((QB _ A).alloc (QN _) _) (QN _) _) (fun cs' hcs'=>?_)
  have e:cs'=cs:=by rw [hcs];injection hcs' with e;exact e.symm
  rw [e];exact setRow_heap _ _ _ _ _ _ (QW _ _)
 case body =>
  rintro l i hi S A m args G ⟨o,L,hL,inv,bT,own,rfl⟩ hm1 hm2 hm3 hm4 hAf ⟨v,rfl,q4,rfl⟩ hG;have hcf:Fence.wide.fn 17:=trivial;have hcv:Fence.wide.fn 18:=trivial;have hcc:Fence.wide.fn 19:=trivial;have hA:=hAf _ rfl
  have hi2:i<(k.sel 131).length:=by omega
  obtain ⟨g1,g2,g3,g4⟩:=(F1.hits 131).2 i hi hi2;obtain ⟨kid,hkid⟩:∃ kid,kid=((k.sel 131)[i]).2:=⟨_,rfl⟩
  have hkc:kid.cnt≤20000:=by rw [hkid];exact Nat.le_trans (Qdd (List.getElem_mem hi2)) hcnt
  rw [← hkid] at g4
  have hcat:((k.sel 131).take (i+1)).map (fun e=>QgV e.2)=((k.sel 131).take i).map (fun e=>QgV e.2)++[QgV kid]:=by rw [List.take_succ_eq_append_getElem hi2,List.map_append,hkid];rfl
  have hLl:L.length=i:=by have:=congrArg List.length hL;rw [QM,QM,List.length_take] at this;omega
  have kidA:SlF A.heap.size A ((Qak 131 fs)[i]).1.ka ((Qak 131 fs)[i]).1.kl ((Qak 131 fs)[i]).1.kc kid:=(g4.below bT).mono (Nat.le_of_lt inv.lT)
  have z2:A.cell? ⟨m,2,none⟩=some (.slice ((Qak 131 fs)[i]).1.ka ((Qak 131 fs)[i]).1.kl ((Qak 131 fs)[i]).1.kc):=by rw [cell_of_row A m 2 _ _ _ hA];rfl
  have lmA:m<A.heap.size:=(QI.1 hA).1;have lTA:=inv.lT
  have hi5:i≤1000000:=by omega
  obtain ⟨ag,hag⟩:∃ ag:Value,ag=.agg (((Qak 131 fs)[i]).1.cells).toArray:=⟨_,rfl⟩;rw [← hag];obtain ⟨ka,hka⟩:∃ y,y=((Qak 131 fs)[i]).1.ka:=⟨_,rfl⟩;obtain ⟨kl,hkl⟩:∃ y,y=((Qak 131 fs)[i]).1.kl:=⟨_,rfl⟩;obtain ⟨kc,hkc2⟩:∃ y,y=((Qak 131 fs)[i]).1.kc:=⟨_,rfl⟩;rw [← hka,← hkl,← hkc2] at kidA z2;have INV:=QQ inv;have OWN:=QQ own;have BT:=QQ bT;have HCAT:=QQ hcat;have HLL:=QQ (QA hLl hL);obtain ⟨i0,hi0,hz0,hz1,hz2⟩:=info_parts QiG
  have hTm:T+1≤Y.heap.size:=by omega
  have hYA:Y.heap.size≤A.heap.size:=by omega
  have KF:=QQ (show ∀ (V:World),Below A.heap.size A V→∀ tag:Int,Calls Tryz.prog 17 #[.slice ka kl kc,.int .i64 tag,.int .i64 0] V (QcD V (Qah kid tag 0) tag) from fun V hV tag=>QhL kid V A.heap.size hV.size ka kl kc (kidA.below hV) hkc tag 0 (by decide) (by decide));clear hA hAf inv own bT q4 hG hcat g1 g2 g3 g4 hag hka hkl hkc2 kidA hLl hL hm1 hm2 hm3 hm4
  gi_wp2_with ((fail_if_success (unfold Qag));refine QaV (t:=68) rfl ?_)
  unfold Qag;refine QaD rfl 68 (.tmp 10) (.tmp 63) rfl A.heap.size #[.slice none 0 0,.int .i64 0,.int .i64 0] rfl rfl 68 _ (QW _ _) Qds rfl (by simp [Value.oneCell']) ?_;rw [World.setRow_alloc_new];obtain ⟨V0,hV0⟩:∃ V,V=A.alloc (.cells #[.slice none 0 0,.int .i64 0,.int .i64 0] 68):=⟨_,rfl⟩
  have x0:V0.heap[A.heap.size]?=some (.cells #[.slice none 0 0,.int .i64 0,.int .i64 0] 68):=by rw [hV0];exact QW _ _
  have bV0:Below A.heap.size A V0:=by rw [hV0];exact (QB _ _).alloc (QN _) _
  have s0:V0.heap.size=A.heap.size+1:=by rw [hV0];simp
  rw [← hV0];have zV0:V0.cell? ⟨m,2,none⟩=some (.slice ka kl kc):=(bV0.cell (p:=⟨m,2,none⟩) lmA).trans z2;clear hV0
  gi_wp2_with (gi_at_call 17;refine Qau ?_)
  unfold Qag;refine (Qd8 _ _ ((QG KF) V0 bV0 3)).mono ?_;intro e1 w1 hw1;obtain ⟨bw1,t1,a1,l1,c1,ka1,kl1,kc1,ok1,rfl,hrow1,hval1⟩:=QgG (by decide) hw1;clear hw1;have hd1:V0.heap.size≤w1.heap.size:=bw1.size
  gi_wp2_with ((fail_if_success (unfold Qag));refine QaV (t:=66) rfl ?_)
  unfold Qag;refine QaD rfl 66 (.tmp 11) (.tmp 68) rfl w1.heap.size #[.int .i64 t1,.slice a1 l1 c1,.slice ka1 kl1 kc1] rfl rfl 66 zT (QW _ _) QbO rfl (QaS ..) ?_;rw [World.setRow_alloc_new];obtain ⟨V1,hV1⟩:∃ V,V=w1.alloc (.cells #[.int .i64 t1,.slice a1 l1 c1,.slice ka1 kl1 kc1] 66):=⟨_,rfl⟩
  have x1:V1.heap[w1.heap.size]?=some (.cells #[.int .i64 t1,.slice a1 l1 c1,.slice ka1 kl1 kc1] 66):=by rw [hV1];exact QW _ _
  have bn1:Below V0.heap.size V0 V1:=bw1.trans (by rw [hV1];exact (QB _ _).alloc hd1 _)
  have s1:V1.heap.size=w1.heap.size+1:=by rw [hV1];simp
  have bV1:Below A.heap.size A V1:=bV0.trans (bn1.mono bV0.size);have hrw1:QaL V1.heap.size V1 (.slice a1 l1 c1) (Qao (Qah kid 3 0)):=(hrow1.1.below (by rw [hV1];exact (QB _ _).alloc (QN _) _)).mono (by omega);rw [← hV1];have zV1:V1.cell? ⟨m,2,none⟩=some (.slice ka kl kc):=(bn1.cell (p:=⟨m,2,none⟩) (show m<V0.heap.size by have:=bV0.size;omega)).trans zV0;clear hV1 bw1
  gi_wp2_with (gi_at_call 17;refine Qau ?_)
  unfold Qag;refine (Qd8 _ _ ((QG KF) V1 bV1 4)).mono ?_;intro e2 w2 hw2;obtain ⟨bw2,t2,a2,l2,c2,ka2,kl2,kc2,ok2,rfl,hrow2,hval2⟩:=QgG (by decide) hw2;clear hw2;have hd2:V1.heap.size≤w2.heap.size:=bw2.size
  gi_wp2_with ((fail_if_success (unfold Qag));refine QaV (t:=66) rfl ?_)
  unfold Qag;refine QaD rfl 66 (.tmp 13) (.tmp 74) rfl w2.heap.size #[.int .i64 t2,.slice a2 l2 c2,.slice ka2 kl2 kc2] rfl rfl 66 zT (QW _ _) QbO rfl (QaS ..) ?_;rw [World.setRow_alloc_new];obtain ⟨V2,hV2⟩:∃ V,V=w2.alloc (.cells #[.int .i64 t2,.slice a2 l2 c2,.slice ka2 kl2 kc2] 66):=⟨_,rfl⟩
  have x2:V2.heap[w2.heap.size]?=some (.cells #[.int .i64 t2,.slice a2 l2 c2,.slice ka2 kl2 kc2] 66):=by rw [hV2];exact QW _ _
  have bn2:Below V1.heap.size V1 V2:=bw2.trans (by rw [hV2];exact (QB _ _).alloc hd2 _)
  have s2:V2.heap.size=w2.heap.size+1:=by rw [hV2];simp
  have bV2:Below A.heap.size A V2:=bV1.trans (bn2.mono bV1.size);have hrw2:QaL V2.heap.size V2 (.slice a2 l2 c2) (Qao (Qah kid 4 0)):=(hrow2.1.below (by rw [hV2];exact (QB _ _).alloc (QN _) _)).mono (by omega);rw [← hV2];have zV2:V2.cell? ⟨m,2,none⟩=some (.slice ka kl kc):=(bn2.cell (p:=⟨m,2,none⟩) (show m<V1.heap.size by have:=bV1.size;omega)).trans zV1;clear hV2 bw2
  gi_wp2_with (gi_at_call 17;refine Qau ?_)
  unfold Qag;refine (Qd8 _ _ ((QG KF) V2 bV2 5)).mono ?_;intro e3 w3 hw3;obtain ⟨bw3,t3,a3,l3,c3,ka3,kl3,kc3,ok3,rfl,hrow3,hval3⟩:=QgG (by decide) hw3;clear hw3;have hd3:V2.heap.size≤w3.heap.size:=bw3.size
  gi_wp2_with ((fail_if_success (unfold Qag));refine QaV (t:=66) rfl ?_)
  unfold Qag;refine QaD rfl 66 (.tmp 15) (.tmp 80) rfl w3.heap.size #[.int .i64 t3,.slice a3 l3 c3,.slice ka3 kl3 kc3] rfl rfl 66 zT (QW _ _) QbO rfl (QaS ..) ?_;rw [World.setRow_alloc_new];obtain ⟨V3,hV3⟩:∃ V,V=w3.alloc (.cells #[.int .i64 t3,.slice a3 l3 c3,.slice ka3 kl3 kc3] 66):=⟨_,rfl⟩
  have x3:V3.heap[w3.heap.size]?=some (.cells #[.int .i64 t3,.slice a3 l3 c3,.slice ka3 kl3 kc3] 66):=by rw [hV3];exact QW _ _
  have bn3:Below V2.heap.size V2 V3:=bw3.trans (by rw [hV3];exact (QB _ _).alloc hd3 _)
  have s3:V3.heap.size=w3.heap.size+1:=by rw [hV3];simp
  have bV3:Below A.heap.size A V3:=bV2.trans (bn3.mono bV2.size);have hrw3:QaL V3.heap.size V3 (.slice a3 l3 c3) (Qao (Qah kid 5 0)):=(hrow3.1.below (by rw [hV3];exact (QB _ _).alloc (QN _) _)).mono (by omega);rw [← hV3];have zV3:V3.cell? ⟨m,2,none⟩=some (.slice ka kl kc):=(bn3.cell (p:=⟨m,2,none⟩) (show m<V2.heap.size by have:=bV2.size;omega)).trans zV2;clear hV3 bw3;obtain ⟨n1,hn1⟩:∃ y,y=(if t2<128∧(Qao (Qah kid 4 0)).length=8 then Qek (Qao (Qah kid 4 0)) else 0):=⟨_,rfl⟩;obtain ⟨n2,hn2⟩:∃ y,y=(if t3<128∧(Qao (Qah kid 5 0)).length=8 then Qek (Qao (Qah kid 5 0)) else 0):=⟨_,rfl⟩;obtain ⟨m1,hm1⟩:∃ y,y=decide (t2<128∧(Qao (Qah kid 4 0)).length=8):=⟨_,rfl⟩;obtain ⟨m2,hm2⟩:∃ y,y=decide (t3<128∧(Qao (Qah kid 5 0)).length=8):=⟨_,rfl⟩;have sV1:=bn1.size;have sV2:=bn2.size;have sV3:=bn3.size;have sV0:=bV0.size;have kv4:=Qfs V3 V3.heap.size (QN _) t2 a2 l2 c2 (Qao (Qah kid 4 0)) ka2 kl2 kc2 ((hrw2.below bn3).mono sV3) (by have:=hrow2.2;omega);unfold Qgr at kv4;rw [← hn1,← hm1] at kv4;rw [← hn1] at hval2;rw [← hn2] at hval3;have b3V3:=QB V3.heap.size V3;have x2':V3.heap[w2.heap.size]?=some (.cells #[.int .i64 t2,.slice a2 l2 c2,.slice ka2 kl2 kc2] 66):=(bn3.block _ (by omega)).trans x2;have x1':V3.heap[w1.heap.size]?=some (.cells #[.int .i64 t1,.slice a1 l1 c1,.slice ka1 kl1 kc1] 66):=(bn3.block _ (by omega)).trans ((bn2.block _ (by omega)).trans x1);have x0':V3.heap[A.heap.size]?=some (.cells #[.slice none 0 0,.int .i64 0,.int .i64 0] 68):=(bn3.block _ (by omega)).trans ((bn2.block _ (by omega)).trans ((bn1.block _ (by omega)).trans x0));have hwn1:IntKind.i64.wrap n1=QcF (Qah kid 4 0):=(Qcp n1 hval2.2).trans hval2.1;have hwn2:IntKind.i64.wrap n2=QcF (Qah kid 5 0):=(Qcp n2 hval3.2).trans hval3.1;obtain ⟨r1,hr1⟩:∃ y,y=QcF (Qah kid 4 0):=⟨_,rfl⟩;obtain ⟨r2,hr2⟩:∃ y,y=QcF (Qah kid 5 0):=⟨_,rfl⟩;obtain ⟨zs,hzs⟩:∃ y,y=Qao (Qah kid 3 0):=⟨_,rfl⟩
  have hrw1':QaL V3.heap.size V3 (.slice a1 l1 c1) zs:=by rw [hzs];exact (((hrw1.below bn2).mono sV2).below bn3).mono sV3
  have hrw3':QaL V3.heap.size V3 (.slice a3 l3 c3) (Qao (Qah kid 5 0)):=hrw3
  have hzl:zs.length≤1000000000:=by rw [hzs];have:=hrow1.2;omega
  have h5l:(Qao (Qah kid 5 0)).length≤140737488350000:=by have:=hrow3.2;omega
  rw [← hr1] at hwn1;rw [← hr2] at hwn2;have HP:=QQ (show QgV kid=⟨zs,r1,r2⟩ by rw [hzs,hr1,hr2];rfl);have H3V:=QQ (QA hrw1' (QA hrw3' (QA hn2 hm2)));clear x0 x1 x2 hrow1 hrow2 hrow3 hrw1 hrw2 hrw3 hrw1' hrw3' hval1 hval2 hval3 hn1 hm1 hn2 hm2 hr1 hr2 hzs bn1 bn2 bn3 zV0 zV1 zV2 zV3 z2 KF;have y4:=x2'
  gi_wp2_with ((fail_if_success (unfold Qag));refine Qd5 (t:=66) rfl ?_)
  unfold Qag
  refine QbC rfl 66 (.tmp 13) rfl w2.heap.size 0 rfl [.int .i64 t2,.slice a2 l2 c2,.slice ka2 kl2 kc2] _ (fun j v hj=>by
   rw [cell_of_row V3 _ (0+j) _ _ _ y4,Nat.zero_add];simpa using hj) Tryz.underlying66 rfl Qdi ?_
  gi_wp2_with (gi_at_call 18;refine Qau ?_)
  unfold Qag;refine (Qd8 _ _ kv4).mono ?_;rintro e4 w4 ⟨bw4,rfl⟩;obtain ⟨hrw1',hrw3',hn2,hm2⟩:=(QG H3V);have sw4:=bw4.size;have kv5:=Qfs w4 w4.heap.size (QN _) t3 a3 l3 c3 (Qao (Qah kid 5 0)) ka3 kl3 kc3 ((hrw3'.below bw4).mono sw4) h5l;unfold Qgr at kv5;rw [← hn2,← hm2] at kv5;have hrw4:QaL w4.heap.size w4 (.slice a1 l1 c1) zs:=(hrw1'.below bw4).mono sw4;have y5:w4.heap[w3.heap.size]?=some (.cells #[.int .i64 t3,.slice a3 l3 c3,.slice ka3 kl3 kc3] 66):=(bw4.block _ (by omega)).trans x3;have H4:=QQ (QA hrw4 bw4);clear hrw1' hrw3' hn2 hm2 hrw4 bw4 kv4 y4
  gi_wp2_with ((fail_if_success (unfold Qag));refine Qd5 (t:=66) rfl ?_)
  unfold Qag
  refine QbC rfl 66 (.tmp 15) rfl w3.heap.size 0 rfl [.int .i64 t3,.slice a3 l3 c3,.slice ka3 kl3 kc3] _ (fun j v hj=>by
   rw [cell_of_row w4 _ (0+j) _ _ _ y5,Nat.zero_add];simpa using hj) Tryz.underlying66 rfl Qdi ?_
  gi_wp2_with (gi_at_call 18;refine Qau ?_)
  unfold Qag;refine (Qd8 _ _ kv5).mono ?_;rintro e5 w5 ⟨bw5,rfl⟩;obtain ⟨hrw4,bw4⟩:=(QG H4);have sw5:=bw5.size;have b35:Below V3.heap.size V3 w5:=bw4.trans (bw5.mono sw4)
  have y6:w5.cell? ⟨w1.heap.size,1,none⟩=some (.slice a1 l1 c1):=by rw [cell_of_row w5 _ 1 _ _ _ ((b35.block _ (by omega)).trans x1')];rfl
  have kc6:=Qfa a1 l1 c1 zs w5 w5.heap.size (QN _) ((hrw4.below bw5).mono sw5) hzl;have hx05:w5.heap[A.heap.size]?=some (.cells #[.slice none 0 0,.int .i64 0,.int .i64 0] 68):=(b35.block _ (by omega)).trans x0';have bA5:Below A.heap.size A w5:=bV3.trans (b35.mono (by omega));have H5:=QQ (QA hx05 bA5);clear hrw4 bw4 bw5 b35 hx05 bA5 kv5 y5 x0' x1' x2' x3 bV0 bV1 bV2 bV3 H4
  gi_wp2_with (gi_at_call 19;refine Qau ?_)
  unfold Qag;refine (Qd8 _ _ kc6).mono ?_;rintro e6 w6 ⟨vb,rfl,ob,bw6⟩;obtain ⟨ba,bc,rfl,hvb⟩:=Qaa ob;obtain ⟨hx05,bA5⟩:=(QG H5);have sw6:=bw6.size;have sA5:=bA5.size;have lP5:=(QI.1 hx05).1;have e6:w6.heap[A.heap.size]?=some (.cells #[.slice none 0 0,.int .i64 0,.int .i64 0] 68):=(bw6.block _ (by omega)).trans hx05;have bA6:Below A.heap.size A w6:=bA5.trans (bw6.mono sA5);have H6:=QQ (QA bA6 ob);have HV:=QQ hvb;clear hx05 bA5 bA6 ob bw6 kc6 y6 hvb H5 H3V
  gi_wp2_with ((fail_if_success (unfold Qag));refine QaV (t:=22) rfl ?_)
  unfold Qag;refine Qbe rfl 22 (.tmp 99) (.tmp 94) rfl A.heap.size 0 rfl (.slice ba l1 bc) rfl rfl rfl 68 _ e6 Qny (by decide) ?_;obtain ⟨w7,hw7⟩:∃ w,w=(w6.setRow A.heap.size ((#[.slice none 0 0,.int .i64 0,.int .i64 0]:Array Value).setIfInBounds 0 (.slice ba l1 bc))):=⟨_,rfl⟩
  have e7:w7.heap[A.heap.size]?=some (.cells #[.slice ba l1 bc,.int .i64 0,.int .i64 0] 68):=by rw [hw7];exact setRow_heap _ _ _ _ _ _ e6
  have o7:∀ b,b≠A.heap.size→w7.heap[b]?=w6.heap[b]?:=fun b hb=>by rw [hw7];exact setRow_other _ _ _ _ hb
  have s7:w7.heap.size=w6.heap.size:=by rw [hw7,size_setRow]
  have u7:w7.os=w6.os∧w7.tape=w6.tape∧w7.output=w6.output:=by rw [hw7];exact ⟨rfl,rfl,rfl⟩
  rw [← hw7];clear hw7 e6
  gi_wp2_with ((fail_if_success (unfold Qag));refine QaV (t:=3) rfl ?_)
  unfold Qag;refine Qbe rfl 3 (.tmp 100) (.tmp 96) rfl A.heap.size 1 rfl (.int .i64 r1) rfl rfl rfl 68 _ e7 Qgd (by simp) ?_;obtain ⟨w8,hw8⟩:∃ w,w=(w7.setRow A.heap.size ((#[.slice ba l1 bc,.int .i64 0,.int .i64 0]:Array Value).setIfInBounds 1 (.int .i64 r1))):=⟨_,rfl⟩
  have e8:w8.heap[A.heap.size]?=some (.cells #[.slice ba l1 bc,.int .i64 r1,.int .i64 0] 68):=by rw [hw8];exact setRow_heap _ _ _ _ _ _ e7
  have o8:∀ b,b≠A.heap.size→w8.heap[b]?=w6.heap[b]?:=fun b hb=>by rw [hw8];exact (setRow_other _ _ _ _ hb).trans (o7 b hb)
  have s8:w8.heap.size=w6.heap.size:=by rw [hw8,size_setRow,s7]
  have u8':w8.os=w6.os∧w8.tape=w6.tape∧w8.output=w6.output:=by rw [hw8];exact u7
  rw [← hw8];clear hw8 e7 o7 s7 u7
  gi_wp2_with ((fail_if_success (unfold Qag));refine QaV (t:=3) rfl ?_)
  unfold Qag;refine Qbe rfl 3 (.tmp 101) (.tmp 98) rfl A.heap.size 2 rfl (.int .i64 r2) rfl rfl rfl 68 _ e8 Qgd (by simp) ?_;obtain ⟨w9,hw9⟩:∃ w,w=(w8.setRow A.heap.size ((#[.slice ba l1 bc,.int .i64 r1,.int .i64 0]:Array Value).setIfInBounds 2 (.int .i64 r2))):=⟨_,rfl⟩
  have e9:w9.heap[A.heap.size]?=some (.cells #[.slice ba l1 bc,.int .i64 r1,.int .i64 r2] 68):=by rw [hw9];exact setRow_heap _ _ _ _ _ _ e8
  have o9:∀ b,b≠A.heap.size→w9.heap[b]?=w6.heap[b]?:=fun b hb=>by rw [hw9];exact (setRow_other _ _ _ _ hb).trans (o8 b hb)
  have s9:w9.heap.size=w6.heap.size:=by rw [hw9,size_setRow,s8]
  have u9':w9.os=w6.os∧w9.tape=w6.tape∧w9.output=w6.output:=by rw [hw9];exact u8'
  rw [← hw9];clear hw9 e8 o8 s8 u8';obtain ⟨bA6,ob⟩:=(QG H6);have hB:Below A.heap.size A w9:=⟨u9'.1.trans bA6.os,u9'.2.1.trans bA6.tape,u9'.2.2.trans bA6.output,by have:=bA6.size;omega,fun b hb=>(o9 b (by omega)).trans (bA6.block b hb)⟩
  have ob9:w9.ownsRow w5.heap.size 5 1 (.slice ba l1 bc) l1 (zs.map (Value.int .u8)):=Qac ob fun b hb=>o9 b (by have:=(ob.lt b hb).1;omega)
  have inv:=(QG INV).grow hB;have own:=(QG OWN);obtain ⟨hLl,hL⟩:=(QG HLL)
  have own9:Qbf Y.heap.size w9 { Mem.none with B:=L } { Sl5.none with b:=o }:=own.keep (QN _) fun b hb=>hB.block b (own.lt b hb).2
  have hrow:∀ b,(Value.slice o.1 i o.2).ownBlock=some b→Y.heap.size≤b∧b<A.heap.size:=fun b hb=>by
   have:=own.B;rw [show ({ Mem.none with B:=L }:Mem).B.length=i from hLl] at this;exact this.lt b hb
  have ownB:w9.ownsRow Y.heap.size 68 3 (.slice o.1 i o.2) i (L.flatMap QbN):=by have:=own9.B;rw [show ({ Mem.none with B:=L }:Mem).B.length=i from hLl] at this;exact this
  have cB:w9.cell? ⟨T,2,none⟩=some (.slice o.1 i o.2):=inv.atB.trans (congrArg (fun n=>some (Value.slice o.1 n o.2)) hLl);have HR:=QQ hrow;have H9:=QQ (QA hB (QA inv (QA own9 (QA ob9 ownB))));clear hB inv own hLl hL own9 ob9 ownB bA6 ob o9 s9 u9' hrow
  gi_wp2_with ((fail_if_success (unfold Qag));refine Qd5 (t:=68) rfl ?_)
  unfold Qag
  refine QbC rfl 68 (.tmp 10) rfl A.heap.size 0 rfl [.slice ba l1 bc,.int .i64 r1,.int .i64 r2] _ (fun j v hj=>by
   rw [cell_of_row w9 _ (0+j) _ _ _ e9,Nat.zero_add];simpa using hj) Tryz.underlying68 rfl Qds ?_
  gi_wp2_with (gi_at_builtin;refine Qau ?_)
  unfold Qag;obtain ⟨hB,inv,own9,ob9,ownB⟩:=(QG H9);obtain ⟨hLl,hL⟩:=(QG HLL);obtain ⟨w10,hw10⟩:∃ w,w=w9.alloc (.cells #[.slice ba l1 bc,.int .i64 r1,.int .i64 r2] 68):=⟨_,rfl⟩
  have b10:Below w9.heap.size w9 w10:=by rw [hw10];exact (QB _ _).alloc (QN _) _
  have s10:w10.heap.size=w9.heap.size+1:=by rw [hw10];simp
  have c10:=QbR w9 #[.slice ba l1 bc,.int .i64 r1,.int .i64 r2] 68;rw [← hw10] at c10 ⊢;clear hw10;have sB:=hB.size;refine wpListIn_append_own_at _ rfl _ _ 25 rfl Y.heap.size 68 i0 _ 3 40 Tryz.underlying25 hi0 hz0 hz1 hz2 rfl (by decide) (.slice o.1 i o.2) i _ (by rfl) (Qac ownB fun b hb=>b10.block b (ownB.lt b hb).2) ⟨w9.heap.size,0,none⟩ 1 1 [.slice ba l1 bc,.int .i64 r1,.int .i64 r2] (by rfl) rfl c10 (by simp [Value.oneCell']) (by simp only [maxLen];omega) (by omega) (by omega) ?_;intro v7 w11 o7 gr7 _ hv7;have hrow:=(QG HR);have hB10:Below A.heap.size A w10:=hB.trans (b10.mono sB);have inv10:=inv.grow b10
  have own10:Qbf Y.heap.size w10 { Mem.none with B:=L } { Sl5.none with b:=o }:=own9.keep (QN _) fun b hb=>b10.block b (own9.lt b hb).2
  have hzl1:l1=zs.length:=by have:=ob9.1;simpa using this.symm
  have pr7:w11.ownsRow A.heap.size 5 1 (.slice ba zs.length bc) zs.length (zs.map (Value.int .u8)):=by
   rw [← hzl1]
   refine QaI ob9 (by omega) fun b hb=>?_
   have:=ob9.lt b hb;rw [gr7.block b (by omega) (fun e=>by have:=(hrow b e.symm).2;omega),b10.block b (by omega)]
  have hpp:=(QG HP)
  have hcB:QbN (QgV kid,(ba,bc))=[.slice ba l1 bc,.int .i64 r1,.int .i64 r2]:=by rw [hpp,hzl1];rfl
  rw [← hcB] at o7
  have pr8:w11.ownsRow A.heap.size 5 1 (.slice ba (QgV kid).bytes.length bc) (QgV kid).bytes.length ((QgV kid).bytes.map (Value.int .u8)):=by rw [hpp];exact pr7
  obtain ⟨g,c7,hv',eT7,inv7⟩:=inv10.putB (QgV kid,(ba,bc)) (QaI pr8 (by omega) (fun _ _=>rfl)) (v':=v7) (by rw [show ({ x with B:=L }:Mem).B.length=i from hLl];exact QaI o7 hTm (fun _ _=>rfl)) (by rw [show ({ x with B:=L }:Mem).B.length=i from hLl];exact gr7);obtain ⟨g',c',hv2,own7⟩:=own10.putB (QgV kid,(ba,bc)) (QaI pr8 hYA (fun _ _=>rfl)) (v':=v7) (by rw [show ({ Mem.none with B:=L }:Mem).B.length=i from hLl];exact o7) (by rw [show ({ Mem.none with B:=L }:Mem).B.length=i from hLl];exact gr7);rw [hv'] at hv2
  injection hv2 with q1 _ q2
  injection q1 with q1
  injection q1 with q1
  subst q1 q2;rw [show ({ x with B:=L }:Mem).B.length+1=i+1 from congrArg (·+1) hLl] at hv';subst hv';obtain ⟨w12,hw12⟩:∃ w,w=(w11.setRow T (((({ x with B:=L }:Mem).cells { s with b:=o }).toArray).setIfInBounds 2 (.slice (some ⟨g,0,none⟩) (i+1) c7))):=⟨_,rfl⟩
  have hoth:∀ b,b≠T→w12.heap[b]?=w11.heap[b]?:=fun b hb=>by rw [hw12];exact setRow_other _ _ _ _ hb
  have s12:w12.heap.size=w11.heap.size:=by rw [hw12,size_setRow]
  have s11:=gr7.size;rw [← hw12] at inv7
  have own8:Qbf Y.heap.size w12 { Mem.none with B:=L++[(QgV kid,(ba,bc))] } { Sl5.none with b:=(some ⟨g,0,none⟩,c7) }:=own7.keep (QN _) fun b hb=>hoth b (by have:=(own7.lt b hb).1;omega)
  have bT:=(QG BT);have sbT:=bT.size
  have bT8:Below T V w12:=⟨by rw [hw12];exact gr7.os.trans (hB10.os.trans bT.os),by rw [hw12];exact gr7.tape.trans (hB10.tape.trans bT.tape),by rw [hw12];exact gr7.output.trans (hB10.output.trans bT.output),by omega,fun b hb=>by
   rw [hoth b (by omega),gr7.block b (by omega) (fun e=>by have:=(hrow b e.symm).1;omega),hB10.block b (by omega)]
   exact bT.block b hb⟩
  have hL8:(L++[(QgV kid,(ba,bc))]).map (·.1)=((k.sel 131).take (i+1)).map (fun e=>QgV e.2):=by
   rw [List.map_append,hL,show ((k.sel 131).take (i+1)).map (fun e=>QgV e.2)=_ from HCAT];rfl
  have wr8:Wr (fun b=>(b=T∨Qd3 { Mem.none with B:=L } { Sl5.none with b:=o } b)∨v.ownBlock=some b) (fun b=>b=T∨Qd3 { Mem.none with B:=L++[(QgV kid,(ba,bc))] } { Sl5.none with b:=(some ⟨g,0,none⟩,c7) } b) A w12:=by
   refine ⟨by rw [hw12];exact gr7.os.trans hB10.os,by rw [hw12];exact gr7.tape.trans hB10.tape,by rw [hw12];exact gr7.output.trans hB10.output,by omega,fun b hb hs=>?_,fun b hb=>?_⟩
   ·rw [hoth b (fun e=>hs (.inl (.inl e))),gr7.block b (by omega) (fun e=>hs (.inl (.inr (.inr (.inr (.inl (by rw [show ({ Mem.none with B:=L }:Mem).B.length=i from hLl];exact e.symm))))))),hB10.block b hb]
   ·rcases hb with hb | hb
    ·exact .inl (.inl (.inl hb))
    ·rcases QkV hb with h | h | h
     ·exact .inl (.inl (.inr h))
     ·rcases hv7 with h1 | h1
      ·exact .inl (.inl (.inr (.inr (.inr (.inl (by rw [show ({ Mem.none with B:=L }:Mem).B.length=i from hLl];exact h1.symm.trans h))))))
      ·right
       have:some b=some w10.heap.size:=h.symm.trans h1
       injection this with this
       omega
     ·right
      exact (pr8.lt b h).1
  have IALL:=QQ (QA inv7 (QA bT8 (QA own8 (QA hL8 wr8))));clear inv7 own8 bT8 wr8 hL8 own7 own10 own9 inv10 inv hB10 hB hLl hL pr7 pr8 hpp hcB hrow hoth s12 bT sbT o7 gr7 hv7 ob9 ownB b10 hzl1
  gi_wp2_with ((fail_if_success (unfold Qag));refine QaV (t:=25) rfl ?_)
  unfold Qag;refine Qbe rfl 25 (.tmp 107) (.tmp 106) rfl T 2 rfl (.slice (some ⟨g,0,none⟩) (i+1) c7) rfl rfl rfl 29 _ eT7 Qhs (by simp [Mem.cells]) ?_;rw [← hw12];clear eT7 hw12
  gi_wp2
  obtain ⟨inv4,bT4,own4,hL4,wr4⟩:=(QG IALL);exact ⟨_,⟨(some ⟨g,0,none⟩,c7),_,hL4,inv4,bT4,own4,rfl⟩,wr4⟩
 case done =>
  rintro D S A hD hS ⟨o,L,hL,inv,bT,own,rfl⟩ hK;refine (QG AK) _ _ ?_;rw [hsel,List.take_length] at hL
  have hnd:D ∉ ds:=fun h=>by have:=hdl D h;omega
  have inv':QaZ W a fs.length cap k T { x with B:=L } A { s with b:=o } (D::ds):=⟨inv.fields,inv.cnt,inv.below,inv.eR,inv.eT,inv.hT,inv.own,fun D' hD'=>(List.mem_cons.1 hD').elim (fun e=>by rw [e];exact ⟨by omega,hK⟩) (fun h=>inv.marks D' h),List.nodup_cons.2 ⟨hnd,inv.nodup⟩⟩;exact (QG HN) L hL _ _ _ _ _ _ _ _ _ _ _ _ _ _ _ _ _ _ _ _ _ _ _ _ _ _ _ _ _ _ _ _ _ _ _ _ _ _ _ _ _ _ _ _ _ _ _ _ _ _ _ _ _ _ _ _ _ _ _ _ _ _ _ _ _ _ _ _ _ _ _ _ _ _ _ _ _ _ _ _ _ _ _ _ _ _ _ _ _ _ _ _ _ _ _ _ _ _ _ _ _ _ _ _ _ _ _ _ _ _ _ _ _ _ _ _ _ _ _ _ _ _ _ _ _ _ _ _ _ _ _ _ _ _ _ _ _ _ _ _ _ _ _ _ _ _ _ _ _ _ _ _ _ _ _ _ _ _ _ _ _ _ _ _ _ _ _ _ _ _ _ _ _ _ _ _ _ _ _ _ _ _ A _ (D::ds) inv'
 case stop =>
  rintro D c i S A hD hS hk h hK;exact h.elim
end
theorem Qbn {base:Nat} {W:World} {t:TypeId} {sz n:Nat} {a:Option Addr} {cap:Nat} {l:List Value} (h:W.ownsRow base t sz (.slice a n cap) n l):Qc W.heap.size W a n cap l:=by
 rcases Nat.eq_zero_or_pos n with h0 | h0
 ·exact .inl h0
 ·rcases h.2 with ⟨_,h1⟩ | ⟨g,c,cur,hv,h2,h3,h4,h5,h6,h7⟩
  ·omega
  ·injection hv with e1 _ e2
   subst e1 e2;refine .inr ⟨g,0,rfl,(h.lt g rfl).2,h4,h5,fun j v hj=>?_⟩;have hlt:=(List.getElem?_eq_some_iff.1 hj).1;rw [Nat.zero_add,h.cellAt j (by rw [← h.1];exact hlt)];exact hj
structure Qb2 (n:Nat) (W:World) (x:Mem) (s:Sl5):Prop where
 P:Qc n W s.p.1 x.P.length s.p.2 (x.P.flatMap QaP)
 O:Qc n W s.o.1 x.O.length s.o.2 (x.O.flatMap QbQ)
 B:Qc n W s.b.1 x.B.length s.b.2 (x.B.flatMap QbN)
 F:Qc n W s.f.1 x.F.length s.f.2 (x.F.flatMap Qbm)
 K:Qc n W s.k.1 x.K.length s.k.2 (x.K.flatMap Qbp)
 fds:∀ q∈x.P,Qc n W q.2.fa q.1.fds.length q.2.fc (q.1.fds.map (Value.int .i64))
 pages:∀ q∈x.P,Qc n W q.2.pa q.1.pages.length q.2.pc (q.1.pages.flatMap Pg.vals)
 pipe:∀ q∈x.B,QaL n W (.slice q.2.1 q.1.bytes.length q.2.2) q.1.bytes
theorem Qb2.below {n:Nat} {W W':World} {x:Mem} {s:Sl5} (h:Qb2 n W x s) (hb:Below n W W'):Qb2 n W' x s :=
 ⟨h.P.below hb,h.O.below hb,h.B.below hb,h.F.below hb,h.K.below hb,fun q hq=>(h.fds q hq).below hb,fun q hq=>(h.pages q hq).below hb,fun q hq=>(h.pipe q hq).below hb⟩
theorem Qb2.mono {n m:Nat} {W:World} {x:Mem} {s:Sl5} (h:Qb2 n W x s) (hm:n≤m):Qb2 m W x s :=
 ⟨h.P.mono hm,h.O.mono hm,h.B.mono hm,h.F.mono hm,h.K.mono hm,fun q hq=>(h.fds q hq).mono hm,fun q hq=>(h.pages q hq).mono hm,fun q hq=>(h.pipe q hq).mono hm⟩
theorem Qb2.nil (n:Nat) (W:World):Qb2 n W Mem.none Sl5.none :=
 by
 refine ⟨.inl rfl,.inl rfl,.inl rfl,.inl rfl,.inl rfl,?_,?_,?_⟩ <;> (intro q hq;cases hq)
theorem Qbf.at {base:Nat} {W:World} {x:Mem} {s:Sl5} (h:Qbf base W x s) (hz:∀ q∈x.B,∀ z∈q.1.bytes,0≤z∧z≤255):Qb2 W.heap.size W x s :=
 ⟨Qbn h.P,Qbn h.O,Qbn h.B,Qbn h.F,Qbn h.K,fun q hq=>Qbn (h.each q hq).1.1,fun q hq=>Qbn (h.each q hq).1.2.1,fun q hq=>QbM (h.pipe q hq) (hz q hq) _ _ fun b hb=>⟨rfl,((h.pipe q hq).lt b hb).2⟩⟩
structure Pr.Fine (p:Pr):Prop where
 ok:p.Ok
 status:0≤p.status∧p.status<4294967296
 left:0≤p.left∧p.left<4294967296
 fds:p.fds.length≤20000
 pages:p.pages.length≤20000
structure Im.Fine (X:Im):Prop where
 procs:∀ p∈X.procs,p.Fine
 objs:∀ l∈X.objs,l.length≤20000∧∀ z∈l,0≤z∧z≤255
 pipes:∀ p∈X.pipes,p.bytes.length≤20000∧∀ z∈p.bytes,0≤z∧z≤255
 small:X.procs.length≤20000∧X.objs.length≤20000∧X.pipes.length≤20000∧X.files.length≤20000∧X.waits.length≤20000
def QcV (f:Forest):Im:=⟨(f.sel 132).map fun e=>Qbu e.2,(f.sel 2).map (·.1),(f.sel 131).map fun e=>QgV e.2,(f.sel 6).map fun e=>Qa3 e.1,(f.sel 19).map fun e=>Qgn (Qbd e.1)⟩
def Qe4 (B:Im→Option (List Int)):Prop:=∀ (W:World) (x:Mem) (s:Sl5),Qb2 W.heap.size W x s→x.im.Fine →
 Calls Tryz.prog 21 #[.agg (x.cells s).toArray] W fun e W'=>Below W.heap.size W W'∧match B x.im with
  | none=>e=.returned (.tuple #[.slice none 0 0,.int .i64 240])
  | some ys=>(∀ z∈ys,0≤z∧z≤255)∧∃ v,e=.returned (.tuple #[v,.int .i64 0])∧W'.ownsRow W.heap.size 5 1 v ys.length (ys.map (Value.int .u8))
def Qor (B:Im→Option (List Int)) (W:World) (zs:List Int) (X:Im) (e:Ending) (W':World):Prop :=
 ∃ (y:Mem) (s:Sl5) (E:Int),e=.returned (.tuple #[.agg (y.cells s).toArray,.int .i64 E])∧Below W.heap.size W W'∧Qb2 W'.heap.size W' y s∧((B X=some zs∧E=0∧y.im=X)∨(B X≠some zs∧E=240∧y=Mem.none∧s=Sl5.none))
section
section
variable {P : Program}
theorem QdH (d:Nat) (t:TypeId) (len:Nat) (elem:TypeId) (xs ys:Array Value) (b:Nat→Bool) (w:World) (ht:P.underlying t=some (.array len elem)) (hs:(sizeOf elem).run P w=.ok 1 w)
  (h:∀ i,i<len→∃ x y,(part elem xs i).run P w=.ok x w∧(part elem ys i).run P w=.ok y w∧(Op.equalIn d elem x y).run P w=.ok (b i) w) :
  (Op.equalIn (d+1) t (.agg xs) (.agg ys)).run P w=.ok ((List.range len).all b) w:=by
 simp only [Op.equalIn,Sem.run_bind,run_underlying ht,Result.andThen_ok,hs,Std.Legacy.Range.forIn_eq_forIn_range',Std.Legacy.Range.size,Nat.sub_zero,Nat.add_sub_cancel,Nat.div_one,Nat.mul_one]
 have key:∀ (n s:Nat),(∀ i,s≤i→i<s+n→∃ x y,(part elem xs i).run P w=.ok x w∧(part elem ys i).run P w=.ok y w∧(Op.equalIn d elem x y).run P w=.ok (b i) w) →
   (do
    let r ← forIn (List.range' s n) (none,PUnit.unit) fun i (_:Option Bool × PUnit)=>do
     let a ← part elem xs i
     let c ← part elem ys i
     let e ← Op.equalIn d elem a c
     if (!e)=true then pure (ForInStep.done (some false,PUnit.unit)) else pure (ForInStep.yield (none,PUnit.unit))
    match r.1 with
    | some a=>pure a
    | none=>pure true:Sem Bool).run P w=.ok ((List.range' s n).all b) w:=by
  intro n
  induction n with
  | zero=>intro s _;simp
  | succ n ih =>
   intro s hk;obtain ⟨x,y,h1,h2,h3⟩:=hk s (QN _) (by omega)
   have:=ih (s+1) fun i h4 h5=>hk i (by omega) (by omega)
   rw [List.range'_succ];simp only [List.forIn_cons,Sem.run_bind,h1,h2,h3,Result.andThen_ok,List.all_cons]
   cases b s
   ·simp
   ·simpa [Sem.run_bind] using this
 have:=key len 0 fun i _ h2=>h i (by omega)
 rw [List.range_eq_range'];simp only [Sem.run_bind] at this ⊢;refine Eq.trans ?_ this;refine congr (congrArg Result.andThen ?_) ?_
 ·rfl
 ·funext a w'
  rcases a with ⟨_ | a,u⟩ <;> rfl
end
end
def Qed (p f o:Int):Bool:=decide (0≤o)&&(((p == 0)&&decide (0≤f)&&decide (f<256)&&decide (o<64)) || (decide (1≤p)&&(f == 0)&&decide (o<4096)))
def Qc5 (p m n:Nat):Bool:=!((decide (n<1) || decide (15<n))&&(p.testBit n || m.testBit n) || (n == 9)&&m.testBit n)
def QdN (s:Sg):Bool:=(List.range 32).all (Qc5 s.pend.toNat s.mask.toNat)&&(s.hand.getD 0 0 == 0)&&(s.hand.getD 9 0 == 0)
def Qfk (m:Pg):Bool:=decide (0≤m.frame)&&decide (m.frame<256)&&!(m.s&&m.c)
def Qbc:Int→List Pg→Bool
 | _,[]=>true
 | last,m::r=>decide (last<m.page)&&decide (m.page<64)&&Qfk m&&Qbc m.page r
def Cp.eq (c d:Cp):Bool:=(c.r == d.r)&&(c.za == d.za)&&(c.zb == d.zb)&&(c.zc == d.zc)&&(c.zd == d.zd)&&(c.pc == d.pc)
def Sg.eq (c d:Sg):Bool:=(c.pend == d.pend)&&(c.mask == d.mask)&&(c.hand == d.hand)&&(c.busy == d.busy)
theorem Cp.eq_iff (c d:Cp):c.eq d=true↔c=d:=by
 cases c;cases d;simp [Cp.eq,and_assoc]
theorem Sg.eq_iff (c d:Sg):c.eq d=true↔c=d:=by
 cases c;cases d;simp [Sg.eq,and_assoc]
def Qf1 (n:Int):Bool:=decide (-1≤n∧n≤63)
def Qa8 (p:Pr):Bool:=p.cpu.eq Cp.zero&&p.saved.eq Cp.zero&&p.sig.eq Sg.zero&&(p.wait == 0)&&(p.pipe == 0)&&(p.left == 0)&&(p.fds.length == 0)&&(p.pages.length == 0)
def Qdc (p:Pr):Bool:=decide (0≤p.wait∧p.wait≤5)&&decide (0≤p.pipe∧p.pipe≤15)&&(((p.wait == 2) || (p.wait == 3)) || (p.pipe == 0))&&((p.wait == 5) == decide (p.left > 0))
def Qci (p:Pr):Bool:=(p.fds.length == 8)&&p.fds.all Qf1
def Qbq (p:Pr):Bool:=(p.state == 1)&&(p.status == 0)&&QdN p.sig&&Qdc p&&Qci p&&Qbc (-1) p.pages
def Qbj (p:Pr):Bool:=decide (1≤p.pid∧p.pid≤65535)&&decide (0≤p.parent∧p.parent≤65535)&&(if p.state=2 then Qa8 p else Qbq p)
def QbK (p:Pp):Bool:=decide (p.bytes.length≤64)&&decide (0≤p.rd∧p.rd≤64)&&decide (0≤p.wr∧p.wr≤64)
def QbU (w:Wt):Bool:=decide (1≤w.pid∧w.pid≤65535)&&decide (w.kp≤65535)&&Qed w.kp w.kf w.ko
def Qce (f:Int × Bool):Bool:=decide (0≤f.1∧f.1≤15)
def Qcb (X:Im):Bool:=decide (1≤X.procs.length∧X.procs.length≤32)&&decide (X.objs.length≤256)&&decide (X.pipes.length≤16)&&decide (X.files.length≤64)&&decide (X.waits.length≤32) &&
 X.procs.all Qbj&&X.objs.all (fun o=>o.length == 64)&&X.pipes.all QbK&&X.files.all Qce&&X.waits.all QbU
theorem Qn (p m:Nat):((List.range 32).all (Qc5 p m)=true)↔QeT (p ||| m) 65534=0∧m.testBit 9=false:=by
 rw [List.all_eq_true];constructor
 ·intro h
  refine ⟨Nat.eq_of_testBit_eq fun i=>?_,?_⟩
  ·rw [Qej,Nat.zero_testBit]
   by_cases hi:i<32
   ·have:=h i (List.mem_range.2 hi)
    rw [Nat.testBit_or];simp only [hi,decide_true,Bool.true_and];by_cases h1:i<1∨15<i
    ·have hh:(decide (i<1) || decide (15<i))=true:=by simpa using h1
     unfold Qc5 at this;rw [hh] at this
     revert this
     cases p.testBit i <;> cases m.testBit i <;> simp
    ·have:Nat.testBit 65534 i=true:=by
      have h2:1≤i∧i≤15:=by omega
      obtain ⟨h3,h4⟩:=h2
      have:i=1∨i=2∨i=3∨i=4∨i=5∨i=6∨i=7∨i=8∨i=9∨i=10∨i=11∨i=12∨i=13∨i=14∨i=15:=by omega
      rcases this with rfl | rfl | rfl | rfl | rfl | rfl | rfl | rfl | rfl | rfl | rfl | rfl | rfl | rfl | rfl <;> decide
     rw [this];simp
   ·simp [hi]
  ·have:=h 9 (by decide)
   unfold Qc5 at this
   revert this
   cases m.testBit 9 <;> simp
 ·rintro ⟨h1,h2⟩ i hi
  have hi:=List.mem_range.1 hi;have h3:=congrArg (fun x=>x.testBit i) h1;simp only [Qej,Nat.zero_testBit,Nat.testBit_or,hi,decide_true,Bool.true_and] at h3;unfold Qc5;by_cases h9:i=9
  ·subst h9;rw [h2];simp
  ·have e9:(i == 9)=false:=by simpa using h9
   rw [e9];by_cases h1:i<1∨15<i
   ·have hb:Nat.testBit 65534 i=false:=by
     rcases h1 with h1 | h1
     ·have:i=0:=by omega
      subst this;decide
     ·exact Nat.testBit_lt_two_pow (Nat.lt_of_lt_of_le (by decide:65534<2 ^ 16) (Nat.pow_le_pow_right (by decide) h1))
    rw [hb] at h3
    revert h3
    cases p.testBit i <;> cases m.testBit i <;> simp
   ·have hh:(decide (i<1) || decide (15<i))=false:=by simpa using h1
    rw [hh];simp
def Qcf (p f o:Int):Prop:=0≤o∧((p=0∧0≤f∧f<256∧o<64)∨(1≤p∧f=0∧o<4096))
instance (p f o:Int):Decidable (Qcf p f o):=by unfold Qcf;exact inferInstance
theorem Qdp (p f o:Int):Qed p f o=decide (Qcf p f o):=by
 rw [Bool.eq_iff_iff,decide_eq_true_iff];simp [Qed,Qcf,and_assoc]
theorem QoV (p f o:Int) (W:World):Calls Tryz.prog 45 #[.agg #[.int .i64 p,.int .i64 f,.int .i64 o]] W fun e W'=>e=.returned (.int .i64 (if Qed p f o then 0 else 2))∧Below W.heap.size W W':=by
 show Calls Tryz.prog _ #[.agg #[.int .i64 p,.int .i64 f,.int .i64 o]] W _;obtain ⟨m,hm⟩:∃ m,m=Qed p f o:=⟨_,rfl⟩;rw [← hm]
 have bX:∀ X:Obj,Below W.heap.size W (W.alloc X):=fun X=>(QB _ W).alloc (QN _) X
 have no:¬ Qcf p f o→m=false:=fun h=>by rw [hm,Qdp];exact decide_eq_false h
 have yes:Qcf p f o→m=true:=fun h=>by rw [hm,Qdp];exact decide_eq_true h
 clear hm
 have gE:∀ b:Bool,(m=b)→Value.int .i64 (if m then 0 else 2)=.int .i64 (if b then 0 else 2):=fun b h=>by rw [h]
 have geq:∀ x y:Int,decide (y≤x)=decide (x ≥ y):=fun x y=>rfl
 rcases (by omega:p=0∨1≤p∨p<0) with h0 | h0 | h0
 ·subst h0
  rcases (by omega:f<0∨(0≤f∧256≤f)∨(0≤f∧f<256)) with h | h | h
  ·rcases (by omega:o<0∨¬ o<0) with h | h
   ·rw [gE _ (no (by unfold Qcf;omega))]
    have t0:decide (f ≥ 0)=false:=decide_eq_false (by omega);have t1:decide (o<0)=true:=decide_eq_true (by omega);clear no yes gE geq;go_enter Tryz.func45,Tryz.ntmps45;go_wp2;go_ret;exact ⟨rfl,bX _⟩
   ·rw [gE _ (no (by unfold Qcf;omega))]
    have t0:decide (f ≥ 0)=false:=decide_eq_false (by omega);have t1:decide (o<0)=false:=decide_eq_false (by omega);clear no yes gE geq;go_enter Tryz.func45,Tryz.ntmps45;go_wp2;go_ret;exact ⟨rfl,bX _⟩
  ·rcases (by omega:o<0∨¬ o<0) with h | h
   ·rw [gE _ (no (by unfold Qcf;omega))]
    have t0:decide (f ≥ 0)=true:=decide_eq_true (by omega);have t1:decide (f<256)=false:=decide_eq_false (by omega);have t2:decide (o<0)=true:=decide_eq_true (by omega);clear no yes gE geq;go_enter Tryz.func45,Tryz.ntmps45;go_wp2;go_ret;exact ⟨rfl,bX _⟩
   ·rw [gE _ (no (by unfold Qcf;omega))]
    have t0:decide (f ≥ 0)=true:=decide_eq_true (by omega);have t1:decide (f<256)=false:=decide_eq_false (by omega);have t2:decide (o<0)=false:=decide_eq_false (by omega);clear no yes gE geq;go_enter Tryz.func45,Tryz.ntmps45;go_wp2;go_ret;exact ⟨rfl,bX _⟩
  ·rcases (by omega:64≤o∨o<0∨(0≤o∧o<64)) with h | h | h
   ·rw [gE _ (no (by unfold Qcf;omega))]
    have t0:decide (f ≥ 0)=true:=decide_eq_true (by omega);have t1:decide (f<256)=true:=decide_eq_true (by omega);have t2:decide (o<64)=false:=decide_eq_false (by omega);have t3:decide (o<0)=false:=decide_eq_false (by omega);clear no yes gE geq;go_enter Tryz.func45,Tryz.ntmps45;go_wp2;go_ret;exact ⟨rfl,bX _⟩
   ·rw [gE _ (no (by unfold Qcf;omega))]
    have t0:decide (f ≥ 0)=true:=decide_eq_true (by omega);have t1:decide (f<256)=true:=decide_eq_true (by omega);have t2:decide (o<64)=true:=decide_eq_true (by omega);have t3:decide (o<0)=true:=decide_eq_true (by omega);clear no yes gE geq;go_enter Tryz.func45,Tryz.ntmps45;go_wp2;go_ret;exact ⟨rfl,bX _⟩
   ·rw [gE _ (yes (by unfold Qcf;omega))]
    have t0:decide (f ≥ 0)=true:=decide_eq_true (by omega);have t1:decide (f<256)=true:=decide_eq_true (by omega);have t2:decide (o<64)=true:=decide_eq_true (by omega);have t3:decide (o<0)=false:=decide_eq_false (by omega);clear no yes gE geq;go_enter Tryz.func45,Tryz.ntmps45;go_wp2;go_ret;exact ⟨rfl,bX _⟩
 ·rcases (by omega:f≠0∨f=0) with h | h
  ·rcases (by omega:o<0∨¬ o<0) with h | h
   ·rw [gE _ (no (by unfold Qcf;omega))]
    have t0:(p == 0)=false:=by simpa using (by omega:¬ p=0)
    have t1:decide (p ≥ 1)=true:=decide_eq_true (by omega)
    have t2:(f == 0)=false:=by simpa using (by omega:¬ f=0)
    have t3:decide (o<0)=true:=decide_eq_true (by omega);clear no yes gE geq;go_enter Tryz.func45,Tryz.ntmps45;go_wp2;go_ret;exact ⟨rfl,bX _⟩
   ·rw [gE _ (no (by unfold Qcf;omega))]
    have t0:(p == 0)=false:=by simpa using (by omega:¬ p=0)
    have t1:decide (p ≥ 1)=true:=decide_eq_true (by omega)
    have t2:(f == 0)=false:=by simpa using (by omega:¬ f=0)
    have t3:decide (o<0)=false:=decide_eq_false (by omega);clear no yes gE geq;go_enter Tryz.func45,Tryz.ntmps45;go_wp2;go_ret;exact ⟨rfl,bX _⟩
  ·rcases (by omega:4096≤o∨o<0∨(0≤o∧o<4096)) with h | h | h
   ·rw [gE _ (no (by unfold Qcf;omega))]
    have t0:(p == 0)=false:=by simpa using (by omega:¬ p=0)
    have t1:decide (p ≥ 1)=true:=decide_eq_true (by omega)
    have t2:(f == 0)=true:=by simpa using (by omega:f=0)
    have t3:decide (o<4096)=false:=decide_eq_false (by omega);have t4:decide (o<0)=false:=decide_eq_false (by omega);clear no yes gE geq;go_enter Tryz.func45,Tryz.ntmps45;go_wp2;go_ret;exact ⟨rfl,bX _⟩
   ·rw [gE _ (no (by unfold Qcf;omega))]
    have t0:(p == 0)=false:=by simpa using (by omega:¬ p=0)
    have t1:decide (p ≥ 1)=true:=decide_eq_true (by omega)
    have t2:(f == 0)=true:=by simpa using (by omega:f=0)
    have t3:decide (o<4096)=true:=decide_eq_true (by omega);have t4:decide (o<0)=true:=decide_eq_true (by omega);clear no yes gE geq;go_enter Tryz.func45,Tryz.ntmps45;go_wp2;go_ret;exact ⟨rfl,bX _⟩
   ·rw [gE _ (yes (by unfold Qcf;omega))]
    have t0:(p == 0)=false:=by simpa using (by omega:¬ p=0)
    have t1:decide (p ≥ 1)=true:=decide_eq_true (by omega)
    have t2:(f == 0)=true:=by simpa using (by omega:f=0)
    have t3:decide (o<4096)=true:=decide_eq_true (by omega);have t4:decide (o<0)=false:=decide_eq_false (by omega);clear no yes gE geq;go_enter Tryz.func45,Tryz.ntmps45;go_wp2;go_ret;exact ⟨rfl,bX _⟩
 ·rcases (by omega:o<0∨¬ o<0) with h | h
  ·rw [gE _ (no (by unfold Qcf;omega))]
   have t0:(p == 0)=false:=by simpa using (by omega:¬ p=0)
   have t1:decide (p ≥ 1)=false:=decide_eq_false (by omega);have t2:decide (o<0)=true:=decide_eq_true (by omega);clear no yes gE geq;go_enter Tryz.func45,Tryz.ntmps45;go_wp2;go_ret;exact ⟨rfl,bX _⟩
  ·rw [gE _ (no (by unfold Qcf;omega))]
   have t0:(p == 0)=false:=by simpa using (by omega:¬ p=0)
   have t1:decide (p ≥ 1)=false:=decide_eq_false (by omega);have t2:decide (o<0)=false:=decide_eq_false (by omega);clear no yes gE geq;go_enter Tryz.func45,Tryz.ntmps45;go_wp2;go_ret;exact ⟨rfl,bX _⟩
theorem QnG (p m:Int) (hd:List Int) (bz:Bool) (h1:0≤p∧p<4294967296) (h2:0≤m∧m<4294967296) :
  QdN ⟨p,m,hd,bz⟩ = !((bits .andNot .u32 (bits .or .u32 p m) 65534 != 0) || (bits .and .u32 (m / 512) 1 == 1) || (hd.getD 0 0 != 0) || (hd.getD 9 0 != 0)):=by
 obtain ⟨a,rfl⟩:∃ a:Nat,p=(a:Int):=⟨p.toNat,(Int.toNat_of_nonneg h1.1).symm⟩;obtain ⟨b,rfl⟩:∃ b:Nat,m=(b:Int):=⟨m.toNat,(Int.toNat_of_nonneg h2.1).symm⟩
 have e1:bits .andNot .u32 (bits .or .u32 (a:Int) b) 65534=((QeT (a ||| b) 65534:Nat):Int):=by
  rw [Qok a b (by omega) (by omega)];exact Qkn _ _
 have e2:bits .and .u32 ((b:Int) / 512) 1=((b / 512 % 2:Nat):Int):=by rw [Qg];omega
 have e3:b.testBit 9=decide (b / 512 % 2=1):=by rw [Nat.testBit_eq_decide_div_mod_eq]
 have hb:=Qn a b;rw [e1,e2];unfold QdN;simp only [Int.toNat_natCast];rw [Bool.eq_iff_iff];simp only [Bool.and_eq_true,hb,e3,Bool.not_eq_true',Bool.or_eq_false_iff,beq_iff_eq,bne_eq_false_iff_eq,beq_eq_false_iff_ne,decide_eq_false_iff_not];constructor
 ·rintro ⟨⟨⟨h3,h4⟩,h5⟩,h6⟩
  exact ⟨⟨⟨by omega,by omega⟩,h5⟩,h6⟩
 ·rintro ⟨⟨⟨h3,h4⟩,h5⟩,h6⟩
  exact ⟨⟨⟨by omega,by omega⟩,h5⟩,h6⟩
theorem Qo5 (s:Sg) (hs:s.Ok) (W:World):Calls Tryz.prog 80 #[.agg s.vals.toArray] W fun e W'=>e=.returned (.int .i64 (if QdN s then 0 else 120))∧Below W.heap.size W W':=by
 obtain ⟨p,m,hd,bz⟩:=s;obtain ⟨h1,h2,h3,h4⟩:=hs
 match hd,h3 with
 | [r0,r1,r2,r3,r4,r5,r6,r7,r8,r9,r10,r11,r12,r13,r14,r15],_ =>
 have hm:=QnG p m [r0,r1,r2,r3,r4,r5,r6,r7,r8,r9,r10,r11,r12,r13,r14,r15] bz h1 h2;simp only [List.getD_cons_zero,List.getD_cons_succ] at hm;obtain ⟨X,hX⟩:∃ X,X=(Sg.vals ⟨p,m,[r0,r1,r2,r3,r4,r5,r6,r7,r8,r9,r10,r11,r12,r13,r14,r15],bz⟩).toArray:=⟨_,rfl⟩
 obtain ⟨E,hE⟩:∃ E:Int,E=if QdN ⟨p,m,[r0,r1,r2,r3,r4,r5,r6,r7,r8,r9,r10,r11,r12,r13,r14,r15],bz⟩ then 0 else 120:=⟨_,rfl⟩
 rw [← hX,← hE];have HX:=QQ hX;have HE:=QQ (QA hE hm);clear hE hm h4 h1 h2 hX;go_enter Tryz.func80,Tryz.ntmps80
 go_upto_region 1 with fail
 generalize hV':World.alloc _ _=V;have hV:V=W.alloc (.cells X 48):=hV'.symm;clear hV'
 have bV:Below W.heap.size W V:=by rw [hV];exact (QB _ _).alloc (QN _) _
 have e:V.heap[W.heap.size]?=some (.cells X 48):=by rw [hV];exact QW _ _
 clear hV;have hX:=(QG HX)
 have c0:V.cell? ⟨W.heap.size,0,none⟩=some (.int .u32 p):=by rw [cell_of_row V _ 0 _ _ _ e,hX];rfl
 have c1:V.cell? ⟨W.heap.size,1,none⟩=some (.int .u32 m):=by rw [cell_of_row V _ 1 _ _ _ e,hX];rfl
 have c2:V.cell? ⟨W.heap.size,2,none⟩=some (.int .u32 r0):=by rw [cell_of_row V _ 2 _ _ _ e,hX];rfl
 have c11:V.cell? ⟨W.heap.size,11,none⟩=some (.int .u32 r9):=by rw [cell_of_row V _ 11 _ _ _ e,hX];rfl
 clear hX e
 cases t0:(bits .andNot .u32 (bits .or .u32 p m) 65534 != 0) with
 | true =>
  go_wp2;go_ret;exact ⟨by rw [(QG HE).1,(QG HE).2,t0];rfl,bV⟩
 | false =>
  cases t1:(bits .and .u32 (m / 512) 1 == 1) with
  | true =>
   go_wp2;go_ret;exact ⟨by rw [(QG HE).1,(QG HE).2,t0,t1];rfl,bV⟩
  | false =>
   cases t2:(r0 != 0) with
   | true =>
    go_wp2;go_ret;exact ⟨by rw [(QG HE).1,(QG HE).2,t0,t1,t2];rfl,bV⟩
   | false =>
    cases t3:(r9 != 0) with
    | true =>
     go_wp2;go_ret;exact ⟨by rw [(QG HE).1,(QG HE).2,t0,t1,t2,t3];rfl,bV⟩
    | false =>
     go_wp2;go_ret;exact ⟨by rw [(QG HE).1,(QG HE).2,t0,t1,t2,t3];rfl,bV⟩
theorem QlS (m:Pg) (W:World):Calls Tryz.prog 107 #[.agg #[.int .i64 m.frame,.bool m.w,.bool m.s,.bool m.c,.bool false]] W fun e W'=>e=.returned (.int .i64 (if Qfk m then 0 else 50))∧Below W.heap.size W W':=by
 obtain ⟨pg,f,w,s,c⟩:=m
 have hm:Qfk ⟨pg,f,w,s,c⟩ = !(decide (f<0) || decide (f ≥ 256) || (s&&c)):=by
  unfold Qfk;show (decide (0≤f)&&decide (f<256)&&!(s&&c))=_
  have e1:decide (0≤f) = !decide (f<0):=by by_cases h:f<0 <;> simp [h] <;> omega
  have e2:decide (f<256) = !decide (f ≥ 256):=by by_cases h:f<256 <;> simp [h] <;> omega
  rw [e1,e2,Bool.not_or,Bool.not_or]
 obtain ⟨E,hE⟩:∃ E:Int,E=if Qfk ⟨pg,f,w,s,c⟩ then 0 else 50:=⟨_,rfl⟩
 rw [← hE];rw [hm] at hE;have HE:=QQ hE;clear hE hm
 have bX:∀ X:Obj,Below W.heap.size W (W.alloc X):=fun X=>(QB _ W).alloc (QN _) X
 go_enter Tryz.func107,Tryz.ntmps107
 cases t0:decide (f<0) with
 | true =>
  go_wp2;go_ret;exact ⟨by rw [show E=_ from HE,t0];rfl,bX _⟩
 | false =>
  cases t1:decide (f ≥ 256) with
  | true =>
   go_wp2;go_ret;exact ⟨by rw [show E=_ from HE,t0,t1];rfl,bX _⟩
  | false =>
   cases s with
   | false =>
    go_wp2;go_ret;exact ⟨by rw [show E=_ from HE,t0,t1];rfl,bX _⟩
   | true =>
    cases c with
    | false =>
     go_wp2;go_ret;exact ⟨by rw [show E=_ from HE,t0,t1];rfl,bX _⟩
    | true =>
     go_wp2;go_ret;exact ⟨by rw [show E=_ from HE,t0,t1];rfl,bX _⟩
theorem QgR (c:Cp) (hc:c.Ok) (W:World):Calls Tryz.prog 79 #[.agg c.vals.toArray] W fun e W'=>e=.returned (.bool true)∧Below W.heap.size W W':=by
 obtain ⟨r,za,zb,zc,zd,pc⟩:=c;obtain ⟨h1,h2,h3,h4,h5,h6,h7⟩:=hc
 match r,h1 with
 | [r0,r1,r2,r3,r4,r5,r6,r7],_ =>
 have k1:=fun V=>Qjp za zb h3 h4 V
 have k2:=fun V=>Qjp zc zd h5 h6 V
 obtain ⟨X,hX⟩:∃ X,X=(Cp.vals ⟨[r0,r1,r2,r3,r4,r5,r6,r7],za,zb,zc,zd,pc⟩).toArray:=⟨_,rfl⟩;rw [← hX];have HX:=QQ hX;clear hX h2 h3 h4 h5 h6 h7;go_enter Tryz.func79,Tryz.ntmps79
 go_upto_region 1 with fail
 generalize hV':World.alloc _ _=V;have hV:V=W.alloc (.cells X 45):=hV'.symm;clear hV'
 have bV:Below W.heap.size W V:=by rw [hV];exact (QB _ _).alloc (QN _) _
 have e:V.heap[W.heap.size]?=some (.cells X 45):=by rw [hV];exact QW _ _
 clear hV;obtain ⟨n1,hn1⟩:∃ n,n=fl za:=⟨_,rfl⟩;obtain ⟨n2,hn2⟩:∃ n,n=fl zb:=⟨_,rfl⟩;obtain ⟨n3,hn3⟩:∃ n,n=fl zc:=⟨_,rfl⟩;obtain ⟨n4,hn4⟩:∃ n,n=fl zd:=⟨_,rfl⟩;have hX:=(QG HX)
 have c8:V.cell? ⟨W.heap.size,8,none⟩=some (.complex .f64 n1 n2):=by rw [cell_of_row V _ 8 _ _ _ e,hX,hn1,hn2];rfl
 have c9:V.cell? ⟨W.heap.size,9,none⟩=some (.complex .f64 n3 n4):=by rw [cell_of_row V _ 9 _ _ _ e,hX,hn3,hn4];rfl
 rw [← hn1,← hn2] at k1;rw [← hn3,← hn4] at k2;have sV:W.heap.size<V.heap.size:=(QI.1 e).1
 have l0:(0:Int)<2:=by decide
 have l1:(1:Int)<2:=by decide
 clear hX e hn1 hn2 hn3 hn4;go_wp2_with (go_at_call 106;refine Qau ?_);unfold Qag;refine Calls.mono (k1 V) ?_;rintro e' w1 ⟨rfl,b1⟩;replace c9:=(b1.cell (p:=⟨W.heap.size,9,none⟩) sV).trans c9;clear c8;go_wp2_with (go_at_call 106;refine Qau ?_);unfold Qag;refine Calls.mono (k2 w1) ?_;rintro e' w2 ⟨rfl,b2⟩;have B:=bV.trans ((b1.mono (Nat.le_of_lt sV)).trans (b2.mono (Nat.le_trans (Nat.le_of_lt sV) b1.size)));clear b1 b2 bV c9 k1 k2;go_wp2;go_ret;exact ⟨rfl,B⟩
end Go.Proofs.YtejcandhijdnhaaGreat
