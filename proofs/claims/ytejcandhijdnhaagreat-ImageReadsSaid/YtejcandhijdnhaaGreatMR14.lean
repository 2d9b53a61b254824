/- Own texts of this seat, one behind the other, without needless spaces (part 14 of 26). -/
import Derived.Test.YtejcandhijdnhaaGreatMR01
import Derived.Test.YtejcandhijdnhaaGreatMR02
import Derived.Test.YtejcandhijdnhaaGreatMR08
import Derived.Test.YtejcandhijdnhaaGreatMR12
import Derived.Test.YtejcandhijdnhaaGreatMR13
import Derived.Laws.IdiomStrings
namespace Go.Proofs.YtejcandhijdnhaaGreat
open Go Go.RowKit
set_option linter.unusedVariables false
set_option linter.unusedSimpArgs false
set_option linter.unnecessarySimpa false
set_option maxRecDepth 100000
set_option maxHeartbeats 16000000
section
attribute [local go_sem] QaB QaJ QaA
theorem Qnp (n:Nat) (b:Bool) (h:n≤15):bits .or .u64 (IntKind.u64.wrap ((n:Int)*2)) (Qb6 b)=((2*n+(Qb6 b).toNat:Nat):Int):=by
 obtain ⟨c,hc,hc2⟩:∃ c:Nat,Qb6 b=(c:Int)∧c≤1:=by cases b;exact ⟨0,rfl,by decide⟩;exact ⟨1,rfl,by decide⟩
 rw [hc,show (n:Int)*2=((2*n:Nat):Int) by omega,Qby _ (by omega),Qol _ _ (by omega) (by omega)];have:=Nat.two_pow_add_eq_or_of_lt (i:=1) (b:=c) (by omega) n;rw [show 2*n ||| c=2*n+c from this.symm];rfl
theorem QoN (W:World) (x:Mem) (s:Sl5) (X:Array Value) (B:Nat) (t3:Value) (u4 u5 u6 u7 u8 u9 u10 u11 u12 u13 u14 u15 u16 u17 u18 u19 u20 u21 u22 u23 u24 u25 u26 u27 u28 u29 u30 u31 u32 u33 u34 u35 u36 u37 u38 u39 u40 u41 u42 u43 u44 u45 u46 u47 u48 u49 u50 u51 u52 u53 u54 u55 u56 u57 u58 u59 u60 u61 u62 u63 u64 u65 u66 u67 u68 u69 u70 u71 u72 u73 u74 u75 u76 u77 u78 u79 u80 u81 u82 u83 u84 u85 u86 u87 u88 u89 u90 u91 u92 u93 u94 u95 u96 u97 u98 u99 u100 u101 u102 u103 u104 u105 u106 u107 u108 u109 u110 u111 u112 u113 u114 u115:Value) (V:World) (n:Nat) (f:Forest) (hn:n≤50000)
  (h:QbZ W x s X B V) (hl:QbY 0 V.heap.size (W.heap.size+1) V t3 n f) :
  (tl 4 (Tryz.f65.body.getD .skip)).wp Tryz.prog (FsQ W (((f.app (Qay Qb9 x.F)).app (Qay Qcj (x.P.map (·.1)))).app (Qay Qck x.K))) { tmps:=#[.agg X,.pointer (some ⟨B,0,none⟩),.slice none 0 0,t3,u4,u5,u6,u7,u8,u9,u10,u11,u12,u13,u14,u15,u16,u17,u18,u19,u20,u21,u22,u23,u24,u25,u26,u27,u28,u29,u30,u31,u32,u33,u34,u35,u36,u37,u38,u39,u40,u41,u42,u43,u44,u45,u46,u47,u48,u49,u50,u51,u52,u53,u54,u55,u56,u57,u58,u59,u60,u61,u62,u63,u64,u65,u66,u67,u68,u69,u70,u71,u72,u73,u74,u75,u76,u77,u78,u79,u80,u81,u82,u83,u84,u85,u86,u87,u88,u89,u90,u91,u92,u93,u94,u95,u96,u97,u98,u99,u100,u101,u102,u103,u104,u105,u106,u107,u108,u109,u110,u111,u112,u113,u114,u115],defers:=[] } V:=by
 obtain ⟨i0,hi,hz0,hz1,hz2⟩:=info_parts Qc1;have c3:=h.cell (i:=3) rfl
 have hsm:x.F.length≤20000:=by have:=h.fine.small;simpa [Mem.im] using this.2.2.2.1
 have hmay:∀ q∈x.F,0≤q.1∧q.1≤15:=fun q hq=>by
  have hm:=h.may;unfold Qcb at hm;simp only [Bool.and_eq_true] at hm;have:=List.all_eq_true.1 hm.1.2 q hq;simpa [Qce] using this
 have HK:=QQ h.at_.F;have HM:=QQ hmay;obtain ⟨l,hll⟩:∃ l,l=x.F:=⟨_,rfl⟩;rw [← hll] at c3 hsm;obtain ⟨ka,hka⟩:∃ a,a=s.f.1:=⟨_,rfl⟩;rw [← hka] at c3;have HKA:=QQ hka;clear hka;have HL:=QQ hll;have H:=QQ (QA h hl);clear h hl hmay
 conv=>arg 2;whnf
 refine wp_seq_k (fun K' aK=>?_);have AK:=QQ aK;clear aK;clear hll;go_wp2;go_loopw [3,9,55] (fun vv _ i wr=>∃ (k:Nat) (v:Value),i=.int .i64 (k:Int)∧v=vv∧k≤l.length∧QbY 0 wr.heap.size (W.heap.size+1) wr v (n+k) (f.app (Qay Qb9 (l.take k)))∧QbZ W x s X B wr) (fun _ _ i _=>l.length-(intOf i).toNat)
 case atStart =>
  obtain ⟨h,hl⟩:=(QG H);exact ⟨0,_,rfl,rfl,Nat.zero_le _,by rw [List.take_zero];show QbY _ _ _ _ _ _ (f.app .nil);rw [Forest.app_nil];exact hl,h⟩
 case round =>
  clear c3;obtain ⟨k,v,rfl,rfl,hk,hfl,hinv⟩:=hrel
  rcases Nat.lt_or_ge k l.length with hx | hx
  ·obtain ⟨mg,hmg⟩:∃ mg,mg=l[k]:=⟨_,rfl⟩
   have hmem:mg∈x.F:=by rw [← (QG HL),hmg];exact List.getElem_mem hx
   have hmy:=(QG HM) mg hmem
   have hcat:Qay Qb9 (l.take (k+1))=(Qay Qb9 (l.take k)).app (Qb9 mg):=by rw [Qex Qb9 l k hx,hmg]
   have hb:=hinv.below;have hsz:=hb.size
   have hrow:∃ b off,ka=some ⟨b,off,none⟩∧∀ j v,(Qbm mg)[j]?=some v→wr.cell? ⟨b,off+k*2+j,none⟩=some v:=by
    have HK':=(QG HK);rw [← (QG HL),← (QG HKA)] at HK'
    rcases HK' with h0 | ⟨b,off,e0,hbn,hlc,hcm,hc⟩
    ·omega
    refine ⟨b,off,e0,fun j v hj=>?_⟩;have:=hc (k*2+j) v (Qb Qbm 2 l (fun _ _=>rfl) k hx j v (by rw [← hmg];exact hj));rw [show off+k*2+j=off+(k*2+j) by omega];exact (hb.cell (p:=⟨b,off+(k*2+j),none⟩) hbn).trans this
   obtain ⟨b,off,rfl,e⟩:=hrow;clear hmg hmem;obtain ⟨fp,fw⟩:=mg;obtain ⟨np,rfl⟩:∃ np:Nat,fp=(np:Int):=⟨fp.toNat,(Int.toNat_of_nonneg hmy.1).symm⟩
   have hnp:np≤15:=by have:=hmy.2;simp only at this;omega
   have hnum:=Qnp np fw hnp;have hwp:=Qby np (by omega);obtain ⟨nn,hnn⟩:∃ nn:Nat,nn=2*np+(Qb6 fw).toNat:=⟨_,rfl⟩
   have hnn2:nn<18446744073709551616:=by have:=QdL fw;omega
   have hfe:Qb9 ((np:Int),fw)=.cons 6 (Qa7 nn) .nil .nil:=by
    unfold Qb9;rw [show (2*(np:Int)+Qb6 fw).toNat=nn by have:=QdL fw;omega]
   rw [← hnn] at hnum;rw [hfe] at hcat;have HCAT:=QQ hcat;have HF:=QQ (QA hfl hinv)
   have t0:((k:Int)<(l.length:Int)):=by omega
   have hvlt:∀ y,v.ownBlock=some y→W.heap.size+1≤y∧y<wr.heap.size:=by
    obtain ⟨_,vs0,q1,_,_⟩:=hfl
    exact fun y hy=>q1.lt y hy
   clear hcat hfl hinv hmy hfe hnn
   go_wp2_with first
    | (refine QaC (by rfl) 76 (.tmp 57) rfl b (off+k*2) rfl (Qbm ((np:Int),fw)) _ e Tryz.underlying76 rfl Qea ?_)
    | ((fail_if_success (unfold Qag));refine Qan (t:=76) rfl ?_)
   unfold Qag;refine Qab rfl 76 (.tmp 9) (.tmp 58) rfl wr.heap.size #[.int .i64 (np:Int),.bool fw] rfl rfl 76 _ (QW _ _) Qea rfl (by simp [Value.oneCell']) ?_;rw [World.setRow_alloc_new];obtain ⟨V1,hV1⟩:∃ V,V=wr.alloc (.cells #[.int .i64 (np:Int),.bool fw] 76):=⟨_,rfl⟩
   have eV1:V1.heap[wr.heap.size]?=some (.cells #[.int .i64 (np:Int),.bool fw] 76):=by rw [hV1];exact QW _ _
   have bV1:Below wr.heap.size wr V1:=by rw [hV1];exact (QB _ _).alloc (QN _) _
   have lV1:wr.heap.size<V1.heap.size:=(QI.1 eV1).1;rw [← hV1];clear hV1 e;go_wp2
   obtain ⟨Rg,hRg⟩:∃ Rg:Nat→Prop,Rg=fun b=>v.ownBlock=some b:=⟨_,rfl⟩
   have HX:=QQ (show ∀ W',Qa Rg V1.drew W'→W'.cell? ⟨wr.heap.size,0,none⟩=some (.int .i64 (np:Int))∧W'.cell? ⟨wr.heap.size,1,none⟩=some (.bool fw) from fun W' hW=>by
    have h1:=(hW.block wr.heap.size lV1 (by rw [hRg];intro e;have:=(hvlt _ e).2;omega)).trans (show V1.drew.heap[wr.heap.size]?=_ from eV1)
    exact ⟨by rw [cell_of_row W' _ 0 _ _ _ h1];rfl,by rw [cell_of_row W' _ 1 _ _ _ h1];rfl⟩)
   have HRG:=QQ hRg;have BV:=QQ bV1;clear eV1 bV1 hRg;refine Qas (Qa Rg) (by kernel_rfl) 13 rfl ?_;refine Qam [0,1,2,3,4,5,6] (by kernel_rfl) (by kernel_rfl) ?_
   iterate 7
    first
    | (refine Qax (Qa.pre Rg) rfl (by rfl) (v:=?_) (fun W hW=>?_) (fun K hK=>?_);rotate_left;· (obtain ⟨q0,q1⟩:=(QG HX) W hW;go_simp;first | done | rfl))
    | refine Qap (Qa.pre Rg) rfl (by rfl) (fun K hK=>?_)
    go_simp;refine hK _ ?_;clear hK K
   refine Qaw ?_;refine Qaq 7 rfl (by kernel_rfl) (by rfl) (fun K hK=>?_);go_simp;refine (Qgw fw V1.drew).mono ?_;rintro e1 w1 ⟨rfl,hw⟩;rw [hw];clear hw w1;refine ⟨_,rfl,hK _ _ (Wr.refl _ _) ?_⟩;obtain ⟨y1,hy1⟩:∃ y,y=Qb6 fw:=⟨_,rfl⟩;rw [← hy1] at hnum ⊢;clear hy1;clear hK K;refine Qal (fun K hK=>?_);go_simp;refine hK _ ?_;clear hK K;refine Qam [8] (by kernel_rfl) (by kernel_rfl) ?_
   iterate 1
    first
    | (refine Qax (Qa.pre Rg) rfl (by rfl) (v:=?_) (fun W hW=>?_) (fun K hK=>?_);rotate_left;· (go_simp;first | done | rfl))
    | refine Qap (Qa.pre Rg) rfl (by rfl) (fun K hK=>?_)
    go_simp;refine hK _ ?_;clear hK K
   refine Qaw ?_;refine Qaq 9 rfl (by kernel_rfl) (by rfl) (fun K hK=>?_);go_simp;refine (QeF 6 nn hnn2 V1.drew).mono ?_;rintro e2 w2 ⟨a7,c7,rfl,r7,g7,b7⟩;refine ⟨_,rfl,hK _ _ (Wr.of_below b7) ?_⟩;have B7:=QQ (QA r7 (QA g7 (show Below V1.heap.size V1 w2 from QbE b7)));have s7:V1.heap.size≤w2.heap.size:=b7.size;clear r7 g7 b7;clear hK K;refine Qal (fun K hK=>?_);go_simp;refine hK _ ?_;clear hK K;refine Qaq 10 rfl (by kernel_rfl) (by rfl) (fun K hK=>?_);go_simp;obtain ⟨w6,hw6⟩:∃ w6,w6=w2.alloc (Obj.cells #[.int .i64 6,.slice a7 8 c7,.slice none 0 0] 66):=⟨_,rfl⟩
   have b6:Below w2.heap.size w2 w6:=by rw [hw6];exact (QB _ _).alloc (QN _) _
   have x6:w6.heap[w2.heap.size]?=some (.cells #[.int .i64 6,.slice a7 8 c7,.slice none 0 0] 66):=by rw [hw6];exact QW _ _
   have s6:w6.heap.size=w2.heap.size+1:=by rw [hw6];simp
   rw [← hw6];refine hK _ _ (Wr.of_below b6) ?_;have B6:=QQ b6;clear hw6 b6;clear hK K;refine Qal (fun K hK=>?_);go_simp;refine hK _ ?_;clear hK K;refine Qaq 11 rfl (by kernel_rfl) (by rfl) (fun K hK=>?_);obtain ⟨r7,g7,b7⟩:=(show QaL w2.heap.size w2 (.slice a7 8 c7) (Qa7 nn)∧(∀ b,QaO (.slice a7 8 c7) b→V1.heap.size<b)∧Below V1.heap.size V1 w2 from B7);have b6:=(QG B6);have bV1:=(QG BV);have z1:=bV1.size;have k9:Below wr.heap.size wr w6:=bV1.trans ((b7.trans (b6.mono s7)).mono z1);obtain ⟨hfl,hinv⟩:=(QG HF);obtain ⟨hh,vs,g1,g2,g3⟩:=(hfl.grow k9).lift (hi':=w6.heap.size) (by omega) (QN _)
   refine QaQ (.tmp 59) (.tmp 69) 59 rfl (W.heap.size+1) 66 i0 _ 3 56 Tryz.underlying59 hi hz0 hz1 hz2 rfl (by decide) v (n+k) vs rfl g1 (some ⟨w2.heap.size,0,none⟩) 1 1 [.int .i64 6,.slice a7 8 c7,.slice none 0 0] rfl rfl (by simp [Value.oneCell']) (.inr ⟨_,_,rfl,fun j u hj=>by
    rw [Nat.zero_add,cell_of_row w6 _ j _ _ _ x6,List.getElem?_toArray];exact hj⟩) (by omega) (by simp only [maxLen];omega) (by omega) ?_
   intro v10 w10 o10 g10 hat
   have relU:Qat (FlS 0 w6.heap.size v) w6 (.cons 6 (Qa7 nn) .nil .nil) [.int .i64 6,.slice a7 8 c7,.slice none 0 0]:=by
    refine Qat.cons8 (by decide) (by decide) (by rw [QaG];decide) ((r7.below b6).mono b6.size) (fun y hy=>?_) Qat.nil;have h1:=g7 y hy;have h2:=r7.lt y hy;exact ⟨Nat.zero_le _,by omega,fun e=>by have:=(hvlt y e).2;omega⟩
   have hF:=QbY.put hh g1 g2 g3 o10 g10 hat relU rfl;rw [Forest.app_assoc,← (QG HCAT)] at hF;have hB:=hinv.hB;have hlow:=hinv.below.size
   have B10:Below W.heap.size W w10:=(hinv.below.trans (k9.mono hlow)).grown g10 (by omega) fun b hb=>by have:=(hvlt b hb).1;omega
   have hinv':QbZ W x s X B w10:=hinv.grow B10 ((g10.block B (by have:=(QI.1 hinv.eB).1;omega) (fun e=>by have:=(hvlt B e.symm).1;omega)).trans (k9.block B (QI.1 hinv.eB).1));have HFF:=QQ (QA (hF.lift hF.1 (QN _)) hinv')
   have hw10:Qa Rg w6 w10:=Wr.grown (Wr.refl Rg w6) g10 fun b hb=>.inl (by rw [show Rg=_ from HRG];exact hb)
   clear hF B10 relU o10 g10 hat g1 g2 g3 hfl hinv hinv' b6 b7 bV1 x6 k9 r7 g7 hB;refine hK _ _ hw10 ?_;clear hK K;refine Qal (fun K hK=>?_);go_simp;refine hK _ ?_;clear hK K;refine Qam [12] (by kernel_rfl) (by kernel_rfl) ?_
   iterate 1
    first
    | (refine Qax (Qa.pre Rg) rfl (by rfl) (v:=?_) (fun W hW=>?_) (fun K hK=>?_);rotate_left;· (go_simp;first | done | rfl))
    | refine Qap (Qa.pre Rg) rfl (by rfl) (fun K hK=>?_)
    go_simp;refine hK _ ?_;clear hK K
   refine Qaw ?_;refine QaR (by kernel_rfl) ?_;go_wp2;go_roundw
   case rel=>exact ⟨k+1,v10,by go_num,rfl,by omega,(QG HFF).1,(QG HFF).2⟩
   case measure=>simp [intOf];omega
  ·have hk2:k=l.length:=by omega
   subst hk2;rw [List.take_length] at hfl;have HF:=QQ (QA hfl hinv);clear hx hk hfl hinv;go_wp2;refine (QG AK) _ _ ?_;obtain ⟨hfl,hinv⟩:=(QG HF);rw [show Qay Qb9 l=Qay Qb9 x.F by rw [show l=x.F from HL]] at hfl;exact QoP W x s X B v _ _ _ _ _ _ _ _ _ _ _ _ _ _ _ _ _ _ _ _ _ _ _ _ _ _ _ _ _ _ _ _ _ _ _ _ _ _ _ _ _ _ _ _ _ _ _ _ _ _ _ _ _ _ _ _ _ _ _ _ _ _ _ _ _ _ _ _ _ _ _ _ _ _ _ _ _ _ _ _ _ _ _ _ _ _ _ _ _ _ _ _ _ _ _ _ _ _ _ _ _ _ _ _ _ _ _ _ _ _ _ _ wr (n+l.length) _ (by omega) hinv hfl
end
section
attribute [local go_sem] QaB QaJ QaA
theorem QoO (W:World) (x:Mem) (s:Sl5) (X:Array Value) (B:Nat) (t3:Value) (u4 u5 u6 u7 u8 u9 u10 u11 u12 u13 u14 u15 u16 u17 u18 u19 u20 u21 u22 u23 u24 u25 u26 u27 u28 u29 u30 u31 u32 u33 u34 u35 u36 u37 u38 u39 u40 u41 u42 u43 u44 u45 u46 u47 u48 u49 u50 u51 u52 u53 u54 u55 u56 u57 u58 u59 u60 u61 u62 u63 u64 u65 u66 u67 u68 u69 u70 u71 u72 u73 u74 u75 u76 u77 u78 u79 u80 u81 u82 u83 u84 u85 u86 u87 u88 u89 u90 u91 u92 u93 u94 u95 u96 u97 u98 u99 u100 u101 u102 u103 u104 u105 u106 u107 u108 u109 u110 u111 u112 u113 u114 u115:Value) (V:World) (n:Nat) (f:Forest) (hn:n≤30000)
  (h:QbZ W x s X B V) (hl:QbY 0 V.heap.size (W.heap.size+1) V t3 n f) :
  (tl 3 (Tryz.f65.body.getD .skip)).wp Tryz.prog (FsQ W ((((f.app (Qay Qct (x.B.map (·.1)))).app (Qay Qb9 x.F)).app (Qay Qcj (x.P.map (·.1)))).app (Qay Qck x.K))) { tmps:=#[.agg X,.pointer (some ⟨B,0,none⟩),.slice none 0 0,t3,u4,u5,u6,u7,u8,u9,u10,u11,u12,u13,u14,u15,u16,u17,u18,u19,u20,u21,u22,u23,u24,u25,u26,u27,u28,u29,u30,u31,u32,u33,u34,u35,u36,u37,u38,u39,u40,u41,u42,u43,u44,u45,u46,u47,u48,u49,u50,u51,u52,u53,u54,u55,u56,u57,u58,u59,u60,u61,u62,u63,u64,u65,u66,u67,u68,u69,u70,u71,u72,u73,u74,u75,u76,u77,u78,u79,u80,u81,u82,u83,u84,u85,u86,u87,u88,u89,u90,u91,u92,u93,u94,u95,u96,u97,u98,u99,u100,u101,u102,u103,u104,u105,u106,u107,u108,u109,u110,u111,u112,u113,u114,u115],defers:=[] } V:=by
 obtain ⟨i0,hi,hz0,hz1,hz2⟩:=info_parts Qc1;have c2:=h.cell (i:=2) rfl
 have hsm:x.B.length≤20000:=by have:=h.fine.small;simpa [Mem.im] using this.2.2.1
 have hmay:∀ q∈x.B,(0≤q.1.rd∧q.1.rd≤64)∧(0≤q.1.wr∧q.1.wr≤64)∧q.1.bytes.length≤64:=fun q hq=>by
  have hm:=h.may;unfold Qcb at hm;simp only [Bool.and_eq_true] at hm;have:=List.all_eq_true.1 hm.1.1.2 q.1 (List.mem_map.2 ⟨q,hq,rfl⟩);unfold QbK at this;simp only [Bool.and_eq_true,decide_eq_true_eq] at this;omega
 have HK:=QQ h.at_.B;have HM:=QQ hmay;have HPI:=QQ h.at_.pipe;obtain ⟨l,hll⟩:∃ l,l=x.B:=⟨_,rfl⟩;rw [← hll] at c2 hsm;obtain ⟨ka,hka⟩:∃ a,a=s.b.1:=⟨_,rfl⟩;rw [← hka] at c2;have HKA:=QQ hka;clear hka;have HL:=QQ hll;have H:=QQ (QA h hl);clear h hl hmay
 conv=>arg 2;whnf
 refine wp_seq_k (fun K' aK=>?_);have AK:=QQ aK;clear aK;clear hll;go_wp2;go_loopw [3,7,33] (fun vv _ i wr=>∃ (k:Nat) (v:Value),i=.int .i64 (k:Int)∧v=vv∧k≤l.length∧QbY 0 wr.heap.size (W.heap.size+1) wr v (n+k) (f.app (Qay Qct ((l.take k).map (·.1))))∧QbZ W x s X B wr) (fun _ _ i _=>l.length-(intOf i).toNat)
 case atStart =>
  obtain ⟨h,hl⟩:=(QG H);exact ⟨0,_,rfl,rfl,Nat.zero_le _,by rw [List.take_zero];show QbY _ _ _ _ _ _ (f.app .nil);rw [Forest.app_nil];exact hl,h⟩
 case round =>
  clear c2;obtain ⟨k,v,rfl,rfl,hk,hfl,hinv⟩:=hrel
  rcases Nat.lt_or_ge k l.length with hx | hx
  ·obtain ⟨mg,hmg⟩:∃ mg,mg=l[k]:=⟨_,rfl⟩
   have hmem:mg∈x.B:=by rw [← (QG HL),hmg];exact List.getElem_mem hx
   have hmy:=(QG HM) mg hmem;have hpi:=(QG HPI) mg hmem
   have hcat:Qay Qct ((l.take (k+1)).map (·.1))=(Qay Qct ((l.take k).map (·.1))).app (Qct mg.1):=by
    rw [List.take_succ_eq_append_getElem hx,List.map_append,List.map_singleton,Qew,hmg]
   have hb:=hinv.below;have hsz:=hb.size
   have hrow:∃ b off,ka=some ⟨b,off,none⟩∧∀ j v,(QbN mg)[j]?=some v→wr.cell? ⟨b,off+k*3+j,none⟩=some v:=by
    have HK':=(QG HK);rw [← (QG HL),← (QG HKA)] at HK'
    rcases HK' with h0 | ⟨b,off,e0,hbn,hlc,hcm,hc⟩
    ·omega
    refine ⟨b,off,e0,fun j v hj=>?_⟩;have:=hc (k*3+j) v (Qb QbN 3 l (fun _ _=>rfl) k hx j v (by rw [← hmg];exact hj));rw [show off+k*3+j=off+(k*3+j) by omega];exact (hb.cell (p:=⟨b,off+(k*3+j),none⟩) hbn).trans this
   obtain ⟨b,off,rfl,e⟩:=hrow;clear hmg hmem;obtain ⟨⟨bs,rd,wt⟩,⟨pa,pc⟩⟩:=mg;obtain ⟨hm1,hm2,hm3⟩:=hmy;simp only at hm1 hm2 hm3 hpi;obtain ⟨nr,rfl⟩:∃ nr:Nat,rd=(nr:Int):=⟨rd.toNat,(Int.toNat_of_nonneg hm1.1).symm⟩;obtain ⟨nw,rfl⟩:∃ nw:Nat,wt=(nw:Int):=⟨wt.toNat,(Int.toNat_of_nonneg hm2.1).symm⟩
   have hnr:nr<9223372036854775808:=by omega
   have hnw:nw<9223372036854775808:=by omega
   obtain ⟨pl,hpl⟩:∃ pl,pl=bs.length:=⟨_,rfl⟩;have HPL:=QQ hpl;rw [← hpl] at hpi hm3;have HCAT:=QQ hcat;have HF:=QQ (QA hfl hinv);have HPB:=QQ hpi
   have t0:((k:Int)<(l.length:Int)):=by omega
   have hvlt:∀ y,v.ownBlock=some y→W.heap.size+1≤y∧y<wr.heap.size:=by
    obtain ⟨_,vs0,q1,_,_⟩:=hfl
    exact fun y hy=>q1.lt y hy
   have e':∀ j v,([.slice pa pl pc,.int .i64 (nr:Int),.int .i64 (nw:Int)]:List Value)[j]?=some v→wr.cell? ⟨b,off+k*3+j,none⟩=some v:=by rw [hpl];exact e
   clear hcat hfl hinv e hpl hpi hm1 hm2
   go_wp2_with first
    | (refine QaC (by rfl) 68 (.tmp 35) rfl b (off+k*3) rfl [.slice pa pl pc,.int .i64 (nr:Int),.int .i64 (nw:Int)] _ e' Tryz.underlying68 rfl Qds ?_)
    | ((fail_if_success (unfold Qag));refine Qan (t:=68) rfl ?_)
   unfold Qag;refine Qab rfl 68 (.tmp 7) (.tmp 36) rfl wr.heap.size #[.slice pa pl pc,.int .i64 (nr:Int),.int .i64 (nw:Int)] rfl rfl 68 _ (QW _ _) Qds rfl (by simp [Value.oneCell']) ?_;rw [World.setRow_alloc_new];obtain ⟨V1,hV1⟩:∃ V,V=wr.alloc (.cells #[.slice pa pl pc,.int .i64 (nr:Int),.int .i64 (nw:Int)] 68):=⟨_,rfl⟩
   have eV1:V1.heap[wr.heap.size]?=some (.cells #[.slice pa pl pc,.int .i64 (nr:Int),.int .i64 (nw:Int)] 68):=by rw [hV1];exact QW _ _
   have bV1:Below wr.heap.size wr V1:=by rw [hV1];exact (QB _ _).alloc (QN _) _
   have lV1:wr.heap.size<V1.heap.size:=(QI.1 eV1).1;rw [← hV1];clear hV1 e';go_wp2
   obtain ⟨Rg,hRg⟩:∃ Rg:Nat→Prop,Rg=fun b=>v.ownBlock=some b:=⟨_,rfl⟩
   have HX:=QQ (show ∀ W',Qa Rg V1.drew W'→W'.cell? ⟨wr.heap.size,0,none⟩=some (.slice pa pl pc)∧W'.cell? ⟨wr.heap.size,1,none⟩=some (.int .i64 (nr:Int))∧W'.cell? ⟨wr.heap.size,2,none⟩=some (.int .i64 (nw:Int)) from fun W' hW=>by
    have h1:=(hW.block wr.heap.size lV1 (by rw [hRg];intro e;have:=(hvlt _ e).2;omega)).trans (show V1.drew.heap[wr.heap.size]?=_ from eV1)
    exact ⟨by rw [cell_of_row W' _ 0 _ _ _ h1];rfl,by rw [cell_of_row W' _ 1 _ _ _ h1];rfl,by rw [cell_of_row W' _ 2 _ _ _ h1];rfl⟩)
   have HRG:=QQ hRg;have BV:=QQ bV1;clear eV1 bV1 hRg;refine Qas (Qa Rg) (by kernel_rfl) 15 rfl ?_;refine Qam [0,1,2,3,4,5,7,8] (by kernel_rfl) (by kernel_rfl) ?_
   iterate 8
    first
    | (refine Qax (Qa.pre Rg) rfl (by rfl) (v:=?_) (fun W hW=>?_) (fun K hK=>?_);rotate_left;· (obtain ⟨q0,q1,q2⟩:=(QG HX) W hW;go_simp;first | done | rfl))
    | refine Qap (Qa.pre Rg) rfl (by rfl) (fun K hK=>?_)
    go_simp;refine hK _ ?_;clear hK K
   refine Qaw ?_;refine Qaq 6 rfl (by kernel_rfl) (by rfl) (fun K hK=>?_);go_simp;refine (Qcn 4 nr hnr V1.drew).mono ?_;rintro e2 w2 ⟨a7,c7,rfl,r7,g7,b7⟩;refine ⟨_,rfl,hK _ _ (Wr.of_below b7) ?_⟩;have B7:=QQ (QA r7 (QA g7 (show Below V1.heap.size V1 w2 from QbE b7)));have s7:V1.heap.size≤w2.heap.size:=b7.size;clear r7 g7 b7;clear hK K;refine Qal (fun K hK=>?_);go_simp;refine hK _ ?_;clear hK K;refine Qaq 9 rfl (by kernel_rfl) (by rfl) (fun K hK=>?_);go_simp;refine (Qcn 5 nw hnw w2).mono ?_;rintro e3 w3 ⟨a8,c8,rfl,r8,g8,b8⟩;refine ⟨_,rfl,hK _ _ (Wr.of_below b8) ?_⟩;have B8:=QQ (QA r8 (QA g8 b8));have s8:w2.heap.size≤w3.heap.size:=b8.size;clear r8 g8 b8;clear hK K;refine Qal (fun K hK=>?_);go_simp;refine hK _ ?_;clear hK K;refine Qaq 10 rfl (by kernel_rfl) (by rfl) (fun K hK=>?_);go_simp;obtain ⟨w5,hw5⟩:∃ w5,w5=w3.alloc (Obj.cells #[.int .i64 3,.slice pa pl pc,.slice none 0 0,.int .i64 4,.slice a7 8 c7,.slice none 0 0,.int .i64 5,.slice a8 8 c8,.slice none 0 0] 66):=⟨_,rfl⟩
   have b5:Below w3.heap.size w3 w5:=by rw [hw5];exact (QB _ _).alloc (QN _) _
   have o5:w5.ownsRow w3.heap.size 66 3 (.slice (some ⟨w3.heap.size,0,none⟩) 3 3) 3 [.int .i64 3,.slice pa pl pc,.slice none 0 0,.int .i64 4,.slice a7 8 c7,.slice none 0 0,.int .i64 5,.slice a8 8 c8,.slice none 0 0]:=by
    rw [hw5];exact World.ownsRow_lit (base:=w3.heap.size) (e:=66) (size:=3) w3 #[.int .i64 3,.slice pa pl pc,.slice none 0 0,.int .i64 4,.slice a7 8 c7,.slice none 0 0,.int .i64 5,.slice a8 8 c8,.slice none 0 0] 3 (QN _) (by decide) rfl
   have S5:=QQ (show w5.heap.size=w3.heap.size+1 by rw [hw5];simp);rw [← hw5];refine hK _ _ (Wr.of_below b5) ?_;have B5:=QQ (QA b5 o5);clear hw5 b5 o5;clear hK K;refine Qal (fun K hK=>?_);go_simp;refine hK _ ?_;clear hK K;refine Qam [11] (by kernel_rfl) (by kernel_rfl) ?_
   iterate 1
    first
    | (refine Qax (Qa.pre Rg) rfl (by rfl) (v:=?_) (fun W hW=>?_) (fun K hK=>?_);rotate_left;· (go_simp;first | done | rfl))
    | refine Qap (Qa.pre Rg) rfl (by rfl) (fun K hK=>?_)
    go_simp;refine hK _ ?_;clear hK K
   refine Qaw ?_;refine Qaq 12 rfl (by kernel_rfl) (by rfl) (fun K hK=>?_);go_simp;obtain ⟨w6,hw6⟩:∃ w6,w6=w5.alloc (Obj.cells #[.int .i64 131,.slice none 0 0,.slice (some ⟨w3.heap.size,0,none⟩) 3 3] 66):=⟨_,rfl⟩
   have b6:Below w5.heap.size w5 w6:=by rw [hw6];exact (QB _ _).alloc (QN _) _
   have x6:w6.heap[w5.heap.size]?=some (.cells #[.int .i64 131,.slice none 0 0,.slice (some ⟨w3.heap.size,0,none⟩) 3 3] 66):=by rw [hw6];exact QW _ _
   have s6:w6.heap.size=w5.heap.size+1:=by rw [hw6];simp
   rw [← hw6];refine hK _ _ (Wr.of_below b6) ?_;have B6:=QQ b6;clear hw6 b6;clear hK K;refine Qal (fun K hK=>?_);go_simp;refine hK _ ?_;clear hK K;refine Qaq 13 rfl (by kernel_rfl) (by rfl) (fun K hK=>?_);obtain ⟨r7,g7,b7⟩:=(show QaL w2.heap.size w2 (.slice a7 8 c7) (Qa7 nr)∧(∀ b,QaO (.slice a7 8 c7) b→V1.heap.size<b)∧Below V1.heap.size V1 w2 from B7);obtain ⟨r8,g8,b8⟩:=(QG B8);obtain ⟨b5,o5⟩:=(QG B5);have b6:=(QG B6);have s5:=(QG S5);have bV1:=(QG BV);have z1:=bV1.size;have k3:Below w3.heap.size w3 w6:=b5.trans (b6.mono (by omega));have k2:Below w2.heap.size w2 w6:=b8.trans (k3.mono s8);have k9:Below wr.heap.size wr w6:=bV1.trans ((b7.trans (k2.mono s7)).mono z1);obtain ⟨hfl,hinv⟩:=(QG HF);obtain ⟨hh,vs,g1,g2,g3⟩:=(hfl.grow k9).lift (hi':=w6.heap.size) (by omega) (QN _)
   refine QaQ (.tmp 37) (.tmp 49) 59 rfl (W.heap.size+1) 66 i0 _ 3 56 Tryz.underlying59 hi hz0 hz1 hz2 rfl (by decide) v (n+k) vs rfl g1 (some ⟨w5.heap.size,0,none⟩) 1 1 [.int .i64 131,.slice none 0 0,.slice (some ⟨w3.heap.size,0,none⟩) 3 3] rfl rfl (by simp [Value.oneCell']) (.inr ⟨_,_,rfl,fun j u hj=>by
    rw [Nat.zero_add,cell_of_row w6 _ j _ _ _ x6,List.getElem?_toArray];exact hj⟩) (by omega) (by simp only [maxLen];omega) (by omega) ?_
   intro v10 w10 o10 g10 hat;have hpl:=(QG HPL);have hpi:=(QG HPB);have hlow:=hinv.below.size
   have hvn:∀ y,y<W.heap.size+1∨wr.heap.size≤y→v.ownBlock≠some y:=fun y hy e=>by have:=hvlt y e;omega
   have o6:=Qac (B:=w6) o5 fun y hy=>b6.block y (o5.lt y hy).2
   have relK:Qat (FlS 0 w6.heap.size v) w6 (.cons 3 bs .nil (.cons 4 (Qa7 nr) .nil (.cons 5 (Qa7 nw) .nil .nil))) [.int .i64 3,.slice pa pl pc,.slice none 0 0,.int .i64 4,.slice a7 8 c7,.slice none 0 0,.int .i64 5,.slice a8 8 c8,.slice none 0 0]:=by
    refine Qat.cons8 (by decide) (by decide) (by omega) ((hpi.below (hinv.below.trans (k9.mono hlow))).mono (by have:=k9.size;omega)) (fun y hy=>?_) ?_
    ·have h2:=hpi.lt y hy
     exact ⟨Nat.zero_le _,by have:=k9.size;omega,hvn y (by omega)⟩
    refine Qat.cons8 (by decide) (by decide) (by rw [QaG];decide) ((r7.below k2).mono k2.size) (fun y hy=>?_) ?_
    ·have h1:=g7 y hy
     have h2:=r7.lt y hy;exact ⟨Nat.zero_le _,by have:=k2.size;omega,hvn y (by omega)⟩
    refine Qat.cons8 (by decide) (by decide) (by rw [QaG];decide) ((r8.below k3).mono k3.size) (fun y hy=>?_) Qat.nil;have h1:=g8 y hy;have h2:=r8.lt y hy;exact ⟨Nat.zero_le _,by have:=k3.size;omega,hvn y (by omega)⟩
   have relU:Qat (FlS 0 w6.heap.size v) w6 (Qct ⟨bs,(nr:Int),(nw:Int)⟩) [.int .i64 131,.slice none 0 0,.slice (some ⟨w3.heap.size,0,none⟩) 3 3]:=by
    refine Qat.one (by decide) (by decide) (by simp) (fun W' n' _ _=>Qdu _ _) fun W' n' h1 h2=>QgT o6 relK rfl W' n' fun y hy=>?_
    have hS:FlS 0 w6.heap.size v y:=by
     rcases hy with hy | hy
     ·exact hy
     ·have:=o6.lt y hy
      exact ⟨Nat.zero_le _,this.2,hvn y (by omega)⟩
    exact ⟨h1 y hS,h2 y hS⟩
   have hF:=QbY.put hh g1 g2 g3 o10 g10 hat relU rfl;rw [Forest.app_assoc,← (QG HCAT)] at hF;have hB:=hinv.hB
   have B10:Below W.heap.size W w10:=(hinv.below.trans (k9.mono hlow)).grown g10 (by omega) fun b hb=>by have:=(hvlt b hb).1;omega
   have hinv':QbZ W x s X B w10:=hinv.grow B10 ((g10.block B (by have:=(QI.1 hinv.eB).1;omega) (fun e=>by have:=(hvlt B e.symm).1;omega)).trans (k9.block B (QI.1 hinv.eB).1));have HFF:=QQ (QA (hF.lift hF.1 (QN _)) hinv')
   have hw10:Qa Rg w6 w10:=Wr.grown (Wr.refl Rg w6) g10 fun b hb=>.inl (by rw [show Rg=_ from HRG];exact hb)
   clear hF B10 relU relK o10 g10 hat g1 g2 g3 hfl hinv hinv' b6 b7 b8 b5 o5 o6 bV1 x6 k9 k2 k3 r7 g7 r8 g8 hB hpl hpi hvn s5;refine hK _ _ hw10 ?_;clear hK K;refine Qal (fun K hK=>?_);go_simp;refine hK _ ?_;clear hK K;refine Qam [14] (by kernel_rfl) (by kernel_rfl) ?_
   iterate 1
    first
    | (refine Qax (Qa.pre Rg) rfl (by rfl) (v:=?_) (fun W hW=>?_) (fun K hK=>?_);rotate_left;· (go_simp;first | done | rfl))
    | refine Qap (Qa.pre Rg) rfl (by rfl) (fun K hK=>?_)
    go_simp;refine hK _ ?_;clear hK K
   refine Qaw ?_;refine QaR (by kernel_rfl) ?_;go_wp2;go_roundw
   case rel=>exact ⟨k+1,v10,by go_num,rfl,by omega,(QG HFF).1,(QG HFF).2⟩
   case measure=>simp [intOf];omega
  ·have hk2:k=l.length:=by omega
   subst hk2;rw [List.take_length] at hfl;have HF:=QQ (QA hfl hinv);clear hx hk hfl hinv;go_wp2;refine (QG AK) _ _ ?_;obtain ⟨hfl,hinv⟩:=(QG HF);rw [show Qay Qct (l.map (·.1))=Qay Qct (x.B.map (·.1)) by rw [show l=x.B from HL]] at hfl;exact QoN W x s X B v _ _ _ _ _ _ _ _ _ _ _ _ _ _ _ _ _ _ _ _ _ _ _ _ _ _ _ _ _ _ _ _ _ _ _ _ _ _ _ _ _ _ _ _ _ _ _ _ _ _ _ _ _ _ _ _ _ _ _ _ _ _ _ _ _ _ _ _ _ _ _ _ _ _ _ _ _ _ _ _ _ _ _ _ _ _ _ _ _ _ _ _ _ _ _ _ _ _ _ _ _ _ _ _ _ _ _ _ _ _ _ _ wr (n+l.length) _ (by omega) hinv hfl
end
def bw (w:World) (s:ByteArray):World:=w.drew.alloc (.cells (bytesRow s (grownCap w s.size 0 5)) 5 ((bytesRow s (grownCap w s.size 0 5)).size,(bytesRow s (grownCap w s.size 0 5)).size+1))
theorem Qon (w:World) (s:ByteArray):(convert 9 22 (.string s)).run Tryz.prog w=.ok (.slice (some ⟨w.heap.size,0,none⟩) s.size (grownCap w s.size 0 5)) (bw w s) :=
 run_bytes_of_string w 9 22 5 s Tryz.underlying9 Tryz.underlying22 Tryz.underlying5
theorem Qlo (w:World) (s:ByteArray):(bw w s).heap.size=w.heap.size+1:=by
 show (w.heap.push _).size=_;simp
theorem QjO (w:World) (s:ByteArray):Below w.heap.size w (bw w s):=((QB _ _).drew).alloc (QN _) _
theorem Qoc (w:World) (l:List Int) (hl:l.length≤100000) (hb:∀ z∈l,0≤z∧z≤255):QaL (w.heap.size+1) (bw w (strOfNums l)) (.slice (some ⟨w.heap.size,0,none⟩) (strOfNums l).size (grownCap w (strOfNums l).size 0 5)) l:=by
 have hs:(strOfNums l).size=l.length:=Qc2 l;refine ⟨.inr ⟨w.heap.size,0,grownCap w (strOfNums l).size 0 5,by rw [hs],Nat.lt_succ_self _,?_,grownCap_le_maxLen _ _ _ _ (by rw [hs];simp only [maxLen];omega),fun j hj=>?_⟩,hb⟩
 ·have:=grownCap_ge w (strOfNums l).size 0 5
  omega
 ·have e1:(bw w (strOfNums l)).heap[w.heap.size]?=some (.cells (bytesRow (strOfNums l) (grownCap w (strOfNums l).size 0 5)) 5 ((bytesRow (strOfNums l) (grownCap w (strOfNums l).size 0 5)).size,(bytesRow (strOfNums l) (grownCap w (strOfNums l).size 0 5)).size+1)):=by
   show (w.heap.push _)[w.heap.size]?=_;simp
  have hz:=hb _ (List.getElem_mem hj);rw [Nat.zero_add];unfold World.cell?;rw [e1];simp only [bytesRow,strOfNums];rw [Qba _ _ hj]
  have h1:UInt8.toNat (UInt8.ofNat l[j].toNat)=l[j].toNat:=by
   rw [UInt8.toNat_ofNat'];omega
  have h2:((UInt8.toNat (UInt8.ofNat l[j].toNat):Nat):Int)=l[j]:=by rw [h1];omega
  simp [Array.getElem?_append,hj];omega
theorem Qpv (W:World) (x:Mem) (s:Sl5) (X:Array Value) (B:Nat) (t3:Value) (u4 u5 u6 u7 u8 u9 u10 u11 u12 u13 u14 u15 u16 u17 u18 u19 u20 u21 u22 u23 u24 u25 u26 u27 u28 u29 u30 u31 u32 u33 u34 u35 u36 u37 u38 u39 u40 u41 u42 u43 u44 u45 u46 u47 u48 u49 u50 u51 u52 u53 u54 u55 u56 u57 u58 u59 u60 u61 u62 u63 u64 u65 u66 u67 u68 u69 u70 u71 u72 u73 u74 u75 u76 u77 u78 u79 u80 u81 u82 u83 u84 u85 u86 u87 u88 u89 u90 u91 u92 u93 u94 u95 u96 u97 u98 u99 u100 u101 u102 u103 u104 u105 u106 u107 u108 u109 u110 u111 u112 u113 u114 u115:Value) (V:World) (n:Nat) (f:Forest) (hn:n≤10000)
  (h:QbZ W x s X B V) (hl:QbY 0 V.heap.size (W.heap.size+1) V t3 n f) :
  (tl 2 (Tryz.f65.body.getD .skip)).wp Tryz.prog (FsQ W (((((f.app (Qay QeG x.O)).app (Qay Qct (x.B.map (·.1)))).app (Qay Qb9 x.F)).app (Qay Qcj (x.P.map (·.1)))).app (Qay Qck x.K))) { tmps:=#[.agg X,.pointer (some ⟨B,0,none⟩),.slice none 0 0,t3,u4,u5,u6,u7,u8,u9,u10,u11,u12,u13,u14,u15,u16,u17,u18,u19,u20,u21,u22,u23,u24,u25,u26,u27,u28,u29,u30,u31,u32,u33,u34,u35,u36,u37,u38,u39,u40,u41,u42,u43,u44,u45,u46,u47,u48,u49,u50,u51,u52,u53,u54,u55,u56,u57,u58,u59,u60,u61,u62,u63,u64,u65,u66,u67,u68,u69,u70,u71,u72,u73,u74,u75,u76,u77,u78,u79,u80,u81,u82,u83,u84,u85,u86,u87,u88,u89,u90,u91,u92,u93,u94,u95,u96,u97,u98,u99,u100,u101,u102,u103,u104,u105,u106,u107,u108,u109,u110,u111,u112,u113,u114,u115],defers:=[] } V:=by
 obtain ⟨i0,hi,hz0,hz1,hz2⟩:=info_parts Qc1;have c1:=h.cell (i:=1) rfl
 have hsm:x.O.length≤20000:=by have:=h.fine.small;simpa [Mem.im] using this.2.1
 have hmay:∀ q∈x.O,q.length≤20000∧∀ z∈q,0≤z∧z≤255:=fun q hq=>h.fine.objs q hq
 have HK:=QQ h.at_.O;have HM:=QQ hmay;obtain ⟨l,hll⟩:∃ l,l=x.O:=⟨_,rfl⟩;rw [← hll] at c1 hsm;obtain ⟨ka,hka⟩:∃ a,a=s.o.1:=⟨_,rfl⟩;rw [← hka] at c1;have HKA:=QQ hka;clear hka;have HL:=QQ hll;have H:=QQ (QA h hl);clear h hl hmay
 conv=>arg 2;whnf
 refine wp_seq_k (fun K' aK=>?_);have AK:=QQ aK;clear aK;clear hll;go_wp2;go_loopw [3,5,19] (fun vv _ i wr=>∃ (k:Nat) (v:Value),i=.int .i64 (k:Int)∧v=vv∧k≤l.length∧QbY 0 wr.heap.size (W.heap.size+1) wr v (n+k) (f.app (Qay QeG (l.take k)))∧QbZ W x s X B wr) (fun _ _ i _=>l.length-(intOf i).toNat)
 case atStart =>
  obtain ⟨h,hl⟩:=(QG H);exact ⟨0,_,rfl,rfl,Nat.zero_le _,by rw [List.take_zero];show QbY _ _ _ _ _ _ (f.app .nil);rw [Forest.app_nil];exact hl,h⟩
 case round =>
  clear c1;obtain ⟨k,v,rfl,rfl,hk,hfl,hinv⟩:=hrel
  rcases Nat.lt_or_ge k l.length with hx | hx
  ·obtain ⟨mg,hmg⟩:∃ mg,mg=l[k]:=⟨_,rfl⟩
   have hmem:mg∈x.O:=by rw [← (QG HL),hmg];exact List.getElem_mem hx
   have hmy:=(QG HM) mg hmem
   have hcat:Qay QeG (l.take (k+1))=(Qay QeG (l.take k)).app (QeG mg):=by rw [Qex QeG l k hx,hmg]
   have hb:=hinv.below;have hsz:=hb.size
   have hrow:∃ b off,ka=some ⟨b,off,none⟩∧wr.cell? ⟨b,off+k,none⟩=some (.string (strOfNums mg)):=by
    have HK':=(QG HK);rw [← (QG HL),← (QG HKA)] at HK'
    rcases HK' with h0 | ⟨b,off,e0,hbn,hlc,hcm,hc⟩
    ·omega
    refine ⟨b,off,e0,?_⟩;have:=hc (k*1+0) _ (Qb QbQ 1 l (fun _ _=>rfl) k hx 0 (.string (strOfNums mg)) (by rw [← hmg];rfl));rw [Nat.mul_one,Nat.add_zero] at this;exact (hb.cell (p:=⟨b,off+k,none⟩) hbn).trans this
   obtain ⟨b,off,rfl,e⟩:=hrow;clear hmg hmem;obtain ⟨st,hst⟩:∃ st,st=strOfNums mg:=⟨_,rfl⟩;rw [← hst] at e;have HST:=QQ hst;have HCAT:=QQ hcat;have HF:=QQ (QA hfl hinv)
   have t0:((k:Int)<(l.length:Int)):=by omega
   obtain ⟨cp,hcp⟩:∃ cp,cp=grownCap wr st.size 0 5:=⟨_,rfl⟩;obtain ⟨sz,hsz9⟩:∃ sz,sz=st.size:=⟨_,rfl⟩;obtain ⟨V2,hV2⟩:∃ V2,V2=bw wr st:=⟨_,rfl⟩
   have bV2:Below wr.heap.size wr V2:=by rw [hV2];exact QjO _ _
   have sV2:V2.heap.size=wr.heap.size+1:=by rw [hV2];exact Qlo _ _
   have rV2:QaL V2.heap.size V2 (.slice (some ⟨wr.heap.size,0,none⟩) sz cp) mg:=by
    rw [sV2,hV2,hsz9,hcp,hst];exact Qoc wr mg (by omega) hmy.2
   have hcv:(convert 9 22 (.string st)).run Tryz.prog wr=.ok (.slice (some ⟨wr.heap.size,0,none⟩) sz cp) V2:=by
    rw [hsz9,hcp,hV2];exact Qon wr st
   have SV2:=QQ (QA sV2 rV2);clear hV2 hsz9 hcp hst hcat hfl hinv sV2 rV2;go_wp2_with (at_builtin;refine Qau ?_);unfold Qag;obtain ⟨sV2,rV2⟩:=(QG SV2);clear hcv;obtain ⟨W9,hW9⟩:∃ W9,W9=V2.alloc (Obj.cells #[.int .i64 2,.slice (some ⟨wr.heap.size,0,none⟩) sz cp,.slice none 0 0] 66):=⟨_,rfl⟩
   have b9:Below V2.heap.size V2 W9:=by rw [hW9];exact (QB _ _).alloc (QN _) _
   have e9:W9.heap[V2.heap.size]?=some (.cells #[.int .i64 2,.slice (some ⟨wr.heap.size,0,none⟩) sz cp,.slice none 0 0] 66):=by rw [hW9];exact QW _ _
   have s9:W9.heap.size=V2.heap.size+1:=by rw [hW9];simp
   rw [← hW9];clear hW9;obtain ⟨hfl,hinv⟩:=(QG HF);have k9:Below wr.heap.size wr W9:=bV2.trans (b9.mono bV2.size);obtain ⟨_,vs0,q1,_,_⟩:=id hfl;obtain ⟨hh,vs,g1,g2,g3⟩:=(hfl.grow k9).lift (hi':=W9.heap.size) (by omega) (QN _)
   refine QaH rfl _ _ 59 rfl (W.heap.size+1) 66 i0 _ 3 56 Tryz.underlying59 hi hz0 hz1 hz2 rfl (by decide) v (n+k) vs rfl g1 (some ⟨V2.heap.size,0,none⟩) 1 1 [.int .i64 2,.slice (some ⟨wr.heap.size,0,none⟩) sz cp,.slice none 0 0] rfl rfl (by simp [Value.oneCell']) (.inr ⟨_,_,rfl,fun j u hj=>by
    rw [Nat.zero_add,cell_of_row W9 _ j _ _ _ e9,List.getElem?_toArray]
    exact hj⟩) (by omega) (by simp only [maxLen];omega) (by omega) ?_
   intro v10 w10 o10 g10 hat
   have relU:Qat (FlS 0 W9.heap.size v) W9 (QeG mg) [.int .i64 2,.slice (some ⟨wr.heap.size,0,none⟩) sz cp,.slice none 0 0]:=by
    refine Qat.cons8 (by decide) (by decide) (by have:=hmy.1;omega) ((rV2.below b9).mono b9.size) (fun b hb=>?_) Qat.nil;have h1:=rV2.lt b hb
    have h2:b=wr.heap.size:=by
     obtain ⟨_,rfl⟩:=hb;rfl
    exact ⟨Nat.zero_le _,by omega,fun e=>by have:=(q1.lt b e).2;omega⟩
   have hF:=QbY.put hh g1 g2 g3 o10 g10 hat relU rfl;rw [Forest.app_assoc,← (QG HCAT)] at hF;have hB:=hinv.hB;have hlow:=hinv.below.size
   have B10:Below W.heap.size W w10:=(hinv.below.trans (k9.mono hlow)).grown g10 (by omega) fun b hb=>by have:=(q1.lt b hb).1;omega
   have hinv':QbZ W x s X B w10:=hinv.grow B10 ((g10.block B (by have:=(QI.1 hinv.eB).1;omega) (fun e=>by have:=(q1.lt B e.symm).1;omega)).trans (k9.block B (QI.1 hinv.eB).1));have HFF:=QQ (QA (hF.lift hF.1 (QN _)) hinv');clear hF B10 relU o10 g10 hat g1 g2 g3 hfl hinv hinv' q1 bV2 sV2 b9 e9 k9 rV2 hB;go_wp2;go_roundw
   case rel =>
    exact ⟨k+1,v10,by go_num,rfl,by omega,(QG HFF).1,(QG HFF).2⟩
   case measure=>simp [intOf];omega
  ·have hk2:k=l.length:=by omega
   subst hk2;rw [List.take_length] at hfl;have HF:=QQ (QA hfl hinv);clear hx hk hfl hinv;go_wp2;refine (QG AK) _ _ ?_;obtain ⟨hfl,hinv⟩:=(QG HF);rw [show Qay QeG l=Qay QeG x.O by rw [show l=x.O from HL]] at hfl;exact QoO W x s X B v _ _ _ _ _ _ _ _ _ _ _ _ _ _ _ _ _ _ _ _ _ _ _ _ _ _ _ _ _ _ _ _ _ _ _ _ _ _ _ _ _ _ _ _ _ _ _ _ _ _ _ _ _ _ _ _ _ _ _ _ _ _ _ _ _ _ _ _ _ _ _ _ _ _ _ _ _ _ _ _ _ _ _ _ _ _ _ _ _ _ _ _ _ _ _ _ _ _ _ _ _ _ _ _ _ _ _ _ _ _ _ _ wr (n+l.length) _ (by omega) hinv hfl
structure Qa1 (W:World) (x:Mem) (s:Sl5) (X:Array Value) (B:Nat) (V:World):Prop where
 hX:X=(x.cells s).toArray
 hB:B=W.heap.size
 eB:V.heap[B]?=some (.cells X 29)
 below:Below W.heap.size W V
 at_:Qb2 W.heap.size W x s
 fine:x.im.Fine
theorem Qa1.grow {W:World} {x:Mem} {s:Sl5} {X:Array Value} {B:Nat} {V V':World} (h:Qa1 W x s X B V) (b:Below V.heap.size V V'):Qa1 W x s X B V' :=
 ⟨h.hX,h.hB,(b.block _ (QI.1 h.eB).1).trans h.eB,h.below.trans (b.mono h.below.size),h.at_,h.fine⟩
theorem Qa1.cell {W:World} {x:Mem} {s:Sl5} {X:Array Value} {B:Nat} {V:World} (h:Qa1 W x s X B V) {i:Nat} {v:Value} (hv:(x.cells s)[i]?=some v):V.cell? ⟨B,i,none⟩=some v:=by
 rw [cell_of_row V _ i _ _ _ h.eB,h.hX,List.getElem?_toArray];exact hv
theorem QbP {α:Type} {n:Nat} {W V:World} {a:Option Addr} {len cap m:Nat} {l:List α} {f:α→List Value} (h:Qc n W a len cap (l.flatMap f)) (hl:len=l.length) (hf:∀ x∈l,(f x).length=m) (hb:Below n W V) (k:Nat) (hk:k<l.length) :
  ∃ b off,a=some ⟨b,off,none⟩∧b<n∧∀ j v,(f l[k])[j]?=some v→V.cell? ⟨b,off+k*m+j,none⟩=some v:=by
 subst hl
 rcases h with h0 | ⟨b,off,e0,hbn,hlc,hcm,hc⟩
 ·omega
 refine ⟨b,off,e0,hbn,fun j v hj=>?_⟩;have:=hc (k*m+j) v (Qb f m l hf k hk j v hj);rw [show off+k*m+j=off+(k*m+j) by omega];exact (hb.cell (p:=⟨b,off+(k*m+j),none⟩) hbn).trans this
section
attribute [local go_sem] QaB QaJ QaA
structure Qf7 (W:World) (p:Pr) (fa:Option Addr) (fc:Nat) (pa:Option Addr) (pc:Nat) (fa':Option Addr) (fc':Nat) (pa':Option Addr) (pc':Nat) (X1 X2:Array Value) (B1 B2:Nat) (V:World):Prop where
 fine:p.Fine
 h1:X1=(p.vals fa fc pa pc).toArray
 h2:X2=(p.vals fa' fc' pa' pc').toArray
 e1:V.heap[B1]?=some (.cells X1 54)
 e2:V.heap[B2]?=some (.cells X2 54)
 below:Below W.heap.size W V
 f1:Qc W.heap.size W fa p.fds.length fc (p.fds.map (Value.int .i64))
 f2:Qc W.heap.size W fa' p.fds.length fc' (p.fds.map (Value.int .i64))
 g1:Qc W.heap.size W pa p.pages.length pc (p.pages.flatMap Pg.vals)
 g2:Qc W.heap.size W pa' p.pages.length pc' (p.pages.flatMap Pg.vals)
section
variable {W : World} {p : Pr} {fa : Option Addr} {fc : Nat} {pa : Option Addr} {pc : Nat} {fa' : Option Addr} {fc' : Nat} {pa' : Option Addr} {pc' : Nat} {X1 X2 : Array Value} {B1 B2 : Nat} {V V' : World}
theorem Qf7.grow (h:Qf7 W p fa fc pa pc fa' fc' pa' pc' X1 X2 B1 B2 V) (b:Below V.heap.size V V'):Qf7 W p fa fc pa pc fa' fc' pa' pc' X1 X2 B1 B2 V' :=
 ⟨h.fine,h.h1,h.h2,(b.block _ (QI.1 h.e1).1).trans h.e1,(b.block _ (QI.1 h.e2).1).trans h.e2,h.below.trans (b.mono h.below.size),h.f1,h.f2,h.g1,h.g2⟩
theorem Qf7.cell1 (h:Qf7 W p fa fc pa pc fa' fc' pa' pc' X1 X2 B1 B2 V) {i:Nat} {v:Value} (hv:(p.vals fa fc pa pc)[i]?=some v):V.cell? ⟨B1,i,none⟩=some v:=by
 rw [cell_of_row V _ i _ _ _ h.e1,h.h1,List.getElem?_toArray];exact hv
theorem Qf7.cell2 (h:Qf7 W p fa fc pa pc fa' fc' pa' pc' X1 X2 B1 B2 V) {i:Nat} {v:Value} (hv:(p.vals fa' fc' pa' pc')[i]?=some v):V.cell? ⟨B2,i,none⟩=some v:=by
 rw [cell_of_row V _ i _ _ _ h.e2,h.h2,List.getElem?_toArray];exact hv
end
theorem QdK {P:Program} {ops:Array Oper} {rest:List Oper} {o:Oper} {a:Act} {w:World} {Q:Exit→Act→World→Prop} {n:Nat} (ho:o.dst=some n) (h:Qag (wpList P ops Q (o::rest) a w)):wpList P ops Q (o::rest) a w:=h
theorem QcS (W:World):Below W.heap.size W W.drew:=⟨rfl,rfl,rfl,QN _,fun _ _=>rfl⟩
def TwQ (W:World):Exit→Act→World→Prop:=bodyPost Tryz.prog Tryz.f29 fun e W'=>e=.returned (.bool true)∧Below W.heap.size W W'
def Qlc (W:World) (p:Pr) (fa:Option Addr) (fc:Nat) (pa:Option Addr) (pc:Nat) (fa':Option Addr) (fc':Nat) (pa':Option Addr) (pc':Nat) (X1 X2:Array Value) (B1 B2:Nat) (c:Code):Prop :=
 ∀ (t5 t6 u7 u8 u9 u10 u11 u12 u13 u14 u15 u16 u17 u18 u19 u20 u21 u22 u23 u24 u25 u26 u27 u28 u29 u30 u31 u32 u33 u34 u35 u36 u37 u38 u39 u40 u41 u42 u43 u44 u45 u46 u47 u48 u49 u50 u51 u52 u53 u54 u55 u56 u57 u58 u59 u60 u61 u62 u63 u64 u65 u66 u67 u68 u69 u70 u71 u72 u73 u74 u75 u76 u77 u78 u79 u80 u81 u82 u83 u84 u85 u86 u87 u88 u89 u90 u91 u92 u93 u94 u95 u96 u97 u98 u99 u100 u101 u102 u103 u104 u105 u106 u107 u108 u109 u110 u111 u112 u113 u114 u115 u116 u117 u118 u119 u120 u121 u122 u123 u124 u125 u126 u127 u128 u129 u130 u131 u132 u133 u134 u135 u136 u137 u138 u139 u140 u141 u142 u143 u144 u145 u146 u147:Value) (V:World),Qf7 W p fa fc pa pc fa' fc' pa' pc' X1 X2 B1 B2 V→c.wp Tryz.prog (TwQ W) { tmps:=#[.agg X1,.agg X2,.pointer (some ⟨B1,0,none⟩),.pointer (some ⟨B2,0,none⟩),.bool false,t5,t6,u7,u8,u9,u10,u11,u12,u13,u14,u15,u16,u17,u18,u19,u20,u21,u22,u23,u24,u25,u26,u27,u28,u29,u30,u31,u32,u33,u34,u35,u36,u37,u38,u39,u40,u41,u42,u43,u44,u45,u46,u47,u48,u49,u50,u51,u52,u53,u54,u55,u56,u57,u58,u59,u60,u61,u62,u63,u64,u65,u66,u67,u68,u69,u70,u71,u72,u73,u74,u75,u76,u77,u78,u79,u80,u81,u82,u83,u84,u85,u86,u87,u88,u89,u90,u91,u92,u93,u94,u95,u96,u97,u98,u99,u100,u101,u102,u103,u104,u105,u106,u107,u108,u109,u110,u111,u112,u113,u114,u115,u116,u117,u118,u119,u120,u121,u122,u123,u124,u125,u126,u127,u128,u129,u130,u131,u132,u133,u134,u135,u136,u137,u138,u139,u140,u141,u142,u143,u144,u145,u146,u147],defers:=[] } V
theorem Qq8 (W:World) (p:Pr) (fa:Option Addr) (fc:Nat) (pa:Option Addr) (pc:Nat) (fa':Option Addr) (fc':Nat) (pa':Option Addr) (pc':Nat) (X1 X2:Array Value) (B1 B2:Nat):Qlc W p fa fc pa pc fa' fc' pa' pc' X1 X2 B1 B2 (tl 4 (Tryz.f29.body.getD .skip)):=by
 iterate 143 intro
 intro V h;have H:=QQ h;have a0:=h.cell1 (Qaf p h.fine.ok fa fc pa pc).1.1;have b0:=h.cell2 (Qaf p h.fine.ok fa' fc' pa' pc').1.1;have a1:=h.cell1 (Qaf p h.fine.ok fa fc pa pc).1.2.1;have b1:=h.cell2 (Qaf p h.fine.ok fa' fc' pa' pc').1.2.1;have a2:=h.cell1 (Qaf p h.fine.ok fa fc pa pc).1.2.2.1;have b2:=h.cell2 (Qaf p h.fine.ok fa' fc' pa' pc').1.2.2.1;have a3:=h.cell1 (Qaf p h.fine.ok fa fc pa pc).1.2.2.2;have b3:=h.cell2 (Qaf p h.fine.ok fa' fc' pa' pc').1.2.2.2;have a45:=h.cell1 (Qaf p h.fine.ok fa fc pa pc).2.1.1;have b45:=h.cell2 (Qaf p h.fine.ok fa' fc' pa' pc').2.1.1;have a46:=h.cell1 (Qaf p h.fine.ok fa fc pa pc).2.1.2.1;have b46:=h.cell2 (Qaf p h.fine.ok fa' fc' pa' pc').2.1.2.1;have a47:=h.cell1 (Qaf p h.fine.ok fa fc pa pc).2.1.2.2.1;have b47:=h.cell2 (Qaf p h.fine.ok fa' fc' pa' pc').2.1.2.2.1;have a48:=h.cell1 (Qaf p h.fine.ok fa fc pa pc).2.1.2.2.2.1;have b48:=h.cell2 (Qaf p h.fine.ok fa' fc' pa' pc').2.1.2.2.2.1;have a49:=h.cell1 (Qaf p h.fine.ok fa fc pa pc).2.1.2.2.2.2;have b49:=h.cell2 (Qaf p h.fine.ok fa' fc' pa' pc').2.1.2.2.2.2;have a50:=h.cell1 (Qaf p h.fine.ok fa fc pa pc).2.2.1.1;have b50:=h.cell2 (Qaf p h.fine.ok fa' fc' pa' pc').2.2.1.1;have a52:=h.cell1 (Qaf p h.fine.ok fa fc pa pc).2.2.1.2.2.1;have b52:=h.cell2 (Qaf p h.fine.ok fa' fc' pa' pc').2.2.1.2.2.1;have a53:=h.cell1 (Qaf p h.fine.ok fa fc pa pc).2.2.1.2.2.2.1;have b53:=h.cell2 (Qaf p h.fine.ok fa' fc' pa' pc').2.2.1.2.2.2.1
 have eP10:(X1.toList.drop 4).take p.cpu.vals.toArray.size=p.cpu.vals.toArray.toList:=by
  rw [QS,Cp.vals_length h.fine.ok.1,h.h1];exact (Qaf p h.fine.ok fa fc pa pc).2.2.2.1
 have eP20:(X2.toList.drop 4).take p.cpu.vals.toArray.size=p.cpu.vals.toArray.toList:=by
  rw [QS,Cp.vals_length h.fine.ok.1,h.h2];exact (Qaf p h.fine.ok fa' fc' pa' pc').2.2.2.1
 have i0:(Tryz.prog.info? 45).map (·.size)=some p.cpu.vals.toArray.size:=by rw [QS,Cp.vals_length h.fine.ok.1];exact Qbv
 have k0:∀ w,(binOp .eql 45 (.agg p.cpu.vals.toArray) (.agg p.cpu.vals.toArray)).run Tryz.prog w=.ok (.bool true) w:=fun w=>by rw [QgD _ _ h.fine.ok.1 h.fine.ok.1 w,Cp.eq_self]
 have eP11:(X1.toList.drop 15).take p.saved.vals.toArray.size=p.saved.vals.toArray.toList:=by
  rw [QS,Cp.vals_length h.fine.ok.2.1,h.h1];exact (Qaf p h.fine.ok fa fc pa pc).2.2.2.2.1
 have eP21:(X2.toList.drop 15).take p.saved.vals.toArray.size=p.saved.vals.toArray.toList:=by
  rw [QS,Cp.vals_length h.fine.ok.2.1,h.h2];exact (Qaf p h.fine.ok fa' fc' pa' pc').2.2.2.2.1
 have i1:(Tryz.prog.info? 45).map (·.size)=some p.saved.vals.toArray.size:=by rw [QS,Cp.vals_length h.fine.ok.2.1];exact Qbv
 have k1:∀ w,(binOp .eql 45 (.agg p.saved.vals.toArray) (.agg p.saved.vals.toArray)).run Tryz.prog w=.ok (.bool true) w:=fun w=>by rw [QgD _ _ h.fine.ok.2.1 h.fine.ok.2.1 w,Cp.eq_self]
 have eP12:(X1.toList.drop 26).take p.sig.vals.toArray.size=p.sig.vals.toArray.toList:=by
  rw [QS,Sg.vals_length h.fine.ok.2.2,h.h1];exact (Qaf p h.fine.ok fa fc pa pc).2.2.2.2.2
 have eP22:(X2.toList.drop 26).take p.sig.vals.toArray.size=p.sig.vals.toArray.toList:=by
  rw [QS,Sg.vals_length h.fine.ok.2.2,h.h2];exact (Qaf p h.fine.ok fa' fc' pa' pc').2.2.2.2.2
 have i2:(Tryz.prog.info? 48).map (·.size)=some p.sig.vals.toArray.size:=by rw [QS,Sg.vals_length h.fine.ok.2.2];exact Qez
 have k2:∀ w,(binOp .eql 48 (.agg p.sig.vals.toArray) (.agg p.sig.vals.toArray)).run Tryz.prog w=.ok (.bool true) w:=fun w=>by rw [Qiq _ _ h.fine.ok.2.2 h.fine.ok.2.2 w,Sg.eq_self]
 have kK:=Qpq;have e1:=h.e1;have e2:=h.e2;obtain ⟨v0,hv0⟩:∃ v,v=p.cpu.vals.toArray:=⟨_,rfl⟩;rw [← hv0] at eP10 eP20 i0 k0;obtain ⟨v1,hv1⟩:∃ v,v=p.saved.vals.toArray:=⟨_,rfl⟩;rw [← hv1] at eP11 eP21 i1 k1;obtain ⟨v2,hv2⟩:∃ v,v=p.sig.vals.toArray:=⟨_,rfl⟩;rw [← hv2] at eP12 eP22 i2 k2;have EP:=QQ (QA eP10 (QA eP11 eP12));have FP:=QQ (QA eP20 (QA eP21 eP22));have KK:=QQ (QA k0 (QA k1 k2));have KY:=QQ kK;have E1:=QQ e1;have E2:=QQ e2;clear hv0 hv1 hv2 eP10 eP11 eP12 eP20 eP21 eP22 k0 k1 k2 kK e1 e2 h
 conv=>arg 2;whnf
 dsimp only [List.append];go_wp2_with ((fail_if_success (unfold Qag));refine QdK (n:=87) rfl ?_);unfold Qag;refine Qai (by rfl) 45 (.tmp 86) rfl B1 4 rfl _ v0 _ (QG E1) (QG EP).1 _ Tryz.underlying45 rfl i0 ?_;go_wp2_with ((fail_if_success (unfold Qag));refine QdK (n:=89) rfl ?_);unfold Qag;refine Qai (by rfl) 45 (.tmp 88) rfl B2 4 rfl _ v0 _ (QG E2) (QG FP).1 _ Tryz.underlying45 rfl i0 ?_;go_wp2_with ((fail_if_success (unfold Qag));refine QdK (n:=90) rfl ?_);unfold Qag;refine QcN (by rfl) .eql 45 _ (.tmp 87) (.tmp 89) rfl _ (run_eqGuard_agg _ _ _ _ _ _ _ QfH) ((QG KK).1 _) ?_;go_wp2_with ((fail_if_success (unfold Qag));refine QdK (n:=94) rfl ?_);unfold Qag;refine Qai (by rfl) 45 (.tmp 93) rfl B1 15 rfl _ v1 _ (QG E1) (QG EP).2.1 _ Tryz.underlying45 rfl i1 ?_;go_wp2_with ((fail_if_success (unfold Qag));refine QdK (n:=96) rfl ?_);unfold Qag;refine Qai (by rfl) 45 (.tmp 95) rfl B2 15 rfl _ v1 _ (QG E2) (QG FP).2.1 _ Tryz.underlying45 rfl i1 ?_;go_wp2_with ((fail_if_success (unfold Qag));refine QdK (n:=97) rfl ?_);unfold Qag;refine QcN (by rfl) .eql 45 _ (.tmp 94) (.tmp 96) rfl _ (run_eqGuard_agg _ _ _ _ _ _ _ QfH) ((QG KK).2.1 _) ?_;go_wp2_with ((fail_if_success (unfold Qag));refine QdK (n:=101) rfl ?_);unfold Qag;refine Qai (by rfl) 48 (.tmp 100) rfl B1 26 rfl _ v2 _ (QG E1) (QG EP).2.2 _ Tryz.underlying48 rfl i2 ?_;go_wp2_with ((fail_if_success (unfold Qag));refine QdK (n:=103) rfl ?_);unfold Qag;refine Qai (by rfl) 48 (.tmp 102) rfl B2 26 rfl _ v2 _ (QG E2) (QG FP).2.2 _ Tryz.underlying48 rfl i2 ?_;go_wp2_with ((fail_if_success (unfold Qag));refine QdK (n:=104) rfl ?_);unfold Qag;refine QcN (by rfl) .eql 48 _ (.tmp 101) (.tmp 103) rfl _ (run_eqGuard_agg _ _ _ _ _ _ _ Qjk) ((QG KK).2.2 _) ?_;go_wp2;go_ret;exact ⟨rfl,(QG H).below⟩
theorem Qq7 (W:World) (p:Pr) (fa:Option Addr) (fc:Nat) (pa:Option Addr) (pc:Nat) (fa':Option Addr) (fc':Nat) (pa':Option Addr) (pc':Nat) (X1 X2:Array Value) (B1 B2:Nat):Qlc W p fa fc pa pc fa' fc' pa' pc' X1 X2 B1 B2 (tl 3 (Tryz.f29.body.getD .skip)):=by
 iterate 143 intro
 intro V h;have H:=QQ h;have hsm:p.pages.length≤20000:=h.fine.pages;have HP1:=QQ (fun (V:World) (hV:Below W.heap.size W V) (k:Nat) (hk:k<p.pages.length)=>QbP (m:=6) h.g1 rfl (fun _ _=>rfl) hV k hk);have HP2:=QQ (fun (V:World) (hV:Below W.heap.size W V) (k:Nat) (hk:k<p.pages.length)=>QbP (m:=6) h.g2 rfl (fun _ _=>rfl) hV k hk);clear h;obtain ⟨n,hn⟩:∃ n,n=p.pages.length:=⟨_,rfl⟩;have HN:=QQ hn;rw [← hn] at hsm;clear hn
 conv=>arg 2;whnf
 refine wp_seq_k (fun K aK=>?_);have AK:=QQ aK;clear aK;go_wp2;go_loopw [4,6] (fun r0 i wr=>∃ (k:Nat),r0=.bool false∧i=.int .i64 (k:Int)∧k≤n∧Qf7 W p fa fc pa pc fa' fc' pa' pc' X1 X2 B1 B2 wr) (fun _ i _=>n-(intOf i).toNat)
 case atStart=>exact ⟨0,rfl,rfl,Nat.zero_le _,H⟩
 case round =>
  clear H;obtain ⟨k,rfl,rfl,hk,inv⟩:=hrel;have H:=QQ inv;have c1:=inv.cell1 (Qaf p inv.fine.ok fa fc pa pc).2.2.1.2.2.2.2;have c2:=inv.cell2 (Qaf p inv.fine.ok fa' fc' pa' pc').2.2.1.2.2.2.2;rw [show p.pages.length=n from (QG HN).symm] at c1 c2
  rcases Nat.lt_or_ge k n with hx | hx
  rotate_left
  ·have t1:decide ((k:Int)<(n:Int))=false:=by simp;omega
   clear inv;go_wp2;refine (QG AK) _ _ ?_;apply Qq8 W p fa fc pa pc fa' fc' pa' pc' X1 X2 B1 B2;exact H
  have t1:decide ((k:Int)<(n:Int))=true:=by simp;omega
  have t0:(k:Int)<(n:Int):=by omega
  have hx2:k<p.pages.length:=by rw [← (QG HN)];exact hx
  obtain ⟨b,off,ha,hbn,e⟩:=(QG HP1) wr inv.below k hx2;obtain ⟨b',off',ha',hbn',e'⟩:=(QG HP2) wr inv.below k hx2;subst ha;subst ha';have hsz:=inv.below.size;have l1:=(QI.1 inv.e1).1;have l2:=(QI.1 inv.e2).1;have bD:=QcS wr;have H2:=QQ (inv.grow bD);obtain ⟨v,hv⟩:∃ v,v=(Pg.vals p.pages[k]).toArray:=⟨_,rfl⟩
  have ne:∀ w,(binOp .neq 110 (.agg v) (.agg v)).run Tryz.prog w=.ok (.bool false) w:=fun w=>by rw [hv];exact QqH _ w
  have HX:=QQ (show ∀ W',Qaz wr.drew W'→W'.cell? ⟨B1,54,none⟩=some (.slice (some ⟨b,off,none⟩) n pc)∧W'.cell? ⟨B2,54,none⟩=some (.slice (some ⟨b',off',none⟩) n pc')∧(loadVar 110 ⟨b,off+k*6,none⟩).run Tryz.prog W'=.ok (.agg v) W'∧(loadVar 110 ⟨b',off'+k*6,none⟩).run Tryz.prog W'=.ok (.agg v) W' from fun W' hW=>by
   have bb:=bD.trans hW;rw [hv]
   exact ⟨(bb.cell (p:=⟨B1,54,none⟩) l1).trans c1,(bb.cell (p:=⟨B2,54,none⟩) l2).trans c2,
    Qa2 W' b (off+k*6) _ (Pg.vals p.pages[k]) _ (fun j v hj=>(bb.cell (p:=⟨b,off+k*6+j,none⟩) (by show b<wr.heap.size;omega)).trans (e j v hj)) Tryz.underlying110 rfl Qeb,
    Qa2 W' b' (off'+k*6) _ (Pg.vals p.pages[k]) _ (fun j v hj=>(bb.cell (p:=⟨b',off'+k*6+j,none⟩) (by show b'<wr.heap.size;omega)).trans (e' j v hj)) Tryz.underlying110 rfl Qeb⟩)
  have NE:=QQ ne;clear ne hv e e' inv bD;go_wp2;clear c1 c2;refine Qas Qaz (by kernel_rfl) 11 rfl ?_;refine Qam [0,1,2,3] (by kernel_rfl) (by kernel_rfl) ?_
  iterate 4
   first
   | (refine Qax (Qaz.pre) rfl (by rfl) (v:=?_) (fun W hW=>?_) (fun K hK=>?_);rotate_left;· (obtain ⟨y1,y2,_⟩:=(QG HX) W hW;go_simp;first | done | rfl))
   | refine Qap (Qaz.pre) rfl (by rfl) (fun K hK=>?_)
   go_simp;refine hK _ ?_;clear hK K
  refine Qaw ?_;refine Qb5 4 (Qaz.pre) rfl (by kernel_rfl) (by kernel_rfl) (by kernel_rfl) (by rfl) (v:=.agg v) (fun W hW=>?_) (fun K hK=>?_)
  ·(exact QbF 110 (.tmp 51) rfl ⟨b,off+k*6,none⟩ rfl ((QG HX) W hW).2.2.1)
  go_simp;refine hK _ ?_;clear hK K;refine Qam [5,6,7,8] (by kernel_rfl) (by kernel_rfl) ?_
  iterate 4
   first
   | (refine Qax (Qaz.pre) rfl (by rfl) (v:=?_) (fun W hW=>?_) (fun K hK=>?_);rotate_left;· (obtain ⟨y1,y2,_⟩:=(QG HX) W hW;go_simp;first | done | rfl))
   | refine Qap (Qaz.pre) rfl (by rfl) (fun K hK=>?_)
   go_simp;refine hK _ ?_;clear hK K
  refine Qaw ?_;refine Qb5 9 (Qaz.pre) rfl (by kernel_rfl) (by kernel_rfl) (by kernel_rfl) (by rfl) (v:=.agg v) (fun W hW=>?_) (fun K hK=>?_)
  ·(exact QbF 110 (.tmp 56) rfl ⟨b',off'+k*6,none⟩ rfl ((QG HX) W hW).2.2.2)
  go_simp;refine hK _ ?_;clear hK K;refine Qb5 10 (Qaz.pre) rfl (by kernel_rfl) (by kernel_rfl) (by kernel_rfl) (by rfl) (v:=.bool false) (fun W hW=>?_) (fun K hK=>?_)
  ·(exact Qji .neq 110 _ (.tmp 52) (.tmp 57) rfl _ (run_eqGuard_agg _ _ _ _ _ _ _ QoS) ((QG NE) _))
  go_simp;refine hK _ ?_;clear hK K;refine QaR (by kernel_rfl) ?_;go_wp2;go_roundw
  case rel=>exact ⟨k+1,rfl,by go_num,by omega,H2⟩
  case measure=>simp [intOf];omega
theorem Qq6 (W:World) (p:Pr) (fa:Option Addr) (fc:Nat) (pa:Option Addr) (pc:Nat) (fa':Option Addr) (fc':Nat) (pa':Option Addr) (pc':Nat) (X1 X2:Array Value) (B1 B2:Nat):Qlc W p fa fc pa pc fa' fc' pa' pc' X1 X2 B1 B2 (tl 2 (Tryz.f29.body.getD .skip)):=by
 iterate 143 intro
 intro V h;have H:=QQ h;have hsm:p.fds.length≤20000:=h.fine.fds;have HP1:=QQ (fun (V:World) (hV:Below W.heap.size W V) (k:Nat) (hk:k<p.fds.length)=>Qoi h.f1 hV k hk);have HP2:=QQ (fun (V:World) (hV:Below W.heap.size W V) (k:Nat) (hk:k<p.fds.length)=>Qoi h.f2 hV k hk);clear h;obtain ⟨n,hn⟩:∃ n,n=p.fds.length:=⟨_,rfl⟩;have HN:=QQ hn;rw [← hn] at hsm;clear hn
 conv=>arg 2;whnf
 refine wp_seq_k (fun K aK=>?_);have AK:=QQ aK;clear aK;go_wp2;go_loopw [4,5] (fun r0 i wr=>∃ (k:Nat),r0=.bool false∧i=.int .i64 (k:Int)∧k≤n∧Qf7 W p fa fc pa pc fa' fc' pa' pc' X1 X2 B1 B2 wr) (fun _ i _=>n-(intOf i).toNat)
 case atStart=>exact ⟨0,rfl,rfl,Nat.zero_le _,H⟩
 case round =>
  clear H;obtain ⟨k,rfl,rfl,hk,inv⟩:=hrel;have H:=QQ inv;have c1:=inv.cell1 (Qaf p inv.fine.ok fa fc pa pc).2.2.1.2.1;have c2:=inv.cell2 (Qaf p inv.fine.ok fa' fc' pa' pc').2.2.1.2.1;rw [show p.fds.length=n from (QG HN).symm] at c1 c2
  rcases Nat.lt_or_ge k n with hx | hx
  rotate_left
  ·have t1:decide ((k:Int)<(n:Int))=false:=by simp;omega
   clear inv;go_wp2;refine (QG AK) _ _ ?_;apply Qq7 W p fa fc pa pc fa' fc' pa' pc' X1 X2 B1 B2;exact H
  have t1:decide ((k:Int)<(n:Int))=true:=by simp;omega
  have t0:(k:Int)<(n:Int):=by omega
  have hx2:k<p.fds.length:=by rw [← (QG HN)];exact hx
  obtain ⟨b,off,ha,hbn,e⟩:=(QG HP1) wr inv.below k hx2;obtain ⟨b',off',ha',hbn',e'⟩:=(QG HP2) wr inv.below k hx2;subst ha;subst ha';have hsz:=inv.below.size;have l1:=(QI.1 inv.e1).1;have l2:=(QI.1 inv.e2).1;have bD:=QcS wr;have H2:=QQ (inv.grow bD);obtain ⟨z,hz⟩:∃ z,z=p.fds[k]:=⟨_,rfl⟩
  have HX:=QQ (show ∀ W',Qaz wr.drew W'→W'.cell? ⟨B1,51,none⟩=some (.slice (some ⟨b,off,none⟩) n fc)∧W'.cell? ⟨B2,51,none⟩=some (.slice (some ⟨b',off',none⟩) n fc')∧W'.cell? ⟨b,off+k,none⟩=some (.int .i64 z)∧W'.cell? ⟨b',off'+k,none⟩=some (.int .i64 z) from fun W' hW=>by
   have bb:=bD.trans hW;rw [hz]
   exact ⟨(bb.cell (p:=⟨B1,51,none⟩) l1).trans c1,(bb.cell (p:=⟨B2,51,none⟩) l2).trans c2,(bb.cell (p:=⟨b,off+k,none⟩) (by show b<wr.heap.size;omega)).trans e,(bb.cell (p:=⟨b',off'+k,none⟩) (by show b'<wr.heap.size;omega)).trans e'⟩)
  clear hz e e' inv bD;go_wp2;clear c1 c2;refine Qas Qaz (by kernel_rfl) 11 rfl ?_;refine Qam [0,1,2,3,4,5,6,7,8,9,10] (by kernel_rfl) (by kernel_rfl) ?_
  iterate 11
   first
   | (refine Qax (Qaz.pre) rfl (by rfl) (v:=?_) (fun W hW=>?_) (fun K hK=>?_);rotate_left;· (obtain ⟨y1,y2,y3,y4⟩:=(QG HX) W hW;go_simp;first | done | rfl))
   | refine Qap (Qaz.pre) rfl (by rfl) (fun K hK=>?_)
   go_simp;refine hK _ ?_;clear hK K
  refine Qaw ?_;refine QaR (by kernel_rfl) ?_;go_wp2;go_roundw
  case rel=>exact ⟨k+1,rfl,by go_num,by omega,H2⟩
  case measure=>simp [intOf];omega
theorem QmS (p:Pr) (hf:p.Fine) (s1 s2:QcJ) (W:World) (f1:Qc W.heap.size W s1.fa p.fds.length s1.fc (p.fds.map (Value.int .i64))) (f2:Qc W.heap.size W s2.fa p.fds.length s2.fc (p.fds.map (Value.int .i64)))
  (g1:Qc W.heap.size W s1.pa p.pages.length s1.pc (p.pages.flatMap Pg.vals)) (g2:Qc W.heap.size W s2.pa p.pages.length s2.pc (p.pages.flatMap Pg.vals)) :
  Calls Tryz.prog 29 #[.agg (QaP (p,s1)).toArray,.agg (QaP (p,s2)).toArray] W fun e W'=>e=.returned (.bool true)∧Below W.heap.size W W':=by
 obtain ⟨fa,fc,pa,pc⟩:=s1;obtain ⟨fa',fc',pa',pc'⟩:=s2;obtain ⟨X1,h1⟩:∃ X,X=(QaP (p,⟨fa,fc,pa,pc⟩)).toArray:=⟨_,rfl⟩;obtain ⟨X2,h2⟩:∃ X,X=(QaP (p,⟨fa',fc',pa',pc'⟩)).toArray:=⟨_,rfl⟩;rw [← h1,← h2];have HH:=QQ (QA hf (QA h1 (QA h2 (QA f1 (QA f2 (QA g1 g2))))));clear hf h1 h2 f1 f2 g1 g2;go_enter Tryz.func29,Tryz.ntmps29;refine wp_seq_k (fun K aK=>?_);have AK:=QQ aK;clear aK;go_wp2;refine (QG AK) _ _ ?_;clear AK K;refine wp_seq_k (fun K aK=>?_);have AK:=QQ aK;clear aK;obtain ⟨hf,h1,h2,f1,f2,g1,g2⟩:=(QG HH);obtain ⟨V1,hV1⟩:∃ V,V=W.alloc (.cells X1 54):=⟨_,rfl⟩;obtain ⟨V,hV⟩:∃ V,V=V1.alloc (.cells X2 54):=⟨_,rfl⟩
 have x1:V1.heap[W.heap.size]?=some (.cells X1 54):=by rw [hV1];exact QW _ _
 have b1:Below W.heap.size W V1:=by rw [hV1];exact (QB _ _).alloc (QN _) _
 have z1:V1.heap.size=W.heap.size+1:=by rw [hV1];simp
 have b2:Below V1.heap.size V1 V:=by rw [hV];exact (QB _ _).alloc (QN _) _
 have x2:V.heap[W.heap.size+1]?=some (.cells X2 54):=by rw [hV,← z1];exact QW _ _
 have H0:Qf7 W p fa fc pa pc fa' fc' pa' pc' X1 X2 W.heap.size (W.heap.size+1) V:=⟨hf,h1,h2,(b2.block _ (by omega)).trans x1,x2,b1.trans (b2.mono b1.size),f1,f2,g1,g2⟩;rw [← hV1,← hV];have H:=QQ H0;have c51:=H0.cell1 (Qaf p H0.fine.ok fa fc pa pc).2.2.1.2.1;have d51:=H0.cell2 (Qaf p H0.fine.ok fa' fc' pa' pc').2.2.1.2.1;have c54:=H0.cell1 (Qaf p H0.fine.ok fa fc pa pc).2.2.1.2.2.2.2;have d54:=H0.cell2 (Qaf p H0.fine.ok fa' fc' pa' pc').2.2.1.2.2.2.2;clear hf h1 h2 f1 f2 g1 g2 hV hV1 H0 x1 x2 b1 b2 z1;go_wp2;refine (QG AK) _ _ ?_;apply Qq6 W p fa fc pa pc fa' fc' pa' pc' X1 X2 W.heap.size (W.heap.size+1);exact H
end
end Go.Proofs.YtejcandhijdnhaaGreat
