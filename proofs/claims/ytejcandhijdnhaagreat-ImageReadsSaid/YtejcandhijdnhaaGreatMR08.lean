/- Own texts of this seat, one behind the other, without needless spaces (part 8 of 26). -/
import Derived.Test.YtejcandhijdnhaaGreatMR01
import Derived.Test.YtejcandhijdnhaaGreatMR02
import Derived.Test.YtejcandhijdnhaaGreatMR07
import Derived.Maps.OwnIn
namespace Go.Proofs.YtejcandhijdnhaaGreat
open Go Go.RowKit
set_option linter.unusedVariables false
set_option linter.unusedSimpArgs false
set_option linter.unnecessarySimpa false
set_option maxRecDepth 100000
set_option maxHeartbeats 16000000
section
attribute [local go_sem] QaB QaJ QaA
theorem QiV {P:Program} {o:Oper} {a:Act} {w:World} {K:Value→World→Prop} (d s:Operand) (dT sT:TypeId) (ho:o.op=.call { callee:=.builtin .copy,args:=#[d,s],argTypes:=#[dT,sT] }) (dv sv v:Value) (w':World) (hd:a.eval d=dv) (hs:a.eval s=sv)
  (hr:(Builtin.copy_ #[dT,sT] o.type #[dv,sv]).run P w=.ok v w') (h:K v w'):upV P K ((execOp a.eval o).run P w):=by
 unfold execOp;simp [ho,resolve,invoke,builtin,hd,hs,hr,Result.andThen,upV];exact h
theorem Qir {P:Program} {o:Oper} {a:Act} {w:World} {t:TypeId} {parts:Array (Nat × Operand)} (ho:o.op=.build t parts) (vs:Array (Nat × Value)) (hv:(parts.map fun (x:Nat × Operand)=>(x.1,a.eval x.2))=vs) (v:Value) (hr:(Instr.build t vs).run P w=.ok v w) :
  (execOp a.eval o).run P w=.ok (.value v) w:=by
 unfold execOp;simp only [ho,Sem.run_bind];rw [hv,hr];simp only [Result.andThen_ok,Sem.run_pure]
theorem Qo1 (x0 x1:Int) (b:Bool) (w:World):(Instr.build 48 #[(0,.int .u32 x0),(1,.int .u32 x1),(3,.bool b)]).run Tryz.prog w=.ok (.agg (Sg.vals ⟨x0,x1,List.replicate 16 0,b⟩).toArray) w:=by
 kernel_rfl
theorem Qqg (x0 x1:Int) (b:Bool) (h0:0≤x0∧x0<4294967296) (h1:0≤x1∧x1<4294967296):(⟨x0,x1,List.replicate 16 0,b⟩:Sg).Ok:=by unfold Sg.Ok;simp [h0,h1]
theorem Qez:(Tryz.prog.info? 48).map (·.size)=some 19:=by kernel_rfl
theorem QqY (W:World) (a:Option Addr) (len cap:Nat) (k:Forest) (T:Nat) (p:Pr)
  (hn:Qdf W a len cap k T (tl 8 (Tryz.f20.body.getD .skip)) { p with sig:=Qoo (QbX (Qao (Qah k 13 0)) 19) }) :
  Qdf W a len cap k T (tl 5 (Tryz.f20.body.getD .skip)) p:=by
 iterate 27 intro
 intro u32
 iterate 99 intro
 intro V fa fc pa pc h;have HH:=QQ h;have HN:=QQ hn;have lT:=h.lT;have hT:=h.hT
 have q1:V.cell? ⟨W.heap.size,0,none⟩=some (.slice a len cap):=by rw [cell_of_row V _ 0 _ _ _ h.eL];rfl
 have kw:=h.words V h.below 13 19 (by decide);clear hn h
 conv=>arg 2;whnf
 go_wp2_with (go_at_call 63;refine Qau ?_);unfold Qag;refine kw.mono ?_;rintro e6 w6 ⟨g,rfl,o6,b6⟩;have inv6:QaY W a len cap k T p w6 fa fc pa pc:=(QG HH).grow b6;obtain ⟨ws,hws⟩:∃ ws,ws=QbX (Qao (Qah k 13 0)) 19:=⟨_,rfl⟩
 have hwl:ws.length=19:=by rw [hws];exact QbS _ _
 have hwb:∀ z∈ws,0≤z∧z<4294967296:=by rw [hws];exact QbD (inv6.bytes 13) 19
 rw [← hws] at o6 HN;have lg:=o6.lt g rfl
 have hcell:∀ j,j<19→w6.cell? ⟨g,j,none⟩=some (.int .u32 (ws.getD j 0)):=fun j hj=>by
  rw [o6.cellAt j (by omega),List.getElem?_map,List.getElem?_eq_getElem (by omega)];simp [List.getD,List.getElem?_eq_getElem (show j<ws.length by omega)]
 clear kw q1 HH hws o6
 obtain ⟨S,hS⟩:∃ S:Nat→Prop,S=fun b=>b=T:=⟨_,rfl⟩
 have hSb:∀ b,S b→b=T:=fun b hb=>by rw [hS] at hb;exact hb
 have hST:S T:=by rw [hS]
 have lT6:=inv6.lT
 have hgT:g≠T:=by omega
 have HX:=QQ (show ∀ W',Qa S w6.drew W'→W'.cell? ⟨g,0,none⟩=some (.int .u32 (ws.getD 0 0))∧W'.cell? ⟨g,1,none⟩=some (.int .u32 (ws.getD 1 0))∧W'.cell? ⟨g,18,none⟩=some (.int .u32 (ws.getD 18 0)) from fun W' hW=>by
  have hk:=hW.block g lg.2 (fun h=>hgT (hSb _ h))
  exact ⟨(QcT hk _).trans (hcell 0 (by decide)),(QcT hk _).trans (hcell 1 (by decide)),(QcT hk _).trans (hcell 18 (by decide))⟩)
 have HC:=QQ hcell;have H6:=QQ inv6;clear hcell inv6 hS b6;obtain ⟨x0,hx0⟩:∃ x,x=ws.getD 0 0:=⟨_,rfl⟩;obtain ⟨x1,hx1⟩:∃ x,x=ws.getD 1 0:=⟨_,rfl⟩;obtain ⟨x18,hx18⟩:∃ x,x=ws.getD 18 0:=⟨_,rfl⟩;rw [← hx0,← hx1,← hx18] at HX
 have hbd:∀ j,j<19→0≤ws.getD j 0∧ws.getD j 0<4294967296:=fun j hj=>by
  have:ws.getD j 0=ws[j]'(by omega):=by simp [List.getD,List.getElem?_eq_getElem (show j<ws.length by omega)]
  rw [this];exact hwb _ (List.getElem_mem _)
 have hb0:0≤x0∧x0<4294967296:=by rw [hx0];exact hbd 0 (by decide)
 have hb1:0≤x1∧x1<4294967296:=by rw [hx1];exact hbd 1 (by decide)
 have HE:=QQ (QA hx0 (QA hx1 hx18));clear hx0 hx1 hx18;obtain ⟨s0,hs0⟩:∃ s:Sg,s=⟨x0,x1,List.replicate 16 0,x18 == 1⟩:=⟨_,rfl⟩
 have os0:s0.Ok:=by rw [hs0];exact Qqg x0 x1 _ hb0 hb1
 have hrs:∀ w,(Instr.build 48 #[(0,.int .u32 x0),(1,.int .u32 x1),(3,.bool (x18 == 1))]).run Tryz.prog w=.ok (.agg s0.vals.toArray) w:=fun w=>by rw [hs0];exact Qo1 x0 x1 _ w
 have HS0:=QQ hs0;clear hs0;go_wp2_with fail;refine Qas (Qa S) (by kernel_rfl) 13 rfl ?_;refine Qam [0,1,2,3,4,5,6,7,8,9] (by kernel_rfl) (by kernel_rfl) ?_
 iterate 10
  first
  | (refine Qax (Qa.pre S) rfl (by rfl) (v:=?_) (fun W hW=>?_) (fun K hK=>?_);rotate_left;· (obtain ⟨q0,q1,q2⟩:=(QG HX) W hW;go_simp;first | done | rfl))
  | refine Qap (Qa.pre S) rfl (by rfl) (fun K hK=>?_)
  go_simp;refine hK _ ?_;clear hK K
 refine Qaw ?_;refine Qb5 10 (Qa.pre S) rfl (by kernel_rfl) (by kernel_rfl) (by kernel_rfl) (by rfl) (v:=.agg s0.vals.toArray) (fun W hW=>?_) (fun K hK=>?_)
 ·(refine Qir rfl #[(0,.int .u32 x0),(1,.int .u32 x1),(3,.bool (x18 == 1))] (by simp only [List.map_toArray,List.map_cons,List.map_nil];go_simp) _ (hrs _))
 go_simp;refine hK _ ?_;clear hK K;refine Qam [11] (by kernel_rfl) (by kernel_rfl) ?_
 iterate 1
  first
  | (refine Qax (Qa.pre S) rfl (by rfl) (v:=?_) (fun W hW=>?_) (fun K hK=>?_);rotate_left;· (obtain ⟨q0,q1,q2⟩:=(QG HX) W hW;go_simp;first | done | rfl))
  | refine Qap (Qa.pre S) rfl (by rfl) (fun K hK=>?_)
  go_simp;refine hK _ ?_;clear hK K
 refine Qaw ?_;refine Qaq 12 rfl (by kernel_rfl) (by rfl) (fun K hK=>?_)
 skip
 have inv7:QaY W a len cap k T p w6.drew fa fc pa pc:=(QG H6).grow ⟨rfl,rfl,rfl,QN _,fun _ _=>rfl⟩;clear HX;refine Qco 48 (.tmp 50) (.tmp 49) rfl T 26 s0.vals.toArray rfl rfl 54 _ inv7.eT (by rw [QS,Sg.vals_length os0];exact Qez) (by rw [QS,QS,Sg.vals_length os0,Pr.vals_length inv7.ok];decide) (Qo4 s0) ?_
 have inv8:=inv7.put (QB _ _) { p with sig:=s0 } rfl rfl ⟨inv7.ok.1,inv7.ok.2.1,os0⟩ (R:=(((p.vals fa fc pa pc).toArray).toList.take 26++s0.vals.toArray.toList++((p.vals fa fc pa pc).toArray).toList.drop (26+s0.vals.toArray.size)).toArray) (by
  rw [QS,Sg.vals_length os0]
  exact congrArg List.toArray (Qn7 p fa fc pa pc inv7.ok s0 os0))
 obtain ⟨w8,hw8⟩:∃ w,w=w6.drew.setRow T (((p.vals fa fc pa pc).toArray).toList.take 26++s0.vals.toArray.toList++((p.vals fa fc pa pc).toArray).toList.drop (26+s0.vals.toArray.size)).toArray:=⟨_,rfl⟩;rw [← hw8] at inv8 ⊢
 have g8:Qa S w6.drew w8:=by rw [hw8];exact (Wr.refl S w6.drew).setRow (.inl hST) _
 clear hw8 inv7;refine hK _ _ g8 ?_;clear hK K;refine Qal (fun K hK=>?_);go_simp;refine hK _ ?_;clear hK K;refine QaR (by kernel_rfl) ?_;have inv9:QaY W a len cap k T { p with sig:=s0 } w8.drew fa fc pa pc:=inv8.grow ⟨rfl,rfl,rfl,QN _,fun _ _=>rfl⟩
 have hcs:∀ j v,(((ws.drop 2).take 16).map (Value.int .u32))[j]?=some v→w8.drew.cell? ((⟨g,2,none⟩:Addr).add j)=some v:=fun j v hv=>by
  have hj:j<16:=by
   have:=(List.getElem?_eq_some_iff.1 hv).1;simp only [QM,List.length_take,List.length_drop] at this;omega
  rw [List.getElem?_map,List.getElem?_take,if_pos hj,List.getElem?_drop,List.getElem?_eq_getElem (by omega)] at hv;have hk:=g8.block g lg.2 (fun h=>hgT (hSb _ h));have:=(QG HC) (2+j) (by omega);rw [Addr.add_lit,QcT (W:=w6) (show w8.drew.heap[g]?=w6.heap[g]? from hk),this,← hv];simp [List.getD,List.getElem?_eq_getElem (show 2+j<ws.length by omega)]
 have HCS:=QQ hcs;clear hcs g8 inv8 HC;rename_i K' aK;refine aK _ _ ?_;clear aK K';refine wp_seq ?_;refine Qas (Qa S) (by kernel_rfl) 6 rfl ?_;refine Qam [0,1,2,3,4] (by kernel_rfl) (by kernel_rfl) ?_
 iterate 5
  first
  | (refine Qax (Qa.pre S) rfl (by rfl) (v:=?_) (fun W hW=>?_) (fun K hK=>?_);rotate_left;· (skip;go_simp;first | done | rfl))
  | refine Qap (Qa.pre S) rfl (by rfl) (fun K hK=>?_)
  go_simp;refine hK _ ?_;clear hK K
 refine Qaw ?_;refine Qaq 5 rfl (by kernel_rfl) (by rfl) (fun K hK=>?_)
 skip
 have HCP:=run_copy_row (P:=Tryz.prog) w8.drew 78 78 3 40 T 28 16 16 ⟨g,2,none⟩ 17 17 _ 54 (((ws.drop 2).take 16).map (Value.int .u32)) rfl (by kernel_rfl) inv9.eT (by simp [hwl]) (QG HCS) (by
  rw [QM,List.length_take,List.length_drop,hwl,QS,Pr.vals_length inv9.ok];decide) (by
  intro v hv;obtain ⟨z,_,rfl⟩:=List.mem_map.1 hv;rfl)
 refine QiV (.tmp 53) (.tmp 55) 78 78 rfl _ _ _ _ rfl rfl HCP ?_
 have hl16:(((ws.drop 2).take 16)).length=16:=by simp [hwl]
 have inv10:=inv9.put (QB _ _) { p with sig:={ s0 with hand:=(ws.drop 2).take 16 } } rfl rfl ⟨inv9.ok.1,inv9.ok.2.1,os0.1,os0.2.1,hl16,fun z hz=>hwb z (List.mem_of_mem_drop (List.mem_of_mem_take hz))⟩ (R:=(((({ p with sig:=s0 }:Pr).vals fa fc pa pc).toArray).toList.take 28++((ws.drop 2).take 16).map (Value.int .u32)++((({ p with sig:=s0 }:Pr).vals fa fc pa pc).toArray).toList.drop (28+(((ws.drop 2).take 16).map (Value.int .u32)).length)).toArray) (by
  rw [QM,hl16]
  exact congrArg List.toArray (QmW { p with sig:=s0 } fa fc pa pc inv9.ok _ hl16))
 obtain ⟨w10,hw10⟩:∃ w,w=w8.drew.setRow T (((({ p with sig:=s0 }:Pr).vals fa fc pa pc).toArray).toList.take 28++((ws.drop 2).take 16).map (Value.int .u32)++((({ p with sig:=s0 }:Pr).vals fa fc pa pc).toArray).toList.drop (28+(((ws.drop 2).take 16).map (Value.int .u32)).length)).toArray:=⟨_,rfl⟩;rw [← hw10] at inv10 ⊢
 have g10:Qa S w8.drew w10:=by rw [hw10];exact (Wr.refl S w8.drew).setRow (.inl hST) _
 clear hw10 inv9 HCP;refine hK _ _ g10 ?_;clear hK K;refine Qal (fun K hK=>?_);go_simp;refine hK _ ?_;clear hK K;refine QaR (by kernel_rfl) ?_
 have hfin:({ p with sig:={ s0 with hand:=(ws.drop 2).take 16 } }:Pr) = { p with sig:=Qoo ws }:=by
  rw [(QG HS0),(QG HE).1,(QG HE).2.1,(QG HE).2.2];rfl
 rw [hfin] at inv10;apply (QG HN);exact inv10
end
section
attribute [local go_sem] QaB QaJ QaA
theorem Qar {P:Program} {ops:Array Oper} {o:Oper} {a:Act} {w:World} {rest:List Oper} {Q:Exit→Act→World→Prop} (hgd:o.guard=none) (ty:TypeId) (x y:Operand) (ho:o.op=.store ty x y) (g i:Nat) (hx:a.eval x=.pointer (some ⟨g,i,none⟩)) (v:Value) (hy:a.eval y=v) (hv:v.cells=#[v]) (h1:v.oneCell'=true)
  (t:TypeId) (cur:Array Value) (hg:w.heap[g]?=some (.cells cur t (0,0))) (hi:(P.info? ty).map (·.size)=some 1) (hfit:i+1≤cur.size) (h:wpList P ops Q rest (a.put o.dst undef) (w.setRow g (cur.setIfInBounds i v))):wpList P ops Q (o::rest) a w:=by
 refine wpList_plain hgd fun K hK=>?_
 have hs:=run_storeCells_at (P:=P) g i t [v] 0 cur w hg (by simpa using hfit) (fun u hu=>by rw [List.mem_singleton.1 hu];exact h1)
 have e:cur.setIfInBounds i v=(cur.toList.take i++[v]++cur.toList.drop (i+1)).toArray:=by
  apply Array.toList_inj.1;rw [Array.toList_setIfInBounds,List.set_eq_take_append_cons_drop,if_pos (by simp;omega)];simp
 have hr:(storeVar ty ⟨g,i,none⟩ v).run P w=.ok () (w.setRow g (cur.setIfInBounds i v)):=by
  cases hq:P.info? ty with
  | none=>simp [hq] at hi
  | some q =>
   have hs2:q.size=1:=by simpa [hq] using hi
   simp only [Nat.add_zero,List.length_singleton] at hs;simp [storeVar,sizeOf,typeInfo,hq,hv,hs2,e];simpa using hs
 unfold Oper.wp execOp;simp only [ho,hx,hy,Instr.storeAt,Instr.sureAddr,Sem.run_bind,Sem.run_pure,Result.andThen_ok,hr];exact hK _ _ h
theorem Qgd:(Tryz.prog.info? 3).map (·.size)=some 1:=by kernel_rfl
theorem Qnx:(Tryz.prog.info? 40).map (·.size)=some 1:=by kernel_rfl
theorem QaY.num {W:World} {a:Option Addr} {len cap:Nat} {k:Forest} {T:Nat} {p:Pr} {V:World} {fa:Option Addr} {fc:Nat} {pa:Option Addr} {pc:Nat} (h:QaY W a len cap k T p V fa fc pa pc) (tag:Int) (ht:tag<128) :
  Calls Tryz.prog 61 #[.int .i64 tag,.pointer (some ⟨W.heap.size,0,none⟩)] V fun e W'=>e=.returned (.int .i64 (QcF (Qah k tag 0)))∧Below V.heap.size V W' :=
 QhB k h.cnt W.heap.size a len cap V (by rw [cell_of_row V _ 0 _ _ _ h.eL];rfl) ((h.fields.below h.below).mono h.below.size) tag ht
theorem QqZ (W:World) (a:Option Addr) (len cap:Nat) (k:Forest) (T:Nat) (p:Pr)
  (hn:Qdf W a len cap k T (tl 9 (Tryz.f20.body.getD .skip)) { p with wait:=QcF (Qah k 14 0),pipe:=QcF (Qah k 15 0),left:=QcF (Qah k 16 0) % 4294967296 }) :
  Qdf W a len cap k T (tl 8 (Tryz.f20.body.getD .skip)) p:=by
 iterate 27 intro
 intro u32
 iterate 99 intro
 intro V fa fc pa pc h;have HN:=QQ hn;obtain ⟨n14,h14⟩:∃ x,x=QcF (Qah k 14 0):=⟨_,rfl⟩;obtain ⟨n15,h15⟩:∃ x,x=QcF (Qah k 15 0):=⟨_,rfl⟩;obtain ⟨n16,h16⟩:∃ x,x=QcF (Qah k 16 0):=⟨_,rfl⟩;obtain ⟨m16,h16m⟩:∃ x,x=n16 % 4294967296:=⟨_,rfl⟩
 have hu:IntKind.u32.wrap n16=m16:=by rw [h16m];exact Qda n16
 have HE:=QQ (QA h14 (QA h15 (QA h16 h16m)))
 have HK:=QQ (show ∀ (V:World) (h:QaY W a len cap k T p V fa fc pa pc),Calls Tryz.prog 61 #[.int .i64 14,.pointer (some ⟨W.heap.size,0,none⟩)] V (fun e W'=>e=.returned (.int .i64 n14)∧Below V.heap.size V W')∧Calls Tryz.prog 61 #[.int .i64 15,.pointer (some ⟨W.heap.size,0,none⟩)] V (fun e W'=>e=.returned (.int .i64 n15)∧Below V.heap.size V W')∧Calls Tryz.prog 61 #[.int .i64 16,.pointer (some ⟨W.heap.size,0,none⟩)] V (fun e W'=>e=.returned (.int .i64 n16)∧Below V.heap.size V W') from fun V h=>by
  rw [h14,h15,h16];exact ⟨h.num 14 (by decide),h.num 15 (by decide),h.num 16 (by decide)⟩)
 clear h14 h15 h16 h16m;have k14:=((QG HK) _ h).1;have HH:=QQ h;clear hn h
 conv=>arg 2;whnf
 go_wp2_with (go_at_call 61;refine Qau ?_);unfold Qag;refine k14.mono ?_;rintro e1 w1 ⟨rfl,b1⟩;replace HH:=QQ ((QG HH).grow b1);have k15:=((QG HK) _ (QG HH)).2.1;clear k14 b1;go_wp2_with (go_at_call 61;refine Qau ?_);unfold Qag;refine k15.mono ?_;rintro e2 w2 ⟨rfl,b2⟩;replace HH:=QQ ((QG HH).grow b2);have k16:=((QG HK) _ (QG HH)).2.2;clear k15 b2;go_wp2_with (go_at_call 61;refine Qau ?_);unfold Qag;refine k16.mono ?_;rintro e3 w3 ⟨rfl,b3⟩;have inv3:=(QG HH).grow b3;have eT:=inv3.eT;clear k16 b3 HH;go_wp2_with ((fail_if_success (unfold Qag));refine Qan (t:=3) rfl ?_);unfold Qag;refine Qar rfl 3 (.tmp 64) (.tmp 58) rfl T 45 rfl (.int .i64 n14) rfl rfl rfl 54 _ eT Qgd (by rw [QS,Pr.vals_length inv3.ok];decide) ?_;have inv4:=inv3.put (QB _ _) { p with wait:=n14 } rfl rfl inv3.ok (R:=((p.vals fa fc pa pc).toArray).setIfInBounds 45 (.int .i64 n14)) (QiZ p fa fc pa pc inv3.ok n14);obtain ⟨w4,hw4⟩:∃ w,w=w3.setRow T (((p.vals fa fc pa pc).toArray).setIfInBounds 45 (.int .i64 n14)):=⟨_,rfl⟩;rw [← hw4] at inv4 ⊢;clear hw4 eT inv3;have eT:=inv4.eT;go_wp2_with ((fail_if_success (unfold Qag));refine Qan (t:=3) rfl ?_);unfold Qag;refine Qar rfl 3 (.tmp 65) (.tmp 60) rfl T 46 rfl (.int .i64 n15) rfl rfl rfl 54 _ eT Qgd (by rw [QS,Pr.vals_length inv4.ok];decide) ?_;have inv5:=inv4.put (QB _ _) { p with wait:=n14,pipe:=n15 } rfl rfl inv4.ok (R:=((({ p with wait:=n14 }:Pr).vals fa fc pa pc).toArray).setIfInBounds 46 (.int .i64 n15)) (QiY { p with wait:=n14 } fa fc pa pc inv4.ok n15);obtain ⟨w5,hw5⟩:∃ w,w=w4.setRow T (((({ p with wait:=n14 }:Pr).vals fa fc pa pc).toArray).setIfInBounds 46 (.int .i64 n15)):=⟨_,rfl⟩;rw [← hw5] at inv5 ⊢;clear hw5 eT inv4;have eT:=inv5.eT;go_wp2_with ((fail_if_success (unfold Qag));refine Qan (t:=40) rfl ?_);unfold Qag;refine Qar rfl 40 (.tmp 66) (.tmp 63) rfl T 50 rfl (.int .u32 m16) rfl rfl rfl 54 _ eT Qnx (by rw [QS,Pr.vals_length inv5.ok];decide) ?_;have inv6:=inv5.put (QB _ _) { p with wait:=n14,pipe:=n15,left:=m16 } rfl rfl inv5.ok (R:=((({ p with wait:=n14,pipe:=n15 }:Pr).vals fa fc pa pc).toArray).setIfInBounds 50 (.int .u32 m16)) (QiX { p with wait:=n14,pipe:=n15 } fa fc pa pc inv5.ok m16);obtain ⟨w6,hw6⟩:∃ w,w=w5.setRow T (((({ p with wait:=n14,pipe:=n15 }:Pr).vals fa fc pa pc).toArray).setIfInBounds 50 (.int .u32 m16)):=⟨_,rfl⟩;rw [← hw6] at inv6 ⊢;clear hw6 eT inv5;rename_i K' aK;obtain ⟨rfl,rfl,rfl,rfl⟩:=(QG HE);exact aK _ _ ((QG HN) _ _ _ _ _ _ _ _ _ _ _ _ _ _ _ _ _ _ _ _ _ _ _ _ _ _ _ _ _ _ _ _ _ _ _ _ _ _ _ _ _ _ _ _ _ _ _ _ _ _ _ _ _ _ _ _ _ _ _ _ _ _ _ _ _ _ _ _ _ _ _ _ _ _ _ _ _ _ _ _ _ _ _ _ _ _ _ _ _ _ _ _ _ _ _ _ _ _ _ _ _ _ _ _ _ _ _ _ _ _ _ _ _ _ _ _ _ _ _ _ _ _ _ _ _ _ _ w6 fa fc pa pc inv6)
end
section
theorem Qn5 (p:Pr) (fa:Option Addr) (fc:Nat) (pa:Option Addr) (pc:Nat) (z:Int):Value.int .u8 z ∉ p.vals fa fc pa pc:=by
 intro hv;simp only [Pr.vals,Cp.vals,Sg.vals,List.mem_append,List.mem_map,List.mem_cons,List.not_mem_nil,or_false] at hv
 rcases hv with ((((h | h | h | h) | (⟨z,_,h⟩ | h | h | h)) | (⟨z,_,h⟩ | h | h | h)) | (((h | h) | ⟨z,_,h⟩) | h)) | (h | h | h | h | h | h | h | h | h | h) <;> cases h
theorem Qj {V:World} {T off:Nat} {R:Array Value} {t:TypeId} {v:Value} (h:V.heap[T]?=some (.cells R t)) (hc:V.cell? ⟨T,off,none⟩=some v):v∈R.toList:=by
 rw [cell_of_row V T off R t _ h] at hc;exact List.mem_of_getElem? (by rw [Array.getElem?_toList];exact hc)
section
variable {W : World} {a : Option Addr} {len cap : Nat} {k : Forest} {T : Nat} {p : Pr} {V : World} {fa : Option Addr} {fc : Nat} {pa : Option Addr} {pc : Nat}
theorem QaY.no8 (h:QaY W a len cap k T p V fa fc pa pc) {b off:Nat} {z:Int} (hc:V.cell? ⟨b,off,none⟩=some (.int .u8 z)):b≠T:=by
 rintro rfl;exact Qn5 p fa fc pa pc z (by simpa using Qj h.eT hc)
theorem QiO {B1 B2:Nat} {t1 t2:TypeId} {s1 s2 n1 n2:Nat} {v1 v2:Value} {l1 l2:List Value} (ht:t1≠t2) (h1:V.ownsRow B1 t1 s1 v1 n1 l1) (h2:V.ownsRow B2 t2 s2 v2 n2 l2):∀ b,v2.ownBlock=some b→some b≠v1.ownBlock:=by
 intro b hb he
 rcases h1.2 with ⟨rfl,_⟩ | ⟨g,c,cur,rfl,_,hg,_⟩
 ·cases he
 ·rcases h2.2 with ⟨rfl,_⟩ | ⟨g2,c2,cur2,rfl,_,hg2,_⟩
  ·cases hb
  ·simp only [Value.ownBlock,Option.some.injEq] at hb he
   subst hb;subst he;rw [hg] at hg2
   injection hg2 with e
   injection e with e1 e2
   exact ht e2
theorem QaK {B1 B2:Nat} {t1 t2:TypeId} {s1 s2 n1 n2:Nat} {v1 v2:Value} {l1 l2:List Value} (ht:t1≠t2) (h1:V.ownsRow B1 t1 s1 v1 n1 l1) (h2:V.ownsRow B2 t2 s2 v2 n2 l2):v2.ownBlock=none∨v2.ownBlock≠v1.ownBlock:=by
 cases hb:v2.ownBlock with
 | none=>exact .inl rfl
 | some b=>exact .inr (QiO ht h1 h2 b hb)
theorem QaY.put2 (h:QaY W a len cap k T p V fa fc pa pc) {V1:World} {row:Option Nat} (hg:V.grownBy V1 row) (hr:∀ g,row=some g→T+1≤g) (p':Pr) {fa':Option Addr} {fc':Nat} {pa':Option Addr} {pc':Nat} (ho:p'.Ok) (own:Qb3 (T+1) V1 fa' fc' pa' pc' p') {R:Array Value} (hR:R=(p'.vals fa' fc' pa' pc').toArray) :
  QaY W a len cap k T p' (V1.setRow T R) fa' fc' pa' pc':=by
 subst hR;have lT:=h.lT;have hT:=h.hT
 have hb:∀ c,c≤T→V1.heap[c]?=V.heap[c]?:=fun c hc=>hg.block c (by omega) (fun e=>by have:=hr c e.symm;omega)
 refine ⟨h.fields,h.cnt,Qaj (h.below.grown hg h.below.size (fun c e=>by have:=hr c e;omega)) (by omega) _,?_,?_,setRow_heap _ _ _ _ _ _ ((hb T (QN _)).trans h.eT),hT,?_,ho⟩
 ·rw [setRow_other _ _ _ _ (by omega),hb _ (by omega)];exact h.eL
 ·rw [setRow_other _ _ _ _ (by omega),hb _ (by omega)];exact h.eR
 ·refine Qb3.keep own fun c hc=>setRow_other _ _ _ _ ?_
  have hl:T+1≤c∧c<V1.heap.size:=hc.elim (fun hc=>own.1.lt c hc) (fun hc=>own.2.1.lt c hc);omega
theorem QaY.fds (h:QaY W a len cap k T p V fa fc pa pc) (z:Int) {V1:World} {v':Value} (ho:V1.ownsRow (T+1) 3 1 v' (p.fds.length+1) (p.fds.map (Value.int .i64)++[.int .i64 z])) (hg:V.grownBy V1 (Value.slice fa p.fds.length fc).ownBlock) :
  ∃ ga gc,v'=.slice ga (p.fds++[z]).length gc∧V1.heap[T]?=some (.cells (p.vals fa fc pa pc).toArray 54)∧QaY W a len cap k T { p with fds:=p.fds++[z] } (V1.setRow T (((p.vals fa fc pa pc).toArray).setIfInBounds 51 v')) ga gc pa pc:=by
 have hp:=h.own.2.1.kept hg (QaK (by decide) h.own.1 h.own.2.1);have hlt:=h.own.1.lt
 rcases ho.2 with ⟨_,h0⟩ | ⟨g,gc,cur,rfl,_⟩
 ·omega
 ·refine ⟨_,gc,by rw [QL];rfl,?_⟩
  refine ⟨(hg.block T h.lT (fun e=>by have:=(hlt T e.symm).1;omega)).trans h.eT,?_⟩;refine h.put2 hg (fun c hc=>(hlt c hc).1) { p with fds:=p.fds++[z] } h.ok ⟨?_,hp,by simp,h.own.2.2.2⟩ ?_
  ·simpa using ho
  ·have:=Qgm p fa fc pa pc h.ok (some ⟨g,0,none⟩) gc (p.fds++[z])
   simpa using this
theorem QaY.at51 (h:QaY W a len cap k T p V fa fc pa pc):V.cell? ⟨T,51,none⟩=some (.slice fa p.fds.length fc):=by
 have hz:((p.vals fa fc pa pc).toArray).size=55:=by rw [QS,Pr.vals_length h.ok]
 rw [cell_of_row V T 51 _ _ _ h.eT,← Qgm p fa fc pa pc h.ok fa fc p.fds,Array.getElem?_setIfInBounds_self,if_pos (by omega)]
theorem QaY.at54 (h:QaY W a len cap k T p V fa fc pa pc):V.cell? ⟨T,54,none⟩=some (.slice pa p.pages.length pc):=by
 have hz:((p.vals fa fc pa pc).toArray).size=55:=by rw [QS,Pr.vals_length h.ok]
 rw [cell_of_row V T 54 _ _ _ h.eT,← QeL p fa fc pa pc h.ok pa pc p.pages,Array.getElem?_setIfInBounds_self,if_pos (by omega)]
theorem QaY.find (h:QaY W a len cap k T p V fa fc pa pc) (tag:Int):Calls Tryz.prog 17 #[.slice a len cap,.int .i64 tag,.int .i64 0] V fun e W'=>Below V.heap.size V W'∧∃ (t:Int) (a1:Option Addr) (l1 c1:Nat) (ka:Option Addr) (kl kc:Nat) (ok:Bool),e=.returned (.tuple #[.agg #[.int .i64 t,.slice a1 l1 c1,.slice ka kl kc],.bool ok])∧QaL W'.heap.size W' (.slice a1 l1 c1) (Qao (Qah k tag 0))∧(Qao (Qah k tag 0)).length≤20000:=by
 refine Calls.mono (QhL k V V.heap.size (QN _) a len cap ((h.fields.below h.below).mono h.below.size) h.cnt tag 0 (by decide) (by decide)) ?_;rintro e w1 ⟨b1,F1⟩;refine ⟨b1,?_⟩
 cases hr:Qah k tag 0 with
 | none=>rw [hr] at F1;exact ⟨0,none,0,0,none,0,0,false,F1,Qdu _ _,by simp [Qao]⟩
 | some q =>
  obtain ⟨bs,kk⟩:=q;rw [hr] at F1;obtain ⟨a1,l1,c1,ka,kl,kc,rfl,F2⟩:=F1;exact ⟨tag,a1,l1,c1,ka,kl,kc,true,rfl,F2.row,by have:=F2.small;simp only [Qao];omega⟩
end
theorem QiE:(Tryz.prog.info? 3).map (fun i=>(i.zero,i.size,i.bytes))=some (some (.int .i64 0),1,8):=by kernel_rfl
theorem Qfx {z:Int} (h:0≤z∧z≤255):IntKind.i64.wrap z=z:=(Qcp z ⟨h.1,by omega⟩).trans (by unfold Qd1;rw [if_neg (by omega)])
theorem Qdi:(Tryz.prog.info? 66).map (·.size)=some 3:=by kernel_rfl
theorem Qfd:(Tryz.prog.info? 51).map (·.size)=some 1:=by kernel_rfl
theorem Qgh (W:World) (x:Int):∀ j u,[Value.int .i64 x][j]?=some u→(W.alloc (.cells #[.int .i64 x] 3)).cell? ((⟨W.heap.size,0,none⟩:Addr).add j)=some u:=cell_one_new _ _ _
theorem Qqe (W:World) (a:Option Addr) (len cap:Nat) (k:Forest) (T:Nat) (p:Pr) (hpf:p.fds=[])
  (hn:Qdf W a len cap k T (tl 11 (Tryz.f20.body.getD .skip)) { p with fds:=(Qao (Qah k 17 0)).map QbJ }) :
  Qdf W a len cap k T (tl 9 (Tryz.f20.body.getD .skip)) p:=by
 intro u5 u6 u7 u8
 iterate 123 intro
 intro V fa fc pa pc h;have HN:=QQ hn;have kf:=h.find 17;have HH:=QQ h
 have q1:V.cell? ⟨W.heap.size,0,none⟩=some (.slice a len cap):=by rw [cell_of_row V _ 0 _ _ _ h.eL];rfl
 clear hn h;obtain ⟨bs,hbs⟩:∃ bs,bs=Qao (Qah k 17 0):=⟨_,rfl⟩;rw [← hbs] at kf;have HB:=QQ hbs;clear hbs
 conv=>arg 2;whnf
 go_wp2_with (go_at_call 17;refine Qau ?_);unfold Qag;refine kf.mono ?_;rintro e1 w1 ⟨b1,t,a1,l1,c1,ka,kl,kc,ok,rfl,r1,hl⟩;replace HH:=QQ ((QG HH).grow b1);clear kf q1 b1;go_wp2_with ((fail_if_success (unfold Qag));refine Qan (t:=66) rfl ?_);unfold Qag;obtain ⟨i0,hi,hz0,hz1,hz2⟩:=info_parts QiE;obtain ⟨cs,hcs⟩:∃ cs:Array Value,cs=#[.int .i64 t,.slice a1 l1 c1,.slice ka kl kc]:=⟨_,rfl⟩;refine Qab rfl 66 (.tmp 6) (.tmp 70) rfl w1.heap.size cs rfl (by rw [hcs];rfl) 66 _ (QW _ _) (by rw [hcs];exact Qdi) (by rw [hcs];rfl) (by rw [hcs];simp [Value.oneCell']) ?_;obtain ⟨V2,hV2⟩:∃ v,v=(w1.alloc (.cells #[.int .i64 0,.slice none 0 0,.slice none 0 0] 66)).setRow w1.heap.size cs:=⟨_,rfl⟩
 have b2:Below w1.heap.size w1 V2:=by rw [hV2];exact Qaj ((QB _ w1).alloc (QN _) _) (QN _) _
 have e6:V2.heap[w1.heap.size]?=some (.cells cs 66):=by rw [hV2];exact setRow_heap _ _ _ _ _ _ (QW _ _)
 have s2:w1.heap.size+1≤V2.heap.size:=by rw [hV2,size_setRow];simp
 have q6:V2.cell? ⟨w1.heap.size,1,none⟩=some (.slice a1 l1 c1):=by rw [cell_of_row V2 _ 1 _ _ _ e6,hcs];rfl
 rw [← hV2];have inv2:=(QG HH).grow b2;clear hV2 hcs e6;obtain ⟨hll,b,off,hrow,hcell⟩:=((r1.1.below b2)).open;subst hll;have hbyte:=r1.2
 have hbT:0<bs.length→b<w1.heap.size∧b≠T:=fun h0=>⟨(hrow h0).2.1,inv2.no8 (hcell 0 h0)⟩
 have ha1:0<bs.length→a1=some ⟨b,off,none⟩∧bs.length≤c1∧c1≤maxLen:=fun h0=>⟨(hrow h0).1,(hrow h0).2.2⟩
 have INV2:=QQ inv2;have HCELL:=QQ hcell;have HBT:=QQ hbT;have HBY:=QQ hbyte;have HA1:=QQ ha1;clear inv2 hcell hbT hbyte ha1 hrow b2 r1;go_wp2;rename_i K' aK;have HK:=QQ aK;clear aK;go_loopw [75] (fun i wr=>∃ (j:Nat) (ga:Option Addr) (gc:Nat),i=.int .i64 (j:Int)∧j≤bs.length∧QaY W a len cap k T { p with fds:=(bs.take j).map QbJ } wr ga gc pa pc∧V2.heap.size≤wr.heap.size∧wr.ownsRow V2.heap.size 3 1 (.slice ga j gc) j (((bs.take j).map QbJ).map (Value.int .i64))∧∀ i,i<bs.length→wr.cell? ⟨b,off+i,none⟩=some (.int .u8 (bs.getD i 0))) (fun i _=>bs.length-(intOf i).toNat)
 case atStart =>
  have inv2:=(QG INV2);obtain ⟨rfl,rfl⟩:=inv2.own.2.2.1 hpf;refine ⟨0,none,0,rfl,Nat.zero_le _,?_,QN _,World.ownsRow_nil _ _ _ _,HCELL⟩
  have e:({ p with fds:=(bs.take 0).map QbJ }:Pr)=p:=by
   cases p;simp at hpf;subst hpf;rfl
  rw [e];exact inv2
 case round =>
  obtain ⟨j,ga,gc,rfl,hj,inv,hsz,own,hrow⟩:=hrel
  have hlj:((bs.take j).map QbJ).length=j:=by simp;omega
  by_cases hlt:j<bs.length
  ·have t1:decide ((j:Int)<(bs.length:Int))=true:=by simp;omega
   obtain ⟨z,hz⟩:∃ z,z=bs.getD j 0:=⟨_,rfl⟩;have hcj:=hrow j hlt;rw [← hz] at hcj;obtain ⟨rfl,hA2,hA3⟩:=(QG HA1) (by omega);have h51:wr.cell? ⟨T,51,none⟩=some (.slice ga j gc):=inv.at51.trans (congrArg (fun n=>some (Value.slice ga n gc)) hlj);have hw:IntKind.i64.wrap z=z:=Qfx ((QG HBY) z (by rw [hz,Qba _ _ hlt];exact List.getElem_mem _));have INV:=QQ inv;have HROW:=QQ hrow;have OWN:=QQ own;have HZ:=QQ hz;clear inv hrow own hz;by_cases h255:z=255
   ·have t2:(z == 255)=true:=by simp [h255]
    have t3:decide (z=255)=true:=by simp [h255]
    go_wp2_with (at_builtin;refine Qau ?_);unfold Qag;have inv:=(QG INV);have own:=(QG OWN);have hal:Below wr.heap.size wr (wr.alloc (.cells #[.int .i64 (-1)] 3)):=(QB _ wr).alloc (QN _) _
    have hal2:wr.heap.size≤(wr.alloc (.cells #[.int .i64 (-1)] 3)).heap.size:=by simp
    have invA:=inv.grow hal;refine wpList_append_own _ rfl _ _ 51 rfl V2.heap.size 3 i0 (.int .i64 0) 1 8 Tryz.underlying51 hi hz0 hz1 hz2 rfl (by decide) _ j _ (by rfl) (own.alloc _) ⟨wr.heap.size,0,none⟩ 1 1 [.int .i64 (-1)] (by rfl) rfl (Qgh wr (-1)) (by simp [Value.oneCell']) (by simp only [maxLen];omega) (by omega) (by omega) ?_;intro v' w3 ho hg _;have hTV:T+1≤V2.heap.size:=(QG INV2).lT;obtain ⟨ga',gc',hv',eT3,inv3⟩:=invA.fds (-1) (v':=v') (by rw [hlj];exact QaI ho hTV (fun _ _=>rfl)) (by rw [hlj];exact hg)
    have hl1:(({ p with fds:=(bs.take j).map QbJ }:Pr).fds++[(-1)]).length=j+1:=by rw [QL,hlj];rfl
    rw [hl1] at hv';subst hv'
    have hrow':∀ i,i<bs.length→(w3.setRow T (((({ p with fds:=(bs.take j).map QbJ }:Pr).vals ga gc pa pc).toArray).setIfInBounds 51 (.slice ga' (j+1) gc'))).cell? ⟨b,off+i,none⟩=some (.int .u8 (bs.getD i 0)):=fun i hi'=>by
     obtain ⟨hb1,hb2⟩:=(QG HBT) (by omega);rw [QcT (setRow_other _ _ _ _ hb2)];refine hg.cell ((hal.cell (p:=⟨b,off+i,none⟩) (by show b<_;omega)).trans ((QG HROW) i hi')) ?_;intro e;have:=(own.lt b e.symm).1;omega
    have own':(w3.setRow T (((({ p with fds:=(bs.take j).map QbJ }:Pr).vals ga gc pa pc).toArray).setIfInBounds 51 (.slice ga' (j+1) gc'))).ownsRow V2.heap.size 3 1 (.slice ga' (j+1) gc') (j+1) (((bs.take (j+1)).map QbJ).map (Value.int .i64)):=by
     have hf:QbJ z=(-1):=by unfold QbJ;rw [if_pos h255]
     have e:((bs.take (j+1)).map QbJ).map (Value.int .i64)=((bs.take j).map QbJ).map (Value.int .i64)++[.int .i64 (-1)]:=by
      rw [List.take_succ_eq_append_getElem hlt,← Qba _ _ hlt,← (QG HZ),List.map_append,List.map_append];exact congrArg (fun x=>((bs.take j).map QbJ).map (Value.int .i64)++[Value.int .i64 x]) hf
     rw [e]
     exact Qac ho fun c hc=>setRow_other _ _ _ _ (by have:=(ho.lt c hc).1;omega)
    have inv4:QaY W a len cap k T { p with fds:=(bs.take (j+1)).map QbJ } (w3.setRow T (((({ p with fds:=(bs.take j).map QbJ }:Pr).vals ga gc pa pc).toArray).setIfInBounds 51 (.slice ga' (j+1) gc'))) ga' gc' pa pc:=by
     have hf:QbJ z=(-1):=by unfold QbJ;rw [if_pos h255]
     have e:(bs.take (j+1)).map QbJ=(bs.take j).map QbJ++[(-1)]:=by
      rw [List.take_succ_eq_append_getElem hlt,← Qba _ _ hlt,← (QG HZ),List.map_append];exact congrArg (fun x=>(bs.take j).map QbJ++[x]) hf
     rw [e];exact inv3
    have hsz':V2.heap.size≤w3.heap.size:=by have:=hg.size;omega
    have h55:51+1≤((({ p with fds:=(bs.take j).map QbJ }:Pr).vals ga gc pa pc).toArray).size:=by rw [QS,Pr.vals_length inv.ok];decide
    clear hg ho inv3 own inv invA hal;go_wp2_with ((fail_if_success (unfold Qag));refine Qan (t:=51) rfl ?_);unfold Qag;refine Qar rfl 51 (.tmp 85) (.tmp 84) rfl T 51 rfl (.slice ga' (j+1) gc') rfl rfl rfl 54 _ eT3 Qfd h55 ?_;obtain ⟨w4,hw4⟩:∃ w,w=w3.setRow T (((({ p with fds:=(bs.take j).map QbJ }:Pr).vals ga gc pa pc).toArray).setIfInBounds 51 (.slice ga' (j+1) gc')):=⟨_,rfl⟩;rw [← hw4] at inv4 own' hrow' ⊢
    have hs4:V2.heap.size≤w4.heap.size:=by rw [hw4,size_setRow];exact hsz'
    clear hw4 h55 eT3;have I4:=QQ (QA inv4 (QA own' hrow'));clear inv4 own' hrow';go_wp2;go_roundw
    case rel =>
     obtain ⟨inv4,own',hrow'⟩:=(QG I4);exact ⟨j+1,ga',gc',by go_num,by omega,inv4,hs4,own',hrow'⟩
    case measure=>simp [intOf];omega
   ·have t2:(z == 255)=false:=by simp [h255]
    have t3:decide (z=255)=false:=by simp [h255]
    go_wp2_with (at_builtin;refine Qau ?_);unfold Qag;have inv:=(QG INV);have own:=(QG OWN);have hal:Below wr.heap.size wr (wr.alloc (.cells #[.int .i64 z] 3)):=(QB _ wr).alloc (QN _) _
    have hal2:wr.heap.size≤(wr.alloc (.cells #[.int .i64 z] 3)).heap.size:=by simp
    have invA:=inv.grow hal;refine wpList_append_own _ rfl _ _ 51 rfl V2.heap.size 3 i0 (.int .i64 0) 1 8 Tryz.underlying51 hi hz0 hz1 hz2 rfl (by decide) _ j _ (by rfl) (own.alloc _) ⟨wr.heap.size,0,none⟩ 1 1 [.int .i64 z] (by rfl) rfl (Qgh wr z) (by simp [Value.oneCell']) (by simp only [maxLen];omega) (by omega) (by omega) ?_;intro v' w3 ho hg _;have hTV:T+1≤V2.heap.size:=(QG INV2).lT;obtain ⟨ga',gc',hv',eT3,inv3⟩:=invA.fds z (v':=v') (by rw [hlj];exact QaI ho hTV (fun _ _=>rfl)) (by rw [hlj];exact hg)
    have hl1:(({ p with fds:=(bs.take j).map QbJ }:Pr).fds++[z]).length=j+1:=by rw [QL,hlj];rfl
    rw [hl1] at hv';subst hv'
    have hrow':∀ i,i<bs.length→(w3.setRow T (((({ p with fds:=(bs.take j).map QbJ }:Pr).vals ga gc pa pc).toArray).setIfInBounds 51 (.slice ga' (j+1) gc'))).cell? ⟨b,off+i,none⟩=some (.int .u8 (bs.getD i 0)):=fun i hi'=>by
     obtain ⟨hb1,hb2⟩:=(QG HBT) (by omega);rw [QcT (setRow_other _ _ _ _ hb2)];refine hg.cell ((hal.cell (p:=⟨b,off+i,none⟩) (by show b<_;omega)).trans ((QG HROW) i hi')) ?_;intro e;have:=(own.lt b e.symm).1;omega
    have own':(w3.setRow T (((({ p with fds:=(bs.take j).map QbJ }:Pr).vals ga gc pa pc).toArray).setIfInBounds 51 (.slice ga' (j+1) gc'))).ownsRow V2.heap.size 3 1 (.slice ga' (j+1) gc') (j+1) (((bs.take (j+1)).map QbJ).map (Value.int .i64)):=by
     have hf:QbJ z=z:=by unfold QbJ;rw [if_neg h255]
     have e:((bs.take (j+1)).map QbJ).map (Value.int .i64)=((bs.take j).map QbJ).map (Value.int .i64)++[.int .i64 z]:=by
      rw [List.take_succ_eq_append_getElem hlt,← Qba _ _ hlt,← (QG HZ),List.map_append,List.map_append];exact congrArg (fun x=>((bs.take j).map QbJ).map (Value.int .i64)++[Value.int .i64 x]) hf
     rw [e]
     exact Qac ho fun c hc=>setRow_other _ _ _ _ (by have:=(ho.lt c hc).1;omega)
    have inv4:QaY W a len cap k T { p with fds:=(bs.take (j+1)).map QbJ } (w3.setRow T (((({ p with fds:=(bs.take j).map QbJ }:Pr).vals ga gc pa pc).toArray).setIfInBounds 51 (.slice ga' (j+1) gc'))) ga' gc' pa pc:=by
     have hf:QbJ z=z:=by unfold QbJ;rw [if_neg h255]
     have e:(bs.take (j+1)).map QbJ=(bs.take j).map QbJ++[z]:=by
      rw [List.take_succ_eq_append_getElem hlt,← Qba _ _ hlt,← (QG HZ),List.map_append];exact congrArg (fun x=>(bs.take j).map QbJ++[x]) hf
     rw [e];exact inv3
    have hsz':V2.heap.size≤w3.heap.size:=by have:=hg.size;omega
    have h55:51+1≤((({ p with fds:=(bs.take j).map QbJ }:Pr).vals ga gc pa pc).toArray).size:=by rw [QS,Pr.vals_length inv.ok];decide
    clear hg ho inv3 own inv invA hal;go_wp2_with ((fail_if_success (unfold Qag));refine Qan (t:=51) rfl ?_);unfold Qag;refine Qar rfl 51 (.tmp 92) (.tmp 91) rfl T 51 rfl (.slice ga' (j+1) gc') rfl rfl rfl 54 _ eT3 Qfd h55 ?_;obtain ⟨w4,hw4⟩:∃ w,w=w3.setRow T (((({ p with fds:=(bs.take j).map QbJ }:Pr).vals ga gc pa pc).toArray).setIfInBounds 51 (.slice ga' (j+1) gc')):=⟨_,rfl⟩;rw [← hw4] at inv4 own' hrow' ⊢
    have hs4:V2.heap.size≤w4.heap.size:=by rw [hw4,size_setRow];exact hsz'
    clear hw4 h55 eT3;have I4:=QQ (QA inv4 (QA own' hrow'));clear inv4 own' hrow';go_wp2;go_roundw
    case rel =>
     obtain ⟨inv4,own',hrow'⟩:=(QG I4);exact ⟨j+1,ga',gc',by go_num,by omega,inv4,hs4,own',hrow'⟩
    case measure=>simp [intOf];omega
  ·have t1:decide ((j:Int)<(bs.length:Int))=false:=by simp;omega
   obtain rfl:j=bs.length:=by omega
   rw [List.take_length] at inv;have INV:=QQ inv;clear inv own hrow;go_wp2;refine (QG HK) _ _ ?_;have inv:=(QG INV);rw [show bs=Qao (Qah k 17 0) from HB] at inv;apply (QG HN);exact inv
end
section
attribute [local go_sem] Oper.semAt_some
theorem Qbe {F:Fence} {n:Nat} {P:Program} {ops:Array Oper} {o:Oper} {a:Act} {w:World} {rest:List Oper} {Q:Exit→Act→World→Prop} (hgd:o.guard=none) (ty:TypeId) (x y:Operand) (ho:o.op=.store ty x y) (g i:Nat) (hx:a.eval x=.pointer (some ⟨g,i,none⟩)) (v:Value) (hy:a.eval y=v) (hv:v.cells=#[v]) (h1:v.oneCell'=true)
  (t:TypeId) (cur:Array Value) (hg:w.heap[g]?=some (.cells cur t (0,0))) (hi:(P.info? ty).map (·.size)=some 1) (hfit:i+1≤cur.size) (h:wpListIn F n P ops Q rest (a.put o.dst undef) (w.setRow g (cur.setIfInBounds i v))):wpListIn F n P ops Q (o::rest) a w:=by
 refine wpListIn_plain hgd fun K hK=>?_
 have hs:=run_storeCells_at (P:=P) g i t [v] 0 cur w hg (by simpa using hfit) (fun u hu=>by rw [List.mem_singleton.1 hu];exact h1)
 have e:cur.setIfInBounds i v=(cur.toList.take i++[v]++cur.toList.drop (i+1)).toArray:=by
  apply Array.toList_inj.1;rw [Array.toList_setIfInBounds,List.set_eq_take_append_cons_drop,if_pos (by simp;omega)];simp
 have hr:(storeVar ty ⟨g,i,none⟩ v).run P w=.ok () (w.setRow g (cur.setIfInBounds i v)):=by
  cases hq:P.info? ty with
  | none=>simp [hq] at hi
  | some q =>
   have hs2:q.size=1:=by simpa [hq] using hi
   simp only [Nat.add_zero,List.length_singleton] at hs;simp [storeVar,sizeOf,typeInfo,hq,hv,hs2,e];simpa using hs
 unfold Oper.wpIn;refine ⟨by simp [Oper.about,ho,Sem.run_pure],?_⟩;rw [Oper.semAt_plain F _ _ (by rw [ho];intro c hc';cases hc')];unfold execOp;simp only [ho,hx,hy,Instr.storeAt,Instr.sureAddr,Sem.run_bind,Sem.run_pure,Result.andThen_ok,hr];exact hK _ _ h
section
variable {W : World} {a : Option Addr} {len cap : Nat} {k : Forest} {T : Nat} {p : Pr} {V : World} {fa : Option Addr} {fc : Nat} {pa : Option Addr} {pc : Nat}
theorem QaY.pgs (h:QaY W a len cap k T p V fa fc pa pc) (z:Pg) {V1:World} {v':Value} (ho:V1.ownsRow (T+1) 110 6 v' (p.pages.length+1) (p.pages.flatMap Pg.vals++z.vals)) (hg:V.grownBy V1 (Value.slice pa p.pages.length pc).ownBlock) :
  ∃ ga gc,v'=.slice ga (p.pages++[z]).length gc∧V1.heap[T]?=some (.cells (p.vals fa fc pa pc).toArray 54)∧QaY W a len cap k T { p with pages:=p.pages++[z] } (V1.setRow T (((p.vals fa fc pa pc).toArray).setIfInBounds 54 v')) fa fc ga gc:=by
 have hp:=h.own.1.kept hg (QaK (by decide) h.own.2.1 h.own.1);have hlt:=h.own.2.1.lt
 rcases ho.2 with ⟨_,h0⟩ | ⟨g,gc,cur,rfl,_⟩
 ·omega
 ·refine ⟨_,gc,by rw [QL];rfl,?_⟩
  refine ⟨(hg.block T h.lT (fun e=>by have:=(hlt T e.symm).1;omega)).trans h.eT,?_⟩;refine h.put2 hg (fun c hc=>(hlt c hc).1) { p with pages:=p.pages++[z] } h.ok ⟨hp,?_,h.own.2.2.1,by simp⟩ ?_
  ·simpa using ho
  ·have:=QeL p fa fc pa pc h.ok (some ⟨g,0,none⟩) gc (p.pages++[z])
   simpa using this
theorem QaY.same (h:QaY W a len cap k T p V fa fc pa pc) {V':World} (h1:V'.os=V.os) (h2:V'.tape=V.tape) (h3:V'.output=V.output) (h4:V.heap.size≤V'.heap.size)
  (hb:∀ b,b≤T∨(Value.slice fa p.fds.length fc).ownBlock=some b∨(Value.slice pa p.pages.length pc).ownBlock=some b→V'.heap[b]?=V.heap[b]?):QaY W a len cap k T p V' fa fc pa pc:=by
 have lT:=h.lT;have hT:=h.hT;refine ⟨h.fields,h.cnt,h.below.trans ⟨h1,h2,h3,h4,fun b hb'=>hb b (.inl (by omega))⟩,(hb _ (.inl (by omega))).trans h.eL,(hb _ (.inl (by omega))).trans h.eR,(hb _ (.inl (QN _))).trans h.eT,hT,Qb3.keep h.own fun c hc=>hb c (.inr hc),h.ok⟩
end
theorem Qj1:(Tryz.prog.info? 110).map (fun i=>(i.zero,i.size,i.bytes))=some (some (.agg #[.int .i64 0,.int .i64 0,.bool false,.bool false,.bool false,.bool false]),6,24):=by kernel_rfl
theorem QiB:(Tryz.prog.info? 52).map (·.size)=some 1:=by kernel_rfl
theorem QbR (W:World) (R:Array Value) (t:TypeId):∀ j u,R.toList[j]?=some u→(W.alloc (.cells R t)).cell? ((⟨W.heap.size,0,none⟩:Addr).add j)=some u:=by
 intro j u h;rw [Addr.add_lit,cell_of_row _ _ _ _ _ _ (QW _ _),Nat.zero_add,← Array.getElem?_toList];exact h
theorem Qer {n:Int} (h:0≤n∧n<9223372036854775808):wrap64 n=n:=by unfold wrap64;omega
theorem QnQ (z:Int):(#[.int .i64 (wrap64 (bits .and .u32 z 255)),.int .i64 (wrap64 (bits .and .u32 (z / 256) 255)),.bool (bits .and .u32 (z / 16777216) 1 == 1),.bool (bits .and .u32 (z / 33554432) 1 == 1),.bool (bits .and .u32 (z / 67108864) 1 == 1),.bool false]:Array Value)=(QdP z).vals.toArray:=by
 have e:∀ x,bits .and .u32 x 255=x % 256:=fun x=>Qdq x 8 (by decide)
 simp only [e,Qg,Qer (show 0≤z % 256∧z % 256<9223372036854775808 by omega),Qer (show 0≤z / 256 % 256∧z / 256 % 256<9223372036854775808 by omega)];rfl
theorem Qmp (x:Pg):∀ v∈x.vals,v.oneCell'=true:=by
 intro v hv;simp only [Pg.vals,List.mem_cons,List.not_mem_nil,or_false] at hv
 rcases hv with rfl | rfl | rfl | rfl | rfl | rfl <;> rfl
noncomputable def QpC:Code:=match tl 11 (Tryz.f20.body.getD .skip) with
 | .seq (.seq _ (.block _ (.rangeFunc _ _ _ b))) _=>b
 | _=>.skip
theorem Qo0 (l:Nat) (W:World) (a:Option Addr) (len cap:Nat) (k:Forest) (T:Nat) (p:Pr) (V:World) (fa:Option Addr) (fc:Nat) (pa:Option Addr) (pc:Nat) (h:QaY W a len cap k T p V fa fc pa pc) (B0:Nat) (hB0:T+1≤B0) (hB1:B0≤V.heap.size)
  (own:V.ownsRow B0 110 6 (.slice pa p.pages.length pc) p.pages.length (p.pages.flatMap Pg.vals)) (hpn:p.pages.length≤20000) (v:Value) (ws:List Int) (hwl:ws.length≤20000) (hwb:∀ z∈ws,0≤z∧z<4294967296) (hv:V.ownsRow 0 40 1 v ws.length (ws.map (Value.int .u32)))
  (Q:Exit→Act→World→Prop) (hQ:∀ A V' pa' pc',QaY W a len cap k T { p with pages:=p.pages++ws.map QdP } V' fa fc pa' pc'→V'.ownsRow B0 110 6 (.slice pa' (p.pages++ws.map QdP).length pc') (p.pages++ws.map QdP).length ((p.pages++ws.map QdP).flatMap Pg.vals)→Qa (fun b=>b=T∨(Value.slice pa p.pages.length pc).ownBlock=some b) V V'→(∀ b,(Value.slice pa' (p.pages++ws.map QdP).length pc').ownBlock=some b→(Value.slice pa p.pages.length pc).ownBlock=some b∨V.heap.size≤b)→Q .normal A V')
  (u5 u6 u7 u8 u9 u10 u11 u12 u13 u14 u15 u16 u17 u18 u19 u20 u21 u22 u23 u24 u25 u26 u27 u28 u29 u30 u31 u32 u33 u34 u35 u36 u37 u38 u39 u40 u41 u42 u43 u44 u45 u46 u47 u48 u49 u50 u51 u52 u53 u54 u55 u56 u57 u58 u59 u60 u61 u62 u63 u64 u65 u66 u67 u68 u69 u70 u71 u72 u73 u74 u75 u76 u77 u78 u79 u80 u81 u82 u83 u84 u85 u86 u87 u88 u89 u90 u91 u92 u93 u94 u95 u96 u97 u98 u99 u100 u101 u102 u103 u104 u105 u106 u107 u108 u109 u110 u111 u112 u113 u114 u115 u116 u117 u118 u119 u120 u121 u122 u123 u124 u125 u126 u127 u128 u129 u130 u131:Value) :
  QpC.wpIn (Fence.wide.inRound l) 100 Tryz.prog Q { tmps:=#[.slice a len cap,.pointer (some ⟨W.heap.size,0,none⟩),.pointer (some ⟨W.heap.size+1,0,none⟩),.func (.func 61) #[] #[.pointer (some ⟨W.heap.size,0,none⟩)],.pointer (some ⟨T,0,none⟩),u5,u6,u7,u8,u9,u10,v,u12,u13,u14,u15,u16,u17,u18,u19,u20,u21,u22,u23,u24,u25,u26,u27,u28,u29,u30,u31,u32,u33,u34,u35,u36,u37,u38,u39,u40,u41,u42,u43,u44,u45,u46,u47,u48,u49,u50,u51,u52,u53,u54,u55,u56,u57,u58,u59,u60,u61,u62,u63,u64,u65,u66,u67,u68,u69,u70,u71,u72,u73,u74,u75,u76,u77,u78,u79,u80,u81,u82,u83,u84,u85,u86,u87,u88,u89,u90,u91,u92,u93,u94,u95,u96,u97,u98,u99,u100,u101,u102,u103,u104,u105,u106,u107,u108,u109,u110,u111,u112,u113,u114,u115,u116,u117,u118,u119,u120,u121,u122,u123,u124,u125,u126,u127,u128,u129,u130,u131],defers:=[] } V:=by
 have hQ2:=QQ hQ;clear hQ;obtain ⟨i0,hi,hz0,hz1,hz2⟩:=info_parts Qj1
 conv=>arg 4;whnf
 obtain ⟨va,cp,rfl,hva⟩:∃ (va:Option Addr) (cp:Nat),v=.slice va ws.length cp∧(0<ws.length→∃ g,va=some ⟨g,0,none⟩∧g<V.heap.size∧g≠T∧(∀ b,(Value.slice pa p.pages.length pc).ownBlock=some b→b≠g)∧ws.length≤cp∧cp≤maxLen∧∀ j,j<ws.length→V.cell? ⟨g,j,none⟩=some (.int .u32 (ws.getD j 0))):=by
  rcases hv.2 with ⟨rfl,h0⟩ | ⟨g,cp,cur,rfl,_,hg,hcap,hcm,_⟩
  ·exact ⟨none,0,by rw [h0],fun h=>by omega⟩
  ·refine ⟨_,cp,rfl,fun h0=>⟨g,rfl,(hv.lt g rfl).2,?_,fun b hb e=>QiO (by decide) hv own b hb (by rw [e];rfl),hcap,hcm,fun j hj=>?_⟩⟩
   ·intro e
    subst e;rw [h.eT] at hg
    injection hg with e
    injection e with e1 e2
    exact absurd e2 (by decide)
   ·have:=hv.cells rfl j (.int .u32 (ws.getD j 0)) (by rw [List.getElem?_map,Qba _ _ hj,List.getElem?_eq_getElem hj];rfl)
    rwa [Addr.add_lit,Nat.zero_add] at this
 ·have H0:=QQ h
  have OWN0:=QQ own;have HVA:=QQ hva;have HWB:=QQ hwb;clear h own hva hwb hv
  gi_wp2
  gi_loopw [100] (fun i wr=>∃ (j:Nat) (ga:Option Addr) (gc:Nat),i=.int .i64 (j:Int)∧j≤ws.length∧QaY W a len cap k T { p with pages:=p.pages++(ws.take j).map QdP } wr fa fc ga gc∧wr.ownsRow B0 110 6 (.slice ga (p.pages.length+j) gc) (p.pages.length+j) ((p.pages++(ws.take j).map QdP).flatMap Pg.vals)∧Qa (fun b=>b=T∨(Value.slice pa p.pages.length pc).ownBlock=some b) V wr∧(∀ b,(Value.slice ga (p.pages.length+j) gc).ownBlock=some b→(Value.slice pa p.pages.length pc).ownBlock=some b∨V.heap.size≤b)) (fun i _=>ws.length-(intOf i).toNat)
  case atStart =>
   refine ⟨0,pa,pc,rfl,Nat.zero_le _,?_,?_,Wr.refl _ _,fun b hb=>.inl hb⟩
   ·have e:({ p with pages:=p.pages++(ws.take 0).map QdP }:Pr)=p:=by cases p;simp
    rw [e];exact H0
   ·simpa using (QG OWN0)
  case round =>
   obtain ⟨j,ga,gc,rfl,hj,inv,own,gr,hnew⟩:=hrel
   have hlj:(p.pages++(ws.take j).map QdP).length=p.pages.length+j:=by simp;omega
   by_cases hlt2:j<ws.length
   ·have t1:decide ((j:Int)<(ws.length:Int))=true:=by simp;omega
    obtain ⟨z,hz⟩:∃ z,z=ws.getD j 0:=⟨_,rfl⟩;have hzb:0≤z∧z<4294967296:=(QG HWB) z (by rw [hz,Qba _ _ hlt2];exact List.getElem_mem _);obtain ⟨g,rfl,hgl,hgT,hgP,hcap,hcm,hcs⟩:=(QG HVA) (by omega)
    have hcj:wr.cell? ⟨g,j,none⟩=some (.int .u32 z):=by
     rw [hz,QcT (gr.block g hgl (fun e=>e.elim hgT (fun e=>hgP g e rfl)))];exact hcs j hlt2
    clear hcs hgP;have h54:wr.cell? ⟨T,54,none⟩=some (.slice ga (p.pages.length+j) gc):=inv.at54.trans (congrArg (fun n=>some (Value.slice ga n gc)) hlj);have INV:=QQ inv;have OWN:=QQ own;have GR:=QQ gr;have NEW:=QQ hnew;have HZ:=QQ hz;clear inv own gr hnew hz
    gi_wp2_with (gi_at_builtin;refine Qau ?_)
    unfold Qag;rw [QnQ z];have inv:=(QG INV);have own:=(QG OWN);have gr:=(QG GR);have hnew:=(QG NEW);have hal:Below wr.heap.size wr (wr.alloc (.cells (QdP z).vals.toArray 110)):=(QB _ wr).alloc (QN _) _
    have hal2:wr.heap.size≤(wr.alloc (.cells (QdP z).vals.toArray 110)).heap.size:=by simp
    have invA:=inv.grow hal;have hgs:=gr.size;refine wpListIn_append_own_at _ rfl _ _ 52 rfl B0 110 i0 _ 6 24 Tryz.underlying52 hi hz0 hz1 hz2 rfl (by decide) _ (p.pages.length+j) _ (by rfl) (own.alloc _) ⟨wr.heap.size,0,none⟩ 1 1 (QdP z).vals (by rfl) rfl (by simpa using QbR wr (QdP z).vals.toArray 110) (Qmp _) (by simp only [maxLen];omega) (by omega) (by omega) ?_;intro v' w3 ho hg _ hat;obtain ⟨ga',gc',hv',eT3,inv3⟩:=invA.pgs (QdP z) (v':=v') (by rw [hlj];exact QaI ho hB0 (fun _ _=>rfl)) (by rw [hlj];exact hg)
    have hl1:(({ p with pages:=p.pages++(ws.take j).map QdP }:Pr).pages++[QdP z]).length=p.pages.length+(j+1):=by rw [QL,hlj];rfl
    rw [hl1] at hv';subst hv'
    have hcat:(p.pages++(ws.take j).map QdP)++[QdP z]=(p.pages++(ws.take (j+1)).map QdP):=by
     rw [List.take_succ_eq_append_getElem hlt2,← Qba _ _ hlt2,← (QG HZ),List.map_append,List.append_assoc];rfl
    have hTr:∀ b,(Value.slice ga (p.pages.length+j) gc).ownBlock=some b→b≠T:=fun b hb=>by have:=(own.lt b hb).1;omega
    have hnew':∀ b,(Value.slice ga' (p.pages.length+(j+1)) gc').ownBlock=some b→(Value.slice pa p.pages.length pc).ownBlock=some b∨V.heap.size≤b:=fun b hb=>by
     rcases hat with h1 | h1
     ·exact hnew b (h1.symm.trans hb)
     ·rw [h1] at hb
      injection hb with hb
      right;omega
    have gr':Qa (fun b=>b=T∨(Value.slice pa p.pages.length pc).ownBlock=some b) V (w3.setRow T (((({ p with pages:=p.pages++(ws.take j).map QdP }:Pr).vals fa fc ga gc).toArray).setIfInBounds 54 (.slice ga' (p.pages.length+(j+1)) gc'))):=by
     refine ⟨hg.os.trans (hal.os.trans gr.os),hg.tape.trans (hal.tape.trans gr.tape),hg.output.trans (hal.output.trans gr.output),?_,fun b hb hs=>?_,fun b hb=>.inl hb⟩
     ·rw [size_setRow];have:=hg.size;omega
     ·have h1:b≠T:=fun e=>hs (.inl e)
      rw [setRow_other _ _ _ _ h1,hg.block b (by omega) (fun e=>(hnew b e.symm).elim (fun h=>hs (.inr h)) (fun h=>by omega)),hal.block b (by omega)];exact gr.block b hb hs
    have own':((w3.setRow T (((({ p with pages:=p.pages++(ws.take j).map QdP }:Pr).vals fa fc ga gc).toArray).setIfInBounds 54 (.slice ga' (p.pages.length+(j+1)) gc')))).ownsRow B0 110 6 (.slice ga' (p.pages.length+(j+1)) gc') (p.pages.length+(j+1)) ((p.pages++(ws.take (j+1)).map QdP).flatMap Pg.vals):=by
     rw [← hcat,List.flatMap_append,show [QdP z].flatMap Pg.vals=(QdP z).vals by simp]
     exact Qac ho fun c hc=>setRow_other _ _ _ _ (by have:=(ho.lt c hc).1;omega)
    have inv4:QaY W a len cap k T { p with pages:=(p.pages++(ws.take (j+1)).map QdP) } (w3.setRow T (((({ p with pages:=p.pages++(ws.take j).map QdP }:Pr).vals fa fc ga gc).toArray).setIfInBounds 54 (.slice ga' (p.pages.length+(j+1)) gc'))) fa fc ga' gc':=by
     rw [← hcat];exact inv3
    have h55:54+1≤((({ p with pages:=p.pages++(ws.take j).map QdP }:Pr).vals fa fc ga gc).toArray).size:=by rw [QS,Pr.vals_length inv.ok];decide
    have IALL:=QQ (QA inv4 (QA own' (QA gr' hnew')));clear hg ho inv3 own inv invA hal hal2 gr hnew inv4 own' gr' hnew' hat hTr hcat hgs
    gi_wp2_with ((fail_if_success (unfold Qag));refine QaV (t:=52) rfl ?_)
    unfold Qag;refine Qbe rfl 52 (.tmp 129) (.tmp 128) rfl T 54 rfl (.slice ga' (p.pages.length+(j+1)) gc') rfl rfl rfl 54 _ eT3 QiB h55 ?_;obtain ⟨inv4,own',gr',hnew'⟩:=(QG IALL);obtain ⟨w4,hw4⟩:∃ w,w=(w3.setRow T (((({ p with pages:=p.pages++(ws.take j).map QdP }:Pr).vals fa fc ga gc).toArray).setIfInBounds 54 (.slice ga' (p.pages.length+(j+1)) gc'))):=⟨_,rfl⟩;rw [← hw4] at inv4 own' gr' ⊢;replace IALL:=QQ (QA inv4 (QA own' (QA gr' hnew')));clear eT3 h55 hw4 inv4 own' gr' hnew'
    gi_wp2
    obtain ⟨inv4,own',gr',hnew'⟩:=(QG IALL);exact ⟨⟨j+1,ga',gc',by simp,by omega,inv4,own',gr',hnew'⟩,by simp [intOf];omega⟩
   ·have t1:decide ((j:Int)<(ws.length:Int))=false:=by simp;omega
    obtain rfl:j=ws.length:=by omega
    rw [List.take_length] at inv own
    have e:(p.pages++ws.map QdP).length=p.pages.length+ws.length:=by simp
    rw [← e] at own hnew;have IALL:=QQ (QA inv (QA own (QA gr hnew)));clear inv own gr hnew
    gi_wp2
    obtain ⟨inv,own,gr,hnew⟩:=(QG IALL);exact (QG hQ2) _ wr ga gc inv own gr hnew
end
section
attribute [local go_sem] Oper.semAt_some
theorem Fes.total {n:Nat} {W:World}:∀ (fs:List (Fe × List Int)) (f:Forest),Fes n W fs f→(fs.map fun e=>e.2.length+1).sum≤f.cnt
 | [],.nil,_=>by simp
 | e::fs,.cons t b k r,h=>by
  have:=Fes.total fs r h.2.2.2.2;rw [Forest.cnt,List.map_cons,List.sum_cons,h.2.1];omega
 | [],.cons _ _ _ _,h=>h.elim
 | _::_,.nil,h=>h.elim
theorem QfI (tag:Int):∀ fs:List (Fe × List Int),((Qak tag fs).map fun e=>e.2.length+1).sum≤(fs.map fun e=>e.2.length+1).sum
 | []=>by simp [Qak]
 | e::fs=>by
  have:=QfI tag fs;unfold Qak at this ⊢;by_cases h:(e.1.t == tag)=true
  ·rw [List.filter_cons_of_pos (by simpa using h)];simp;omega
  ·rw [List.filter_cons_of_neg (by simpa using h)];simp;omega
def QdZ (l:List (Fe × List Int)):List Pg:=l.flatMap fun e=>(Qbd e.2).map QdP
theorem QfU (bs:List Int):(Qbd bs).length=(bs.length+3) / 4:=QdV _ _
theorem Qef:∀ l:List (Fe × List Int),(QdZ l).length≤(l.map fun e=>e.2.length+1).sum
 | []=>by simp [QdZ]
 | e::l=>by
  have:=Qef l;have h2:=QfU e.2;unfold QdZ at this ⊢;simp only [List.flatMap_cons,QL,QM,List.map_cons,List.sum_cons];omega
theorem Qg3:∀ (l:List (Fe × List Int)) (i:Nat),((l.take i).map fun e=>e.2.length+1).sum≤(l.map fun e=>e.2.length+1).sum
 | [],i=>by simp
 | e::l,0=>by simp
 | e::l,i+1=>by have:=Qg3 l i;rw [List.take_succ_cons,List.map_cons,List.map_cons,List.sum_cons,List.sum_cons];omega
theorem Qj9 {n:Nat} {W:World} {fs:List (Fe × List Int)} {f:Forest} (h:Fes n W fs f):QdZ (Qak 18 fs)=QeR f:=by
 obtain ⟨h1,h2⟩:=h.hits 18;unfold QdZ QeR;generalize Qak 18 fs=A at h1 h2;generalize f.sel 18=B at h1 h2
 induction A generalizing B with
 | nil=>cases B with
  | nil=>rfl
  | cons b B=>simp at h1
 | cons x A ih=>cases B with
  | nil=>simp at h1
  | cons b B =>
   rw [List.flatMap_cons,List.flatMap_cons,ih B (by simpa using h1) (fun i hi hi2=>by have:=h2 (i+1) (by simpa using hi) (by simpa using hi2);simpa using this)];have:=(h2 0 (by simp) (by simp)).1;simp only [List.getElem_cons_zero] at this;rw [this]
theorem Qqf (W:World) (a:Option Addr) (len cap:Nat) (k:Forest) (T:Nat) (p:Pr) (hpp:p.pages=[]) (hk:Qbu k = { p with pages:=QeR k }) :
  Qdf W a len cap k T (tl 11 (Tryz.f20.body.getD .skip)) p:=by
 intro u5 u6 u7 u8 u9 u10 u11 u12 u13 u14 u15 u16 u17 u18 u19 u20 u21 u22 u23 u24 u25 u26 u27 u28 u29 u30 u31 u32 u33 u34 u35 u36 u37 u38 u39 u40 u41 u42 u43 u44 u45 u46 u47 u48 u49 u50 u51 u52 u53 u54 u55 u56 u57 u58 u59 u60 u61 u62 u63 u64 u65 u66 u67 u68 u69 u70 u71 u72 u73 u74 u75 u76 u77 u78 u79 u80 u81 u82 u83 u84 u85 u86 u87 u88 u89 u90 u91 u92 u93 u94 u95 u96 u97 u98 u99 u100 u101 u102 u103 u104 u105 u106 u107 u108 u109 u110 u111 u112 u113 u114 u115 u116 u117 u118 u119 u120 u121 u122 u123 u124 u125 u126 u127 u128 u129 u130 u131 V fa fc pa pc h
 have q1:V.cell? ⟨W.heap.size,0,none⟩=some (.slice a len cap):=by rw [cell_of_row V _ 0 _ _ _ h.eL];rfl
 obtain ⟨fs,F1,F2,F3⟩:=h.fields.fes;subst F3;have hcnt:=h.cnt;have htot:=Fes.total fs k F1;have hht:=QfI 18 fs;have lT:=h.lT;have hT:=h.hT
 have hsm:fs.length≤1000000:=by have:=Fes.length fs k F1;have:=Forest.length_le_cnt k;omega
 have hbs:∀ e∈fs,e.2.length≤1048576:=fun e he=>by have:=Fes.small fs k F1 e he;omega
 have hby:∀ e∈fs,QaL W.heap.size V (.slice e.1.a e.1.l e.1.c) e.2:=fun e he=>(Fes.rows fs k F1 e he).below h.below
 have hpg:=Qj9 F1;have hfe:=F2.below h.below;have hch3:Fence.wide.fn 16:=trivial;have HH:=QQ h;have HK:=QQ hk;have HPG:=QQ hpg;clear h hk hpg
 conv=>arg 2;whnf
 refine (wpIn_wide (n:=102)).1 ?_
 gi_wp2_with (gi_at_call 16;refine (QeV Fence.wide _ trivial rfl _ _ _ _ _).mono ?_;rintro e w' ⟨rfl,rfl⟩)
 obtain ⟨Y,hY⟩:∃ Y,Y=(V.alloc (.cells #[.slice a fs.length cap] 59)).alloc (.cells #[.int .i64 18] 3):=⟨_,rfl⟩
 have bwX:Below V.heap.size V Y:=by rw [hY];exact ((QB _ _).alloc (QN _) _).alloc (by simp) _
 have sY:V.heap.size+2=Y.heap.size:=by rw [hY];simp
 rw [← hY];have h:=(QG HH);have hN:=h.below.size
 have hfd:∀ b,(Value.slice fa p.fds.length fc).ownBlock=some b→b<V.heap.size:=fun b hb=>(h.own.1.lt b hb).2
 have hfd2:∀ b,(Value.slice fa p.fds.length fc).ownBlock=some b→T+1≤b:=fun b hb=>(h.own.1.lt b hb).1
 obtain ⟨rfl,rfl⟩:=h.own.2.2.2 hpp
 have hpl:∀ i,(QdZ ((Qak 18 fs).take i)).length≤20000:=fun i=>by
  have h1:=Qef ((Qak 18 fs).take i);have h2:=Qg3 (Qak 18 fs) i;omega
 clear h;rename_i K' aK;have AK:=QQ aK;clear aK
 refine QcX V W.heap.size hN a fs.length cap 18 fs hY rfl rfl hfe hby hsm hbs rfl
  (fun i S A=>∃ (ga:Option Addr) (gc:Nat),QaY W a fs.length cap k T { p with pages:=QdZ ((Qak 18 fs).take i) } A fa fc ga gc∧A.ownsRow Y.heap.size 110 6 (.slice ga (QdZ ((Qak 18 fs).take i)).length gc) (QdZ ((Qak 18 fs).take i)).length ((QdZ ((Qak 18 fs).take i)).flatMap Pg.vals)∧S=fun b=>b=T∨(Value.slice ga (QdZ ((Qak 18 fs).take i)).length gc).ownBlock=some b)
  (fun c i S A=>False) (fun b=>b=T∨(Value.slice none 0 0).ownBlock=some b) (fun b hb=>by rcases hb with rfl | hb;exact ⟨by omega,lT⟩;cases hb) ?hI ?hIx ?hlt ?h0 (fun _ _ _=>True) (fun _ _ _ _ _ _=>trivial)
  (fun args _=>{ tmps:=#[.slice a fs.length cap,.pointer (some ⟨W.heap.size,0,none⟩),.pointer (some ⟨W.heap.size+1,0,none⟩),.func (.func 61) #[] #[.pointer (some ⟨W.heap.size,0,none⟩)],.pointer (some ⟨T,0,none⟩),u5,u6,u7,u8,u9,u10,args.getD 1 undef,u12,u13,u14,u15,u16,u17,u18,u19,u20,u21,u22,u23,u24,u25,u26,u27,u28,u29,u30,u31,u32,u33,u34,u35,u36,u37,u38,u39,u40,u41,u42,u43,u44,u45,u46,u47,u48,u49,u50,u51,u52,u53,u54,u55,u56,u57,u58,u59,u60,u61,u62,u63,u64,u65,u66,u67,u68,u69,u70,u71,u72,u73,u74,u75,u76,u77,u78,u79,u80,u81,u82,u83,u84,u85,u86,u87,u88,u89,u90,u91,u92,u93,.slice a fs.length cap,.func (.func 57) #[] #[.pointer (some ⟨V.heap.size,0,none⟩),.pointer (some ⟨V.heap.size+1,0,none⟩)],args.getD 0 undef,args.getD 1 undef,u98,u99,u100,u101,u102,u103,u104,u105,u106,u107,u108,u109,u110,u111,u112,u113,u114,u115,u116,u117,u118,u119,u120,u121,u122,u123,u124,u125,u126,u127,u128,u129,u130,u131],defers:=[] }) ?assign ?body ?done ?stop
 case hI =>
  rintro i S A A' ⟨ga,gc,inv,own,rfl⟩ hs;refine ⟨ga,gc,inv.same hs.os hs.tape hs.output hs.size (fun b hb=>hs.block b ?_),Qac own (fun b hb=>hs.block b (.inr (.inr hb))),rfl⟩
  rcases hb with hb | hb | hb
  ·left;omega
  ·left;have:=hfd b hb;omega
  ·exact .inr (.inr hb)
 case hIx=>intro c i S A A' h;exact h.elim
 case hlt =>
  rintro i S A ⟨ga,gc,inv,own,rfl⟩ b hb
  rcases hb with rfl | hb
  ·exact inv.lT
  ·exact (own.lt b hb).2
 case h0 =>
  have h:=(QG HH).grow bwX
  have e:({ p with pages:=QdZ ((Qak 18 fs).take 0) }:Pr)=p:=by cases p;simp at hpp;subst hpp;rfl
  exact ⟨none,0,by rw [e];exact h,World.ownsRow_nil _ _ _ _,rfl⟩
 case assign =>
  rintro l i hi A args G K ⟨v,rfl,_⟩ hK
  gi_wp2
  exact hK A (QB _ _) trivial
 case body =>
  rintro l i hi S A m args G ⟨ga,gc,inv,own,rfl⟩ hm1 hm2 hm3 hm4 _ ⟨v,rfl,q4,rfl⟩ hG;have hmem:(Qak 18 fs)[i]∈fs:=(List.mem_filter.1 (show (Qak 18 fs)[i]∈Qak 18 fs from List.getElem_mem _)).1;have hz:=(hby _ hmem).2
  have hcat:QdZ ((Qak 18 fs).take (i+1))=QdZ ((Qak 18 fs).take i)++(Qbd ((Qak 18 fs)[i]).2).map QdP:=by
   rw [List.take_succ_eq_append_getElem hi];unfold QdZ;rw [List.flatMap_append];simp
  have hwl:=QfU ((Qak 18 fs)[i]).2;have hsmall:=Fes.small fs k F1 _ hmem;rw [← hwl] at q4;refine Qo0 l W a fs.length cap k T { p with pages:=QdZ ((Qak 18 fs).take i) } A fa fc ga gc inv Y.heap.size (by omega) (by omega) own (hpl i) v (Qbd ((Qak 18 fs)[i]).2) (by omega) (fun z hzz=>?_) q4 _ (fun A' V' pa' pc' inv' own' gr hnew=>?_) _ _ _ _ _ _ undef _ _ _ _ _ _ _ _ _ _ _ _ _ _ _ _ _ _ _ _ _ _ _ _ _ _ _ _ _ _ _ _ _ _ _ _ _ _ _ _ _ _ _ _ _ _ _ _ _ _ _ _ _ _ _ _ _ _ _ _ _ _ _ _ _ _ _ _ _ _ _ _ _ _ _ _ _ _ _ _ _ _ _ _ _ _ _ _ _ _ _ _ _ _ _ _ _ _ _ _ _ _ _ _ _ _ _ _ _ _ _ _ _ _ _ _ _ _ _ _
  ·have:=QbD hz (Qbd ((Qak 18 fs)[i]).2).length z
   refine this ?_;unfold QbX;rw [List.take_of_length_le (QN _)];exact List.mem_append_left _ hzz
  ·have inv'':QaY W a fs.length cap k T { p with pages:=QdZ ((Qak 18 fs).take (i+1)) } V' fa fc pa' pc':=by rw [hcat];exact inv'
   refine ⟨_,⟨pa',pc',inv'',by rw [hcat];exact own',rfl⟩,⟨gr.os,gr.tape,gr.output,gr.size,fun b hb hs=>gr.block b hb (fun h=>hs (.inl h)),fun b hb=>?_⟩⟩
   rcases hb with hb | hb
   ·exact .inl (.inl (.inl hb))
   ·rw [hcat] at hb
    exact (hnew b hb).imp (fun h=>.inl (.inr h)) id
 case done =>
  rintro D S A hD hS ⟨ga,gc,inv,own,rfl⟩ hK;refine (QG AK) _ _ ?_;rw [List.take_length,show QdZ (Qak 18 fs)=QeR k from HPG] at inv own hS;rw [← (QG HK)] at inv;obtain ⟨PV,hPV⟩:∃ PV:Array Value,PV=((Qbu k).vals fa fc ga gc).toArray:=⟨_,rfl⟩
  have hP5:PV.size=55:=by rw [hPV,QS,Pr.vals_length inv.ok]
  have hP1:PV.all (·.oneCell')=true:=by rw [hPV,Array.all_eq_true_iff_forall_mem];exact fun v hv=>Qdw _ _ _ _ _ v (by simpa using hv)
  have eT:=inv.eT;rw [← hPV] at eT;have zT:Qi6 A T PV:=Qi6.of_row eT
  have hiP:(Tryz.prog.info? 54).map (·.size)=some PV.size:=by rw [hP5];exact QdY
  have eR:=inv.eR;have INV:=QQ inv;have HPV:=QQ hPV;clear inv hPV eT;refine wpIn_wide.2 ?_
  go_wp2_with first
   | (refine Qep (by rfl) 54 (.tmp 4) rfl T rfl PV zT _ Tryz.underlying54 rfl hiP ?_)
   | ((fail_if_success (unfold Qag));refine Qan (t:=54) rfl ?_)
  unfold Qag;refine Qab rfl 54 (.tmp 2) (.tmp 131) rfl (W.heap.size+1) PV rfl rfl 54 QdQ eR hiP (by rw [hP5];rfl) hP1 ?_;obtain ⟨A6,hA6⟩:∃ V6,V6=A.setRow (W.heap.size+1) PV:=⟨_,rfl⟩
  have e6:A6.heap[W.heap.size+1]?=some (.cells PV 54):=by rw [hA6];exact setRow_heap _ _ _ _ _ _ eR
  have o6:∀ b,b≠W.heap.size+1→A6.heap[b]?=A.heap[b]?:=fun b hb=>by rw [hA6];exact setRow_other _ _ _ _ hb
  have b6:Below W.heap.size W A6:=by rw [hA6];exact Qaj (QG INV).below (by omega) _
  have hK6:A6.heap[D]?=some (.deferred (some [])):=(o6 D (by omega)).trans hK;rw [← hA6];clear hA6 eR zT;go_wp2;refine ⟨by simp [QeE,Act.put],.inl ⟨_,_,rfl,run_takeDeferred hK6,?_⟩⟩
  have hDW:W.heap.size+1≠D:=by omega
  refine ⟨_,results_cell_row rfl _ _ (W.heap.size+1) 54 PV (0,0) _ rfl (by rw [World.putObj_heap_other (by omega)];exact e6) Tryz.underlying54 rfl hiP,fa,fc,ga,gc,?_,?_,?_⟩
  ·rw [show PV=_ from HPV]
  ·have inv:=(QG INV)
   have hsame:∀ b,b≠W.heap.size+1→b≠D→(A6.putObj D (.deferred none)).heap[b]?=A.heap[b]?:=fun b h1 h2=>by rw [World.putObj_heap_other (by omega)];exact o6 b h1
   have hfe2:(Qbu k).fds=p.fds:=by rw [show Qbu k=_ from HK]
   have hpe2:(Qbu k).pages=QeR k:=by rw [show Qbu k=_ from HK]
   refine ⟨QaI inv.own.1 (by omega) fun b hb=>hsame b ?_ ?_,QaI inv.own.2.1 (by omega) fun b hb=>hsame b ?_ ?_,inv.own.2.2⟩
   ·have:=(inv.own.1.lt b hb).1;omega
   ·have:=hfd b (by rw [← hfe2];exact hb);omega
   ·have:=(inv.own.2.1.lt b hb).1;omega
   ·intro e
    rw [hpe2] at hb;exact hS (.inr (by rw [← e];exact hb))
  ·exact b6.trans (QaM.below (QaM.putObj (p:=fun b=>b<W.heap.size) _ _ _ (by show ¬ D<W.heap.size;omega)) (fun b hb=>hb))
 case stop =>
  rintro D c i S A hD hS hk h hK;exact h.elim
end
section
attribute [local go_sem] QaB QaJ QaA
theorem QgY (W:World) (a:Option Addr) (len cap:Nat) (k:Forest) (h:SlF W.heap.size W a len cap k) (hcnt:k.cnt≤20000) :
  Calls Tryz.prog 20 #[.slice a len cap] W fun e W'=>∃ fa fc pa pc,e=.returned (.agg ((Qbu k).vals fa fc pa pc).toArray)∧Qb3 W.heap.size W' fa fc pa pc (Qbu k)∧Below W.heap.size W W':=by
 have kv:=fun (V:World) (hV:Below W.heap.size W V) (B:Nat) (hc:V.cell? ⟨B,0,none⟩=some (.slice a len cap)) (tag:Int) (ht:tag<128)=>QhB k hcnt B a len cap V hc ((h.below hV).mono hV.size) tag ht
 have KV:=QQ kv;have H0:=QQ h;clear h kv;refine (callsIn_wide (n:=102)).1 ?_;refine callsIn_of_wp_marks Tryz.func20 rfl trivial ?_ rfl;simp only [Tryz.ntmps20,QS,List.length_cons,List.length_nil,Nat.reduceAdd,Nat.reduceSub,Array.replicate_succ,Array.replicate_zero,List.push_toArray,List.append_toArray,List.nil_append,List.cons_append];refine wpIn_wide.2 ?_
 go_upto_region 2 with fail
 generalize hV:World.alloc _ _=V;have hV2:V=(W.alloc (.cells #[.slice a len cap] 59)).alloc (.cells QdQ 54):=hV.symm;clear hV
 have bV:Below W.heap.size W V:=by rw [hV2];exact ((QB _ _).alloc (QN _) _).alloc (by simp) _
 have eL:V.heap[W.heap.size]?=some (.cells #[.slice a len cap] 59):=by
  rw [hV2,((QB _ _).alloc (QN _) _:Below _ _ _).block _ (by simp)];exact QW _ _
 have eR:V.heap[W.heap.size+1]?=some (.cells QdQ 54):=by
  rw [hV2];have:=QW (W.alloc (.cells #[.slice a len cap] 59)) (Obj.cells QdQ 54);simpa using this
 have sV:W.heap.size+2≤V.heap.size:=by rw [hV2];simp
 clear hV2;go_wp2_with (go_at_call 61;refine Qau ?_);unfold Qag;refine Calls.mono ((QG KV) V bV W.heap.size (by rw [cell_of_row V _ 0 _ _ _ eL];rfl) 7 (by decide)) ?_;rintro e' w0 ⟨rfl,b0⟩;replace eL:=(b0.block _ (by omega)).trans eL;replace eR:=(b0.block _ (by omega)).trans eR
 replace sV:W.heap.size+2≤w0.heap.size:=by have:=b0.size;omega
 replace bV:=bV.trans (b0.mono bV.size);clear b0;go_wp2_with (go_at_call 61;refine Qau ?_);unfold Qag;refine Calls.mono ((QG KV) w0 bV W.heap.size (by rw [cell_of_row w0 _ 0 _ _ _ eL];rfl) 8 (by decide)) ?_;rintro e' w1 ⟨rfl,b0⟩;replace eL:=(b0.block _ (by omega)).trans eL;replace eR:=(b0.block _ (by omega)).trans eR
 replace sV:W.heap.size+2≤w1.heap.size:=by have:=b0.size;omega
 replace bV:=bV.trans (b0.mono bV.size);clear b0;go_wp2_with (go_at_call 61;refine Qau ?_);unfold Qag;refine Calls.mono ((QG KV) w1 bV W.heap.size (by rw [cell_of_row w1 _ 0 _ _ _ eL];rfl) 9 (by decide)) ?_;rintro e' w2 ⟨rfl,b0⟩;replace eL:=(b0.block _ (by omega)).trans eL;replace eR:=(b0.block _ (by omega)).trans eR
 replace sV:W.heap.size+2≤w2.heap.size:=by have:=b0.size;omega
 replace bV:=bV.trans (b0.mono bV.size);clear b0;go_wp2_with (go_at_call 61;refine Qau ?_);unfold Qag;refine Calls.mono ((QG KV) w2 bV W.heap.size (by rw [cell_of_row w2 _ 0 _ _ _ eL];rfl) 10 (by decide)) ?_;rintro e' w3 ⟨rfl,b0⟩;replace eL:=(b0.block _ (by omega)).trans eL;replace eR:=(b0.block _ (by omega)).trans eR
 replace sV:W.heap.size+2≤w3.heap.size:=by have:=b0.size;omega
 replace bV:=bV.trans (b0.mono bV.size);clear b0;have hu:=Qda (QcF (Qah k 10 0));obtain ⟨n7,h7⟩:∃ x,x=QcF (Qah k 7 0):=⟨_,rfl⟩;obtain ⟨n8,h8⟩:∃ x,x=QcF (Qah k 8 0):=⟨_,rfl⟩;obtain ⟨n9,h9⟩:∃ x,x=QcF (Qah k 9 0):=⟨_,rfl⟩;obtain ⟨n10,h10⟩:∃ x,x=QcF (Qah k 10 0):=⟨_,rfl⟩;obtain ⟨m10,h10m⟩:∃ x,x=n10 % 4294967296:=⟨_,rfl⟩;obtain ⟨pz,hpz⟩:∃ p,p=prZ n7 n8 n9 m10:=⟨_,rfl⟩;obtain ⟨PV,hPV⟩:∃ PV:Array Value,PV=((prZ n7 n8 n9 m10).vals none 0 none 0).toArray:=⟨_,rfl⟩
 have hP5:PV.size=55:=by rw [hPV,QS,Pr.vals_length (Qf4 ..)]
 have hP1:PV.all (·.oneCell')=true:=by rw [hPV,Array.all_eq_true_iff_forall_mem];exact fun v hv=>Qdw _ _ _ _ _ v (by simpa using hv)
 have hPB:PV=_:=hPV.trans (by rw [QhW]);rw [← h10,← h10m] at hu;rw [← h7,← h8,← h9,← h10];have HN:=QQ (QA h7 (QA h8 (QA h9 (QA h10 h10m))));have HPV:=QQ hPV;clear h7 h8 h9 h10 h10m hPV hpz;have HPB:=QQ hPB;clear hPB;go_wp2_with ((fail_if_success (unfold Qag));refine Qan (t:=54) rfl ?_);unfold Qag;generalize hA:World.alloc w3 _=A;have hA2:A=w3.alloc (Obj.cells QdQ 54):=hA.symm;clear hA
 have pq:A.heap[w3.heap.size]?=some (.cells QdQ 54):=by rw [hA2];exact QW _ _
 have bA:Below w3.heap.size w3 A:=by rw [hA2];exact (QB _ _).alloc (QN _) _
 clear hA2
 have hiP:(Tryz.prog.info? 54).map (·.size)=some PV.size:=by rw [hP5];exact QdY
 refine Qab rfl 54 (.tmp 4) (.tmp 24) rfl w3.heap.size PV rfl (by rw [show PV=_ from HPB];rfl) 54 QdQ pq hiP (by rw [hP5];rfl) hP1 ?_;obtain ⟨V5,hV5⟩:∃ V5,V5=A.setRow w3.heap.size PV:=⟨_,rfl⟩
 have e5:V5.heap[w3.heap.size]?=some (.cells PV 54):=by rw [hV5];exact setRow_heap _ _ _ _ _ _ pq
 have b5:Below w3.heap.size w3 V5:=by rw [hV5];exact Qaj bA (QN _) _
 rw [← hV5];clear hV5 pq bA;replace eR:=(b5.block _ (by omega)).trans eR;replace eL:=(b5.block _ (by omega)).trans eL
 have q2:V5.cell? ⟨w3.heap.size,2,none⟩=some (.int .i64 n9):=by rw [cell_of_row V5 _ 2 _ _ _ e5,show PV=_ from HPB];rfl
 have B5:=bV.trans (b5.mono bV.size);have lT:w3.heap.size<V5.heap.size:=(QI.1 e5).1;obtain ⟨T,hT⟩:∃ T,T=w3.heap.size:=⟨_,rfl⟩;rw [← hT] at e5 q2 sV lT ⊢;clear bV b5 hT;by_cases hz:n9=2
 ·subst hz
  have z5:Qi6 V5 T PV:=Qi6.of_row e5
  go_wp2_with first
   | (refine Qep (by rfl) 54 (.tmp 4) rfl T rfl PV z5 _ Tryz.underlying54 rfl hiP ?_)
   | ((fail_if_success (unfold Qag));refine Qan (t:=54) rfl ?_)
  unfold Qag;refine Qab rfl 54 (.tmp 2) (.tmp 28) rfl (W.heap.size+1) PV rfl rfl 54 QdQ eR hiP (by rw [hP5];rfl) hP1 ?_;obtain ⟨V6,hV6⟩:∃ V6,V6=V5.setRow (W.heap.size+1) PV:=⟨_,rfl⟩
  have e6:V6.heap[W.heap.size+1]?=some (.cells PV 54):=by rw [hV6];exact setRow_heap _ _ _ _ _ _ eR
  have b6:Below W.heap.size W V6:=by rw [hV6];exact Qaj B5 (by omega) _
  rw [← hV6];clear hV6 eR z5 q2 B5;go_wp2;obtain ⟨h7,h8,h9,h10,h10m⟩:=(QG HN)
  have hk:Qbu k=prZ n7 n8 2 m10:=by
   unfold Qbu;rw [← h9,if_pos rfl,← h7,← h8,← h10,← h10m]
  refine ⟨_,results_cell_row rfl _ _ (W.heap.size+1) 54 PV (0,0) _ rfl e6 Tryz.underlying54 rfl hiP,none,0,none,0,?_,?_,b6⟩
  ·rw [hk,QhW,show PV=_ from HPB]
  ·rw [hk];exact Qb3.none _ _ _ rfl rfl
 ·have hz2:(n9 == 2)=false:=by simpa using hz
  clear HPB;obtain ⟨h7,h8,h9,h10,h10m⟩:=(QG HN)
  have hseg:Qdf W a len cap k T (tl 4 (Tryz.f20.body.getD .skip)) (prZ n7 n8 n9 m10):=by
   refine QqX W a len cap k T _ (QqY W a len cap k T _ (QqZ W a len cap k T _ (Qqe W a len cap k T _ rfl (Qqf W a len cap k T _ rfl ?_))));unfold Qbu;rw [← h9,if_neg hz,← h7,← h8,← h10,← h10m];rfl
  have hinv:QaY W a len cap k T (prZ n7 n8 n9 m10) V5 none 0 none 0:=⟨H0,hcnt,B5,eL,eR,by rw [← (QG HPV)];exact e5,by omega,Qb3.none _ _ _ rfl rfl,Qf4 ..⟩;have HSEG:=QQ (QA hseg hinv);clear h7 h8 h9 h10 h10m hseg hinv eL eR B5 e5;rename_i K' aK;have AK:=QQ aK;clear aK;go_wp2;refine (QG AK) _ _ ?_;refine wp_seq_k (fun K2 aK2=>?_);have AK2:=QQ aK2;clear aK2;go_wp2;refine (QG AK2) _ _ ?_;exact (QG HSEG).1 _ _ _ _ _ _ _ _ _ _ _ _ _ _ _ _ _ _ _ _ _ _ _ _ _ _ _ _ _ _ _ _ _ _ _ _ _ _ _ _ _ _ _ _ _ _ _ _ _ _ _ _ _ _ _ _ _ _ _ _ _ _ _ _ _ _ _ _ _ _ _ _ _ _ _ _ _ _ _ _ _ _ _ _ _ _ _ _ _ _ _ _ _ _ _ _ _ _ _ _ _ _ _ _ _ _ _ _ _ _ _ _ _ _ _ _ _ _ _ _ _ _ _ _ _ _ _ V5 none 0 none 0 (QG HSEG).2
end
end Go.Proofs.YtejcandhijdnhaaGreat
