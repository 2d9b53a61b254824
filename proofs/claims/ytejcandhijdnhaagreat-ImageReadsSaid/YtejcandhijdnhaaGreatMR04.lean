/- Own texts of this seat, one behind the other, without needless spaces (part 4 of 26). -/
import Derived.Test.YtejcandhijdnhaaGreatMR01
import Derived.Test.YtejcandhijdnhaaGreatMR02
import Derived.Test.YtejcandhijdnhaaGreatMR03
import Derived.Maps.OwnIn
import Derived.RangeFuncBox
import Derived.OwnWalkIn
import Derived.TacticsInMore
import Derived.LoopNIn
import Derived.LoopIn
import Derived.BigFrameIn
import Derived.Laws.CopyOwn
import Derived.Deep.WholeRow
namespace Go.Proofs.YtejcandhijdnhaaGreat
open Go Go.RowKit
set_option linter.unusedVariables false
set_option linter.unusedSimpArgs false
set_option linter.unnecessarySimpa false
set_option maxRecDepth 100000
set_option maxHeartbeats 16000000
section
open Go.Shelf
attribute [local go_sem] Oper.semAt_some
def Qem (zs:List Int) (k:Nat):List Int:=(List.range k).map fun i=>((leW zs (4*i) 4:Nat):Int)
theorem QjH (zs:List Int) (k:Nat):Qem zs (k+1)=Qem zs k++[((leW zs (4*k) 4:Nat):Int)]:=by simp [Qem,List.range_succ]
theorem Qi (zs:List Int) (k:Nat):(Qem zs k).length=k:=by simp [Qem]
theorem QhP:(Tryz.prog.info? 40).map (fun i=>(i.zero,i.size,i.bytes))=some (some (.int .u32 0),1,4):=by kernel_rfl
def Qld (w:World) (zs:List Int) (e:Ending) (w':World):Prop :=
 Below w.heap.size w w' ∧
 ((zs.length % 4=0∧∃ v,e=.returned (.tuple #[v,.int .i64 0])∧w'.ownsRow w.heap.size 40 1 v (zs.length / 4) ((Qem zs (zs.length / 4)).map (Value.int .u32))∧(v=.slice none 0 0↔zs.length=0)) ∨
 (zs.length % 4≠0∧e=.returned (.tuple #[.slice none 0 0,.int .i64 10])))
theorem Qki (n:Nat) (a:Option Addr) (len cap:Nat) (zs:List Int) (w:World) (hr:QaL w.heap.size w (.slice a len cap) zs) (hsm:zs.length≤140737488350000) :
  Calls Tryz.prog 60 #[.slice a len cap] w (Qld w zs):=by
 obtain ⟨i0,hi,hz0,hz1,hz2⟩:=info_parts QhP;refine (callsIn_wide (n:=102)).1 ?_;refine callsIn_of_wp_marks Tryz.func60 rfl trivial ?_ rfl;simp only [Tryz.ntmps60,QS,List.length_cons,List.length_nil,Nat.reduceAdd,Nat.reduceSub,Array.replicate_succ,Array.replicate_zero,List.push_toArray,List.append_toArray,List.nil_append,List.cons_append];have hch:Fence.wide.fn 88:=trivial
 gi_wp2
 refine Qel ?_
 gi_wp2
 refine wpIn_label ?_
 gi_wp2_with (gi_at_call 88;refine (Qns Fence.wide _ trivial rfl _ _ _ _).mono ?_;rintro e w' ⟨rfl,rfl⟩)
 obtain ⟨W3,hW3⟩:∃ W3,W3=((w.alloc (.cells #[.slice none 0 0] 78)).alloc (.cells #[.bool true] 4)).alloc (.cells #[.slice a len cap] 22):=⟨_,rfl⟩
 have sz:W3.heap.size=w.heap.size+3:=by rw [hW3];simp
 have bW:Below w.heap.size w W3:=by rw [hW3];exact (((QB _ w).alloc (QN _) _).alloc (by simp) _).alloc (by simp;omega) _
 have bO:Boxed W3 w.heap.size 78 (.slice none 0 0):=by rw [hW3];exact ((Boxed.new w _ _).alloc _).alloc _
 have bF:Boxed W3 (w.heap.size+1) 4 (.bool true):=by
  rw [hW3];have:=Boxed.new (w.alloc (.cells #[.slice none 0 0] 78)) 4 (.bool true);rw [World.size_alloc] at this;exact this.alloc _
 have bS:Boxed W3 (w.heap.size+1+1) 22 (.slice a len cap):=by
  rw [hW3];have:=Boxed.new ((w.alloc (.cells #[.slice none 0 0] 78)).alloc (.cells #[.bool true] 4)) 22 (.slice a len cap);rw [World.size_alloc,World.size_alloc] at this;exact this
 rw [← hW3];have hr3:QaL W3.heap.size W3 (.slice a len cap) zs:=(hr.same fun b hb=>bW.block b (hr.lt b hb)).mono (by omega)
 refine Qeg (gf:=109) rfl (enters_of Tryz.func109 (by kernel_rfl) rfl)
  (Qjj (w.heap.size+1+1) _ zs W3 (by omega) bS.cell hr3 (by omega)) (fun _=>rfl)
  (fun k S A=>∃ v,S=(fun b=>b=w.heap.size∨b=w.heap.size+1∨v.ownBlock=some b)∧Boxed A w.heap.size 78 v∧Boxed A (w.heap.size+1) 4 (.bool true) ∧
   A.ownsRow w.heap.size 40 1 v k ((Qem zs k).map (Value.int .u32))∧(v=.slice none 0 0↔k=0)∧4*k≤zs.length∧Below w.heap.size w A)
  (fun c k S A=>c=.exit 0∧S=(fun b=>b=w.heap.size+1)∧Boxed A (w.heap.size+1) 4 (.bool false)∧zs.length % 4≠0∧Below w.heap.size w A)
  (fun b=>b=w.heap.size∨b=w.heap.size+1) ?hX ?hI ?hIx ?hlt ?h0
  (fun k=>{ tmps:=#[.slice a len cap,undef,.slice none 0 0,.int .i64 0,.pointer (some ⟨w.heap.size,0,none⟩),.pointer (some ⟨w.heap.size+1,0,none⟩),
   .int .u32 (leW zs (4*k) (min 4 (zs.length-4*k))),.bool (decide (4*k+4≤zs.length)),.slice a len cap,.func (.func 109) #[] #[.pointer (some ⟨w.heap.size+1+1,0,none⟩)],
   .int .u32 (leW zs (4*k) (min 4 (zs.length-4*k))),.bool (decide (4*k+4≤zs.length)),undef,undef,undef,undef,undef,undef,undef,undef,undef,undef],defers:=[] }) ?assign ?body ?done ?stop
 case hX =>
  rintro b (rfl | hb)
  ·exact ⟨by omega,fun h=>by omega⟩
  ·have:=hr.lt b hb
   exact ⟨by omega,fun h=>by omega⟩
 case hI =>
  rintro k S A A' ⟨v,rfl,h1,h2,h3,h4,h5,h6⟩ hs;exact ⟨v,rfl,(hs.block _ (.inr (.inl rfl))).trans h1,(hs.block _ (.inr (.inr (.inl rfl)))).trans h2,Qac h3 (fun b hb=>hs.block b (.inr (.inr (.inr hb)))),h4,h5,h6.trans (hs.below (fun b hb=>.inl (by omega)))⟩
 case hIx =>
  rintro c k S A A' ⟨h1,rfl,h2,h3,h4⟩ hs;exact ⟨h1,rfl,(hs.block _ (.inr rfl)).trans h2,h3,h4.trans (hs.below (fun b hb=>.inl (by omega)))⟩
 case hlt =>
  rintro k S A ⟨v,rfl,h1,h2,h3,h4,h5,h6⟩ b (rfl | rfl | hb)
  ·exact h1.lt
  ·exact h2.lt
  ·exact (h3.lt b hb).2
 case h0 =>
  refine ⟨.slice none 0 0,?_,bO,bF,World.ownsRow_nil _ _ _ _,by simp,by omega,bW⟩
  funext b;simp [Value.ownBlock]
 case assign =>
  intro l' k A K hK;dsimp only [QoL]
  gi_wp2
  exact hK
 case body =>
  rintro l' k hk S A ⟨v,rfl,h1,h2,h3,h4,h5,h6⟩;rw [show (List.range ((zs.length+3) / 4))[k]=k from by simp]
  have hN:k<(zs.length+3) / 4:=by simpa using hk
  by_cases hw:4*k+4≤zs.length
  ·obtain ⟨x,hx⟩:∃ x,x=leW zs (4*k) (min 4 (zs.length-4*k)):=⟨_,rfl⟩
   have hx4:x=leW zs (4*k) 4:=by rw [hx,Nat.min_eq_left (by omega)]
   rw [← hx,show decide (4*k+4≤zs.length)=true from by simpa using hw];clear hx;have c1:=h1.cell;have c2:=h2.cell;have f2:=h2.frozen;have wr1:=(Wr.refl (fun b=>b=w.heap.size∨b=w.heap.size+1∨v.ownBlock=some b) A).setCell (p:=⟨w.heap.size+1,0,none⟩) (.inl (.inr (.inl rfl))) (.bool true);have g1:=grownBy_setCell' A (w.heap.size+1) (.bool true);have h1':=h1.kept g1 (by simp);have h2':=h2.set (.bool true);have h3':=h3.kept g1 (.inr (h2.not_row (by decide) h3).symm);have h6':Below w.heap.size w (A.setCell ⟨w.heap.size+1,0,none⟩ (.bool true)):=h6.setCell (p:=⟨w.heap.size+1,0,none⟩) (by show w.heap.size≤w.heap.size+1;omega) _;have hsA:=h6.size;have c1':=h1'.cell;have c2':=h2'.cell
   have hkl:k<140737488350000:=by omega
   have eA:(A.setCell ⟨w.heap.size+1,0,none⟩ (.bool true)).heap.size=A.heap.size:=by show (A.heap.modify _ _).size=_;rw [Array.size_modify]
   have hbase:w.heap.size≤(A.setCell ⟨w.heap.size+1,0,none⟩ (.bool true)).heap.size:=by rw [eA];omega
   have hcn:∀ j u,[Value.int .u32 x][j]?=some u→((A.setCell ⟨w.heap.size+1,0,none⟩ (.bool true)).alloc (.cells #[.int .u32 x] 40)).cell? ((⟨A.heap.size,0,none⟩:Addr).add j)=some u:=by
    rw [← eA];exact cell_one_new _ _ _
   have HX:=QQ hx4;have HN:=QQ hcn;have HE:=QQ eA;clear hx4 hcn eA
   gi_wp2_with (gi_at_builtin;refine Qau ?_)
   unfold Qag;refine wpListIn_append_own_at _ rfl _ _ 78 rfl w.heap.size 40 i0 (.int .u32 0) 1 4 Tryz.underlying78 hi hz0 hz1 hz2 rfl (by decide) v k _ rfl (h3'.alloc _) ⟨A.heap.size,0,none⟩ 1 1 [.int .u32 x] rfl rfl HN (by simp [Value.oneCell']) (by simp only [maxLen];omega) (by omega) (by rw [World.size_alloc];omega) ?_;intro v' w1 hown' hgrow hnil hv;obtain ⟨g',cap',rfl⟩:=ownsRow_succ hown';obtain ⟨hv1,hv2,hr2,hk2,hb2⟩:=h1'.appended (by decide) h3' hbase (QN _) hown' hgrow;have hc1:=hv1.cell;have hf1:=hv1.frozen
   gi_wp2
   have hx4:x=leW zs (4*k) 4:=HX;have eA:(A.setCell ⟨w.heap.size+1,0,none⟩ (.bool true)).heap.size=A.heap.size:=HE;have k2:=(h2'.alloc (.cells #[.int .u32 x] 40)).kept hgrow (h2'.not_row (by decide) h3');refine ⟨fun b=>b=w.heap.size∨b=w.heap.size+1∨(Value.slice (some ⟨g',0,none⟩) (k+1) cap').ownBlock=some b,⟨_,rfl,hv2,k2.kept (grownBy_setCell' _ _ _) (by simp),?_,by simp,by omega,h6'.trans hb2⟩,?_⟩
   ·rw [QjH,List.map_append,← hx4];exact hr2
   ·refine ((((wr1.alloc (.cells #[.int .u32 x] 40)).grown hgrow (fun b hb=>.inl (.inr (.inr hb)))).setCell (p:=⟨w.heap.size,0,none⟩) (.inl (.inl rfl)) _).to ?_)
    rintro b (rfl | rfl | hb)
    ·exact .inl (.inl rfl)
    ·exact .inl (.inr (.inl rfl))
    ·rcases hv with hv | hv
     ·exact .inl (.inr (.inr (by rw [← hv];exact hb)))
     ·rw [hv,World.size_alloc,eA] at hb
      injection hb with hb
      exact .inr (by omega)
  ·have c2:=h2.cell
   have f2:=h2.frozen;rw [show decide (4*k+4≤zs.length)=false from by simpa using hw]
   gi_wp2
   exact ⟨_,⟨rfl,rfl,h2.set _,by omega,h6.setCell (p:=⟨w.heap.size+1,0,none⟩) (by show w.heap.size≤w.heap.size+1;omega) _⟩,((Wr.refl _ A).setCell (p:=⟨w.heap.size+1,0,none⟩) (.inl (.inr (.inl rfl))) (.bool false)).to (fun b hb=>.inl (.inr (.inl hb)))⟩
 case done =>
  rintro D S A hD hS ⟨v,rfl,h1,h2,h3,h4,h5,h6⟩ hK;have c1:=h1.cell;have c2:=h2.cell
  gi_wp2
  refine ⟨by simp,.inl ⟨_,_,rfl,run_takeDeferred hK,?_⟩⟩;rw [List.length_range] at h3 h4 h5
  have e4:zs.length % 4=0:=by omega
  have ek:(zs.length+3) / 4=zs.length / 4:=by omega
  rw [ek] at h3 h4;refine ⟨.tuple #[v,.int .i64 0],by simp [results,Tryz.results60,go_sem],h6.trans (QaM.below (QaM.putObj (p:=fun b=>b<w.heap.size) _ _ _ (by show ¬ D<w.heap.size;omega)) (fun b hb=>hb)),.inl ⟨e4,v,rfl,?_,by rw [h4];omega⟩⟩
  exact Qac h3 fun b hb=>World.putObj_heap_other (fun e=>hS (.inr (.inr (by rw [← e];exact hb))))
 case stop =>
  rintro D c k S A hD hS hk ⟨rfl,rfl,h2,h3,h4⟩ hK;have c2:=h2.cell
  gi_wp2
  refine ⟨by simp,.inl ⟨_,_,rfl,run_takeDeferred hK,?_⟩⟩;exact ⟨.tuple #[.slice none 0 0,.int .i64 10],by simp [results,Tryz.results60,go_sem],h4.trans (QaM.below (QaM.putObj (p:=fun b=>b<w.heap.size) _ _ _ (by show ¬ D<w.heap.size;omega)) (fun b hb=>hb)),.inr ⟨h3,rfl⟩⟩
end
def Qjw (zs:List Int):Int:=if zs.length=4 then (leW zs 0 4:Nat) else 0
def Qjv (zs:List Int):Int:=if zs.length=4 then 0 else 10
theorem Qk (a:Option Addr) (len cap:Nat) (zs:List Int) (w:World) (hr:QaL w.heap.size w (.slice a len cap) zs) (hsm:zs.length≤140737488350000) :
  Calls Tryz.prog 55 #[.slice a len cap] w fun e w'=>e=.returned (.tuple #[.int .u32 (Qjw zs),.int .i64 (Qjv zs)])∧Below w.heap.size w w':=by
 go_enter Tryz.func55,Tryz.ntmps55;go_wp2_with fail;go_wp2_with (go_at_call 60;refine (Qki 0 a len cap zs w hr hsm).mono ?_;rintro e w1 ⟨hb,⟨h4,v,rfl,hown,hnil⟩ | ⟨h4,rfl⟩⟩ <;> refine Qau ?_)
 ·unfold Qag
  have hown':=Qdb.of_own hown;obtain ⟨hn,hrow⟩:=hown';obtain ⟨a1,cap1,rfl⟩:=hrow.slice;obtain ⟨_,b,off,hopen,hc⟩:=hrow.open;have hl1:(Qem zs (zs.length / 4)).length=zs.length / 4:=Qi _ _;by_cases h1:zs.length=4
  ·have h5:zs.length / 4=1:=by omega
   have hl2:(Qem zs (zs.length / 4)).length=1:=by omega
   obtain ⟨rfl,_⟩:=hopen (by omega);have c0:=hc 0 (by omega)
   have e0:(Qem zs (zs.length / 4)).getD 0 0=leW zs 0 4:=by rw [h5];rfl
   rw [e0] at c0;rw [hl2];simp only [Nat.add_zero] at c0;have HH:=QQ h1;clear hc e0 hopen hl1 hl2 h1 h5 hown hrow hnil hn h4;go_wp2;go_ret2;have h1:zs.length=4:=HH;exact ⟨by simp [Qjw,Qjv,h1],hb⟩
  ·have hq:(((Qem zs (zs.length / 4)).length:Int) != 1)=true:=by simp;omega
   have HH:=QQ h1;clear hc hopen hl1 h1 hown hrow hnil hn h4;go_wp2;go_ret2;have h1:¬ zs.length=4:=HH;exact ⟨by simp [Qjw,Qjv,h1],hb⟩
 ·unfold Qag
  have HH:=QQ h4;clear h4;go_wp2;go_ret2;have h4:zs.length % 4≠0:=HH
  have h1:¬ zs.length=4:=by omega
  exact ⟨by simp [Qjw,Qjv,h1],hb⟩
section
attribute [local go_sem] Oper.semAt_some
def adr:Value→Option Addr
 | .slice a _ _=>a
 | _=>none
def Qch:Nat→List Int→Nat→Option Addr→Nat→List (Int × Value)
 | 0,_,_,_,_=>[]
 | n+1,bs,A,a,cap=>if bs.length≤A then [] else if bs.length<A+5∨bs.getD A 0=0∨bs.length<A+5+Qbw bs A then [(0,.slice none 0 0)]
  else (bs.getD A 0,sliced a 5 (5+Qbw bs A) cap 1)::Qch n bs (A+5+Qbw bs A) (adr (sliced a (5+Qbw bs A) (bs.length-A) cap 1)) (cap-(5+Qbw bs A))
def Qpp (x:Int × Value):Array Value:=#[.int .i64 x.1,x.2]
theorem QiI {n:Nat} {bs:List Int} {A:Nat} {a:Option Addr} {cap:Nat} (h:bs.length≤A):Qch n bs A a cap=[]:=by
 cases n with
 | zero=>rfl
 | succ n=>rw [Qch,if_pos h]
theorem Qfe {n:Nat} {bs:List Int} {A:Nat} {a:Option Addr} {cap:Nat} (hn:bs.length≤A+n) (h:¬ bs.length≤A) (hb:bs.length<A+5∨bs.getD A 0=0∨bs.length<A+5+Qbw bs A):Qch n bs A a cap=[(0,.slice none 0 0)]:=by
 cases n with
 | zero=>omega
 | succ n=>rw [Qch,if_neg h,if_pos hb]
theorem QfL {n:Nat} {bs:List Int} {A:Nat} {a:Option Addr} {cap:Nat} (h:¬ bs.length≤A) (hb:¬ (bs.length<A+5∨bs.getD A 0=0∨bs.length<A+5+Qbw bs A)) :
  Qch (n+1) bs A a cap=(bs.getD A 0,sliced a 5 (5+Qbw bs A) cap 1)::Qch n bs (A+5+Qbw bs A) (adr (sliced a (5+Qbw bs A) (bs.length-A) cap 1)) (cap-(5+Qbw bs A)):=by
 rw [Qch,if_neg h,if_neg hb]
theorem Qmw (bs:List Int) (A:Nat) (hb:∀ z∈bs,0≤z∧z≤255) (h:A+5≤bs.length):leW (((bs.drop A).drop 1).take 4) 0 4=Qbw bs A:=by
 have hg:∀ j,j<4→(((bs.drop A).drop 1).take 4).getD j 0=bs.getD (A+1+j) 0:=fun j hj=>by
  rw [Qba _ _ (by simp only [List.length_take,List.length_drop];omega),Qba _ _ (by omega)];simp [Nat.add_assoc,Nat.add_comm 1 A]
 have hz:∀ j,j<4→0≤bs.getD (A+1+j) 0:=fun j hj=>by rw [Qba _ _ (by omega)];exact (hb _ (List.getElem_mem _)).1
 have g0:=hg 0 (by omega);have g1:=hg 1 (by omega);have g2:=hg 2 (by omega);have g3:=hg 3 (by omega);have z0:=hz 0 (by omega);have z1:=hz 1 (by omega);have z2:=hz 2 (by omega);have z3:=hz 3 (by omega);unfold Qbw QfM;simp only [leW,Nat.zero_add,g0,g1,g2,g3];simp only [show A+1+0=A+1 from rfl,show A+1+1=A+2 from rfl,show A+1+2=A+3 from rfl,show A+1+3=A+4 from rfl] at *;omega
section
variable {F : Fence} {nF : Nat} {P : Program} {ops : Array Oper} {Q : Exit → Act → World → Prop} {a : Act} {w : World} {rest : List Oper} {o : Oper}
theorem QdB (hw:Region.wanted o (yielded ops a.tmps)=true) (T:TypeId) (x:Operand) (lo hi:Option Operand) (ho:o.op=.slice T x lo hi none) (p:Option Addr) (len cap l m:Nat)
  (hx:a.eval x=.slice p len cap) (hlo:(lo=none∧l=0)∨∃ t,lo=some t∧a.eval t=.int .i64 (l:Int)) (hhi:(hi=none∧m=len)∨∃ t,hi=some t∧a.eval t=.int .i64 (m:Int))
  (hu:P.underlying T=some (.slice (P.elem T))) (hs:(P.info? (P.elem T)).map (·.size)=some 1) (h0:l≤m) (h1:m≤len) (h2:len≤cap)
  (h:∀ q,sliced p l m cap 1=.slice q (m-l) (cap-l)→wpListIn F nF P ops Q rest (a.put o.dst (.slice q (m-l) (cap-l))) w):wpListIn F nF P ops Q (o::rest) a w:=by
 refine BigFrame.wpListIn_want hw fun K hK=>?_
 have hr:=Qhm (P:=P) (o:=o) (a:=a) (w:=w) T x lo hi ho p len cap l m hx hlo hhi hu hs h0 h1 h2 _ rfl;unfold Oper.wpIn;refine ⟨by simp [Oper.about,ho],?_⟩;rw [Oper.semAt_eq _ _ _ (by rw [ho];intro c hc;cases hc),hr];exact hK _ _ (h _ rfl)
end
theorem QlZ (bs:List Int) (A j:Nat):(bs.drop A).getD j 0=bs.getD (A+j) 0:=by simp [List.getD]
def Qjn (B:Nat) (w:World):Nat:=match w.cell? ⟨B,0,none⟩ with | some (.slice _ l _)=>l | _=>0
theorem Qhv {B:Nat} {w:World} {t:TypeId} {a:Option Addr} {l c:Nat} (h:Boxed w B t (.slice a l c)):Qjn B w=l:=by unfold Qjn;rw [h.cell]
theorem Qis (B1:Nat) (a:Option Addr) (len cap:Nat) (bs:List Int) (w:World) (hB:Boxed w B1 22 (.slice a len cap)) (hr:QaL w.heap.size w (.slice a len cap) bs) (hnb:¬ QaO (.slice a len cap) B1) (hsm:bs.length≤1048576) :
  Qpd Tryz.prog 108 #[.pointer (some ⟨B1,0,none⟩)] Qpp (fun b=>b=B1∨QaO (.slice a len cap) b) (fun b=>b=B1) (Qch bs.length bs 0 a cap) w:=by
 intro l J Jx S0 W hW hJ hJx hlt hX hY h0;have BW:Boxed W B1 22 (.slice a len cap):=(hW.block B1 hB.lt).trans hB;have hWs:=hW.size;have hB1:=hB.lt
 have hrW:QaL w.heap.size W (.slice a len cap) bs:=hr.same fun b hb=>hW.block b (hr.lt b hb)
 have hby:=hr.2;have hbl:bs.length=len:=hr.1.open.1;have x1:¬ S0 B1:=hX _ (.inl rfl);obtain ⟨xs,hxs⟩:∃ xs,xs=Qch bs.length bs 0 a cap:=⟨_,rfl⟩;rw [← hxs] at hY ⊢;refine (callsIn_wide (n:=101)).1 ?_;refine callsIn_of_wp Tryz.func108 rfl trivial ?_ rfl;simp only [Tryz.ntmps108,QS,List.length_cons,List.length_nil,Nat.reduceAdd,Nat.reduceSub,Array.replicate_succ,Array.replicate_zero,List.push_toArray,List.append_toArray,List.nil_append,List.cons_append]
 gi_wp2
 gi_loopw [3,4,5,6] (fun _ _ _ _ wr=>∃ (k A m fuel:Nat) (a':Option Addr) (cap':Nat) (S:Nat→Prop),A+m=len∧m≤fuel∧Hid (xs.drop k=Qch fuel bs A a' cap')∧k≤xs.length∧J k S wr∧Wr (fun b=>S0 b∨b=B1) (fun b=>S b∨b=B1) W wr∧¬ S B1∧Boxed wr B1 22 (.slice a' m cap')∧QaL w.heap.size W (.slice a' m cap') (bs.drop A)∧(∀ b,QaO (.slice a' m cap') b→QaO (.slice a len cap) b)) (fun _ _ _ _ wr=>Qjn B1 wr)
 case atStart=>exact ⟨0,0,len,bs.length,a,cap,S0,Nat.zero_add _,by omega,by rw [hxs];rfl,Nat.zero_le _,h0,Wr.refl _ _,x1,BW,by rw [List.drop_zero];exact hrW,fun b h=>h⟩
 case round =>
  obtain ⟨k,A,m,fuel,a',cap',S,hAm,hfu,hdr,hk,hJs,hw,hSB,hBx,hrA,hbk⟩:=hrel;have cB:=hBx.cell;have fB:=hBx.frozen;have hlw:=Qhv hBx
  have hrl:QaL w.heap.size wr (.slice a' m cap') (bs.drop A):=hrA.same fun b hb=>hw.block b (by have:=hr.lt b (hbk b hb);omega) (fun h=>h.elim (hX _ (.inr (hbk b hb))) (fun h=>hnb (by rw [← h];exact hbk b hb)))
  by_cases h0:m=0
  ·have t0:decide ((0:Int)<(m:Int))=false:=by simp;omega
   have hxe:xs.length≤k:=by
    have h1:=(show xs.drop k=Qch fuel bs A a' cap' from hdr);rw [QiI (by omega)] at h1;exact List.drop_eq_nil_iff.1 h1
   clear hdr hrl hrA
   gi_wp2
   go_end0
   obtain rfl:k=xs.length:=by omega
   exact ⟨⟨_,rfl⟩,.inl ⟨S,hJs⟩⟩
  have t0:decide ((0:Int)<(m:Int))=true:=by simp;omega
  by_cases h5:m<5
  ·have t1:decide ((5:Int)≤(m:Int))=false:=by simp;omega
   have hx1:xs.drop k=[(0,.slice none 0 0)]:=(show xs.drop k=Qch fuel bs A a' cap' from hdr).trans (Qfe (by omega) (by omega) (.inl (by omega)))
   have hkl:k<xs.length:=by
    have h1:=congrArg List.length hx1;rw [List.length_drop] at h1;simp at h1;omega
   have hxk:xs[k]=(0,.slice none 0 0):=by
    have h1:=List.drop_eq_getElem_cons hkl;rw [hx1] at h1
    injection h1 with h1 _
    exact h1.symm
   have hk1:k+1=xs.length:=by
    have h1:=congrArg List.length hx1;rw [List.length_drop] at h1;simp at h1;omega
   obtain ⟨fn,tmps,assign,body,hy,hR⟩:=hY k hkl S wr hJs;rw [hxk] at hy;simp only [Qpp] at hy;clear hdr hrl hrA hx1 hxk
   gi_wp2
   refine hR.mono ?_;rintro e W3 (⟨rfl,S',hJ3,hw3⟩ | ⟨rfl,S',hJx3,hw3⟩)
   ·rw [hk1] at hJ3
    gi_wp2
    refine bodyPost_ret (results_none rfl _ _ _) rfl ?_;exact ⟨⟨_,rfl⟩,.inl ⟨S',hJ3⟩⟩
   ·gi_wp2
    refine bodyPost_ret (results_none rfl _ _ _) rfl ?_;exact ⟨⟨_,rfl⟩,.inr ⟨k+1,S',by omega,hJx3⟩⟩
  have t1:decide ((5:Int)≤(m:Int))=true:=by simp;omega
  obtain ⟨L,hL⟩:∃ L,L=Qbw bs A:=⟨_,rfl⟩;have hrd:=Qmw bs A hby (by omega);have hsub:=hrl.sub 1 5 (by omega) (by omega);have hcap:=hrl.1.cap
  have hkr:=fun q (hq:sliced a' 1 5 cap' 1=.slice q 4 (cap' - 1))=>Qk q 4 (cap' - 1) (((bs.drop A).drop 1).take 4) wr (by have h:=hsub.1;rw [hq] at h;exact h.mono (by have:=hw.size;omega)) (by simp only [List.length_take];omega)
  have hzl:(((bs.drop A).drop 1).take 4).length=4:=by simp only [List.length_take,List.length_drop];omega
  unfold Qjw Qjv at hkr;simp only [hzl,↓reduceIte,hrd,← hL] at hkr;have HKR:=QQ hkr;have HL:=QQ hL;obtain ⟨x0,hx0⟩:∃ x,x=bs.getD A 0:=⟨_,rfl⟩
  have hz0:0≤x0∧x0≤255:=by rw [hx0,Qba _ _ (by omega)];exact hby _ (List.getElem_mem _)
  obtain ⟨_,bb,off,hopen,hcc⟩:=hrl.1.open;obtain ⟨rfl,hbb,_,_⟩:=hopen (by omega);have c0:=hcc 0 (by omega);rw [QlZ,show A+0=A from rfl,← hx0,Nat.add_zero] at c0
  have hLb:L<4294967296:=by
   rw [hL];unfold Qbw QfM
   have hz:∀ j,A+j<bs.length→0≤bs.getD (A+j) 0∧bs.getD (A+j) 0≤255:=fun j hj=>by rw [Qba _ _ hj];exact hby _ (List.getElem_mem _)
   have q1:=hz 1 (by omega);have q2:=hz 2 (by omega);have q3:=hz 3 (by omega);have q4:=hz 4 (by omega);omega
  have HX0:=QQ hx0;clear hrd hsub hkr hL hzl hopen hcc hx0;have hch:Fence.wide.fn 55:=trivial
  gi_wp2_with first
   | (refine QdB (by rfl) 22 (.tmp 14) (some (.const (.int .i64 1))) (some (.const (.int .i64 5))) rfl (some ⟨bb,off,none⟩) m cap' 1 5 rfl (.inr ⟨_,rfl,rfl⟩) (.inr ⟨_,rfl,rfl⟩) (by kernel_rfl) (by kernel_rfl) (by omega) (by omega) hcap ?_;intro q hq)
   | (gi_at_call 55;refine Qau ?_)
  unfold Qag;refine (callsIn_wide.2 ((QG HKR) q hq)).mono ?_;rintro e w1 ⟨rfl,b1⟩
  try dsimp only
  have hs1:=b1.size;have hww:=hw.size;have hBx1:Boxed w1 B1 22 (.slice (some ⟨bb,off,none⟩) m cap'):=(b1.block B1 hBx.lt).trans hBx;have cB1:=hBx1.cell;have fB1:=hBx1.frozen;have c01:=(b1.cell (p:=⟨bb,off,none⟩) (show bb<wr.heap.size by omega)).trans c0;have hJ1:J k S w1:=hJ k S wr w1 hJs ((QaM.of_below b1).mono fun b hb=>hb.elim (fun h=>by omega) (hlt k S wr hJs b));have hw1:Wr (fun b=>S0 b∨b=B1) (fun b=>S b∨b=B1) W w1:=hw.trans (Wr.of_below b1);clear HKR hq c0 cB fB hrl hBx hch;by_cases hbad:x0=0∨m<5+L
  ·have hx1:xs.drop k=[(0,.slice none 0 0)]:=(show xs.drop k=Qch fuel bs A _ cap' from hdr).trans (Qfe (by omega) (by omega) (.inr (by
    rw [← (QG HX0),← (QG HL)];omega)))
   have hkl:k<xs.length:=by
    have h1:=congrArg List.length hx1;rw [List.length_drop] at h1;simp at h1;omega
   have hxk:xs[k]=(0,.slice none 0 0):=by
    have h1:=List.drop_eq_getElem_cons hkl;rw [hx1] at h1
    injection h1 with h1 _
    exact h1.symm
   have hk1:k+1=xs.length:=by
    have h1:=congrArg List.length hx1;rw [List.length_drop] at h1;simp at h1;omega
   obtain ⟨fn,tmps,assign,body,hy,hR⟩:=hY k hkl S w1 hJ1;rw [hxk] at hy;simp only [Qpp] at hy;clear hdr hx1 hxk;by_cases hz:x0=0
   ·have s4:(x0 == 0)=true:=by simp [hz]
    clear hz hbad HX0
    gi_wp2
    refine hR.mono ?_;rintro e W3 (⟨rfl,S',hJ3,hw3⟩ | ⟨rfl,S',hJx3,hw3⟩)
    ·rw [hk1] at hJ3
     gi_wp2
     refine bodyPost_ret (results_none rfl _ _ _) rfl ?_;exact ⟨⟨_,rfl⟩,.inl ⟨S',hJ3⟩⟩
    ·gi_wp2
     refine bodyPost_ret (results_none rfl _ _ _) rfl ?_;exact ⟨⟨_,rfl⟩,.inr ⟨k+1,S',by omega,hJx3⟩⟩
   ·have s4:(x0 == 0)=false:=by simp [hz]
    have s5:decide ((m:Int)-5<(L:Int))=true:=by simp;omega
    clear hz hbad HX0
    gi_wp2
    refine hR.mono ?_;rintro e W3 (⟨rfl,S',hJ3,hw3⟩ | ⟨rfl,S',hJx3,hw3⟩)
    ·rw [hk1] at hJ3
     gi_wp2
     refine bodyPost_ret (results_none rfl _ _ _) rfl ?_;exact ⟨⟨_,rfl⟩,.inl ⟨S',hJ3⟩⟩
    ·gi_wp2
     refine bodyPost_ret (results_none rfl _ _ _) rfl ?_;exact ⟨⟨_,rfl⟩,.inr ⟨k+1,S',by omega,hJx3⟩⟩
  obtain ⟨fu,rfl⟩:∃ f,fuel=f+1:=⟨fuel-1,by omega⟩
  have hx1:=(show xs.drop k=Qch (fu+1) bs A _ cap' from hdr).trans (QfL (by omega) (by
   rw [← (QG HX0),← (QG HL)];omega))
  rw [← (QG HX0),← (QG HL)] at hx1
  have hkl:k<xs.length:=by
   have h1:=congrArg List.length hx1;rw [List.length_drop] at h1;simp at h1;omega
  have hx2:=List.drop_eq_getElem_cons hkl;rw [hx1] at hx2
  injection hx2 with hxk hx3
  obtain ⟨fn,tmps,assign,body,hy,hR⟩:=hY k hkl S w1 hJ1;rw [← hxk] at hy;simp only [Qpp] at hy;have HX3:=QQ hx3
  have s4:(x0 == 0)=false:=by simp;omega
  have s5:decide ((m:Int)-5<(L:Int))=false:=by simp;omega
  have w5':IntKind.i64.wrap (5+(L:Int))=5+(L:Int):=by rw [IntKind.wrap_i64];omega
  have n1:5≤5+L:=by omega
  have n2:5+L≤m:=by omega
  obtain ⟨q5,hq5⟩:∃ q,sliced (some ⟨bb,off,none⟩) 5 (5+L) cap' 1=.slice q (5+L-5) (cap' - 5):=⟨_,rfl⟩;rw [show 5+L-5=L by omega] at hq5;rw [hq5] at hy;clear hdr hx1 hx3 hxk hbad
  gi_wp2_with first
   | (refine QdB (by rfl) 22 (.tmp 38) (some (.const (.int .i64 5))) (some (.tmp 40)) rfl (some ⟨bb,off,none⟩) m cap' 5 (5+L) rfl (.inr ⟨_,rfl,rfl⟩) (.inr ⟨_,rfl,rfl⟩) (by kernel_rfl) (by kernel_rfl) n1 n2 hcap ?_;intro q hq;rw [hq5] at hq;injection hq with hq h2 h3;subst hq;clear h2;try clear h3)
  refine hR.mono ?_;rintro e W3 (⟨rfl,S',hJ3,hw3⟩ | ⟨rfl,S',hJx3,hw3⟩)
  rotate_left
  ·gi_wp2
   refine bodyPost_ret (results_none rfl _ _ _) rfl ?_;exact ⟨⟨_,rfl⟩,.inr ⟨k+1,S',by omega,hJx3⟩⟩
  have hSB3:¬ S' B1:=fun h=>(hw3.new B1 h).elim hSB (fun h2=>by have:=hBx1.lt;omega)
  have hBx3:Boxed W3 B1 22 (.slice (some ⟨bb,off,none⟩) m cap'):=(hw3.block B1 hBx1.lt hSB).trans hBx1;have HQ5:=QQ hq5;clear hq5 hy;have cB3:=hBx3.cell;have fB3:=hBx3.frozen
  gi_wp2_with first
   | (refine QdB (by rfl) 22 (.tmp 44) (some (.tmp 46)) none rfl (some ⟨bb,off,none⟩) m cap' (5+L) m rfl (.inr ⟨_,rfl,rfl⟩) (.inl ⟨rfl,rfl⟩) (by kernel_rfl) (by kernel_rfl) n2 (QN _) hcap ?_;intro q6 hq6)
  have hsub2:=hrA.sub (5+L) m n2 (QN _);rw [hq6] at hsub2
  have hd2:((bs.drop A).drop (5+L)).take (m-(5+L))=bs.drop (A+5+L):=by
   rw [List.drop_drop,← Nat.add_assoc,List.take_of_length_le (by rw [List.length_drop];omega)]
  rw [hd2] at hsub2;have w3':Wr (fun b=>S b∨b=B1) (fun b=>S' b∨b=B1) w1 W3:=⟨hw3.os,hw3.tape,hw3.output,hw3.size,fun b hb hs=>hw3.block b hb (fun h=>hs (.inl h)),fun b hb=>hb.elim (fun h=>(hw3.new b h).elim (fun h=>.inl (.inl h)) .inr) (fun h=>.inl (.inr h))⟩;have hx3:Qch fu bs (A+5+L) (adr (sliced (some ⟨bb,off,none⟩) (5+L) (bs.length-A) cap' 1)) (cap' - (5+L))=xs.drop (k+1):=HX3;rw [show bs.length-A=m by omega,hq6] at hx3;refine ⟨⟨k+1,A+5+L,m-(5+L),fu,q6,cap' - (5+L),S',by omega,by omega,hx3.symm,hkl,?_,?_,hSB3,hBx3.set _,hsub2.1,fun b hb=>hbk b (hsub2.2 b hb)⟩,?_⟩
  ·exact hJ _ _ _ _ hJ3 ⟨rfl,rfl,rfl,by show _≤(W3.heap.modify _ _).size;rw [Array.size_modify];exact QN _,fun b hb=>Below.heap_setCell _ _ _ _ (fun e=>by
    subst e
    exact hb.elim (fun h=>h.2 rfl) hSB3)⟩
  ·exact (hw1.trans w3').setCell (p:=⟨B1,0,none⟩) (.inl (.inr rfl)) _
  ·rw [Qhv (hBx3.set _),hlw];omega
end
section
section
variable {P : Program} {ops : Array Oper} {md : Region.Mode} {R : World → World → Prop} {a : Act} {w : World}
theorem Qif {L:Act→World→Prop} (C:Value→Value→World→Prop) (i j:Nat) {oi oj:Oper} {fuel:Nat} {listed:Array Bool} (hi:ops[i]?=some oi) (hj:ops[j]?=some oj) (hij:i≠j)
  (hr:Region.ready md ops listed=[i,j]) (hri:Region.ready md ops (listed.setIfInBounds i true)=[j]) (hrj:Region.ready md ops (listed.setIfInBounds j true)=[i])
  (hd:∀ d,oi.dst=some d→oj.dst≠some d)
  (hwi:Region.wanted oi (yielded ops a.tmps)=true) (hwj:Region.wanted oj (yielded ops a.tmps)=true)
  (hwj':∀ v,Region.wanted oj (yielded ops (a.put oi.dst v).tmps)=true) (hwi':∀ v,Region.wanted oi (yielded ops (a.put oj.dst v).tmps)=true)
  (h1:∀ K:Value→World→Prop,(∀ v1 w1,R w w1→upV P (fun v2 w2=>R w1 w2∧C v1 v2 w2) ((execOp (a.put oi.dst v1).eval oj).run P w1)→K v1 w1)→upV P K ((execOp a.eval oi).run P w))
  (h2:∀ K:Value→World→Prop,(∀ v2 w1,R w w1→upV P (fun v1 w2=>R w1 w2∧C v1 v2 w2) ((execOp (a.put oj.dst v2).eval oi).run P w1)→K v2 w1)→upV P K ((execOp a.eval oj).run P w))
  (h:∀ v1 v2 w2,C v1 v2 w2→Qf8 R P md ops L fuel ((listed.setIfInBounds i true).setIfInBounds j true) ((a.put oi.dst v1).put oj.dst v2) w2):Qf8 R P md ops L (fuel+2) listed a w:=by
 refine QjL i j hi hj hr hwi hwj (fun K hK=>h1 K fun v1 w1 hR hu=>hK v1 w1 hR ?_) (fun K hK=>h2 K fun v2 w1 hR hu=>hK v2 w1 hR ?_)
 ·refine Qaq j hj hri (hwj' v1) fun K2 hK2=>?_
  exact Qh5 (fun v2 w2 hc=>hK2 v2 w2 hc.1 (h v1 v2 w2 hc.2)) hu
 ·refine Qaq i hi hrj (hwi' v2) fun K2 hK2=>?_
  refine Qh5 (fun v1 w2 hc=>hK2 v1 w2 hc.1 ?_) hu;rw [Array.setIfInBounds_comm _ _ (Ne.symm hij),← Act.put_comm a v1 v2 hd];exact h v1 v2 w2 hc.2
end
end
section
section
variable {F : Fence} {nF : Nat} {P : Program} {ops : Array Oper} {Q : Exit → Act → World → Prop} {a : Act} {w : World} {rest : List Oper} {o : Oper}
theorem QaD (hgd:o.guard=none) (ty:TypeId) (x y:Operand) (ho:o.op=.store ty x y)
  (g:Nat) (cells:Array Value) (hx:a.eval x=.pointer (some ⟨g,0,none⟩)) (hy:a.eval y=.agg cells)
  (t:TypeId) (old:Array Value) (hg:w.heap[g]?=some (.cells old t (0,0))) (hi:(P.info? ty).map (·.size)=some cells.size)
  (hold:old.size=cells.size) (h1:cells.all (·.oneCell')=true)
  (h:wpListIn F nF P ops Q rest (a.put o.dst undef) (w.setRow g cells)):wpListIn F nF P ops Q (o::rest) a w:=by
 refine wpListIn_plain hgd fun K hK=>?_
 unfold Oper.wpIn;refine ⟨by simp [Oper.about,ho],?_⟩;rw [Oper.semAt_plain F _ _ (by rw [ho];intro c hc';cases hc')];simp only [execOp,ho,hx,hy,Instr.storeAt,Instr.sureAddr,Sem.run_bind,Sem.run_pure,Result.andThen_ok,run_storeVar_row w g t ty old cells hg hi hold h1];exact hK _ _ h
theorem QaV {t:TypeId} {x y:Operand} (ho:o.op=.store t x y) (h:Qag (wpListIn F nF P ops Q (o::rest) a w)):wpListIn F nF P ops Q (o::rest) a w:=h
theorem Qco {K:Value→World→Prop} (ty:TypeId) (x y:Operand) (ho:o.op=.store ty x y)
  (g off:Nat) (cells:Array Value) (hx:a.eval x=.pointer (some ⟨g,off,none⟩)) (hy:a.eval y=.agg cells)
  (t:TypeId) (cur:Array Value) (hg:w.heap[g]?=some (.cells cur t (0,0))) (hi:(P.info? ty).map (·.size)=some cells.size)
  (hfit:off+cells.size≤cur.size) (h1:cells.all (·.oneCell')=true)
  (h:K undef (w.setRow g (cur.toList.take off++cells.toList++cur.toList.drop (off+cells.size)).toArray)):upV P K ((execOp a.eval o).run P w):=by
 have hs:=run_storeCells_at (P:=P) g off t cells.toList 0 cur w hg (by simpa using hfit) (fun v hv=>(Array.all_eq_true_iff_forall_mem.1 h1) v (by simpa using hv))
 have hv:(storeVar ty ⟨g,off,none⟩ (.agg cells)).run P w=.ok () (w.setRow g (cur.toList.take off++cells.toList++cur.toList.drop (off+cells.size)).toArray):=by
  cases hq:P.info? ty with
  | none=>simp [hq] at hi
  | some i =>
   have hs2:cells.size=i.size:=by simp [hq] at hi;omega
   simp only [Nat.add_zero,Array.length_toList] at hs;simp [storeVar,sizeOf,typeInfo,hq,Value.cells,hs2];rw [hs2] at hs;simpa using hs
 unfold execOp;simp only [ho,hx,hy,Instr.storeAt,Instr.sureAddr,Sem.run_bind,Sem.run_pure,Result.andThen_ok,hv];exact h
end
theorem Qf3 {W:World} {base:Nat} {e:TypeId} {size:Nat} {v:Value} {n:Nat} {xs zs ys:List Value} (h:W.ownsRow base e size v (n+1) (xs++zs)) (hx:xs.length=n*size) (hy:ys.length=size) :
  ∃ g cap cur,v=.slice (some ⟨g,0,none⟩) (n+1) cap∧n+1≤cap∧base≤g∧W.heap[g]?=some (.cells cur e (0,0))∧n*size+ys.length≤cur.size ∧
   ∀ W':World,W'.heap[g]?=some (.cells (cur.toList.take (n*size)++ys++cur.toList.drop (n*size+ys.length)).toArray e (0,0))→W'.ownsRow base e size v (n+1) (xs++ys):=by
 rcases h.2 with ⟨_,h0⟩ | ⟨g,cap,cur,hv,h2,h3,h4,h5,h6,h7⟩
 ·omega
 ·have hs:(n+1)*size≤cap*size:=Nat.mul_le_mul_right _ h4
  rw [Nat.succ_mul] at hs
  have hcl:cur.toList.length=cap*size:=by rw [Array.length_toList,h6]
  refine ⟨g,cap,cur,hv,h4,h2,h3,by rw [hy,h6];exact hs,fun W' hW'=>⟨by rw [QL,hx,hy,Nat.succ_mul],.inr ⟨g,cap,_,hv,h2,hW',h4,h5,?_,?_⟩⟩⟩
  ·simp only [QS,QL,List.length_take,List.length_drop,hcl,hy];omega
  ·have h8:cur.toList.take (n*size)=xs:=by
    have h9:=congrArg (List.take (n*size)) h7;rw [List.take_take,Nat.min_eq_left (by rw [Nat.succ_mul];omega),List.take_left' hx] at h9;exact h9
   show List.take _ (_++_++_)=_;rw [h8,List.take_left' (by rw [QL,hx,hy,Nat.succ_mul])]
section
variable {P : Program} {ops : Array Oper} {md : Region.Mode} {R : World → World → Prop}
theorem Qeo {l m z r:Nat} {Q:Exit→Act→World→Prop} (hd:QgO ops=true):∀ (f:Nat) (listed:Array Bool) (a:Act) (w:World),Qg9 R P md ops z (wpAnyIn (Fence.wide.inRound l) m P md ops Q r) f listed a w→wpAnyIn (Fence.wide.inRound l) m P md ops Q (f+r) listed a w
 | 0,_,_,_,h=>by rw [Nat.zero_add];exact h.2
 | f+1,listed,a,w,h=>by
  rw [show f+1+r=(f+r)+1 by omega]
  exact ⟨fun h0=>absurd h0 h.1,fun i hi=>by
   obtain ⟨o,ho,hop⟩:=h.2 i hi
   exact Qfw ho (Qf2 hd i o ho) (QdO (fun v w' hk=>Qeo hd f _ _ _ hk.2) hop)⟩
theorem Qcw {l m:Nat} (R R2:World→World→Prop) (z r:Nat) {id:Nat} {Q:Exit→Act→World→Prop} {a:Act} {w:World} (hm:P.follows .mixedOrders=true) (hn:ops.size=z+r) (hd:QgO ops=true)
  (h:Qg9 R P .any ops z (fun listed a w=>Qf8 R2 P .any ops (fun a w=>Q .normal a w) r listed a w) z (Array.replicate (z+r) false) a w.drew):(Code.region id ops true).wpIn (Fence.wide.inRound l) m P Q a w:=by
 rw [← hn] at h;refine wpIn_region_any hm ?_
 have h2:Qg9 R P .any ops z (wpAnyIn (Fence.wide.inRound l) m P .any ops Q r) z (Array.replicate ops.size false) a w.drew:=by
  revert h
  generalize Array.replicate ops.size false=listed;generalize w.drew=w';generalize hf:z=f
  have key:∀ (f:Nat) (listed:Array Bool) (a:Act) (w:World),Qg9 R P .any ops z (fun listed a w=>Qf8 R2 P .any ops (fun a w=>Q .normal a w) r listed a w) f listed a w→Qg9 R P .any ops z (wpAnyIn (Fence.wide.inRound l) m P .any ops Q r) f listed a w:=by
   intro f
   induction f with
   | zero=>intro listed a w h;exact ⟨h.1,Qen (fun _ _ h=>h) hd _ _ _ _ h.2⟩
   | succ f ih=>intro listed a w h;exact ⟨h.1,fun i hi=>by
     obtain ⟨o,ho,hop⟩:=h.2 i hi
     exact ⟨o,ho,QdO (fun v w' hk=>⟨hk.1,ih _ _ _ hk.2⟩) hop⟩⟩
  rw [← hf];exact key _ _ _ _
 have h3:=Qeo hd _ _ _ _ h2;rw [← hn] at h3;exact h3
end
end
section
attribute [local go_sem] QaB QaJ QaA
theorem Qm9 {P:Program} {ops:Array Oper} {rest:List Oper} {o:Oper} {a:Act} {w:World} {Q:Exit→Act→World→Prop} {xs:Array Operand} {ts:Array TypeId} (ho:o.op=.call { callee:=.builtin .copy,args:=xs,argTypes:=ts }) (h:Qag (wpList P ops Q (o::rest) a w)):wpList P ops Q (o::rest) a w:=h
theorem QbG {P:Program} {o:Oper} {a:Act} {w:World} {K:Value→World→Prop} (ty:TypeId) (x y:Operand) (ho:o.op=.store ty x y) (g i:Nat) (hx:a.eval x=.pointer (some ⟨g,i,none⟩)) (v:Value) (hy:a.eval y=v) (hv:v.cells=#[v]) (h1:v.oneCell'=true)
  (t:TypeId) (cur:Array Value) (hg:w.heap[g]?=some (.cells cur t (0,0))) (hi:(P.info? ty).map (·.size)=some 1) (hfit:i+1≤cur.size) (h:K undef (w.setRow g (cur.setIfInBounds i v))):upV P K ((execOp a.eval o).run P w):=by
 have hs:=run_storeCells_at (P:=P) g i t [v] 0 cur w hg (by simpa using hfit) (fun u hu=>by rw [List.mem_singleton.1 hu];exact h1)
 have e:cur.setIfInBounds i v=(cur.toList.take i++[v]++cur.toList.drop (i+1)).toArray:=by
  apply Array.toList_inj.1;rw [Array.toList_setIfInBounds,List.set_eq_take_append_cons_drop,if_pos (by simp;omega)];simp
 have hr:(storeVar ty ⟨g,i,none⟩ v).run P w=.ok () (w.setRow g (cur.setIfInBounds i v)):=by
  cases hq:P.info? ty with
  | none=>simp [hq] at hi
  | some q =>
   have hs2:q.size=1:=by simpa [hq] using hi
   simp only [Nat.add_zero,List.length_singleton] at hs;simp [storeVar,sizeOf,typeInfo,hq,hv,hs2,e];simpa using hs
 unfold execOp;simp only [ho,hx,hy,Instr.storeAt,Instr.sureAddr,Sem.run_bind,Sem.run_pure,Result.andThen_ok,hr];exact h
theorem Qbv:(Tryz.prog.info? 45).map (·.size)=some 11:=by kernel_rfl
theorem QgK:(Tryz.prog.info? 42).map (·.size)=some 1:=by kernel_rfl
theorem QcC:(Tryz.prog.info? 40).map (·.size)=some 1:=by kernel_rfl
def QcK (ws:List Int) (k:Nat):Array Value :=
 ((ws.take 8).map (Value.int .u32)++[Value.complex .f64 (fl (if 0<k then wrN (ws.getD 8 0) else 0)) (fl (if 0<k then wrN (ws.getD 9 0) else 0)),Value.complex .f64 (fl (if 1<k then wrN (ws.getD 10 0) else 0)) (fl (if 1<k then wrN (ws.getD 11 0) else 0)),Value.int .u32 (ws.getD 12 0)]).toArray
theorem QhN:fl 0=0:=by decide
theorem QfE {ws:List Int} (hl:ws.length=13) (k:Nat):(QcK ws k).size=11:=by simp [QcK,hl]
theorem Qkx {ws:List Int} (hl:ws.length=13) (x:Int) (hx:x=ws.getD 12 0) (cz:Array Value)
  (hcz:cz=#[.int .u32 0,.int .u32 0,.int .u32 0,.int .u32 0,.int .u32 0,.int .u32 0,.int .u32 0,.int .u32 0,.complex .f64 0 0,.complex .f64 0 0,.int .u32 x]) :
  (cz.toList.take 0++((ws.take 8).map (Value.int .u32)++cz.toList.drop (0+((ws.take 8).map (Value.int .u32)).length))).toArray=QcK ws 0:=by
 have h8:((ws.take 8).map (Value.int .u32)).length=8:=by simp [hl]
 rw [h8,hcz,hx];simp [QcK,QhN]
theorem Qlx {ws:List Int} (hl:ws.length=13):(QcK ws 0).setIfInBounds 8 (.complex .f64 (fl (wrN (ws.getD 8 0))) (fl (wrN (ws.getD 9 0))))=QcK ws 1:=by
 unfold QcK
 have h8:((ws.take 8).map (Value.int .u32)).length=8:=by simp [hl]
 rw [List.setIfInBounds_toArray]
 congr 1
 rw [List.set_append_right _ _ (by omega),h8];simp
theorem Qkw {ws:List Int} (hl:ws.length=13):(QcK ws 1).setIfInBounds 9 (.complex .f64 (fl (wrN (ws.getD 10 0))) (fl (wrN (ws.getD 11 0))))=QcK ws 2:=by
 unfold QcK
 have h8:((ws.take 8).map (Value.int .u32)).length=8:=by simp [hl]
 rw [List.setIfInBounds_toArray]
 congr 1
 rw [List.set_append_right _ _ (by omega),h8];simp
theorem Qly (ws:List Int):QcK ws 2=(Qi3 ws).vals.toArray:=by simp [QcK,Cp.vals,Qi3]
theorem QgX (W:World) (a:Option Addr) (cap:Nat) (ws:List Int) (hw:Qdb .u32 W.heap.size W (.slice a 13 cap) ws) (hz:∀ z∈ws,0≤z∧z<4294967296) :
  Calls Tryz.prog 62 #[.slice a 13 cap] W fun e W'=>e=.returned (.agg (Qi3 ws).vals.toArray)∧Below W.heap.size W W':=by
 obtain ⟨hl,b,off,hopen,hc⟩:=hw.open;obtain ⟨rfl,hb⟩:=hopen (by decide);have c12:=hc 12 (by decide);obtain ⟨p12,hp12⟩:∃ x,x=ws.getD 12 0:=⟨_,rfl⟩;rw [← hp12] at c12
 have hcap:(13:Int)≤(cap:Int):=by omega
 have HP:=QQ hp12;have HC:=QQ hc;clear hp12 hopen hc;go_enter Tryz.func62,Tryz.ntmps62;go_wp2_with ((fail_if_success (unfold Qag));refine Qan (t:=45) rfl ?_);unfold Qag;obtain ⟨cz,hcz⟩:∃ cz:Array Value,cz=#[.int .u32 0,.int .u32 0,.int .u32 0,.int .u32 0,.int .u32 0,.int .u32 0,.int .u32 0,.int .u32 0,.complex .f64 0 0,.complex .f64 0 0,.int .u32 p12]:=⟨_,rfl⟩;generalize hA:World.alloc (World.alloc W _) _=A;have hA2:A=(W.alloc (Obj.cells QeQ 45)).alloc (Obj.cells QeQ 45):=hA.symm;clear hA
 have sA:A.heap.size=W.heap.size+2:=by rw [hA2];simp
 have bA:Below W.heap.size W A:=by rw [hA2];exact ((QB _ _).alloc (QN _) _).alloc (by simp) _
 have f1:A.heap[W.heap.size+1]?=some (.cells QeQ 45):=by
  rw [hA2];have:=QW (W.alloc (.cells QeQ 45)) (Obj.cells QeQ 45);simpa using this
 have f0:A.heap[W.heap.size]?=some (.cells QeQ 45):=by
  rw [hA2,((QB _ _).alloc (QN _) _:Below _ _ _).block _ (by simp)];exact QW _ _
 refine Qab rfl 45 (.tmp 3) (.tmp 8) rfl (W.heap.size+1) cz rfl (by rw [hcz];rfl) 45 QeQ f1 (by rw [hcz];exact Qbv) (by rw [hcz];rfl) (by rw [hcz];simp [Value.oneCell']) ?_;obtain ⟨V,hV⟩:∃ V,V=A.setRow (W.heap.size+1) cz:=⟨_,rfl⟩
 have eT:V.heap[W.heap.size+1]?=some (.cells cz 45):=by rw [hV];exact setRow_heap _ _ _ _ _ _ f1
 have eR:V.heap[W.heap.size]?=some (.cells QeQ 45):=by rw [hV,setRow_other _ _ _ _ (by omega)];exact f0
 have bV:Below W.heap.size W V:=by rw [hV];exact Qaj bA (by omega) _
 have sV:V.heap.size=W.heap.size+2:=by rw [hV,size_setRow,sA]
 rw [← hV];clear hV hA2 sA bA f1 f0
 have hcV:∀ j v,((ws.take 8).map (Value.int .u32))[j]?=some v→V.cell? ((⟨b,off,none⟩:Addr).add j)=some v:=fun j v hj=>by
  have hjl:=(List.getElem?_eq_some_iff.1 hj).1;simp only [QM,List.length_take,hl] at hjl;rw [Addr.add_lit,bV.cell (p:=⟨b,off+j,none⟩) hb.1,(QG HC) j (by omega)];rw [List.getElem?_map,List.getElem?_take,if_pos (by omega),List.getElem?_eq_getElem (by omega)] at hj;rw [← Option.some.inj hj];simp [List.getD,List.getElem?_eq_getElem (show j<ws.length by omega)]
 go_wp2_with ((fail_if_success (unfold Qag));refine Qm9 rfl ?_);unfold Qag;refine wpList_copy_own rfl (.tmp 10) (.tmp 11) 78 78 rfl 40 Tryz.underlying78 QcC (W.heap.size+1) 0 8 8 ⟨b,off,none⟩ 13 cap rfl rfl cz 45 eT ((ws.take 8).map (Value.int .u32)) (by simp [hl]) hcV (by rw [hcz];simp [hl]) (fun v hv=>by obtain ⟨z,_,rfl⟩:=List.mem_map.1 hv;rfl) ?_;rw [Qkx hl p12 HP cz hcz]
 have h8:((ws.take 8).map (Value.int .u32)).length=8:=by simp [hl]
 rw [h8];obtain ⟨V2,hV2⟩:∃ V2,V2=V.setRow (W.heap.size+1) (QcK ws 0):=⟨_,rfl⟩
 have gT:V2.heap[W.heap.size+1]?=some (.cells (QcK ws 0) 45):=by rw [hV2];exact setRow_heap _ _ _ _ _ _ eT
 have gR:V2.heap[W.heap.size]?=some (.cells QeQ 45):=by rw [hV2,setRow_other _ _ _ _ (by omega)];exact eR
 have b2:Below W.heap.size W V2:=by rw [hV2];exact Qaj bV (by omega) _
 rw [← hV2];have HL:=QQ hl;clear hV2 eT eR bV hcV hcz sV h8 HP c12 hl;go_wp2;go_loopw [13] (fun i wr=>∃ k:Nat,k≤2∧i=.int .i64 (k:Int)∧wr.heap[W.heap.size+1]?=some (.cells (QcK ws k) 45)∧wr.heap[W.heap.size]?=some (.cells QeQ 45)∧Below W.heap.size W wr) (fun i _=>2-(intOf i).toNat)
 case atStart=>exact ⟨0,by decide,rfl,gT,gR,b2⟩
 case round =>
  obtain ⟨k,hk,rfl,gT,gR,b2⟩:=hrel
  rcases (show k=0∨k=1∨k=2 by omega) with rfl | rfl | rfl
  ·rw [show ((0:Nat):Int)=0 from rfl]
   have c1:=(b2.cell (p:=⟨b,off+8,none⟩) hb.1).trans ((QG HC) 8 (by decide));have c2:=(b2.cell (p:=⟨b,off+9,none⟩) hb.1).trans ((QG HC) 9 (by decide))
   have kf:=fun W=>Qfc (ws.getD 8 0) (ws.getD 9 0) (Qey hz) (Qey hz) W
   have hc8:=Qlx (QG HL);obtain ⟨x,hx⟩:∃ x,x=ws.getD 8 0:=⟨_,rfl⟩;obtain ⟨y,hy⟩:∃ y,y=ws.getD 9 0:=⟨_,rfl⟩;rw [← hx] at c1 kf hc8;rw [← hy] at c2 kf hc8;obtain ⟨fx,hfx⟩:∃ f,f=fl (wrN x):=⟨_,rfl⟩;obtain ⟨fy,hfy⟩:∃ f,f=fl (wrN y):=⟨_,rfl⟩;rw [← hfx,← hfy] at kf hc8;have bD:Below wr.heap.size wr wr.drew:=⟨rfl,rfl,rfl,QN _,fun _ _=>rfl⟩;have lb:b<wr.heap.size:=Nat.lt_of_lt_of_le hb.1 b2.size
   have HX:=QQ (show ∀ W',Qaz wr.drew W'→W'.cell? ⟨b,off+8,none⟩=some (.int .u32 x)∧W'.cell? ⟨b,off+9,none⟩=some (.int .u32 y) from fun W' hW =>
    ⟨((bD.trans hW).cell (p:=⟨b,off+8,none⟩) lb).trans c1,((bD.trans hW).cell (p:=⟨b,off+9,none⟩) lb).trans c2⟩)
   have HG:=QQ (QA gT (QA gR (QA b2 hc8)));clear hx hy hfx hfy gT gR c1 c2 bD hc8
   have w0:IntKind.i64.wrap 0=0:=by decide
   have w2:IntKind.i64.wrap 2=2:=by decide
   have w8:IntKind.i64.wrap 8=8:=by decide
   have w9:IntKind.i64.wrap 9=9:=by decide
   have w10:IntKind.i64.wrap 10=10:=by decide
   have w11:IntKind.i64.wrap 11=11:=by decide
   go_wp2_with fail;refine QbV Qaz 16 2 (by kernel_rfl) rfl ?_;refine QbI [0,1,2,3,4,5,6,7,8,9,10,11,12,13,15] (by kernel_rfl) (by kernel_rfl) ?_
   iterate 15
    first
    | (refine Qcr (Qaz.pre) rfl (by rfl) (v:=?_) (fun W hW=>?_) (fun K hK=>?_);rotate_left;· (obtain ⟨q1,q2⟩:=(QG HX) W hW;go_simp;first | done | rfl))
    | refine Qb0 (Qaz.pre) rfl (by rfl) (fun K hK=>?_)
    go_simp;refine hK _ ?_;clear hK K
   refine Qcq ?_;refine QaU 14 rfl (by kernel_rfl) (by rfl) (fun K hK=>?_);go_simp;refine (kf wr.drew).mono ?_;rintro e5 w5 ⟨rfl,rfl⟩;refine ⟨_,rfl,hK _ _ (Qaz.pre.refl _) ?_⟩;clear hK K;refine QaN (fun K hK=>?_);go_simp;refine hK _ ?_;clear hK K;refine Qcm (by kernel_rfl) ?_;refine QbA 16 rfl (by kernel_rfl) (by rfl) (fun K hK=>?_);go_simp;refine hK _ _ ?_;clear hK K;refine Qbo (fun K hK=>?_);go_simp;refine hK _ ?_;clear hK K;refine QbA 17 rfl (by kernel_rfl) (by rfl) (fun K hK=>?_);refine QbG 42 (.tmp 32) (.tmp 30) rfl (W.heap.size+1) 8 rfl (.complex .f64 fx fy) rfl rfl rfl 45 (QcK ws 0) (show wr.drew.heap[W.heap.size+1]?=_ from And.left HG) QgK (by rw [QfE HL];decide) ?_;refine hK _ _ ?_;clear hK K;refine Qbo (fun K hK=>?_);go_simp;refine hK _ ?_;clear hK K;refine Qc0 (by kernel_rfl) ?_;obtain ⟨gT,gR,b2,hc8⟩:=(QG HG);rw [hc8];have gT2:(wr.drew.setRow (W.heap.size+1) (QcK ws 1)).heap[W.heap.size+1]?=some (.cells (QcK ws 1) 45):=setRow_heap wr.drew _ _ _ _ _ gT;have gR2:(wr.drew.setRow (W.heap.size+1) (QcK ws 1)).heap[W.heap.size]?=some (.cells QeQ 45):=(setRow_other wr.drew _ _ _ (by omega)).trans gR;have b3:Below W.heap.size W (wr.drew.setRow (W.heap.size+1) (QcK ws 1)):=Qaj (⟨b2.os,b2.tape,b2.output,b2.size,b2.block⟩:Below W.heap.size W wr.drew) (by omega) _;obtain ⟨Z,hZ⟩:∃ Z,Z=wr.drew.setRow (W.heap.size+1) (QcK ws 1):=⟨_,rfl⟩;rw [← hZ] at gT2 gR2 b3 ⊢;clear hZ gT gR b2 hc8 HX HG kf;go_wp2;go_roundw
   case rel=>exact ⟨1,by decide,rfl,gT2,gR2,b3⟩
   case measure=>simp [intOf]
  ·rw [show ((1:Nat):Int)=1 from rfl]
   have c1:=(b2.cell (p:=⟨b,off+10,none⟩) hb.1).trans ((QG HC) 10 (by decide));have c2:=(b2.cell (p:=⟨b,off+11,none⟩) hb.1).trans ((QG HC) 11 (by decide))
   have kf:=fun W=>Qfc (ws.getD 10 0) (ws.getD 11 0) (Qey hz) (Qey hz) W
   have hc8:=Qkw (QG HL);obtain ⟨x,hx⟩:∃ x,x=ws.getD 10 0:=⟨_,rfl⟩;obtain ⟨y,hy⟩:∃ y,y=ws.getD 11 0:=⟨_,rfl⟩;rw [← hx] at c1 kf hc8;rw [← hy] at c2 kf hc8;obtain ⟨fx,hfx⟩:∃ f,f=fl (wrN x):=⟨_,rfl⟩;obtain ⟨fy,hfy⟩:∃ f,f=fl (wrN y):=⟨_,rfl⟩;rw [← hfx,← hfy] at kf hc8;have bD:Below wr.heap.size wr wr.drew:=⟨rfl,rfl,rfl,QN _,fun _ _=>rfl⟩;have lb:b<wr.heap.size:=Nat.lt_of_lt_of_le hb.1 b2.size
   have HX:=QQ (show ∀ W',Qaz wr.drew W'→W'.cell? ⟨b,off+10,none⟩=some (.int .u32 x)∧W'.cell? ⟨b,off+11,none⟩=some (.int .u32 y) from fun W' hW =>
    ⟨((bD.trans hW).cell (p:=⟨b,off+10,none⟩) lb).trans c1,((bD.trans hW).cell (p:=⟨b,off+11,none⟩) lb).trans c2⟩)
   have HG:=QQ (QA gT (QA gR (QA b2 hc8)));clear hx hy hfx hfy gT gR c1 c2 bD hc8
   have w0:IntKind.i64.wrap 0=0:=by decide
   have w2:IntKind.i64.wrap 2=2:=by decide
   have w8:IntKind.i64.wrap 8=8:=by decide
   have w9:IntKind.i64.wrap 9=9:=by decide
   have w10:IntKind.i64.wrap 10=10:=by decide
   have w11:IntKind.i64.wrap 11=11:=by decide
   go_wp2_with fail;refine QbV Qaz 16 2 (by kernel_rfl) rfl ?_;refine QbI [0,1,2,3,4,5,6,7,8,9,10,11,12,13,15] (by kernel_rfl) (by kernel_rfl) ?_
   iterate 15
    first
    | (refine Qcr (Qaz.pre) rfl (by rfl) (v:=?_) (fun W hW=>?_) (fun K hK=>?_);rotate_left;· (obtain ⟨q1,q2⟩:=(QG HX) W hW;go_simp;first | done | rfl))
    | refine Qb0 (Qaz.pre) rfl (by rfl) (fun K hK=>?_)
    go_simp;refine hK _ ?_;clear hK K
   refine Qcq ?_;refine QaU 14 rfl (by kernel_rfl) (by rfl) (fun K hK=>?_);go_simp;refine (kf wr.drew).mono ?_;rintro e5 w5 ⟨rfl,rfl⟩;refine ⟨_,rfl,hK _ _ (Qaz.pre.refl _) ?_⟩;clear hK K;refine QaN (fun K hK=>?_);go_simp;refine hK _ ?_;clear hK K;refine Qcm (by kernel_rfl) ?_;refine QbA 16 rfl (by kernel_rfl) (by rfl) (fun K hK=>?_);go_simp;refine hK _ _ ?_;clear hK K;refine Qbo (fun K hK=>?_);go_simp;refine hK _ ?_;clear hK K;refine QbA 17 rfl (by kernel_rfl) (by rfl) (fun K hK=>?_);refine QbG 42 (.tmp 32) (.tmp 30) rfl (W.heap.size+1) 9 rfl (.complex .f64 fx fy) rfl rfl rfl 45 (QcK ws 1) (show wr.drew.heap[W.heap.size+1]?=_ from And.left HG) QgK (by rw [QfE HL];decide) ?_;refine hK _ _ ?_;clear hK K;refine Qbo (fun K hK=>?_);go_simp;refine hK _ ?_;clear hK K;refine Qc0 (by kernel_rfl) ?_;obtain ⟨gT,gR,b2,hc8⟩:=(QG HG);rw [hc8];have gT2:(wr.drew.setRow (W.heap.size+1) (QcK ws 2)).heap[W.heap.size+1]?=some (.cells (QcK ws 2) 45):=setRow_heap wr.drew _ _ _ _ _ gT;have gR2:(wr.drew.setRow (W.heap.size+1) (QcK ws 2)).heap[W.heap.size]?=some (.cells QeQ 45):=(setRow_other wr.drew _ _ _ (by omega)).trans gR;have b3:Below W.heap.size W (wr.drew.setRow (W.heap.size+1) (QcK ws 2)):=Qaj (⟨b2.os,b2.tape,b2.output,b2.size,b2.block⟩:Below W.heap.size W wr.drew) (by omega) _;obtain ⟨Z,hZ⟩:∃ Z,Z=wr.drew.setRow (W.heap.size+1) (QcK ws 2):=⟨_,rfl⟩;rw [← hZ] at gT2 gR2 b3 ⊢;clear hZ gT gR b2 hc8 HX HG kf;go_wp2;go_roundw
   case rel=>exact ⟨2,by decide,rfl,gT2,gR2,b3⟩
   case measure=>simp [intOf]
  ·rw [show ((2:Nat):Int)=2 from rfl]
   have hs11:=QfE (QG HL) 2;have ht:=Qly ws;obtain ⟨R,hR⟩:∃ R,R=QcK ws 2:=⟨_,rfl⟩;rw [← hR] at gT hs11 ht
   have hone:R.all (·.oneCell')=true:=by
    rw [hR,Array.all_eq_true_iff_forall_mem];intro v hv;simp only [QcK,List.mem_toArray,List.mem_append,List.mem_map,List.mem_cons,List.not_mem_nil,or_false] at hv
    rcases hv with ⟨z,_,rfl⟩ | rfl | rfl | rfl <;> rfl
   have HT:=QQ ht;clear hR ht hw HC
   have hiR:(Tryz.prog.info? 45).map (·.size)=some R.size:=by rw [hs11];exact Qbv
   go_wp2_with first
    | (refine Qai (by rfl) 45 (.tmp 3) rfl (W.heap.size+1) 0 rfl R R _ gT (by rw [List.drop_zero,List.take_of_length_le (by simp)]) _ Tryz.underlying45 rfl hiR ?_)
    | ((fail_if_success (unfold Qag));refine Qan (t:=45) rfl ?_)
   unfold Qag;refine Qab rfl 45 (.tmp 2) (.tmp 34) rfl W.heap.size R rfl rfl 45 QeQ gR hiR (by rw [hs11];rfl) hone ?_;obtain ⟨V6,hV6⟩:∃ V6,V6=wr.setRow W.heap.size R:=⟨_,rfl⟩
   have e6:V6.heap[W.heap.size]?=some (.cells R 45):=by rw [hV6];exact setRow_heap _ _ _ _ _ _ gR
   have b6:Below W.heap.size W V6:=by rw [hV6];exact Qaj b2 (QN _) _
   rw [← hV6];clear hV6 gR gT b2;go_wp2;refine bodyPost_ret (results_cell_row rfl _ _ W.heap.size 45 R (0,0) _ rfl e6 Tryz.underlying45 rfl hiR) rfl ?_;exact ⟨by rw [show R=_ from HT],b6⟩
end
end Go.Proofs.YtejcandhijdnhaaGreat
