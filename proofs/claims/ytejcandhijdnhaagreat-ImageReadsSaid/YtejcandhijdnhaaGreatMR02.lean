/- Own texts of this seat, one behind the other, without needless spaces (part 2 of 26). -/
import Derived.Test.YtejcandhijdnhaaGreatMR01
import Derived.Orders
import Derived.Still
import Derived.Tactics
import Derived.BigFrameIn
import Derived.RegionIn
import Derived.WalkKit
import Derived.Test.YtejcandhijdnhaaGreatRows
import Derived.Below
import Derived.ProofKit
import Derived.Lib.Hide
import Derived.BigQuiet
import Derived.Deep.QuietTactic
import Derived.WalkSpells
import Derived.WalkLawsBesides
import Derived.OwnWalk
import Derived.Lib.SlBytesConst
import Derived.Maps.AppendAt
import Derived.Laws.OwnMore
import Derived.BigRegion
import Derived.Deep.Cut
import Derived.Deep.CutRange
import Derived.Deep.CutBlock
import Derived.Deep.RegionWith
import Derived.Great.BuildSlice
namespace Go.Proofs.YtejcandhijdnhaaGreat
open Go Go.RowKit
set_option linter.unusedVariables false
set_option linter.unusedSimpArgs false
set_option linter.unnecessarySimpa false
set_option maxRecDepth 100000
set_option maxHeartbeats 16000000
section
section
variable {P : Program} {ops : Array Oper} {md : Region.Mode} {R : World → World → Prop}
structure Pre (R:World→World→Prop):Prop where
 refl:∀ w,R w w
 trans:∀ {a b c},R a b→R b c→R a c
def upV (P:Program) (K:Value→World→Prop):Result Next→Prop
 | .ok (.value v) w'=>K v w'
 | .ok .skip w'=>K undef w'
 | .ok (.enter f args) w'=>Calls P f args w' fun e w''=>∃ v,e=.returned v∧K v w''
 | _=>False
theorem QaB (K:Value→World→Prop) (v:Value) (w:World):upV P K (.ok (.value v) w)=K v w:=rfl
theorem QaJ (K:Value→World→Prop) (w:World):upV P K (.ok .skip w)=K undef w:=rfl
theorem QaA (K:Value→World→Prop) (f:FuncId) (args:Array Value) (w:World):upV P K (.ok (.enter f args) w)=Calls P f args w fun e w''=>∃ v,e=.returned v∧K v w'':=rfl
theorem Qh5 {K K':Value→World→Prop} (h:∀ v w,K v w→K' v w) {r:Result Next} (hh:upV P K r):upV P K' r:=by
 cases r with
 | ok n w' =>
  cases n <;> simp only [upV] at hh ⊢
  case enter f args=>exact hh.mono fun e w'' ⟨v,he,hk⟩=>⟨v,he,h _ _ hk⟩
  all_goals exact h _ _ hh
 | halt x w'=>simp only [upV] at hh
def opV (P:Program) (ops:Array Oper) (o:Oper) (K:Value→World→Prop) (a:Act) (w:World):Prop :=
 if Region.wanted o (yielded ops a.tmps) then upV P K ((execOp a.eval o).run P w) else K undef w
theorem QdO {o:Oper} {K K':Value→World→Prop} {a:Act} {w:World} (h:∀ v w,K v w→K' v w) (hh:opV P ops o K a w):opV P ops o K' a w:=by
 unfold opV at *
 split
 ·rename_i hw;simp only [hw,if_true] at hh;exact Qh5 h hh
 ·rename_i hw;simp only [hw] at hh;exact h _ _ hh
theorem Qe1 {i:Nat} {o:Oper} {K:Act→World→Prop} {a:Act} {w:World} {Q:Exit→Act→World→Prop} (hi:ops[i]?=some o) (hh:opV P ops o (fun v w'=>K (a.put o.dst v) w') a w):wpOp P ops Q i K a w:=by
 unfold wpOp opV at *;simp only [hi]
 split
 ·rename_i hw
  simp only [hw,if_true] at hh;refine .inl ?_;unfold Oper.wp;generalize (execOp a.eval o).run P w=r at *
  cases r with
  | ok n w' =>
   cases n <;> simp only [upV] at hh <;> simp only [Oper.upon]
   case enter f args=>exact hh.mono fun e w'' ⟨v,he,hk⟩=>by subst he;exact hk
   all_goals exact hh
  | halt x w'=>simp only [upV] at hh
 ·rename_i hw;simp only [hw] at hh;exact hh
theorem Qmk {oi oj:Oper} {v:Value} {K:Value→World→Prop} {a:Act} {w:World} (hap:oi.apart ops oj=true) (hsj:∀ cs b,oj.op≠.select cs b)
  (h:opV P ops oj K (a.put oi.dst v) w):opV P ops oj K a w:=by
 obtain ⟨h1,h2,h3⟩:=Oper.apart_spec hap;unfold opV at *;rw [wanted_put oj a oi.dst v h1,execOp_put oj hsj a oi.dst v h1] at h;exact h
def Qf8 (R:World→World→Prop) (P:Program) (md:Region.Mode) (ops:Array Oper) (L:Act→World→Prop):Nat→Array Bool→Act→World→Prop
 | 0,listed,a,w=>Region.ready md ops listed=[]∧L a w
 | f+1,listed,a,w=>(Region.ready md ops listed=[]→L a w) ∧
  ∀ i∈Region.ready md ops listed,∃ o,ops[i]?=some o∧opV P ops o (fun v w'=>R w w'∧Qf8 R P md ops L f (listed.setIfInBounds i true) (a.put o.dst v) w') a w
theorem Qft {L:Act→World→Prop} {Q:Exit→Act→World→Prop} (hL:∀ a w,L a w→Q .normal a w):∀ (f:Nat) (listed:Array Bool) (a:Act) (w:World),Qf8 R P md ops L f listed a w→wpAny P md ops Q f listed a w
 | 0,_,_,_,h=>⟨h.1,hL _ _ h.2⟩
 | f+1,listed,a,w,h=>⟨fun h0=>hL _ _ (h.1 h0),fun i hi=>by
   obtain ⟨o,ho,hop⟩:=h.2 i hi
   exact Qe1 ho (QdO (fun v w' hk=>Qft hL f _ _ _ hk.2) hop)⟩
theorem Qdk {o:Oper} {v:Value} {a:Act} {w:World} {K:Value→World→Prop} (hy:YieldsAt P ops w o v a) (h:K v w):opV P ops o K a w:=by
 unfold opV
 rcases hy with ⟨hw,hv | ⟨hv,rfl⟩ | ⟨f,args,hv,hc⟩⟩ | ⟨hw,rfl⟩
 ·simp only [hw,if_true,hv,upV];exact h
 ·simp only [hw,if_true,hv,upV];exact h
 ·simp only [hw,if_true,hv,upV];exact hc.mono fun e w'' ⟨he,hw'⟩=>⟨v,he,by rw [hw'];exact h⟩
 ·simp only [hw,Bool.false_eq_true,if_false];exact h
theorem Qhf {L:Act→World→Prop} {i:Nat} {oi:Oper} {v:Value} (hR:Pre R) (hi:ops[i]?=some oi) (hsel:∀ (j:Nat) (o:Oper) cs b,ops[j]?=some o→o.op≠.select cs b) :
  ∀ (fuel:Nat) (listed:Array Bool) (a:Act) (w:World),
   (∀ j oj,ops[j]?=some oj→j≠i→listed.getD j true=false→(∀ e∈oj.after,Region.binds md e=true→e.on≠i)→oi.apart ops oj=true) →
   i∈Region.ready md ops listed→(∀ W,R w W→YieldsAt P ops W oi v a) →
   Qf8 R P md ops L fuel (listed.setIfInBounds i true) (a.put oi.dst v) w→Qf8 R P md ops L (fuel+1) listed a w:=by
 intro fuel
 induction fuel with
 | zero =>
  intro listed a w _ hr hy H;refine ⟨fun h=>(by rw [h] at hr;cases hr),fun j hj=>?_⟩;by_cases hji:j=i
  ·subst hji;exact ⟨oi,hi,Qdk (hy w (hR.refl w)) ⟨hR.refl w,H⟩⟩
  ·have:=ready_mono hj hji
   rw [H.1] at this
   cases this
 | succ fuel ih =>
  intro listed a w hfree hr hy H;refine ⟨fun h=>(by rw [h] at hr;cases hr),fun j hj=>?_⟩;by_cases hji:j=i
  ·subst hji;exact ⟨oi,hi,Qdk (hy w (hR.refl w)) ⟨hR.refl w,H⟩⟩
  ·obtain ⟨oj,hoj,h1⟩:=H.2 j (ready_mono hj hji)
   obtain ⟨hjun,oj',hoj',hall⟩:=mem_ready.1 hj;obtain rfl:oj'=oj:=Option.some.inj (hoj'.symm.trans hoj)
   have hnot:∀ e∈oj'.after,Region.binds md e=true→e.on≠i:=fun e he hb heq=>by
    have h1:=hall e he hb;have h0:=(mem_ready.1 hr).1;rw [heq] at h1
    rcases Nat.lt_or_ge i listed.size with h' | h'
    ·simp [h'] at h0 h1;rw [h0] at h1;cases h1
    ·simp [Array.getElem?_eq_none h'] at h1
   have hap:=hfree j oj' hoj hji hjun hnot;obtain ⟨p1,p2,p3⟩:=Oper.apart_spec hap;have h2:=Qmk hap (fun cs b=>hsel j oj' cs b hoj) h1
   have hfree':∀ k ok,ops[k]?=some ok→k≠i→(listed.setIfInBounds j true).getD k true=false →
     (∀ e∈ok.after,Region.binds md e=true→e.on≠i)→oi.apart ops ok=true:=fun k ok hk hki hun hno=>by
    refine hfree k ok hk hki ?_ hno;by_cases hjk:j=k
    ·subst hjk;exact hjun
    ·rw [getD_set_ne true hjk] at hun;exact hun
   refine ⟨oj',hoj,QdO (fun u w' h3=>⟨h3.1,ih (listed.setIfInBounds j true) _ w' hfree' (ready_mono hr (Ne.symm hji)) (fun W hW=>?_) ?_⟩) h2⟩
   ·exact (hy W (hR.trans h3.1 hW)).of_same (execOp_put oi (fun cs b=>hsel i oi cs b hi) a oj'.dst u p3) (wanted_put oi a oj'.dst u p3)
   ·have:=h3.2
    rw [Array.setIfInBounds_comm _ _ hji,← Act.put_comm a v u p2];exact this
theorem Qb5 {L:Act→World→Prop} (i:Nat) {o:Oper} {v:Value} {fuel:Nat} {listed:Array Bool} {a:Act} {w:World} (hR:Pre R) (hi:ops[i]?=some o)
  (hs:Region.noSelect ops=true) (hf:Region.free md ops listed i=true) (hr:(Region.ready md ops listed).contains i=true) (hw:Region.wanted o (yielded ops a.tmps)=true)
  (hy:∀ W,R w W→(execOp a.eval o).run P W=.ok (.value v) W)
  (h:∀ K:Act→Prop,(∀ a',Qf8 R P md ops L fuel (listed.setIfInBounds i true) a' w→K a')→K (a.put o.dst v)):Qf8 R P md ops L (fuel+1) listed a w :=
 Qhf hR hi (Region.noSelect_spec hs) fuel listed a w (Region.free_spec hi hf) (by simpa using hr) (fun W hW=>.inl ⟨hw,.inl (hy W hW)⟩) (h _ fun _ h=>h)
theorem Qlg {L:Act→World→Prop} (i:Nat) {o:Oper} {fuel:Nat} {listed:Array Bool} {a:Act} {w:World} (hR:Pre R) (hi:ops[i]?=some o)
  (hs:Region.noSelect ops=true) (hf:Region.free md ops listed i=true) (hr:(Region.ready md ops listed).contains i=true) (hw:Region.wanted o (yielded ops a.tmps)=false)
  (h:∀ K:Act→Prop,(∀ a',Qf8 R P md ops L fuel (listed.setIfInBounds i true) a' w→K a')→K (a.put o.dst undef)):Qf8 R P md ops L (fuel+1) listed a w :=
 Qhf hR hi (Region.noSelect_spec hs) fuel listed a w (Region.free_spec hi hf) (by simpa using hr) (fun W hW=>.inr ⟨hw,rfl⟩) (h _ fun _ h=>h)
theorem Qaq {L:Act→World→Prop} (i:Nat) {o:Oper} {fuel:Nat} {listed:Array Bool} {a:Act} {w:World} (hi:ops[i]?=some o) (hr:Region.ready md ops listed=[i])
  (hw:Region.wanted o (yielded ops a.tmps)=true)
  (h:∀ K:Value→World→Prop,(∀ v w',R w w'→Qf8 R P md ops L fuel (listed.setIfInBounds i true) (a.put o.dst v) w'→K v w')→upV P K ((execOp a.eval o).run P w)):Qf8 R P md ops L (fuel+1) listed a w:=by
 refine ⟨fun h0=>(by rw [hr] at h0;cases h0),fun j hj=>?_⟩;rw [hr] at hj
 obtain rfl:j=i:=by simpa using hj
 refine ⟨o,hi,?_⟩;unfold opV;rw [hw,if_pos rfl]
 exact h _ fun v w' h1 h2=>⟨h1,h2⟩
theorem QaR {L:Act→World→Prop} {listed:Array Bool} {a:Act} {w:World} (hr:Region.ready md ops listed=[]) (h:L a w):Qf8 R P md ops L 0 listed a w:=⟨hr,h⟩
theorem Qal {L:Act→World→Prop} {f:Nat} {listed:Array Bool} {a:Act} {w:World} (h:∀ K:Act→Prop,(∀ a',Qf8 R P md ops L f listed a' w→K a')→K a):Qf8 R P md ops L f listed a w:=h _ fun _ h=>h
end
theorem Qas {P:Program} (R:World→World→Prop) {id:Nat} {Q:Exit→Act→World→Prop} {a:Act} {w:World} {ops:Array Oper} (hm:P.follows .mixedOrders=true) (n:Nat) (hn:ops.size=n)
  (h:Qf8 R P .any ops (fun a w=>Q .normal a w) n (Array.replicate n false) a w.drew):(Code.region id ops true).wp P Q a w:=by
 subst hn;exact wp_region_any hm (Qft (fun _ _ h=>h) _ _ _ _ h)
def Qaz (w w':World):Prop:=Below w.heap.size w w'
theorem Qaz.pre:Pre Qaz:=⟨fun w=>QB _ w,fun {a b c} h k=>h.trans (k.mono h.size)⟩
def Qa (S:Nat→Prop) (w w':World):Prop:=Wr S S w w'
theorem Qa.pre (S:Nat→Prop):Pre (Qa S):=⟨fun w=>Wr.refl _ w,fun {a b c} h k=>Wr.trans h k⟩
theorem Wr.undrew {S S':Nat→Prop} {A B:World} (h:Wr S S' A.drew B):Wr S S' A B:=⟨h.os,h.tape,h.output,h.size,h.block,h.new⟩
theorem QbE {n:Nat} {A B:World} (h:Below n A.drew B):Below n A B:=⟨h.os,h.tape,h.output,h.size,h.block⟩
end
section
section
variable {P : Program} {ops : Array Oper} {md : Region.Mode} {R : World → World → Prop}
def Qcg (md:Region.Mode) (ops:Array Oper) (z:Nat):Bool :=
 match ops[z]? with
 | some oz=>(List.range z).all fun k=>oz.after.toList.any fun e=>Region.binds md e&&(e.on == k)
 | none=>false
theorem Qi8 {z i:Nat} (h:Qcg md ops z=true) (hi:i<z):∃ oz,ops[z]?=some oz∧∃ e∈oz.after,Region.binds md e=true∧e.on=i:=by
 unfold Qcg at h
 cases hz:ops[z]? with
 | none=>rw [hz] at h;cases h
 | some oz =>
  rw [hz] at h;have h1:=List.all_eq_true.1 h i (List.mem_range.2 hi);obtain ⟨e,he,h2⟩:=List.any_eq_true.1 h1;simp only [Bool.and_eq_true,beq_iff_eq] at h2;exact ⟨oz,rfl,e,by simpa using he,h2.1,h2.2⟩
def Qg9 (R:World→World→Prop) (P:Program) (md:Region.Mode) (ops:Array Oper) (z:Nat) (L:Array Bool→Act→World→Prop):Nat→Array Bool→Act→World→Prop
 | 0,listed,a,w=>Region.ready md ops listed=[z]∧L listed a w
 | f+1,listed,a,w=>Region.ready md ops listed≠[] ∧
  ∀ i∈Region.ready md ops listed,∃ o,ops[i]?=some o∧opV P ops o (fun v w'=>R w w'∧Qg9 R P md ops z L f (listed.setIfInBounds i true) (a.put o.dst v) w') a w
theorem Qfu {z r:Nat} {Q:Exit→Act→World→Prop}:∀ (f:Nat) (listed:Array Bool) (a:Act) (w:World),Qg9 R P md ops z (wpAny P md ops Q r) f listed a w→wpAny P md ops Q (f+r) listed a w
 | 0,_,_,_,h=>by rw [Nat.zero_add];exact h.2
 | f+1,listed,a,w,h=>by
  rw [show f+1+r=(f+r)+1 by omega]
  exact ⟨fun h0=>absurd h0 h.1,fun i hi=>by
   obtain ⟨o,ho,hop⟩:=h.2 i hi
   exact Qe1 ho (QdO (fun v w' hk=>Qfu f _ _ _ hk.2) hop)⟩
theorem Qhg {z:Nat} {L:Array Bool→Act→World→Prop} {i:Nat} {oi:Oper} {v:Value} (hR:Pre R) (hz:Qcg md ops z=true) (hiz:i<z) (hi:ops[i]?=some oi) (hsel:∀ (j:Nat) (o:Oper) cs b,ops[j]?=some o→o.op≠.select cs b) :
  ∀ (fuel:Nat) (listed:Array Bool) (a:Act) (w:World),
   (∀ j oj,ops[j]?=some oj→j≠i→listed.getD j true=false→(∀ e∈oj.after,Region.binds md e=true→e.on≠i)→oi.apart ops oj=true) →
   i∈Region.ready md ops listed→(∀ W,R w W→YieldsAt P ops W oi v a) →
   Qg9 R P md ops z L fuel (listed.setIfInBounds i true) (a.put oi.dst v) w→Qg9 R P md ops z L (fuel+1) listed a w:=by
 intro fuel
 induction fuel with
 | zero =>
  intro listed a w _ hr hy H;refine ⟨fun h=>(by rw [h] at hr;cases hr),fun j hj=>?_⟩;by_cases hji:j=i
  ·subst hji;exact ⟨oi,hi,Qdk (hy w (hR.refl w)) ⟨hR.refl w,H⟩⟩
  ·have:=ready_mono hj hji
   rw [H.1] at this
   obtain rfl:j=z:=by simpa using this
   obtain ⟨oz,hoz,e,he,hb,heq⟩:=Qi8 hz hiz;obtain ⟨_,oj',hoj',hall⟩:=mem_ready.1 hj;obtain rfl:oj'=oz:=Option.some.inj (hoj'.symm.trans hoz);have h1:=hall e he hb;have h0:=(mem_ready.1 hr).1;rw [heq] at h1;exfalso
   rcases Nat.lt_or_ge i listed.size with h' | h'
   ·simp [h'] at h0 h1;rw [h0] at h1;cases h1
   ·simp [Array.getElem?_eq_none h'] at h1
 | succ fuel ih =>
  intro listed a w hfree hr hy H;refine ⟨fun h=>(by rw [h] at hr;cases hr),fun j hj=>?_⟩;by_cases hji:j=i
  ·subst hji;exact ⟨oi,hi,Qdk (hy w (hR.refl w)) ⟨hR.refl w,H⟩⟩
  ·obtain ⟨oj,hoj,h1⟩:=H.2 j (ready_mono hj hji)
   obtain ⟨hjun,oj',hoj',hall⟩:=mem_ready.1 hj;obtain rfl:oj'=oj:=Option.some.inj (hoj'.symm.trans hoj)
   have hnot:∀ e∈oj'.after,Region.binds md e=true→e.on≠i:=fun e he hb heq=>by
    have h1:=hall e he hb;have h0:=(mem_ready.1 hr).1;rw [heq] at h1
    rcases Nat.lt_or_ge i listed.size with h' | h'
    ·simp [h'] at h0 h1;rw [h0] at h1;cases h1
    ·simp [Array.getElem?_eq_none h'] at h1
   have hap:=hfree j oj' hoj hji hjun hnot;obtain ⟨p1,p2,p3⟩:=Oper.apart_spec hap;have h2:=Qmk hap (fun cs b=>hsel j oj' cs b hoj) h1
   have hfree':∀ k ok,ops[k]?=some ok→k≠i→(listed.setIfInBounds j true).getD k true=false →
     (∀ e∈ok.after,Region.binds md e=true→e.on≠i)→oi.apart ops ok=true:=fun k ok hk hki hun hno=>by
    refine hfree k ok hk hki ?_ hno;by_cases hjk:j=k
    ·subst hjk;exact hjun
    ·rw [getD_set_ne true hjk] at hun;exact hun
   refine ⟨oj',hoj,QdO (fun u w' h3=>⟨h3.1,ih (listed.setIfInBounds j true) _ w' hfree' (ready_mono hr (Ne.symm hji)) (fun W hW=>?_) ?_⟩) h2⟩
   ·exact (hy W (hR.trans h3.1 hW)).of_same (execOp_put oi (fun cs b=>hsel i oi cs b hi) a oj'.dst u p3) (wanted_put oi a oj'.dst u p3)
   ·have:=h3.2
    rw [Array.setIfInBounds_comm _ _ hji,← Act.put_comm a v u p2];exact this
theorem Qm6 {z:Nat} {L:Array Bool→Act→World→Prop} (i:Nat) {o:Oper} {v:Value} {fuel:Nat} {listed:Array Bool} {a:Act} {w:World} (hR:Pre R) (hz:Qcg md ops z=true) (hiz:i<z) (hi:ops[i]?=some o)
  (hs:Region.noSelect ops=true) (hf:Region.free md ops listed i=true) (hr:(Region.ready md ops listed).contains i=true) (hw:Region.wanted o (yielded ops a.tmps)=true)
  (hy:∀ W,R w W→(execOp a.eval o).run P W=.ok (.value v) W)
  (h:∀ K:Act→Prop,(∀ a',Qg9 R P md ops z L fuel (listed.setIfInBounds i true) a' w→K a')→K (a.put o.dst v)):Qg9 R P md ops z L (fuel+1) listed a w :=
 Qhg hR hz hiz hi (Region.noSelect_spec hs) fuel listed a w (Region.free_spec hi hf) (by simpa using hr) (fun W hW=>.inl ⟨hw,.inl (hy W hW)⟩) (h _ fun _ h=>h)
theorem Qlh {z:Nat} {L:Array Bool→Act→World→Prop} (i:Nat) {o:Oper} {fuel:Nat} {listed:Array Bool} {a:Act} {w:World} (hR:Pre R) (hz:Qcg md ops z=true) (hiz:i<z) (hi:ops[i]?=some o)
  (hs:Region.noSelect ops=true) (hf:Region.free md ops listed i=true) (hr:(Region.ready md ops listed).contains i=true) (hw:Region.wanted o (yielded ops a.tmps)=false)
  (h:∀ K:Act→Prop,(∀ a',Qg9 R P md ops z L fuel (listed.setIfInBounds i true) a' w→K a')→K (a.put o.dst undef)):Qg9 R P md ops z L (fuel+1) listed a w :=
 Qhg hR hz hiz hi (Region.noSelect_spec hs) fuel listed a w (Region.free_spec hi hf) (by simpa using hr) (fun W hW=>.inr ⟨hw,rfl⟩) (h _ fun _ h=>h)
theorem QaU {z:Nat} {L:Array Bool→Act→World→Prop} (i:Nat) {o:Oper} {fuel:Nat} {listed:Array Bool} {a:Act} {w:World} (hi:ops[i]?=some o) (hr:Region.ready md ops listed=[i])
  (hw:Region.wanted o (yielded ops a.tmps)=true)
  (h:∀ K:Value→World→Prop,(∀ v w',R w w'→Qg9 R P md ops z L fuel (listed.setIfInBounds i true) (a.put o.dst v) w'→K v w')→upV P K ((execOp a.eval o).run P w)):Qg9 R P md ops z L (fuel+1) listed a w:=by
 refine ⟨fun h0=>(by rw [hr] at h0;cases h0),fun j hj=>?_⟩;rw [hr] at hj
 obtain rfl:j=i:=by simpa using hj
 refine ⟨o,hi,?_⟩;unfold opV;rw [hw,if_pos rfl]
 exact h _ fun v w' h1 h2=>⟨h1,h2⟩
theorem Qcm {z:Nat} {L:Array Bool→Act→World→Prop} {listed:Array Bool} {a:Act} {w:World} (hr:Region.ready md ops listed=[z]) (h:L listed a w):Qg9 R P md ops z L 0 listed a w:=⟨hr,h⟩
theorem QaN {z:Nat} {L:Array Bool→Act→World→Prop} {f:Nat} {listed:Array Bool} {a:Act} {w:World} (h:∀ K:Act→Prop,(∀ a',Qg9 R P md ops z L f listed a' w→K a')→K a):Qg9 R P md ops z L f listed a w:=h _ fun _ h=>h
theorem QbA {Q:Exit→Act→World→Prop} (i:Nat) {o:Oper} {fuel:Nat} {listed:Array Bool} {a:Act} {w:World} (hi:ops[i]?=some o) (hr:Region.ready md ops listed=[i])
  (hw:Region.wanted o (yielded ops a.tmps)=true)
  (h:∀ K:Value→World→Prop,(∀ v w',wpAny P md ops Q fuel (listed.setIfInBounds i true) (a.put o.dst v) w'→K v w')→upV P K ((execOp a.eval o).run P w)):wpAny P md ops Q (fuel+1) listed a w:=by
 refine ⟨fun h0=>(by rw [hr] at h0;cases h0),fun j hj=>?_⟩;rw [hr] at hj
 obtain rfl:j=i:=by simpa using hj
 refine Qe1 hi ?_;unfold opV;rw [hw,if_pos rfl]
 exact h _ fun v w' h2=>h2
theorem Qbo {Q:Exit→Act→World→Prop} {f:Nat} {listed:Array Bool} {a:Act} {w:World} (h:∀ K:Act→Prop,(∀ a',wpAny P md ops Q f listed a' w→K a')→K a):wpAny P md ops Q f listed a w:=h _ fun _ h=>h
theorem Qc0 {Q:Exit→Act→World→Prop} {listed:Array Bool} {a:Act} {w:World} (hr:Region.ready md ops listed=[]) (h:Q .normal a w):wpAny P md ops Q 0 listed a w:=⟨hr,h⟩
end
theorem QbV {P:Program} (R:World→World→Prop) (z r:Nat) {id:Nat} {Q:Exit→Act→World→Prop} {a:Act} {w:World} {ops:Array Oper} (hm:P.follows .mixedOrders=true) (hn:ops.size=z+r)
  (h:Qg9 R P .any ops z (wpAny P .any ops Q r) z (Array.replicate (z+r) false) a w.drew):(Code.region id ops true).wp P Q a w:=by
 rw [← hn] at h;exact wp_region_any hm (by have:=Qfu _ _ _ _ h;rw [← hn] at this;exact this)
end
section
def Qi6 (W:World) (x:Nat) (X:Array Value):Prop:=x<W.heap.size∧∀ j v,X.toList[j]?=some v→W.cell? ⟨x,0+j,none⟩=some v
theorem Qi6.of_row {W:World} {x:Nat} {X:Array Value} {t:TypeId} {fr:Nat × Nat} (h:W.heap[x]?=some (.cells X t fr)):Qi6 W x X :=
 ⟨(QI.1 h).1,fun j v hj=>by
  rw [Nat.zero_add,cell_of_row W _ j _ _ _ h,← Array.getElem?_toList];exact hj⟩
section
variable {P : Program} {ops : Array Oper} {Q : Exit → Act → World → Prop} {a : Act} {w : World} {rest : List Oper} {o : Oper}
theorem Qep (hw:Region.wanted o (yielded ops a.tmps)=true) (ty:TypeId) (x:Operand) (ho:o.op=.load ty x) (g:Nat) (hx:a.eval x=.pointer (some ⟨g,0,none⟩)) (X:Array Value) (hz:Qi6 w g X) (d:TypeDesc)
  (hu:P.underlying ty=some d) (hd:(match d with | .struct _ | .array _ _=>true | _=>false)=true) (hi:(P.info? ty).map (·.size)=some X.size)
  (h:wpList P ops Q rest (a.put o.dst (.agg X)) w):wpList P ops Q (o::rest) a w:=by
 refine BigFrame.wpList_want hw fun K hK=>?_
 have hr:=Qa2 (P:=P) w g 0 ty X.toList d hz.2 hu hd (by simpa using hi);unfold Oper.wp execOp;simp only [ho,hx,Instr.loadAt,Instr.sureAddr,Sem.run_bind,Sem.run_pure,Result.andThen_ok,hr];exact hK _ _ h
end
end
inductive Forest
 | nil
 | cons (tag:Int) (bs:List Int) (kids:Forest) (rest:Forest)
namespace Forest
def length:Forest→Nat
 | nil=>0
 | cons _ _ _ r=>r.length+1
def app:Forest→Forest→Forest
 | nil,g=>g
 | cons t b k r,g=>cons t b k (app r g)
theorem length_app:∀ f g:Forest,(app f g).length=f.length+g.length
 | nil,g=>by simp [app,length]
 | cons _ _ _ r,g=>by rw [app,length,length_app r g,length];omega
theorem app_nil:∀ f:Forest,app f nil=f
 | nil=>rfl
 | cons t b k r=>by rw [app,app_nil r]
def AllKids (P:Forest→Prop):Forest→Prop
 | nil=>True
 | cons _ _ k r=>P k∧AllKids P r
theorem all (P:Forest→Prop) (h:∀ f,AllKids P f→P f):∀ f,P f:=by
 have:∀ f,AllKids P f∧P f:=by
  intro f
  induction f with
  | nil=>exact ⟨trivial,h _ trivial⟩
  | cons t b k r ihk ihr=>exact ⟨⟨ihk.2,ihr.1⟩,h _ ⟨ihk.2,ihr.1⟩⟩
 exact fun f=>(this f).2
def cnt:Forest→Nat
 | nil=>0
 | cons _ b k r=>1+b.length+cnt k+cnt r
def innerOf (tag:Int) (b:List Int) (kl:Nat) (deep:Nat) (ks:Int):Int :=
 if 128≤tag then (if deep<8 then ks else 0) else b.length
def bad (tag:Int) (b:List Int) (kl:Nat) (deep:Nat) (ks:Int):Prop :=
 (128≤tag∧¬ deep<8∧0<kl)∨tag<1∨255<tag∨(128≤tag∧0<b.length)∨(¬ 128≤tag∧0<kl)∨innerOf tag b kl deep ks<0
instance (tag:Int) (b:List Int) (kl deep:Nat) (ks:Int):Decidable (bad tag b kl deep ks):=by unfold bad;infer_instance
def sizeL:Forest→Nat→Int→Int
 | nil,_,n=>n
 | cons t b k r,d,n =>
  let ks:=sizeL k (d+1) 0
  if bad t b k.length d ks then -1
  else if 1048576<n+(5+innerOf t b k.length d ks) then -1
  else sizeL r d (n+(5+innerOf t b k.length d ks))
def layF:Forest→List Int
 | nil=>[]
 | cons t b k r =>
  let v:=if 128≤t then layF k else b
  [t % 256]++[(v.length:Int) % 256,(v.length:Int) / 256 % 256,(v.length:Int) / 65536 % 256,(v.length:Int) / 16777216 % 256]++v++layF r
theorem layF_app:∀ f g:Forest,layF (app f g)=layF f++layF g
 | nil,g=>rfl
 | cons t b k r,g=>by
  rw [app,layF,layF,layF_app r g];simp only [List.append_assoc]
theorem sizeL_ge:∀ (f:Forest) (d:Nat) (n:Int),0≤n→sizeL f d n = -1∨n≤sizeL f d n
 | nil,d,n,h=>.inr (Int.le_refl _)
 | cons t b k r,d,n,h=>by
  rw [sizeL];by_cases h1:bad t b k.length d (sizeL k (d+1) 0)
  ·left;rw [if_pos h1]
  ·rw [if_neg h1]
   split
   ·exact .inl rfl
   ·have h2:0≤innerOf t b k.length d (sizeL k (d+1) 0):=by unfold bad at h1;omega
    rcases sizeL_ge r d (n+(5+innerOf t b k.length d (sizeL k (d+1) 0))) (by omega) with h3 | h3
    ·exact .inl h3
    ·exact .inr (by omega)
theorem sizeL_bad {t:Int} {b:List Int} {k r:Forest} {d:Nat} {n:Int} (h:bad t b k.length d (sizeL k (d+1) 0)):sizeL (cons t b k r) d n = -1:=by rw [sizeL,if_pos h]
theorem sizeL_big {t:Int} {b:List Int} {k r:Forest} {d:Nat} {n I:Int} (h:¬ bad t b k.length d (sizeL k (d+1) 0)) (hI:innerOf t b k.length d (sizeL k (d+1) 0)=I) (h2:1048576<n+(5+I)):sizeL (cons t b k r) d n = -1:=by rw [sizeL,if_neg h,hI,if_pos h2]
theorem sizeL_next {t:Int} {b:List Int} {k r:Forest} {d:Nat} {n I:Int} (h:¬ bad t b k.length d (sizeL k (d+1) 0)) (hI:innerOf t b k.length d (sizeL k (d+1) 0)=I) (h2:¬ 1048576<n+(5+I)):sizeL (cons t b k r) d n=sizeL r d (n+(5+I)):=by rw [sizeL,if_neg h,hI,if_neg h2]
theorem inner_ge {t:Int} {b:List Int} {kl d:Nat} {ks:Int} (h:¬ bad t b kl d ks):0≤innerOf t b kl d ks:=by unfold bad at h;omega
theorem sizeL_app:∀ (f g:Forest) (d:Nat) (n:Int),0≤n→sizeL (app f g) d n=if sizeL f d n<0 then -1 else sizeL g d (sizeL f d n)
 | nil,g,d,n,h=>by rw [app,sizeL,if_neg (by omega)]
 | cons t b k r,g,d,n,h=>by
  rw [app,sizeL,sizeL];by_cases h1:bad t b k.length d (sizeL k (d+1) 0)
  ·simp [h1]
  ·have h2:=inner_ge h1
   by_cases h3:1048576<n+(5+innerOf t b k.length d (sizeL k (d+1) 0))
   ·simp [h1,h3]
   ·simp only [h1,h3,↓reduceIte]
    exact sizeL_app r g d _ (by omega)
theorem sizeL_shift:∀ (g:Forest) (d:Nat) (n m:Int),0≤m→m≤n→(sizeL g d m<0→sizeL g d n<0)∧(0≤sizeL g d m→n+(sizeL g d m-m)≤1048576→sizeL g d n=n+(sizeL g d m-m))
 | nil,d,n,m,h,h2=>by simp only [sizeL];omega
 | cons t b k r,d,n,m,h,h2=>by
  rw [sizeL,sizeL];by_cases h1:bad t b k.length d (sizeL k (d+1) 0)
  ·simp [h1]
  ·have h3:=inner_ge h1
   simp only [h1,↓reduceIte];generalize innerOf t b k.length d (sizeL k (d+1) 0)=x at h3 ⊢;by_cases h4:1048576<m+(5+x)
   ·have h5:1048576<n+(5+x):=by omega
    simp [h4,h5]
   ·rw [if_neg h4]
    have ih:=sizeL_shift r d (n+(5+x)) (m+(5+x)) (by omega) (by omega);have hg:=sizeL_ge r d (m+(5+x)) (by omega);by_cases h5:1048576<n+(5+x)
    ·rw [if_pos h5]
     exact ⟨fun _=>by omega,fun h6 h7=>by omega⟩
    ·rw [if_neg h5]
     exact ⟨ih.1,fun h6 h7=>by rw [ih.2 h6 (by omega)];omega⟩
theorem sizeL_le:∀ (g:Forest) (d:Nat) (n:Int),0≤n→sizeL g d n≤n+5*(cnt g:Int)
 | nil,d,n,h=>by simp only [sizeL,cnt];omega
 | cons t b k r,d,n,h=>by
  rw [sizeL,cnt];by_cases h1:bad t b k.length d (sizeL k (d+1) 0)
  ·simp only [h1,↓reduceIte];omega
  ·have h3:=inner_ge h1
   have h4:=sizeL_le k (d+1) 0 (by omega)
   have h5:innerOf t b k.length d (sizeL k (d+1) 0)≤b.length+5*(cnt k:Int):=by unfold innerOf at h3 ⊢;split <;> (try split) <;> omega
   simp only [h1,↓reduceIte];generalize innerOf t b k.length d (sizeL k (d+1) 0)=x at h3 h5 ⊢
   split
   ·omega
   ·have:=sizeL_le r d (n+(5+x)) (by omega)
    omega
theorem sizeL_both (f g:Forest) (d:Nat) (hf:cnt f≤10000) (hg:cnt g≤10000):0≤sizeL (app f g) d 0↔0≤sizeL f d 0∧0≤sizeL g d 0:=by
 rw [sizeL_app f g d 0 (Int.le_refl _)];have h1:=sizeL_le f d 0 (Int.le_refl _);have h2:=sizeL_le g d 0 (Int.le_refl _);by_cases h:sizeL f d 0<0
 ·rw [if_pos h];omega
 ·rw [if_neg h]
  have h3:=sizeL_shift g d (sizeL f d 0) 0 (Int.le_refl _) (by omega);by_cases h4:sizeL g d 0<0
  ·have:=h3.1 h4;omega
  ·have:=h3.2 (by omega) (by omega);omega
theorem layF_le:∀ f:Forest,(layF f).length≤5*cnt f
 | nil=>QN _
 | cons t b k r=>by
  have h1:=layF_le k;have h2:=layF_le r;rw [layF,cnt];simp only [QL,List.length_cons,List.length_nil]
  split <;> omega
theorem cnt_kids {t:Int} {b:List Int} {k r:Forest} {N:Nat} (h:cnt (cons t b k r)≤N):cnt k≤N∧cnt r≤N∧b.length≤N:=by rw [cnt] at h;omega
theorem length_le_cnt:∀ f:Forest,f.length≤cnt f
 | nil=>QN _
 | cons t b k r=>by have:=length_le_cnt r;rw [length,cnt];omega
end Forest
def QcR (n₀:Nat) (W:World):Forest→Nat→Nat→Prop
 | .nil,_,_=>True
 | .cons t bs k r,b,off=>∃ (a:Option Addr) (len cap:Nat) (ka:Option Addr) (kl kc:Nat),
   W.cell? ⟨b,off,none⟩=some (.int .i64 t)∧W.cell? ⟨b,off+1,none⟩=some (.slice a len cap)∧W.cell? ⟨b,off+2,none⟩=some (.slice ka kl kc) ∧
   -9223372036854775808≤t∧t≤9223372036854775807∧(QaL n₀ W (.slice a len cap) bs∧bs.length≤140737488351232) ∧
   k.length=kl∧(kl=0∨∃ b2 o2,ka=some ⟨b2,o2,none⟩∧b2<n₀∧kl≤kc∧kc≤maxLen∧QcR n₀ W k b2 o2)∧QcR n₀ W r b (off+3)
def SlF (n₀:Nat) (W:World) (a:Option Addr) (len cap:Nat) (f:Forest):Prop :=
 f.length=len∧(len=0∨∃ b off,a=some ⟨b,off,none⟩∧b<n₀∧len≤cap∧cap≤maxLen∧QcR n₀ W f b off)
theorem QcR.below {n:Nat} {A B:World} (hb:Below n A B):∀ (f:Forest) (b off:Nat),b<n→QcR n A f b off→QcR n B f b off
 | .nil,_,_,_,_=>trivial
 | .cons t bs k r,b,off,hbn,h=>by
  obtain ⟨a,len,cap,ka,kl,kc,h1,h2,h3,h4,h5,h6,h7,h8,h9⟩:=h;refine ⟨a,len,cap,ka,kl,kc,(hb.cell (p:=⟨b,off,none⟩) hbn).trans h1,(hb.cell (p:=⟨b,off+1,none⟩) hbn).trans h2,(hb.cell (p:=⟨b,off+2,none⟩) hbn).trans h3,h4,h5,⟨h6.1.below hb,h6.2⟩,h7,?_,QcR.below hb r b (off+3) hbn h9⟩
  rcases h8 with h8 | ⟨b2,o2,g1,g2,g3,g4,g5⟩
  ·exact .inl h8
  ·exact .inr ⟨b2,o2,g1,g2,g3,g4,QcR.below hb k b2 o2 g2 g5⟩
theorem QcR.mono {n m:Nat} {A:World} (hm:n≤m):∀ (f:Forest) (b off:Nat),QcR n A f b off→QcR m A f b off
 | .nil,_,_,_=>trivial
 | .cons t bs k r,b,off,h=>by
  obtain ⟨a,len,cap,ka,kl,kc,h1,h2,h3,h4,h5,h6,h7,h8,h9⟩:=h;refine ⟨a,len,cap,ka,kl,kc,h1,h2,h3,h4,h5,⟨h6.1.mono hm,h6.2⟩,h7,?_,QcR.mono hm r b (off+3) h9⟩
  rcases h8 with h8 | ⟨b2,o2,g1,g2,g3,g4,g5⟩
  ·exact .inl h8
  ·exact .inr ⟨b2,o2,g1,Nat.lt_of_lt_of_le g2 hm,g3,g4,QcR.mono hm k b2 o2 g5⟩
theorem SlF.below {n:Nat} {A B:World} {a:Option Addr} {len cap:Nat} {f:Forest} (h:SlF n A a len cap f) (hb:Below n A B):SlF n B a len cap f:=by
 obtain ⟨h1,h2 | ⟨b,off,g1,g2,g3,g4,g5⟩⟩:=h
 ·exact ⟨h1,.inl h2⟩
 ·exact ⟨h1,.inr ⟨b,off,g1,g2,g3,g4,QcR.below hb f b off g2 g5⟩⟩
theorem SlF.mono {n m:Nat} {A:World} {a:Option Addr} {len cap:Nat} {f:Forest} (h:SlF n A a len cap f) (hm:n≤m):SlF m A a len cap f:=by
 obtain ⟨h1,h2 | ⟨b,off,g1,g2,g3,g4,g5⟩⟩:=h
 ·exact ⟨h1,.inl h2⟩
 ·exact ⟨h1,.inr ⟨b,off,g1,Nat.lt_of_lt_of_le g2 hm,g3,g4,QcR.mono hm f b off g5⟩⟩
theorem QcR.open {n:Nat} {W:World} {f:Forest} {b off:Nat} (h:QcR n W f b off) (hl:0<f.length):∃ t bs k r a len cap ka kl kc,f=.cons t bs k r ∧
  W.cell? ⟨b,off,none⟩=some (.int .i64 t)∧W.cell? ⟨b,off+1,none⟩=some (.slice a len cap)∧W.cell? ⟨b,off+2,none⟩=some (.slice ka kl kc) ∧
  -9223372036854775808≤t∧t≤9223372036854775807∧(QaL n W (.slice a len cap) bs∧bs.length≤140737488351232)∧SlF n W ka kl kc k∧QcR n W r b (off+3):=by
 cases f with
 | nil=>simp [Forest.length] at hl
 | cons t bs k r =>
  obtain ⟨a,len,cap,ka,kl,kc,h1,h2,h3,h4,h5,h6,h7,h8,h9⟩:=h;exact ⟨t,bs,k,r,a,len,cap,ka,kl,kc,rfl,h1,h2,h3,h4,h5,h6,⟨h7,h8⟩,h9⟩
theorem SlF.small {n:Nat} {A:World} {a:Option Addr} {len cap:Nat} {f:Forest} (h:SlF n A a len cap f):len≤9223372036854775807:=by
 obtain ⟨hl,h | ⟨b,off,h1,h2,h3,h4,hc⟩⟩:=h
 ·omega
 ·simp only [maxLen] at h4;omega
theorem QmT {k:IntKind} {a b:Int} (h:a=b):Value.int k a=.int k b:=by rw [h]
section
open Go.ChangeShapes Go.WideShapes Go.ChangeAt
def QaE (x:Nat):List Int:=[(x:Int) % 256,(x:Int) / 256 % 256,(x:Int) / 65536 % 256,(x:Int) / 16777216]
theorem QmJ (x:Nat) (w:World) (hx:x<4294967296) :
  Calls Tryz.prog 74 #[.int .u32 x] w fun e w'=>e=.returned (.agg #[.int .u8 ((x:Int) % 256),.int .u8 ((x:Int) / 256 % 256),.int .u8 ((x:Int) / 65536 % 256),.int .u8 ((x:Int) / 16777216)]) ∧
   w'=w.alloc (.cells #[.int .u8 ((x:Int) % 256),.int .u8 ((x:Int) / 256 % 256),.int .u8 ((x:Int) / 65536 % 256),.int .u8 ((x:Int) / 16777216)] 138):=by
 go_enter Tryz.func74,Tryz.ntmps74;go_wp2;exact bodyPost_ret (v:=.agg #[.int .u8 ((x:Int) % 256),.int .u8 ((x:Int) / 256 % 256),.int .u8 ((x:Int) / 65536 % 256),.int .u8 ((x:Int) / 16777216)]) (by simp [results,Tryz.results74,go_sem]) rfl ⟨rfl,rfl⟩
def Qd7 (x:Nat):Obj:=.cells #[.int .u8 ((x:Int) % 256),.int .u8 ((x:Int) / 256 % 256),.int .u8 ((x:Int) / 65536 % 256),.int .u8 ((x:Int) / 16777216)] 138
theorem Qe9 (x:Nat) (w:World) (hx:x<4294967296) :
  Calls Tryz.prog 31 #[.int .u32 x] w fun e w'=>e=.returned (.slice (some ⟨w.heap.size+1,0,none⟩) 4 4)∧w'=(w.alloc (Qd7 x)).alloc (Qd7 x):=by
 go_enter Tryz.func31,Tryz.ntmps31;go_wp2_with (go_at_call 74;refine (QmJ _ _ hx).mono ?_;rintro e w1 ⟨rfl,rfl⟩);go_ret;exact ⟨rfl,rfl⟩
end
theorem QbB:(Tryz.prog.info? 5).map (fun i=>(i.zero,i.size,i.bytes))=some (some (.int .u8 0),1,1):=by kernel_rfl
theorem Qaa {W:World} {base:Nat} {e:TypeId} {size:Nat} {v:Value} {n:Nat} {xs:List Value} (h:W.ownsRow base e size v n xs):∃ a cap,v=.slice a n cap∧(n=0∨∃ g',a=some ⟨g',0,none⟩∧v.ownBlock=some g'):=by
 rcases h.2 with ⟨rfl,h0⟩ | ⟨g',cap,cur,rfl,h1,h2,h3,h4,_⟩
 ·exact ⟨none,0,by rw [h0],.inl h0⟩
 ·exact ⟨_,_,rfl,.inr ⟨g',rfl,rfl⟩⟩
theorem QaL.built (W:World) (t:TypeId) (fr:Nat × Nat) (zs:List Int) (hz:∀ z∈zs,0≤z∧z≤255) (hm:zs.length≤maxLen) (cs:Array Value) (hcs:cs=(zs.map (Value.int .u8)).toArray) (n:Nat) (hn:n=zs.length) :
  QaL (W.alloc (.cells cs t fr)).heap.size (W.alloc (.cells cs t fr)) (.slice (some ⟨W.heap.size,0,none⟩) n n) zs:=by
 subst hcs hn;refine ⟨.inr ⟨W.heap.size,0,zs.length,rfl,by simp,QN _,hm,fun j hj=>?_⟩,hz⟩;rw [Nat.zero_add,World.cell?_alloc_mark,Qba _ _ hj];simp [hj]
theorem OwnBytes.conv {base:Nat} {zs:List Int} {v:Value} {W:World} (h:W.ownsRow base 5 1 v zs.length (zs.map (Value.int .u8))) :
  (convert 22 9 v).run Tryz.prog W=.ok (.string (strOfNums zs)) W :=
 Qdz (Qdb.of_own h).2 22 5 9 Tryz.underlying22 Tryz.underlying5 Tryz.underlying9
section
section
variable {P : Program} {ops : Array Oper} {rest : List Oper} {o : Oper} {a : Act} {w : World} {Q : Exit → Act → World → Prop}
theorem Qae (hgd:o.guard=none) (s x:Operand) (t:TypeId) (ho:o.op=.call { callee:=.builtin .append,args:=#[s,x],argTypes:=#[t,t] })
  (base:Nat) (e:TypeId) (i:TypeInfo) (ht:P.underlying t=some (.slice e)) (hi:P.info? e=some i) (hz:i.zero=some (.int .u8 0)) (hsize:i.size=1) (hby:i.bytes=1)
  (v:Value) (n:Nat) (xs:List Int) (hs:a.eval s=v) (hown:w.ownsRow base e 1 v n (xs.map (Value.int .u8)))
  (p:Option Addr) (m c n₀:Nat) (zs:List Int) (hx:a.eval x=.slice p m c) (hr:Qdb .u8 n₀ w (.slice p m c) zs) (hsm:n+m≤140737488355328) (hbase:base≤w.heap.size)
  (h:∀ v' w',w'.ownsRow base e 1 v' (n+m) ((xs++zs).map (Value.int .u8))→w.grownBy w' v.ownBlock→(v'.ownBlock=v.ownBlock∨v'.ownBlock=some w.heap.size)→wpList P ops Q rest (a.put o.dst v') w') :
  wpList P ops Q (o::rest) a w:=by
 have hlen:=hr.open.1
 have key:∀ ad,p=some ad→(∀ j u,(zs.map (Value.int .u8))[j]?=some u→w.cell? (ad.add j)=some u)→wpList P ops Q (o::rest) a w:=fun ad hp hc=>by
  subst hp;refine wpList_append_own_at (w:=w) hgd s x t ho base e i (.int .u8 0) 1 1 ht hi hz hsize hby rfl (by decide) v n _ hs hown ad m c (zs.map (Value.int .u8)) hx (by simp [hlen]) hc (fun u hu=>?_) (by simp only [maxLen];omega) (by omega) hbase (fun v' w' h2 h3 _ h5=>h v' w' ?_ h3 h5)
  ·obtain ⟨z,_,rfl⟩:=List.mem_map.1 hu
   rfl
  ·rw [List.map_append];exact h2
 rcases hr with ⟨a',c',he,rfl⟩ | ⟨b,off,c',he,hb,h3,h4,hc⟩
 ·injection he with e1 e2 e3
  subst e1 e2 e3
  cases p with
  | some ad=>exact key ad rfl (fun j u hj=>by simp at hj)
  | none =>
   refine wpList_plain hgd fun K hK=>?_
   have hr:(Builtin.append_ #[t,t] o.type #[v,.slice none 0 c]).run P w=.ok v w:=by
    rcases hown.2 with ⟨rfl,rfl⟩ | ⟨g,cap,cur,rfl,_,_,hnc,_⟩
    ·simp [Builtin.append_,run_underlying ht,sizeOf,typeInfo,hi,Builtin.lenOf,Builtin.firstCells]
    ·simp [Builtin.append_,run_underlying ht,sizeOf,typeInfo,hi,Builtin.lenOf,Builtin.firstCells,hnc,storeCells]
   unfold Oper.wp execOp;simp only [ho,resolve,invoke,builtin,Sem.run_bind,Sem.run_pure,Result.andThen_ok,List.map_toArray,List.map_cons,List.map_nil,hs,hx,hr];exact hK _ _ (h v w (by simpa using hown) ⟨rfl,rfl,rfl,QN _,fun _ _ _=>rfl⟩ (.inl rfl))
 ·injection he with e1 e2 e3
  refine key _ e1 (fun j u hj=>?_);rw [List.getElem?_map] at hj
  cases hz':zs[j]? with
  | none=>simp [hz'] at hj
  | some z =>
   have hjl:j<zs.length:=(List.getElem?_eq_some_iff.1 hz').1
   have:zs.getD j 0=z:=by simp [List.getD,hz']
   rw [Addr.add_lit,hc j hjl,this];simpa [hz'] using hj
end
end
def QmP (f:Forest):Int:=if f.sizeL 1 0<0 then 220 else 0
theorem Qj7 (W:World) (x:Int):∀ j u,[Value.int .u8 x][j]?=some u→(W.alloc (.cells #[.int .u8 x] 5)).cell? ((⟨W.heap.size,0,none⟩:Addr).add j)=some u:=cell_one_new _ _ _
theorem QfD (x:Nat) (h:x<4294967296):QaE x=[(x:Int) % 256,(x:Int) / 256 % 256,(x:Int) / 65536 % 256,(x:Int) / 16777216 % 256]:=by
 unfold QaE;rw [show (x:Int) / 16777216 % 256=(x:Int) / 16777216 by omega]
theorem Qb7 (x:Nat) (h:x<4294967296):∀ z∈QaE x,0≤z∧z≤255:=by
 intro z hz;simp only [QaE,List.mem_cons,List.not_mem_nil,or_false] at hz;omega
theorem Qbg {A B C:World} (h:Below A.heap.size A B) (k:Below B.heap.size B C):Below A.heap.size A C:=h.trans (k.mono h.size)
def QeI (f:Forest):List Int:=if f.sizeL 1 0<0 then [] else f.layF
def F1:Forest:=.cons 1 [97,98] .nil .nil
def F2:Forest:=.cons 129 [] F1 .nil
theorem Qdu (n:Nat) (W:World):QaL n W (.slice none 0 0) []:=⟨.inl ⟨_,_,rfl,rfl⟩,by simp⟩
section
theorem Qc1:(Tryz.prog.info? 66).map (fun i=>(i.zero,i.size,i.bytes))=some (some (.agg #[.int .i64 0,.slice none 0 0,.slice none 0 0]),3,56):=by kernel_rfl
theorem QcR.app {n:Nat} {W:World}:∀ (f g:Forest) (b off:Nat),QcR n W f b off→QcR n W g b (off+f.length*3)→QcR n W (f.app g) b off
 | .nil,g,b,off,_,h=>by simpa [Forest.length,Forest.app] using h
 | .cons t bs k r,g,b,off,hf,hg=>by
  obtain ⟨a,len,cap,ka,kl,kc,h1,h2,h3,h4,h5,h6,h7,h8,h9⟩:=hf;exact ⟨a,len,cap,ka,kl,kc,h1,h2,h3,h4,h5,h6,h7,h8,QcR.app r g b (off+3) h9 (by rw [show off+3+r.length*3=off+(Forest.cons t bs k r).length*3 by simp only [Forest.length];omega];exact hg)⟩
section
variable {P : Program} {ops : Array Oper} {rest : List Oper} {o : Oper} {a : Act} {w : World} {Q : Exit → Act → World → Prop}
theorem QaH (hgd:o.guard=none) (s x:Operand) (t:TypeId) (ho:o.op=.call { callee:=.builtin .append,args:=#[s,x],argTypes:=#[t,t] })
  (base:Nat) (e:TypeId) (i:TypeInfo) (z:Value) (size bytes:Nat) (ht:P.underlying t=some (.slice e)) (hi:P.info? e=some i) (hz:i.zero=some z) (hsize:i.size=size) (hby:i.bytes=bytes) (hzs:z.cells.size=size) (hsz:0<size)
  (v:Value) (n:Nat) (xs:List Value) (hs:a.eval s=v) (hown:w.ownsRow base e size v n xs)
  (p:Option Addr) (m c:Nat) (vs:List Value) (hx:a.eval x=.slice p m c) (hl:vs.length=m*size) (h1:∀ u∈vs,u.oneCell'=true)
  (hr:(m=0∧vs=[])∨∃ b off,p=some ⟨b,off,none⟩∧∀ j u,vs[j]?=some u→w.cell? ⟨b,off+j,none⟩=some u) (hsm:(n+m)*bytes≤140737488355328) (hnm:n+m≤maxLen) (hbase:base≤w.heap.size)
  (h:∀ v' w',w'.ownsRow base e size v' (n+m) (xs++vs)→w.grownBy w' v.ownBlock→(v'.ownBlock=v.ownBlock∨v'.ownBlock=some w.heap.size)→wpList P ops Q rest (a.put o.dst v') w') :
  wpList P ops Q (o::rest) a w:=by
 have key:∀ ad,p=some ad→(∀ j u,vs[j]?=some u→w.cell? (ad.add j)=some u)→wpList P ops Q (o::rest) a w:=fun ad hp hc=>by
  subst hp;exact wpList_append_own_at (w:=w) hgd s x t ho base e i z size bytes ht hi hz hsize hby hzs hsz v n _ hs hown ad m c vs hx hl hc h1 hnm hsm hbase (fun v' w' h2 h3 _ h5=>h v' w' h2 h3 h5)
 rcases hr with ⟨rfl,rfl⟩ | ⟨b,off,rfl,hc⟩
 ·cases p with
  | some ad=>exact key ad rfl (fun j u hj=>by simp at hj)
  | none =>
   refine wpList_plain hgd fun K hK=>?_
   have hr:(Builtin.append_ #[t,t] o.type #[v,.slice none 0 c]).run P w=.ok v w:=by
    rcases hown.2 with ⟨rfl,rfl⟩ | ⟨g,cap,cur,rfl,_,_,hnc,_⟩
    ·simp [Builtin.append_,run_underlying ht,sizeOf,typeInfo,hi,Builtin.lenOf,Builtin.firstCells]
    ·simp [Builtin.append_,run_underlying ht,sizeOf,typeInfo,hi,Builtin.lenOf,Builtin.firstCells,hnc,storeCells]
   unfold Oper.wp execOp;simp only [ho,resolve,invoke,builtin,Sem.run_bind,Sem.run_pure,Result.andThen_ok,List.map_toArray,List.map_cons,List.map_nil,hs,hx,hr];exact hK _ _ (h v w (by simpa using hown) ⟨rfl,rfl,rfl,QN _,fun _ _ _=>rfl⟩ (.inl rfl))
 ·refine key _ rfl (fun j u hj=>?_)
  rw [show (⟨b,off,none⟩:Addr).add j=⟨b,off+j,none⟩ from Addr.add_lit ..];exact hc j u hj
end
end

section
attribute [local go_sem] QaB QaJ QaA
theorem Qfa (a:Option Addr) (len cap:Nat) (zs:List Int) (w:World) (n:Nat) (hn:n≤w.heap.size) (hr:QaL n w (.slice a len cap) zs) (hsm:zs.length≤1000000000) :
  Calls Tryz.prog 19 #[.slice a len cap] w fun e w'=>∃ v,e=.returned v∧w'.ownsRow w.heap.size 5 1 v len (zs.map (Value.int .u8))∧Below w.heap.size w w':=by
 obtain ⟨i0,hi,hz0,hz1,hz2⟩:=info_parts QbB;have e1:=hr.1.open.1
 have qn:=fun (a:Option Addr) (n c:Nat) (W:World)=>Lib.run_eql_slice_nil (P:=Tryz.prog) W 22 5 a n c 0 0 Tryz.underlying22
 cases a with
 | none =>
  have h0:len=0:=by
   rcases hr.1 with ⟨_,_,h,_⟩ | ⟨_,_,_,h,_⟩
   ·injection h
   ·injection h with h;cases h
  subst h0;have hz:zs=[]:=List.eq_nil_of_length_eq_zero e1;subst hz;go_enter Tryz.func19,Tryz.ntmps19;go_wp2;go_ret;exact ⟨_,rfl,World.ownsRow_nil _ _ _ _,QB _ _⟩
 | some p =>
  go_enter Tryz.func19,Tryz.ntmps19;go_wp2_with (at_builtin;refine Qau ?_);unfold Qag;have hl0:=World.ownsRow_lit (base:=w.heap.size) (e:=5) (size:=1) w #[] 0 (QN _) (by decide) rfl;obtain ⟨W2,hW2⟩:∃ W2,W2=w.alloc (.cells #[] 5):=⟨_,rfl⟩
  have bb:Below w.heap.size w W2:=by rw [hW2];exact (QB _ w).alloc (QN _) _
  rw [← hW2] at hl0 ⊢;refine Qae rfl _ _ 22 rfl w.heap.size 5 i0 Tryz.underlying22 hi hz0 hz1 hz2 (.slice (some ⟨w.heap.size,0,none⟩) 0 0) 0 [] rfl hl0 (some p) len cap n zs rfl (hr.1.below ⟨bb.os,bb.tape,bb.output,bb.size,fun q hq=>bb.block q (by omega)⟩) (by omega) bb.size ?_;intro v1 u1 o1 hg1 hv1;have b10:Below w.heap.size w u1:=bb.grown hg1 bb.size (fun b h=>by simp [Value.ownBlock] at h;omega);rw [Nat.zero_add,List.nil_append] at o1;clear hl0 hW2 bb hg1 hv1;go_wp2;go_ret;exact ⟨_,rfl,o1,b10⟩
end
section
section
variable {P : Program} {o : Oper} {a : Act} {w : World}
theorem QgZ (s x:Operand) (t:TypeId) (ho:o.op=.call { callee:=.builtin .append,args:=#[s,x],argTypes:=#[t,t] })
  (base:Nat) (e:TypeId) (i:TypeInfo) (z:Value) (size bytes:Nat) (ht:P.underlying t=some (.slice e)) (hi:P.info? e=some i) (hz:i.zero=some z) (hsize:i.size=size) (hby:i.bytes=bytes) (hzs:z.cells.size=size) (hsz:0<size)
  (v:Value) (n:Nat) (xs:List Value) (hs:a.eval s=v) (hown:w.ownsRow base e size v n xs)
  (p:Option Addr) (m c:Nat) (vs:List Value) (hx:a.eval x=.slice p m c) (hl:vs.length=m*size) (h1:∀ u∈vs,u.oneCell'=true)
  (hr:(m=0∧vs=[])∨∃ b off,p=some ⟨b,off,none⟩∧∀ j u,vs[j]?=some u→w.cell? ⟨b,off+j,none⟩=some u) (hsm:(n+m)*bytes≤140737488355328) (hnm:n+m≤maxLen) (hbase:base≤w.heap.size) :
  ∃ v' w',(execOp a.eval o).run P w=.ok (.value v') w'∧w'.ownsRow base e size v' (n+m) (xs++vs)∧w.grownBy w' v.ownBlock∧(v'.ownBlock=v.ownBlock∨v'.ownBlock=some w.heap.size):=by
 have key:∀ ad,p=some ad→(∀ j u,vs[j]?=some u→w.cell? (ad.add j)=some u)→∃ v' w',(execOp a.eval o).run P w=.ok (.value v') w'∧w'.ownsRow base e size v' (n+m) (xs++vs)∧w.grownBy w' v.ownBlock∧(v'.ownBlock=v.ownBlock∨v'.ownBlock=some w.heap.size):=fun ad hp hc=>by
  subst hp;obtain ⟨v',w',hrun,h2,h3,_,h5⟩:=run_append_own_at w base t o.type e i z size bytes ht hi hz hsize hby hzs hsz v n xs hown ad m c vs hl hc h1 hnm hsm hbase;refine ⟨v',w',?_,h2,h3,h5⟩;unfold execOp;simp only [ho,resolve,invoke,builtin,Sem.run_bind,Sem.run_pure,Result.andThen_ok,List.map_toArray,List.map_cons,List.map_nil,hs,hx,hrun]
 rcases hr with ⟨rfl,rfl⟩ | ⟨b,off,rfl,hc⟩
 ·cases p with
  | some ad=>exact key ad rfl (fun j u hj=>by simp at hj)
  | none =>
   have hr:(Builtin.append_ #[t,t] o.type #[v,.slice none 0 c]).run P w=.ok v w:=by
    rcases hown.2 with ⟨rfl,rfl⟩ | ⟨g,cap,cur,rfl,_,_,hnc,_⟩
    ·simp [Builtin.append_,run_underlying ht,sizeOf,typeInfo,hi,Builtin.lenOf,Builtin.firstCells]
    ·simp [Builtin.append_,run_underlying ht,sizeOf,typeInfo,hi,Builtin.lenOf,Builtin.firstCells,hnc,storeCells]
   refine ⟨v,w,?_,by simpa using hown,⟨rfl,rfl,rfl,QN _,fun _ _ _=>rfl⟩,.inl rfl⟩;unfold execOp;simp only [ho,resolve,invoke,builtin,Sem.run_bind,Sem.run_pure,Result.andThen_ok,List.map_toArray,List.map_cons,List.map_nil,hs,hx,hr]
 ·refine key _ rfl (fun j u hj=>?_)
  rw [show (⟨b,off,none⟩:Addr).add j=⟨b,off+j,none⟩ from Addr.add_lit ..];exact hc j u hj
theorem QaQ {K:Value→World→Prop} (s x:Operand) (t:TypeId) (ho:o.op=.call { callee:=.builtin .append,args:=#[s,x],argTypes:=#[t,t] })
  (base:Nat) (e:TypeId) (i:TypeInfo) (z:Value) (size bytes:Nat) (ht:P.underlying t=some (.slice e)) (hi:P.info? e=some i) (hz:i.zero=some z) (hsize:i.size=size) (hby:i.bytes=bytes) (hzs:z.cells.size=size) (hsz:0<size)
  (v:Value) (n:Nat) (xs:List Value) (hs:a.eval s=v) (hown:w.ownsRow base e size v n xs)
  (p:Option Addr) (m c:Nat) (vs:List Value) (hx:a.eval x=.slice p m c) (hl:vs.length=m*size) (h1:∀ u∈vs,u.oneCell'=true)
  (hr:(m=0∧vs=[])∨∃ b off,p=some ⟨b,off,none⟩∧∀ j u,vs[j]?=some u→w.cell? ⟨b,off+j,none⟩=some u) (hsm:(n+m)*bytes≤140737488355328) (hnm:n+m≤maxLen) (hbase:base≤w.heap.size)
  (h:∀ v' w',w'.ownsRow base e size v' (n+m) (xs++vs)→w.grownBy w' v.ownBlock→(v'.ownBlock=v.ownBlock∨v'.ownBlock=some w.heap.size)→K v' w'):upV P K ((execOp a.eval o).run P w):=by
 obtain ⟨v',w',hrun,h2,h3,h5⟩:=QgZ (a:=a) (o:=o) s x t ho base e i z size bytes ht hi hz hsize hby hzs hsz v n xs hs hown p m c vs hx hl h1 hr hsm hnm hbase;rw [hrun];exact h v' w' h2 h3 h5
theorem Qdl {K:Value→World→Prop} (ty:TypeId) (x y:Operand) (ho:o.op=.store ty x y) (g:Nat) (hx:a.eval x=.pointer (some ⟨g,0,none⟩)) (v:Value) (hy:a.eval y=v) (h1:v.oneCell'=true)
  (t:TypeId) (old:Value) (hg:w.heap[g]?=some (.cells #[old] t (0,0))) (hi:(P.info? ty).map (·.size)=some 1) (h:K undef (w.setRow g #[v])):upV P K ((execOp a.eval o).run P w):=by
 subst hy;unfold execOp;simp only [ho,hx,Instr.storeAt,Instr.sureAddr,Sem.run_bind,Sem.run_pure,Result.andThen_ok,run_storeVar_one w g t ty old _ hg hi h1];exact h
theorem Wr.setRow {S S':Nat→Prop} {A B:World} (h:Wr S S' A B) {g:Nat} (hp:S g∨A.heap.size≤g) (cs:Array Value):Wr S S' A (B.setRow g cs) :=
 ⟨h.os,h.tape,h.output,by rw [size_setRow];exact h.size,fun b hb hs=>(setRow_other B g b cs (fun e=>by subst e;exact hp.elim hs (fun h2=>by omega))).trans (h.block b hb hs),h.new⟩
end
end
section
def Qat (S:Nat→Prop) (W:World) (f:Forest) (vs:List Value):Prop :=
 ∀ (W':World) (n' b off:Nat),(∀ x,S x→W'.heap[x]?=W.heap[x]?)→(∀ x,S x→x<n')→(∀ j u,vs[j]?=some u→W'.cell? ⟨b,off+j,none⟩=some u)→QcR n' W' f b off
section
variable {S T : Nat → Prop} {W W2 : World} {f g : Forest} {vs us : List Value}
theorem Qat.nil:Qat S W .nil []:=fun _ _ _ _ _ _ _=>trivial
theorem Qat.keep (h:Qat S W f vs) (hs:∀ x,S x→W2.heap[x]?=W.heap[x]?):Qat S W2 f vs:=fun W' n' b off h1 h2 h3=>h W' n' b off (fun x hx=>(h1 x hx).trans (hs x hx)) h2 h3
theorem Qat.widen (h:Qat S W f vs) (hs:∀ x,S x→T x):Qat T W f vs:=fun W' n' b off h1 h2 h3=>h W' n' b off (fun x hx=>h1 x (hs x hx)) (fun x hx=>h2 x (hs x hx)) h3
theorem Qat.app (h:Qat S W f vs) (k:Qat S W g us) (hl:vs.length=f.length*3):Qat S W (f.app g) (vs++us):=fun W' n' b off h1 h2 h3=>by
 refine QcR.app f g b off (h W' n' b off h1 h2 fun j u hj=>h3 j u ?_) (k W' n' b (off+f.length*3) h1 h2 fun j u hj=>?_)
 ·rw [List.getElem?_append_left (List.getElem?_eq_some_iff.1 hj).1];exact hj
 ·rw [Nat.add_assoc]
  refine h3 (f.length*3+j) u ?_;rw [List.getElem?_append_right (by omega),hl,Nat.add_sub_cancel_left];exact hj
theorem Qat.one {t:Int} {a:Option Addr} {len cap:Nat} {bs:List Int} {ka:Option Addr} {kl kc:Nat} {k:Forest} (ht1:-9223372036854775808≤t) (ht2:t≤9223372036854775807) (hbl:bs.length≤140737488351232)
  (hb:∀ (W':World) (n':Nat),(∀ x,S x→W'.heap[x]?=W.heap[x]?)→(∀ x,S x→x<n')→QaL n' W' (.slice a len cap) bs) (hk:∀ (W':World) (n':Nat),(∀ x,S x→W'.heap[x]?=W.heap[x]?)→(∀ x,S x→x<n')→SlF n' W' ka kl kc k) :
  Qat S W (.cons t bs k .nil) [.int .i64 t,.slice a len cap,.slice ka kl kc]:=fun W' n' b off h1 h2 h3=>by
 obtain ⟨q1,q2⟩:=hk W' n' h1 h2;exact ⟨a,len,cap,ka,kl,kc,h3 0 _ rfl,h3 1 _ rfl,h3 2 _ rfl,ht1,ht2,⟨hb W' n' h1 h2,hbl⟩,q1,q2,trivial⟩
end
theorem QbM {W:World} {base:Nat} {v:Value} {n:Nat} {bs:List Int} (h:W.ownsRow base 5 1 v n (bs.map (Value.int .u8))) (hb:∀ z∈bs,0≤z∧z≤255) (W':World) (n':Nat) (hs:∀ b,v.ownBlock=some b→W'.heap[b]?=W.heap[b]?∧b<n'):QaL n' W' v bs:=by
 have h':=Qac h fun b hb=>(hs b hb).1
 refine ⟨?_,hb⟩
 rcases (Qdb.of_own h').2 with h1 | ⟨b,off,cap,e,h2,h3,h4,h5⟩
 ·exact .inl h1
 ·refine .inr ⟨b,off,cap,e,?_,h3,h4,h5⟩
  exact (hs b (by rw [e];simp [Value.ownBlock])).2
theorem QgT {S:Nat→Prop} {W:World} {base:Nat} {ka:Option Addr} {kl kc:Nat} {f:Forest} {vs:List Value} (h:W.ownsRow base 66 3 (.slice ka kl kc) kl vs) (hr:Qat S W f vs) (hl:f.length=kl)
  (W':World) (n':Nat) (hs:∀ x,S x∨(Value.slice ka kl kc).ownBlock=some x→W'.heap[x]?=W.heap[x]?∧x<n'):SlF n' W' ka kl kc f:=by
 refine ⟨hl,?_⟩;by_cases h0:kl=0
 ·exact .inl h0
 ·have h':=Qac h fun b hb=>(hs b (.inr hb)).1
  have hvl:=h'.1
  rcases h.2 with ⟨_,h1⟩ | ⟨g,cap,cur,e,h2,h3,h4,h5,_⟩
  ·exact absurd h1 h0
  ·injection e with e1 _ e3
   subst e1 e3;refine .inr ⟨g,0,rfl,(hs g (.inr rfl)).2,h4,h5,hr W' n' g 0 (fun x hx=>(hs x (.inl hx)).1) (fun x hx=>(hs x (.inl hx)).2) fun j u hj=>?_⟩;have hjl:=(List.getElem?_eq_some_iff.1 hj).1;rw [Nat.zero_add,h'.cellAt j (by omega),hj]
section
variable {P : Program} {ops : Array Oper} {md : Region.Mode} {R : World → World → Prop} {o : Oper} {a : Act} {w : World}
theorem Qfq {K:Value→World→Prop} (ty:TypeId) (x y:Operand) (ho:o.op=.store ty x y) (g:Nat) (cells:Array Value) (hx:a.eval x=.pointer (some ⟨g,0,none⟩)) (hy:a.eval y=.agg cells)
  (t:TypeId) (old:Array Value) (hg:w.heap[g]?=some (.cells old t (0,0))) (hi:(P.info? ty).map (·.size)=some cells.size)
  (hold:old.size=cells.size) (h1:cells.all (·.oneCell')=true) (h:K undef (w.setRow g cells)):upV P K ((execOp a.eval o).run P w):=by
 unfold execOp;simp only [ho,hx,hy,Instr.storeAt,Instr.sureAddr,Sem.run_bind,Sem.run_pure,Result.andThen_ok,run_storeVar_row w g t ty old cells hg hi hold h1];exact h
theorem Qab {rest:List Oper} {Q:Exit→Act→World→Prop} (hgd:o.guard=none) (ty:TypeId) (x y:Operand) (ho:o.op=.store ty x y) (g:Nat) (cells:Array Value) (hx:a.eval x=.pointer (some ⟨g,0,none⟩)) (hy:a.eval y=.agg cells)
  (t:TypeId) (old:Array Value) (hg:w.heap[g]?=some (.cells old t (0,0))) (hi:(P.info? ty).map (·.size)=some cells.size)
  (hold:old.size=cells.size) (h1:cells.all (·.oneCell')=true) (h:wpList P ops Q rest (a.put o.dst undef) (w.setRow g cells)):wpList P ops Q (o::rest) a w:=by
 refine wpList_plain hgd fun K hK=>?_
 unfold Oper.wp execOp;simp only [ho,hx,hy,Instr.storeAt,Instr.sureAddr,Sem.run_bind,Sem.run_pure,Result.andThen_ok,run_storeVar_row w g t ty old cells hg hi hold h1];exact hK _ _ h
theorem Qan {rest:List Oper} {Q:Exit→Act→World→Prop} {t:TypeId} {x y:Operand} (ho:o.op=.store t x y) (h:Qag (wpList P ops Q (o::rest) a w)):wpList P ops Q (o::rest) a w:=h
theorem QjL {L:Act→World→Prop} (i j:Nat) {oi oj:Oper} {fuel:Nat} {listed:Array Bool} (hi:ops[i]?=some oi) (hj:ops[j]?=some oj) (hr:Region.ready md ops listed=[i,j])
  (hwi:Region.wanted oi (yielded ops a.tmps)=true) (hwj:Region.wanted oj (yielded ops a.tmps)=true)
  (h1:∀ K:Value→World→Prop,(∀ v w',R w w'→Qf8 R P md ops L fuel (listed.setIfInBounds i true) (a.put oi.dst v) w'→K v w')→upV P K ((execOp a.eval oi).run P w))
  (h2:∀ K:Value→World→Prop,(∀ v w',R w w'→Qf8 R P md ops L fuel (listed.setIfInBounds j true) (a.put oj.dst v) w'→K v w')→upV P K ((execOp a.eval oj).run P w)):Qf8 R P md ops L (fuel+1) listed a w:=by
 refine ⟨fun h0=>(by rw [hr] at h0;cases h0),fun q hq=>?_⟩;rw [hr] at hq;simp only [List.mem_cons,List.not_mem_nil,or_false] at hq
 rcases hq with rfl | rfl
 ·refine ⟨oi,hi,?_⟩
  unfold opV;rw [hwi,if_pos rfl]
  exact h1 _ fun v w' h3 h4=>⟨h3,h4⟩
 ·refine ⟨oj,hj,?_⟩
  unfold opV;rw [hwj,if_pos rfl]
  exact h2 _ fun v w' h3 h4=>⟨h3,h4⟩
end
def Qgq (k:Forest):Prop:=∀ (W:World) (n:Nat) (t:Int) (a:Option Addr) (len cap:Nat) (bs:List Int) (ka:Option Addr) (kl kc:Nat),n≤W.heap.size→-9223372036854775808≤t→t≤9223372036854775807→QaL n W (.slice a len cap) bs→SlF n W ka kl kc k→1+bs.length+k.cnt≤20000 →
 Calls Tryz.prog 59 #[.agg #[.int .i64 t,.slice a len cap,.slice ka kl kc]] W fun e W'=>∃ (a':Option Addr) (len' cap':Nat) (ka':Option Addr) (kl' kc':Nat),e=.returned (.agg #[.int .i64 t,.slice a' len' cap',.slice ka' kl' kc']) ∧
  Qat (fun x=>W.heap.size≤x∧x<W'.heap.size) W' (.cons t bs k .nil) [.int .i64 t,.slice a' len' cap',.slice ka' kl' kc']∧(∀ (W2:World) (n':Nat),(∀ x,W.heap.size≤x∧x<W'.heap.size→W2.heap[x]?=W'.heap[x]?)→(∀ x,W.heap.size≤x∧x<W'.heap.size→x<n')→QaL n' W2 (.slice a' len' cap') bs∧SlF n' W2 ka' kl' kc' k)∧Below W.heap.size W W'
end
section
section
variable {P : Program} {ops : Array Oper} {md : Region.Mode} {R : World → World → Prop}
def okS (md:Region.Mode) (ops:Array Oper):List Nat→Array Bool→Bool
 | [],_=>true
 | i::s,l=>Region.free md ops l i&&(Region.ready md ops l).contains i&&okS md ops s (l.setIfInBounds i true)
def Qpa (R:World→World→Prop) (P:Program) (md:Region.Mode) (ops:Array Oper) (L:Act→World→Prop) (s:List Nat) (f:Nat) (listed:Array Bool) (a:Act) (w:World):Prop :=
 Region.noSelect ops=true→okS md ops s listed=true→Qf8 R P md ops L f listed a w
variable {L : Act → World → Prop} {i : Nat} {s : List Nat} {o : Oper} {v : Value} {f : Nat} {listed : Array Bool} {a : Act} {w : World}
theorem Qam (s:List Nat) (h1:Region.noSelect ops=true) (h2:okS md ops s listed=true) (h:Qpa R P md ops L s f listed a w):Qf8 R P md ops L f listed a w:=h h1 h2
theorem Qax (hR:Pre R) (hi:ops[i]?=some o) (hw:Region.wanted o (yielded ops a.tmps)=true) (hy:∀ W,R w W→(execOp a.eval o).run P W=.ok (.value v) W)
  (h:∀ K:Act→Prop,(∀ a',Qpa R P md ops L s f (listed.setIfInBounds i true) a' w→K a')→K (a.put o.dst v)):Qpa R P md ops L (i::s) (f+1) listed a w:=fun h1 h2=>by
 simp only [okS,Bool.and_eq_true] at h2
 exact Qb5 i hR hi h1 h2.1.1 h2.1.2 hw hy fun K hK=>h K fun a' ha=>hK a' (ha h1 h2.2)
theorem Qap (hR:Pre R) (hi:ops[i]?=some o) (hw:Region.wanted o (yielded ops a.tmps)=false)
  (h:∀ K:Act→Prop,(∀ a',Qpa R P md ops L s f (listed.setIfInBounds i true) a' w→K a')→K (a.put o.dst undef)):Qpa R P md ops L (i::s) (f+1) listed a w:=fun h1 h2=>by
 simp only [okS,Bool.and_eq_true] at h2
 exact Qlg i hR hi h1 h2.1.1 h2.1.2 hw fun K hK=>h K fun a' ha=>hK a' (ha h1 h2.2)
theorem Qaw (h:Qf8 R P md ops L f listed a w):Qpa R P md ops L [] f listed a w:=fun _ _=>h
def Qpb (R:World→World→Prop) (P:Program) (md:Region.Mode) (ops:Array Oper) (z:Nat) (L:Array Bool→Act→World→Prop) (s:List Nat) (f:Nat) (listed:Array Bool) (a:Act) (w:World):Prop :=
 Region.noSelect ops=true→(Qcg md ops z&&s.all (·<z)&&okS md ops s listed)=true→Qg9 R P md ops z L f listed a w
variable {M : Array Bool → Act → World → Prop} {z : Nat}
theorem QbI (s:List Nat) (h1:Region.noSelect ops=true) (h2:(Qcg md ops z&&s.all (·<z)&&okS md ops s listed)=true) (h:Qpb R P md ops z M s f listed a w):Qg9 R P md ops z M f listed a w:=h h1 h2
theorem Qcr (hR:Pre R) (hi:ops[i]?=some o) (hw:Region.wanted o (yielded ops a.tmps)=true) (hy:∀ W,R w W→(execOp a.eval o).run P W=.ok (.value v) W)
  (h:∀ K:Act→Prop,(∀ a',Qpb R P md ops z M s f (listed.setIfInBounds i true) a' w→K a')→K (a.put o.dst v)):Qpb R P md ops z M (i::s) (f+1) listed a w:=fun h1 h2=>by
 simp only [okS,Bool.and_eq_true,List.all_cons,decide_eq_true_eq] at h2
 exact Qm6 i hR h2.1.1 h2.1.2.1 hi h1 h2.2.1.1 h2.2.1.2 hw hy fun K hK=>h K fun a' ha=>hK a' (ha h1 (by simp only [Bool.and_eq_true];exact ⟨⟨h2.1.1,h2.1.2.2⟩,h2.2.2⟩))
theorem Qb0 (hR:Pre R) (hi:ops[i]?=some o) (hw:Region.wanted o (yielded ops a.tmps)=false)
  (h:∀ K:Act→Prop,(∀ a',Qpb R P md ops z M s f (listed.setIfInBounds i true) a' w→K a')→K (a.put o.dst undef)):Qpb R P md ops z M (i::s) (f+1) listed a w:=fun h1 h2=>by
 simp only [okS,Bool.and_eq_true,List.all_cons,decide_eq_true_eq] at h2
 exact Qlh i hR h2.1.1 h2.1.2.1 hi h1 h2.2.1.1 h2.2.1.2 hw fun K hK=>h K fun a' ha=>hK a' (ha h1 (by simp only [Bool.and_eq_true];exact ⟨⟨h2.1.1,h2.1.2.2⟩,h2.2.2⟩))
theorem Qcq (h:Qg9 R P md ops z M f listed a w):Qpb R P md ops z M [] f listed a w:=fun _ _=>h
end
end
end Go.Proofs.YtejcandhijdnhaaGreat
