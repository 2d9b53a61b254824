/- Own texts of this seat, one behind the other, without needless spaces (part 16 of 26). -/
import Derived.Test.YtejcandhijdnhaaGreatMR01
import Derived.Test.YtejcandhijdnhaaGreatMR02
import Derived.Test.YtejcandhijdnhaaGreatMR08
import Derived.Test.YtejcandhijdnhaaGreatMR15
namespace Go.Proofs.YtejcandhijdnhaaGreat
open Go Go.RowKit
set_option linter.unusedVariables false
set_option linter.unusedSimpArgs false
set_option linter.unnecessarySimpa false
set_option maxRecDepth 100000
set_option maxHeartbeats 16000000
section
attribute [local go_sem] QaB QaJ QaA
def Qd2 (n:Nat) (W:World) (r:Option (List Int × Forest)) (tag:Int) (e:Ending) (W':World):Prop :=
 Below W.heap.size W W'∧match r with
 | none=>e=.returned (.tuple #[.agg #[.int .i64 0,.slice none 0 0,.slice none 0 0],.bool false])
 | some (bs,k)=>∃ (a:Option Addr) (len cap:Nat) (ka:Option Addr) (kl kc:Nat),e=.returned (.tuple #[.agg #[.int .i64 tag,.slice a len cap,.slice ka kl kc],.bool true])∧QaL n W' (.slice a len cap) bs∧SlF n W' ka kl kc k∧1+bs.length+k.cnt≤20000
theorem QfP (f:Forest) (W:World) (n:Nat) (hn:n≤W.heap.size) (a:Option Addr) (len cap:Nat) (h:SlF n W a len cap f) (hcnt:f.cnt≤20000) (tag nth:Int) :
  Calls Tryz.prog 24 #[.slice a len cap,.int .i64 tag,.int .i64 nth] W (Qd2 n W (Qah f tag nth) tag):=by
 have hs:=h.small;obtain ⟨hl,hc⟩:=h;have hlc:=Forest.length_le_cnt f
 have bn:∀ V,Below W.heap.size W V→Below n W V:=fun V h=>⟨h.os,h.tape,h.output,h.size,fun q hq=>h.block q (by omega)⟩
 go_enter Tryz.func24,Tryz.ntmps24;obtain ⟨Z,hZ⟩:∃ Z,Z=W.alloc (.cells #[.int .i64 0,.slice none 0 0,.slice none 0 0] 66):=⟨_,rfl⟩
 have bZ:Below W.heap.size W Z:=by rw [hZ];exact (QB _ W).alloc (QN _) _
 have pZ:Z.heap[W.heap.size]?=some (.cells zT 66):=by rw [hZ];exact QW W _
 have sZ:W.heap.size+1≤Z.heap.size:=by rw [hZ];simp
 go_wp2;rw [← hZ];go_loopw [8,9] (fun m i wr=>∃ (k c:Nat) (F:Forest),m=.int .i64 (c:Int)∧c≤k∧i=.int .i64 (k:Int)∧k+F.length=len∧F.cnt≤20000∧Hid (Qah F tag (nth-c)=Qah f tag nth)∧(∀ q off,a=some ⟨q,off,none⟩→0<len→q<n∧len≤cap∧cap≤maxLen∧QcR n W F q (off+k*3))∧(0<len→∃ q off,a=some ⟨q,off,none⟩)∧wr.heap[W.heap.size]?=some (.cells zT 66)∧W.heap.size+1≤wr.heap.size∧Below W.heap.size W wr) (fun _ i _=>len-(intOf i).toNat)
 case atStart =>
  refine ⟨0,0,f,rfl,QN _,rfl,by omega,hcnt,by simp [Hid],fun q off ha hl=>?_,fun hl=>?_,pZ,sZ,bZ⟩
  ·rcases hc with h0 | ⟨b',off',ha',hb',hc1,hc2,hrow⟩
   ·omega
   ·rw [ha] at ha';injection ha' with ha';injection ha' with e1 e2;subst e1 e2
    exact ⟨hb',hc1,hc2,by simpa using hrow⟩
  ·rcases hc with h0 | ⟨b',off',ha',_⟩
   ·omega
   ·exact ⟨b',off',ha'⟩
 case round =>
  clear pZ sZ bZ hZ hc;obtain ⟨k,c,F,rfl,hck,rfl,hkF,hcF,hV,hrF,hha,hp,hps,hb0⟩:=hrel;by_cases hlt:k<len
  rotate_left
  ·have t1:decide ((k:Int)<(len:Int))=false:=by simp;omega
   have hF:F=.nil:=by
    cases F with
    | nil=>rfl
    | cons t bs k2 r=>simp [Forest.length] at hkF;omega
   subst hF;have hnone:Qah f tag nth=none:=(show Qah .nil tag (nth-c)=Qah f tag nth from hV).symm;have HN:=QQ hnone;have e9:(wr.setRow W.heap.size zT).heap[W.heap.size]?=some (.cells zT 66):=setRow_heap _ _ _ _ _ _ hp;have b9:=Qaj hb0 (QN _) zT;clear hnone hV hrF hha hb0;go_wp2_with ((fail_if_success (unfold Qag));refine Qan (t:=66) rfl ?_);unfold Qag;refine Qab rfl 66 (.tmp 6) (.tmp 32) rfl W.heap.size zT rfl rfl 66 zT hp QbO rfl (QaS ..) ?_;go_wp2_with fail;refine bodyPost_ret (QaT rfl _ _ _ W.heap.size 66 zT (0,0) _ rfl e9 Tryz.underlying66 QbO) rfl ?_;unfold Qd2;rw [show Qah f tag nth=none from HN];exact ⟨b9,rfl⟩
  have t1:decide ((k:Int)<(len:Int))=true:=by simp;omega
  obtain ⟨q,off,rfl⟩:=hha (by omega);obtain ⟨hqn,hc1,hc2,hrow⟩:=hrF q off rfl (by omega);simp only [maxLen] at hc2;have hrow':QcR n wr F q (off+k*3):=QcR.below (bn _ hb0) F q _ hqn hrow;obtain ⟨t',bs',k',r,a1,l1,c1,ka1,kl1,kc1,rfl,q0,q1,q2,hr1,hr2,hrb,hrk,hrr⟩:=hrow'.open (by omega)
  have hNext:=QQ (fun (q':Nat) (off':Nat) (ha:some (Addr.mk q off none)=some ⟨q',off',none⟩) (_:0<len)=>(by
   injection ha with ha;injection ha with e1 e2 _
   subst e1 e2;have hc:=hrow;obtain ⟨_,_,_,_,_,_,_,_,_,_,_,_,_,_,hc'⟩:=hc;refine ⟨hqn,hc1,by simp only [maxLen];omega,?_⟩;rw [show off+(k+1)*3=off+k*3+3 by omega]
   exact hc':q'<n∧len≤cap∧cap≤maxLen∧QcR n W r q' (off'+(k+1)*3)))
  have hHA:=QQ (fun (_:0<len)=>(⟨q,off,rfl⟩:∃ q' off',some (Addr.mk q off none)=some ⟨q',off',none⟩))
  have hcF2:r.cnt≤20000∧1+bs'.length+k'.cnt≤20000:=by simp only [Forest.cnt] at hcF;omega
  have hkr:k+1+r.length=len:=by simp only [Forest.length] at hkF;omega
  clear hrF hha hrow hrow' hrr hcF hkF;by_cases htt:t'=tag
  rotate_left
  ·have t2:(t' == tag)=false:=by simpa using htt
   have hV':Qah r tag (nth-c)=Qah f tag nth:=by
    rw [← (show Qah (.cons t' bs' k' r) tag (nth-c)=Qah f tag nth from hV),Qah,if_neg htt]
   have HV':=QQ hV';clear htt hV' hV hrb hrk;go_wp2_with fail;go_roundw
   case rel=>exact ⟨k+1,c,r,rfl,by omega,by go_num,hkr,hcF2.1,HV',hNext,hHA,hp,hps,hb0⟩
   case measure=>simp [intOf];omega
  subst htt
  have t2:(t' == t')=true:=by simp
  by_cases hN0:(c:Int)=nth
  rotate_left
  ·have t3:((c:Int) == nth)=false:=by simpa using hN0
   have hV':Qah r t' (nth-((c+1:Nat):Int))=Qah f t' nth:=by
    rw [← (show Qah (.cons t' bs' k' r) t' (nth-c)=Qah f t' nth from hV),Qah,if_pos rfl,if_neg (by omega)]
    congr 1;omega
   have HV':=QQ hV';clear hN0 hV' hV hrb hrk;go_wp2_with fail;go_roundw
   case rel=>exact ⟨k+1,c+1,r,by go_num,by omega,by go_num,hkr,hcF2.1,HV',hNext,hHA,hp,hps,hb0⟩
   case measure=>simp [intOf];omega
  subst hN0
  have hsome:Qah f t' (c:Int)=some (bs',k'):=by
   rw [← (show Qah (.cons t' bs' k' r) t' ((c:Int)-c)=Qah f t' (c:Int) from hV),Qah,if_pos rfl,if_pos (by omega)]
  have HN:=QQ hsome
  have t3:((c:Int) == (c:Int))=true:=by simp
  have hcs:=hcF2.2;have e9:(wr.setRow W.heap.size #[.int .i64 t',.slice a1 l1 c1,.slice ka1 kl1 kc1]).heap[W.heap.size]?=some (.cells #[.int .i64 t',.slice a1 l1 c1,.slice ka1 kl1 kc1] 66):=setRow_heap _ _ _ _ _ _ hp;have b9:=Qaj hb0 (QN _) #[.int .i64 t',.slice a1 l1 c1,.slice ka1 kl1 kc1];obtain ⟨W9,hW9⟩:∃ W9,W9=wr.setRow W.heap.size #[.int .i64 t',.slice a1 l1 c1,.slice ka1 kl1 kc1]:=⟨_,rfl⟩
  have hP:QaL n W9 (.slice a1 l1 c1) bs'∧SlF n W9 ka1 kl1 kc1 k'∧1+bs'.length+k'.cnt≤20000:=by
   have h9:Below n wr W9:=by
    rw [hW9];exact ⟨rfl,rfl,rfl,by rw [size_setRow];exact QN _,fun b hb=>setRow_other _ _ _ _ (by omega)⟩
   have s9:n≤W9.heap.size:=by rw [hW9,size_setRow];omega
   exact ⟨hrb.1.below h9,hrk.below h9,hcs⟩
  rw [← hW9] at e9 b9;have HW9:=QQ hW9;clear hsome hV hrb hrk hNext hHA hcF2 hb0 hW9;go_wp2_with ((fail_if_success (unfold Qag));refine Qan (t:=66) rfl ?_);unfold Qag;refine Qab rfl 66 (.tmp 6) (.tmp 29) rfl W.heap.size #[.int .i64 t',.slice a1 l1 c1,.slice ka1 kl1 kc1] rfl rfl 66 zT hp QbO rfl (QaS ..) ?_;rw [show wr.setRow W.heap.size #[.int .i64 t',.slice a1 l1 c1,.slice ka1 kl1 kc1]=W9 from (QG HW9).symm];clear HW9 hp;go_wp2_with fail;refine bodyPost_ret (QaT rfl _ _ _ W.heap.size 66 #[.int .i64 t',.slice a1 l1 c1,.slice ka1 kl1 kc1] (0,0) _ rfl e9 Tryz.underlying66 QbO) rfl ?_;unfold Qd2;rw [show Qah f t' (c:Int)=some (bs',k') from HN];exact ⟨b9,_,_,_,_,_,_,rfl,hP⟩
theorem QcZ {n:Nat} {W w1:World} {r:Option (List Int × Forest)} {tag:Int} {e:Ending} (h:Qd2 n W r tag e w1) :
  Below W.heap.size W w1∧∃ (t:Int) (a1:Option Addr) (l1 c1:Nat) (ka:Option Addr) (kl kc:Nat) (ok:Bool),e=.returned (.tuple #[.agg #[.int .i64 t,.slice a1 l1 c1,.slice ka kl kc],.bool ok])∧QaL n w1 (.slice a1 l1 c1) (Qao r)∧(Qao r).length≤20000:=by
 obtain ⟨b1,F1⟩:=h;refine ⟨b1,?_⟩
 cases r with
 | none=>exact ⟨0,none,0,0,none,0,0,false,F1,Qdu _ _,by simp [Qao]⟩
 | some p =>
  obtain ⟨bs,k⟩:=p;obtain ⟨a1,l1,c1,ka,kl,kc,rfl,F2,_,F4⟩:=F1;exact ⟨tag,a1,l1,c1,ka,kl,kc,true,rfl,F2,by show bs.length≤_;omega⟩
end
section
def QeW (bs:List Int) (k:Nat):List Int:=(List.range 16).map fun i=>if i<k then atB bs (8+4*i) 4 else 0
def sgD (bs:List Int):Sg:=⟨atB bs 0 4,atB bs 4 4,QeW bs 16,atB bs 72 1 == 1⟩
def Qf9 (bs:List Int) (i:Nat):Pg:=⟨bs.getD (4*i) 0,bs.getD (4*i+1) 0,bs.getD (4*i+3) 0 % 2 == 1,bs.getD (4*i+3) 0 / 2 % 2 == 1,bs.getD (4*i+3) 0 / 4 % 2 == 1⟩
def pgD (bs:List Int):List Pg:=(List.range (bs.length / 4)).map (Qf9 bs)
def Qb8 (k:Forest):Pr :=
 if Qcy k 9=2 then prZ (Qcy k 7) (Qcy k 8) 2 (Qcy k 10 % 4294967296)
 else ⟨Qcy k 7,Qcy k 8,Qcy k 9,0,cpD (Qao (Qah k 11 0)),cpD (Qao (Qah k 12 0)),sgD (Qao (Qah k 13 0)),
  Qcy k 14,Qcy k 15,Qcy k 16 % 4294967296,(Qao (Qah k 17 0)).map QbJ,pgD (Qao (Qah k 18 0))⟩
def DrQ (W:World) (k:Forest):Exit→Act→World→Prop :=
 bodyPost Tryz.prog Tryz.f27 fun e W'=>∃ fa fc pa pc,e=.returned (.agg ((Qb8 k).vals fa fc pa pc).toArray)∧Qb3 W.heap.size W' fa fc pa pc (Qb8 k)∧Below W.heap.size W W'
structure Qa0 (W:World) (a:Option Addr) (len cap:Nat) (k:Forest) (T Fb:Nat) (p:Pr) (c:Array Value) (V:World) (fa:Option Addr) (fc:Nat) (pa:Option Addr) (pc:Nat):Prop where
 fields:SlF W.heap.size W a len cap k
 cnt:k.cnt≤20000
 below:Below W.heap.size W V
 eR:V.heap[W.heap.size]?=some (.cells QdQ 54)
 eT:V.heap[T]?=some (.cells (p.vals fa fc pa pc).toArray 54)
 hT:W.heap.size<T
 eF:V.heap[Fb]?=some (.cells c 66)
 hc:c.size=3
 hF:T<Fb
 own:Qb3 (Fb+1) V fa fc pa pc p
 ok:p.Ok
theorem Qfn {n:Nat} {W V:World} {v:Value} {bs:List Int} (b:Below n W V) (h:QaL n V v bs):QaL n W v bs:=h.same fun x hx=>(b.block x (h.lt x hx)).symm
section
variable {W : World} {a : Option Addr} {len cap : Nat} {k : Forest} {T Fb : Nat} {p : Pr} {c : Array Value} {V : World} {fa : Option Addr} {fc : Nat} {pa : Option Addr} {pc : Nat}
theorem Qa0.lF (h:Qa0 W a len cap k T Fb p c V fa fc pa pc):Fb<V.heap.size:=(QI.1 h.eF).1
theorem Qa0.find (h:Qa0 W a len cap k T Fb p c V fa fc pa pc) (tag:Int):Calls Tryz.prog 24 #[.slice a len cap,.int .i64 tag,.int .i64 0] V (Qd2 W.heap.size V (Qah k tag 0) tag) :=
 QfP k V W.heap.size h.below.size a len cap (h.fields.below h.below) h.cnt tag 0
theorem Qa0.value (h:Qa0 W a len cap k T Fb p c V fa fc pa pc) (tag:Int):Calls Tryz.prog 25 #[.slice a len cap,.int .i64 tag] V fun e W'=>e=.returned (.int .i64 (Qcy k tag))∧Below V.heap.size V W' :=
 Qgl k h.cnt a len cap V ((h.fields.below h.below).mono h.below.size) tag
theorem Qa0.grow (h:Qa0 W a len cap k T Fb p c V fa fc pa pc) {V1:World} (b:Below V.heap.size V V1):Qa0 W a len cap k T Fb p c V1 fa fc pa pc:=by
 have lF:=h.lF;have hT:=h.hT;have hF:=h.hF;exact ⟨h.fields,h.cnt,h.below.trans (b.mono h.below.size),(b.block _ (by omega)).trans h.eR,(b.block _ (by omega)).trans h.eT,hT,(b.block _ lF).trans h.eF,h.hc,hF,Qb3.keep h.own fun x hx=>b.block _ (hx.elim (fun hx=>(h.own.1.lt x hx).2) (fun hx=>(h.own.2.1.lt x hx).2)),h.ok⟩
theorem Qa0.fld (h:Qa0 W a len cap k T Fb p c V fa fc pa pc) (c':Array Value) (hc:c'.size=3):Qa0 W a len cap k T Fb p c' (V.setRow Fb c') fa fc pa pc:=by
 have lF:=h.lF;have hT:=h.hT;have hF:=h.hF;refine ⟨h.fields,h.cnt,Qaj h.below (by omega) _,?_,?_,hT,setRow_heap _ _ _ _ _ _ h.eF,hc,hF,Qb3.keep h.own fun x hx=>setRow_other _ _ _ _ ?_,h.ok⟩
 ·rw [setRow_other _ _ _ _ (by omega)];exact h.eR
 ·rw [setRow_other _ _ _ _ (by omega)];exact h.eT
 ·have hl:Fb+1≤x:=hx.elim (fun hx=>(h.own.1.lt x hx).1) (fun hx=>(h.own.2.1.lt x hx).1)
  omega
theorem Qa0.put2 (h:Qa0 W a len cap k T Fb p c V fa fc pa pc) {V1:World} {row:Option Nat} (hg:V.grownBy V1 row) (hr:∀ g,row=some g→Fb+1≤g) (p':Pr) {fa':Option Addr} {fc':Nat} {pa':Option Addr} {pc':Nat} (ho:p'.Ok) (own:Qb3 (Fb+1) V1 fa' fc' pa' pc' p') {R:Array Value} (hR:R=(p'.vals fa' fc' pa' pc').toArray) :
  V1.heap[T]?=some (.cells (p.vals fa fc pa pc).toArray 54)∧Qa0 W a len cap k T Fb p' c (V1.setRow T R) fa' fc' pa' pc':=by
 subst hR;have lF:=h.lF;have hT:=h.hT;have hF:=h.hF
 have hb:∀ x,x≤Fb→V1.heap[x]?=V.heap[x]?:=fun x hx=>hg.block x (by omega) (fun e=>by have:=hr x e.symm;omega)
 have e1:=(hb T (by omega)).trans h.eT;refine ⟨e1,h.fields,h.cnt,Qaj (h.below.grown hg h.below.size (fun x e=>by have:=hr x e;omega)) (by omega) _,?_,setRow_heap _ _ _ _ _ _ e1,hT,?_,h.hc,hF,Qb3.keep own fun x hx=>setRow_other _ _ _ _ ?_,ho⟩
 ·rw [setRow_other _ _ _ _ (by omega),hb _ (by omega)];exact h.eR
 ·rw [setRow_other _ _ _ _ (by omega),hb _ (by omega)];exact h.eF
 ·have hl:Fb+1≤x:=hx.elim (fun hx=>(own.1.lt x hx).1) (fun hx=>(own.2.1.lt x hx).1)
  omega
theorem Qiy (V:World):V.grownBy V none:=⟨rfl,rfl,rfl,QN _,fun _ _ _=>rfl⟩
theorem Qa0.put (h:Qa0 W a len cap k T Fb p c V fa fc pa pc) (p':Pr) (hf:p'.fds=p.fds) (hp:p'.pages=p.pages) (ho:p'.Ok) {R:Array Value} (hR:R=(p'.vals fa fc pa pc).toArray):Qa0 W a len cap k T Fb p' c (V.setRow T R) fa fc pa pc :=
 (h.put2 (Qiy V) (fun g e=>by cases e) p' ho (by unfold Qb3;rw [hf,hp];exact h.own) hR).2
theorem Qa0.fds (h:Qa0 W a len cap k T Fb p c V fa fc pa pc) (z:Int) {V1:World} {v':Value} (ho:V1.ownsRow (Fb+1) 3 1 v' (p.fds.length+1) (p.fds.map (Value.int .i64)++[.int .i64 z])) (hg:V.grownBy V1 (Value.slice fa p.fds.length fc).ownBlock) :
  ∃ ga gc,v'=.slice ga (p.fds++[z]).length gc∧V1.heap[T]?=some (.cells (p.vals fa fc pa pc).toArray 54)∧Qa0 W a len cap k T Fb { p with fds:=p.fds++[z] } c (V1.setRow T (((p.vals fa fc pa pc).toArray).setIfInBounds 51 v')) ga gc pa pc:=by
 have hp:=h.own.2.1.kept hg (QaK (by decide) h.own.1 h.own.2.1);have hlt:=h.own.1.lt
 rcases ho.2 with ⟨_,h0⟩ | ⟨g,gc,cur,rfl,_⟩
 ·omega
 ·refine ⟨some ⟨g,0,none⟩,gc,by rw [QL];rfl,?_⟩
  refine h.put2 hg (fun x hx=>(hlt x hx).1) { p with fds:=p.fds++[z] } h.ok ⟨?_,hp,by simp,h.own.2.2.2⟩ ?_
  ·have e:(p.fds++[z]).length=p.fds.length+1:=by simp
   show V1.ownsRow (Fb+1) 3 1 (.slice (some ⟨g,0,none⟩) (p.fds++[z]).length gc) (p.fds++[z]).length ((p.fds++[z]).map (Value.int .i64));rw [e,List.map_append];exact ho
  ·have:=Qgm p fa fc pa pc h.ok (some ⟨g,0,none⟩) gc (p.fds++[z])
   rw [← this,QL];rfl
theorem Qa0.pgs (h:Qa0 W a len cap k T Fb p c V fa fc pa pc) (z:Pg) {V1:World} {v':Value} (ho:V1.ownsRow (Fb+1) 110 6 v' (p.pages.length+1) (p.pages.flatMap Pg.vals++z.vals)) (hg:V.grownBy V1 (Value.slice pa p.pages.length pc).ownBlock) :
  ∃ ga gc,v'=.slice ga (p.pages++[z]).length gc∧V1.heap[T]?=some (.cells (p.vals fa fc pa pc).toArray 54)∧Qa0 W a len cap k T Fb { p with pages:=p.pages++[z] } c (V1.setRow T (((p.vals fa fc pa pc).toArray).setIfInBounds 54 v')) fa fc ga gc:=by
 have hp:=h.own.1.kept hg (QaK (by decide) h.own.2.1 h.own.1);have hlt:=h.own.2.1.lt
 rcases ho.2 with ⟨_,h0⟩ | ⟨g,gc,cur,rfl,_⟩
 ·omega
 ·refine ⟨some ⟨g,0,none⟩,gc,by rw [QL];rfl,?_⟩
  refine h.put2 hg (fun x hx=>(hlt x hx).1) { p with pages:=p.pages++[z] } h.ok ⟨hp,?_,h.own.2.2.1,by simp⟩ ?_
  ·have e:(p.pages++[z]).length=p.pages.length+1:=by simp
   show V1.ownsRow (Fb+1) 110 6 (.slice (some ⟨g,0,none⟩) (p.pages++[z]).length gc) (p.pages++[z]).length ((p.pages++[z]).flatMap Pg.vals);rw [e,List.flatMap_append,List.flatMap_cons,List.flatMap_nil,List.append_nil];exact ho
  ·have:=QeL p fa fc pa pc h.ok (some ⟨g,0,none⟩) gc (p.pages++[z])
   rw [← this,QL];rfl
end
def Qcl (W:World) (a:Option Addr) (len cap:Nat) (k:Forest) (T Fb:Nat) (cd:Code) (p:Pr):Prop :=
 ∀ (u1 u5 u6 u7 u8 u9 u10 u11 u12 u13 u14 u15 u16 u17 u18 u19 u20 u21 u22 u23 u24 u25 u26 u27 u28 u29 u30 u31 u32 u33 u34 u35 u36 u37 u38 u39 u40 u41 u42 u43 u44 u45 u46 u47 u48 u49 u50 u51 u52 u53 u54 u55 u56 u57 u58 u59 u60 u61 u62 u63 u64 u65 u66 u67 u68 u69 u70 u71 u72 u73 u74 u75 u76 u77 u78 u79 u80 u81 u82 u83 u84 u85 u86 u87 u88 u89 u90 u91 u92 u93 u94 u95 u96 u97 u98 u99 u100 u101 u102 u103 u104 u105 u106 u107 u108 u109 u110 u111 u112 u113 u114 u115 u116 u117 u118 u119 u120 u121 u122 u123 u124 u125 u126 u127 u128 u129 u130 u131 u132 u133 u134 u135 u136 u137 u138 u139 u140 u141 u142 u143 u144 u145 u146 u147 u148 u149 u150 u151 u152 u153 u154 u155 u156 u157 u158 u159 u160 u161 u162 u163 u164 u165 u166 u167 u168:Value) (c:Array Value) (V:World) (fa:Option Addr) (fc:Nat) (pa:Option Addr) (pc:Nat),Qa0 W a len cap k T Fb p c V fa fc pa pc →
  cd.wp Tryz.prog (DrQ W k) { tmps:=#[.slice a len cap,u1,.pointer (some ⟨W.heap.size,0,none⟩),.pointer (some ⟨T,0,none⟩),.pointer (some ⟨Fb,0,none⟩),u5,u6,u7,u8,u9,u10,u11,u12,u13,u14,u15,u16,u17,u18,u19,u20,u21,u22,u23,u24,u25,u26,u27,u28,u29,u30,u31,u32,u33,u34,u35,u36,u37,u38,u39,u40,u41,u42,u43,u44,u45,u46,u47,u48,u49,u50,u51,u52,u53,u54,u55,u56,u57,u58,u59,u60,u61,u62,u63,u64,u65,u66,u67,u68,u69,u70,u71,u72,u73,u74,u75,u76,u77,u78,u79,u80,u81,u82,u83,u84,u85,u86,u87,u88,u89,u90,u91,u92,u93,u94,u95,u96,u97,u98,u99,u100,u101,u102,u103,u104,u105,u106,u107,u108,u109,u110,u111,u112,u113,u114,u115,u116,u117,u118,u119,u120,u121,u122,u123,u124,u125,u126,u127,u128,u129,u130,u131,u132,u133,u134,u135,u136,u137,u138,u139,u140,u141,u142,u143,u144,u145,u146,u147,u148,u149,u150,u151,u152,u153,u154,u155,u156,u157,u158,u159,u160,u161,u162,u163,u164,u165,u166,u167,u168],defers:=[] } V
theorem QdJ {P:Program} {ops:Array Oper} {rest:List Oper} {o:Oper} {a:Act} {w:World} {Q:Exit→Act→World→Prop} (hgd:o.guard=none) (ty:TypeId) (x y:Operand) (ho:o.op=.store ty x y)
  (g off:Nat) (cells:Array Value) (hx:a.eval x=.pointer (some ⟨g,off,none⟩)) (hy:a.eval y=.agg cells)
  (t:TypeId) (cur:Array Value) (hg:w.heap[g]?=some (.cells cur t (0,0))) (hi:(P.info? ty).map (·.size)=some cells.size)
  (hfit:off+cells.size≤cur.size) (h1:cells.all (·.oneCell')=true)
  (h:wpList P ops Q rest (a.put o.dst undef) (w.setRow g (cur.toList.take off++cells.toList++cur.toList.drop (off+cells.size)).toArray)):wpList P ops Q (o::rest) a w:=by
 refine wpList_plain hgd fun K hK=>?_
 have hs:=run_storeCells_at (P:=P) g off t cells.toList 0 cur w hg (by simpa using hfit) (fun v hv=>(Array.all_eq_true_iff_forall_mem.1 h1) v (by simpa using hv))
 have hv:(storeVar ty ⟨g,off,none⟩ (.agg cells)).run P w=.ok () (w.setRow g (cur.toList.take off++cells.toList++cur.toList.drop (off+cells.size)).toArray):=by
  cases hq:P.info? ty with
  | none=>simp [hq] at hi
  | some i =>
   have hs2:cells.size=i.size:=by simp [hq] at hi;omega
   simp only [Nat.add_zero,Array.length_toList] at hs;simp [storeVar,sizeOf,typeInfo,hq,Value.cells,hs2];rw [hs2] at hs;simpa using hs
 unfold Oper.wp execOp;simp only [ho,hx,hy,Instr.storeAt,Instr.sureAddr,Sem.run_bind,Sem.run_pure,Result.andThen_ok,hv];exact hK _ _ h
end
theorem Qqu (W:World) (a:Option Addr) (len cap:Nat) (k:Forest) (T Fb:Nat) (p:Pr)
  (hn:Qcl W a len cap k T Fb (tl 7 (Tryz.f27.body.getD .skip)) { p with saved:=cpD (Qao (Qah k 12 0)) }) :
  Qcl W a len cap k T Fb (tl 5 (Tryz.f27.body.getD .skip)) p:=by
 iterate 165 intro
 intro c V fa fc pa pc h;have kf:=h.find 12;have HH:=QQ h;have HN:=QQ hn;obtain ⟨bs,hbs⟩:∃ bs,bs=Qao (Qah k 12 0):=⟨_,rfl⟩;have HB:=QQ hbs;clear hn h hbs
 conv=>arg 2;whnf
 refine wp_seq_k (fun K aK=>?_);have AK:=QQ aK;clear aK;go_wp2_with (go_at_call 24;refine Qau ?_);unfold Qag;refine kf.mono ?_;rintro e w1 F1;obtain ⟨b1,t,a1,l1,c1,ka,kl,kc,ok,rfl,hrow,hbl⟩:=QcZ F1;rw [show Qao (Qah k 12 0)=bs from (QG HB).symm] at hrow hbl;have inv1:=(QG HH).grow b1;have hc:=inv1.hc;have eF:=inv1.eF;have INV1:=QQ inv1;have HROW:=QQ hrow;clear kf F1 b1 HH hrow inv1;dsimp only;go_wp2_with ((fail_if_success (unfold Qag));refine Qan (t:=66) rfl ?_);unfold Qag;refine Qab rfl 66 (.tmp 4) (.tmp 38) rfl Fb #[.int .i64 t,.slice a1 l1 c1,.slice ka kl kc] rfl rfl 66 c eF QbO (by rw [hc];rfl) (QaS ..) ?_;have inv2:=(QG INV1).fld #[.int .i64 t,.slice a1 l1 c1,.slice ka kl kc] rfl;obtain ⟨V2,hV2⟩:∃ V2,V2=w1.setRow Fb #[.int .i64 t,.slice a1 l1 c1,.slice ka kl kc]:=⟨_,rfl⟩;rw [← hV2] at inv2 ⊢
 have q1:V2.cell? ⟨Fb,1,none⟩=some (.slice a1 l1 c1):=by rw [cell_of_row V2 _ 1 _ _ _ inv2.eF];rfl
 have hr2:QaL V2.heap.size V2 (.slice a1 l1 c1) bs:=by
  have inv1:=(QG INV1);have h0:=Qfn inv1.below (QG HROW);exact (h0.below inv2.below).mono inv2.below.size
 have INV2:=QQ inv2;clear hV2 eF hc inv2 INV1 HROW;have kd:=QjR V2 a1 l1 c1 bs hr2 (by omega);have hok:=Qhk hr2.2;have hone:=Qgz (cpD bs)
 have hsz:(cpD bs).vals.toArray.size=11:=by rw [QS,Cp.vals_length hok]
 obtain ⟨cp,hcp⟩:∃ cp,cp=cpD bs:=⟨_,rfl⟩;rw [← hcp] at kd hok hone hsz;obtain ⟨R,hR⟩:∃ R,R=cp.vals.toArray:=⟨_,rfl⟩;rw [← hR] at kd hone hsz;have HCP:=QQ (QA hcp hR);clear hcp hR hr2 hbl;go_wp2;refine (QG AK) _ _ ?_;clear AK K;refine wp_seq_k (fun K aK=>?_);have AK:=QQ aK;clear aK;go_wp2_with (go_at_call 68;refine Qau ?_);unfold Qag;refine kd.mono ?_;rintro e w3 ⟨rfl,b3⟩;have inv3:=(QG INV2).grow b3;have eT:=inv3.eT
 have hvl:((p.vals fa fc pa pc).toArray).size=55:=by rw [QS,Pr.vals_length inv3.ok]
 have inv4:=inv3.put { p with saved:=cp } rfl rfl ⟨inv3.ok.1,hok,inv3.ok.2.2⟩ (R:=(((p.vals fa fc pa pc).toArray).toList.take 15++R.toList++((p.vals fa fc pa pc).toArray).toList.drop (15+R.size)).toArray) (by
  obtain ⟨_,hR⟩:=(QG HCP);rw [hsz,hR]
  exact congrArg List.toArray (QhA p fa fc pa pc inv3.ok cp hok))
 have INV4:=QQ inv4;clear kd q1 b3 inv3 inv4 INV2;go_wp2_with ((fail_if_success (unfold Qag));refine Qan (t:=45) rfl ?_);unfold Qag;refine QdJ rfl 45 (.tmp 43) (.tmp 42) rfl T 15 R rfl rfl 54 _ eT (by rw [hsz];exact Qbv) (by rw [hsz,hvl];decide) hone ?_;go_wp2;refine (QG AK) _ _ ?_;obtain ⟨hcp,_⟩:=(QG HCP);have inv4:=(QG INV4);rw [hcp,show bs=Qao (Qah k 12 0) from HB] at inv4;apply (QG HN);exact inv4
section
theorem QkL (bs:List Int):QeW bs 0=List.replicate 16 0:=by simp [QeW];rfl
theorem Qf0 (bs:List Int) (k:Nat):(QeW bs k).length=16:=by simp [QeW]
theorem Ql1 (bs:List Int) (k:Nat) (h:k<16):(QeW bs k).set k (atB bs (8+4*k) 4)=QeW bs (k+1):=by
 unfold QeW;apply List.ext_getElem
 ·simp
 ·intro i h1 h2
  simp only [List.length_set,QM,List.length_range] at h1;rw [List.getElem_set];simp only [List.getElem_map,List.getElem_range];by_cases e:k=i
  ·subst e;simp
  ·simp only [e,if_false]
   by_cases h3:i<k
   ·rw [if_pos h3,if_pos (by omega)]
   ·rw [if_neg h3,if_neg (by omega)]
theorem QfZ {bs:List Int} (hz:∀ z∈bs,0≤z∧z≤255) (k:Nat):∀ z∈QeW bs k,0≤z∧z<4294967296:=by
 intro z h;obtain ⟨i,_,rfl⟩:=List.mem_map.1 h
 split
 ·exact Qbz hz _
 ·omega
def sgK (bs:List Int) (k:Nat):Sg:=⟨atB bs 0 4,atB bs 4 4,QeW bs k,false⟩
theorem QpD {bs:List Int} (hz:∀ z∈bs,0≤z∧z≤255) (k:Nat):(sgK bs k).Ok:=⟨Qbz hz 0,Qbz hz 4,Qf0 _ _,QfZ hz k⟩
theorem QmI {bs:List Int} (hz:∀ z∈bs,0≤z∧z≤255):(sgD bs).Ok:=⟨Qbz hz 0,Qbz hz 4,Qf0 _ _,QfZ hz 16⟩
section
variable (p : Pr) (fa : Option Addr) (fc : Nat) (pa : Option Addr) (pc : Nat)
theorem QnR (h:p.Ok):(p.head++p.cpu.vals++p.saved.vals).length=26:=by simp [Pr.head,Cp.vals_length h.1,Cp.vals_length h.2.1]
theorem QmY (h:p.Ok) (x:Int):(p.vals fa fc pa pc).toArray.setIfInBounds 26 (.int .u32 x)=(({ p with sig:={ p.sig with pend:=x } }:Pr).vals fa fc pa pc).toArray:=by
 have:=QdS (p.head++p.cpu.vals++p.saved.vals) ([Value.int .u32 p.sig.mask]++p.sig.hand.map (Value.int .u32)++[Value.bool p.sig.busy]++p.tail fa fc pa pc) (.int .u32 p.sig.pend) (.int .u32 x) 26 (QnR p h);simpa [Pr.vals,Sg.vals,Pr.head,Pr.tail] using this
theorem QmX (h:p.Ok) (x:Int):(p.vals fa fc pa pc).toArray.setIfInBounds 27 (.int .u32 x)=(({ p with sig:={ p.sig with mask:=x } }:Pr).vals fa fc pa pc).toArray:=by
 have:=QdS (p.head++p.cpu.vals++p.saved.vals++[Value.int .u32 p.sig.pend]) (p.sig.hand.map (Value.int .u32)++[Value.bool p.sig.busy]++p.tail fa fc pa pc) (.int .u32 p.sig.mask) (.int .u32 x) 27 (by rw [QL,QnR p h];rfl);simpa [Pr.vals,Sg.vals,Pr.head,Pr.tail] using this
theorem QmV (h:p.Ok) (x:Bool):(p.vals fa fc pa pc).toArray.setIfInBounds 44 (.bool x)=(({ p with sig:={ p.sig with busy:=x } }:Pr).vals fa fc pa pc).toArray:=by
 have:=QdS (p.head++p.cpu.vals++p.saved.vals++[Value.int .u32 p.sig.pend,Value.int .u32 p.sig.mask]++p.sig.hand.map (Value.int .u32)) (p.tail fa fc pa pc) (.bool p.sig.busy) (.bool x) 44 (by rw [QL,QL,QnR p h,QM,h.2.2.2.2.1];rfl);simpa [Pr.vals,Sg.vals,Pr.head,Pr.tail] using this
theorem Qk8 (h:p.Ok) (i:Nat) (hi:i<16) (x:Int):(p.vals fa fc pa pc).toArray.setIfInBounds (28+i) (.int .u32 x)=(({ p with sig:={ p.sig with hand:=p.sig.hand.set i x } }:Pr).vals fa fc pa pc).toArray:=by
 have hl:(p.head++p.cpu.vals++p.saved.vals++[Value.int .u32 p.sig.pend,Value.int .u32 p.sig.mask]).length=28:=by rw [QL,QnR p h];rfl
 have hh:(p.sig.hand.map (Value.int .u32)).length=16:=by rw [QM,h.2.2.2.2.1]
 have e:p.vals fa fc pa pc=(p.head++p.cpu.vals++p.saved.vals++[Value.int .u32 p.sig.pend,Value.int .u32 p.sig.mask])++(p.sig.hand.map (Value.int .u32)++(Value.bool p.sig.busy::p.tail fa fc pa pc)):=by simp [Pr.vals,Sg.vals,Pr.head,Pr.tail]
 have e2:({ p with sig:={ p.sig with hand:=p.sig.hand.set i x } }:Pr).vals fa fc pa pc=(p.head++p.cpu.vals++p.saved.vals++[Value.int .u32 p.sig.pend,Value.int .u32 p.sig.mask])++((p.sig.hand.set i x).map (Value.int .u32)++(Value.bool p.sig.busy::p.tail fa fc pa pc)):=by simp [Pr.vals,Sg.vals,Pr.head,Pr.tail]
 rw [e,e2,List.setIfInBounds_toArray,List.set_append_right _ _ (by omega),hl,show 28+i-28=i by omega,List.set_append_left _ _ (by omega),List.map_set]
end
theorem QkP:(Tryz.prog.info? 4).map (·.size)=some 1:=by kernel_rfl
theorem Qqv (W:World) (a:Option Addr) (len cap:Nat) (k:Forest) (T Fb:Nat) (p:Pr) (hps:p.sig=Sg.zero)
  (hn:Qcl W a len cap k T Fb (tl 12 (Tryz.f27.body.getD .skip)) { p with sig:=sgD (Qao (Qah k 13 0)) }) :
  Qcl W a len cap k T Fb (tl 7 (Tryz.f27.body.getD .skip)) p:=by
 iterate 28 intro
 intro u32
 iterate 136 intro
 intro c V fa fc pa pc h;have kf:=h.find 13;have HH:=QQ h;have HN:=QQ hn;obtain ⟨bs,hbs⟩:∃ bs,bs=Qao (Qah k 13 0):=⟨_,rfl⟩;have HB:=QQ hbs;clear hn h hbs
 conv=>arg 2;whnf
 refine wp_seq_k (fun K aK=>?_);have AK:=QQ aK;clear aK;go_wp2_with (go_at_call 24;refine Qau ?_);unfold Qag;refine kf.mono ?_;rintro e w1 F1;obtain ⟨b1,t,a1,l1,c1,ka,kl,kc,ok,rfl,hrow,hbl⟩:=QcZ F1;rw [show Qao (Qah k 13 0)=bs from (QG HB).symm] at hrow hbl;have inv1:=(QG HH).grow b1;have hc:=inv1.hc;have eF:=inv1.eF;have INV1:=QQ inv1;have HROW:=QQ hrow;clear kf F1 b1 HH hrow inv1;dsimp only;go_wp2_with ((fail_if_success (unfold Qag));refine Qan (t:=66) rfl ?_);unfold Qag;obtain ⟨C,hC⟩:∃ C:Array Value,C=#[.int .i64 t,.slice a1 l1 c1,.slice ka kl kc]:=⟨_,rfl⟩;refine Qab rfl 66 (.tmp 4) (.tmp 47) rfl Fb #[.int .i64 t,.slice a1 l1 c1,.slice ka kl kc] rfl rfl 66 c eF QbO (by rw [hc];rfl) (QaS ..) ?_;have inv2:=(QG INV1).fld C (by rw [hC];rfl);rw [← hC];obtain ⟨V2,hV2⟩:∃ V2,V2=w1.setRow Fb C:=⟨_,rfl⟩;rw [← hV2] at inv2 ⊢
 have hC1:C[1]?=some (.slice a1 l1 c1):=by rw [hC];rfl
 have hr0:QaL W.heap.size W (.slice a1 l1 c1) bs:=Qfn (QG INV1).below (QG HROW);have hz:=hr0.2;have KA:=QQ (fun (V:World) (hV:Below W.heap.size W V)=>Qlj a1 l1 c1 bs V ((hr0.below hV).mono hV.size) (by omega));have HC1:=QQ hC1;have INV2:=QQ inv2
 have q1:V2.cell? ⟨Fb,1,none⟩=some (.slice a1 l1 c1):=by rw [cell_of_row V2 _ 1 _ _ _ inv2.eF];exact hC1
 clear hV2 eF hc inv2 INV1 HROW hC hr0 hC1;go_wp2;refine (QG AK) _ _ ?_;clear AK K;refine wp_seq_k (fun K aK=>?_);have AK:=QQ aK;clear aK;go_wp2_with (go_at_call 26;refine Qau ?_);unfold Qag;refine ((QG KA) V2 (QG INV2).below 0 0 rfl 4 4 rfl (by decide) (by decide)).mono ?_;rintro e w3 ⟨rfl,hw3⟩;subst hw3;obtain ⟨x0,hx0⟩:∃ x,x=atB bs 0 4:=⟨_,rfl⟩;have hb0:=Qbz hz 0;rw [← hx0] at hb0 ⊢;have wx0:IntKind.u32.wrap x0=x0:=Qg6 hb0;have HX0:=QQ hx0;have inv2:=(QG INV2);have eT:=inv2.eT
 have hvl:((p.vals fa fc pa pc).toArray).size=55:=by rw [QS,Pr.vals_length inv2.ok]
 have inv3:=inv2.put { p with sig:={ p.sig with pend:=x0 } } rfl rfl ⟨inv2.ok.1,inv2.ok.2.1,hb0,inv2.ok.2.2.2⟩ (QmY p fa fc pa pc inv2.ok x0);have INV3:=QQ inv3;clear hx0 inv2 inv3 INV2 q1;go_wp2_with ((fail_if_success (unfold Qag));refine Qan (t:=40) rfl ?_);unfold Qag;refine Qar rfl 40 (.tmp 54) (.tmp 52) rfl T 26 rfl (.int .u32 x0) rfl rfl rfl 54 _ eT QcC (by rw [hvl];decide) ?_;obtain ⟨V3,hV3⟩:∃ V3,V3=w3.setRow T ((p.vals fa fc pa pc).toArray.setIfInBounds 26 (.int .u32 x0)):=⟨_,rfl⟩;rw [← hV3];rw [← hV3] at INV3;clear hV3 eT hvl;have inv3:=(QG INV3)
 have q1:V3.cell? ⟨Fb,1,none⟩=some (.slice a1 l1 c1):=by rw [cell_of_row V3 _ 1 _ _ _ inv3.eF];exact HC1
 clear inv3;go_wp2;refine (QG AK) _ _ ?_;clear AK K;refine wp_seq_k (fun K aK=>?_);have AK:=QQ aK;clear aK;go_wp2_with (go_at_call 26;refine Qau ?_);unfold Qag;refine ((QG KA) V3 (QG INV3).below 4 4 rfl 4 4 rfl (by decide) (by decide)).mono ?_;rintro e w3 ⟨rfl,hw3⟩;subst hw3;obtain ⟨x1,hx1⟩:∃ x,x=atB bs 4 4:=⟨_,rfl⟩;have hb1:=Qbz hz 4;rw [← hx1] at hb1 ⊢;have wx1:IntKind.u32.wrap x1=x1:=Qg6 hb1;have HX1:=QQ hx1;have inv2:=(QG INV3);have eT:=inv2.eT
 have hvl:((({ p with sig:={ p.sig with pend:=x0 } }:Pr).vals fa fc pa pc).toArray).size=55:=by rw [QS,Pr.vals_length inv2.ok]
 have inv3:=inv2.put { p with sig:={ p.sig with pend:=x0,mask:=x1 } } rfl rfl ⟨inv2.ok.1,inv2.ok.2.1,hb0,hb1,inv2.ok.2.2.2.2⟩ (QmX { p with sig:={ p.sig with pend:=x0 } } fa fc pa pc inv2.ok x1)
 have e0:({ p.sig with pend:=x0,mask:=x1 }:Sg)=sgK bs 0:=by rw [hps,show x0=_ from HX0,show x1=_ from HX1];unfold sgK;rw [QkL];rfl
 rw [e0] at inv3;have INV4:=QQ inv3;clear hx1 inv2 inv3 INV3 q1 e0;go_wp2_with ((fail_if_success (unfold Qag));refine Qan (t:=40) rfl ?_);unfold Qag;refine Qar rfl 40 (.tmp 60) (.tmp 58) rfl T 27 rfl (.int .u32 x1) rfl rfl rfl 54 _ eT QcC (by rw [hvl];decide) ?_;obtain ⟨V3,hV3⟩:∃ V3,V3=w3.setRow T (((({ p with sig:={ p.sig with pend:=x0 } }:Pr).vals fa fc pa pc).toArray).setIfInBounds 27 (.int .u32 x1)):=⟨_,rfl⟩;rw [← hV3];rw [← hV3] at INV4;clear hV3 eT hvl hb0 hb1 wx0 wx1 HX0 HX1;go_wp2;refine (QG AK) _ _ ?_;clear AK K;refine wp_seq_k (fun K aK=>?_);have AK:=QQ aK;clear aK;go_wp2;go_loopw [6] (fun i wr=>∃ j:Nat,j≤16∧i=.int .i64 (j:Int)∧Qa0 W a len cap k T Fb { p with sig:=sgK bs j } C wr fa fc pa pc) (fun i _=>16-(intOf i).toNat)
 case atStart=>exact ⟨0,by decide,rfl,INV4⟩
 case round =>
  clear INV4;obtain ⟨j,hj,rfl,inv⟩:=hrel;by_cases hlt:j<16
  ·have t1:decide ((j:Int)<16)=true:=by simp;omega
   have q1:wr.cell? ⟨Fb,1,none⟩=some (.slice a1 l1 c1):=by rw [cell_of_row wr _ 1 _ _ _ inv.eF];exact HC1
   have eT:=inv.eT
   have hvl:((({ p with sig:=sgK bs j }:Pr).vals fa fc pa pc).toArray).size=55:=by rw [QS,Pr.vals_length inv.ok]
   have INV:=QQ inv;clear inv;go_wp2_with (go_at_call 26;refine Qau ?_);unfold Qag;refine ((QG KA) wr (QG INV).below (8+4*(j:Int)) (8+4*j) (by omega) 4 4 rfl (by omega) (by decide)).mono ?_;rintro e w3 ⟨rfl,hw3⟩;subst hw3;have hb4:=Qbz hz (8+4*j);have hset:=Ql1 bs j hlt;obtain ⟨x,hx⟩:∃ x,x=atB bs (8+4*j) 4:=⟨_,rfl⟩;rw [← hx] at hb4 hset ⊢;have wx:IntKind.u32.wrap x=x:=Qg6 hb4;have inv:=(QG INV)
   have inv3:=inv.put { p with sig:=sgK bs (j+1) } rfl rfl ⟨inv.ok.1,inv.ok.2.1,QpD hz (j+1)⟩ ((Qk8 { p with sig:=sgK bs j } fa fc pa pc inv.ok j hlt x).trans (by
    show (({ p with sig:={ sgK bs j with hand:=(QeW bs j).set j x } }:Pr).vals fa fc pa pc).toArray=_
    rw [hset];rfl))
   have INV3:=QQ inv3;clear inv inv3 INV hset hx q1;go_wp2_with ((fail_if_success (unfold Qag));refine Qan (t:=40) rfl ?_);unfold Qag;refine Qar rfl 40 (.tmp 75) (.tmp 72) rfl T (28+j) (by first | rfl | (simp;done)) (.int .u32 x) rfl rfl rfl 54 _ eT QcC (by rw [hvl];omega) ?_;obtain ⟨V3,hV3⟩:∃ V3,V3=w3.setRow T (((({ p with sig:=sgK bs j }:Pr).vals fa fc pa pc).toArray).setIfInBounds (28+j) (.int .u32 x)):=⟨_,rfl⟩;rw [← hV3];rw [← hV3] at INV3;clear hV3 eT hvl;go_wp2;go_roundw
   case rel=>exact ⟨j+1,by omega,by go_num,INV3⟩
   case measure=>simp [intOf];omega
  ·obtain rfl:j=16:=by omega
   rw [show ((16:Nat):Int)=16 from rfl]
   have q1:wr.cell? ⟨Fb,1,none⟩=some (.slice a1 l1 c1):=by rw [cell_of_row wr _ 1 _ _ _ inv.eF];exact HC1
   have eT:=inv.eT
   have hvl:((({ p with sig:=sgK bs 16 }:Pr).vals fa fc pa pc).toArray).size=55:=by rw [QS,Pr.vals_length inv.ok]
   have INV:=QQ inv;clear inv;go_wp2;refine (QG AK) _ _ ?_;refine wp_seq_k (fun K2 aK=>?_);have AK2:=QQ aK;clear aK;go_wp2_with (go_at_call 26;refine Qau ?_);unfold Qag;refine ((QG KA) wr (QG INV).below 72 72 rfl 1 1 rfl (by decide) (by decide)).mono ?_;rintro e w3 ⟨rfl,hw3⟩;subst hw3;have inv:=(QG INV);obtain ⟨x,hx⟩:∃ x,x=atB bs 72 1:=⟨_,rfl⟩
   have inv3:=inv.put { p with sig:=sgD bs } rfl rfl ⟨inv.ok.1,inv.ok.2.1,QmI hz⟩ ((QmV { p with sig:=sgK bs 16 } fa fc pa pc inv.ok (x == 1)).trans (by
    rw [hx];rfl))
   rw [← hx];obtain ⟨y,hy⟩:∃ y,y=(x == 1):=⟨_,rfl⟩;rw [← hy] at inv3;have ye:(x == 1)=y:=hy.symm;have INV3:=QQ inv3;clear inv inv3 INV hx q1 hy;go_wp2_with ((fail_if_success (unfold Qag));refine Qan (t:=4) rfl ?_);unfold Qag;refine Qar rfl 4 (.tmp 81) (.tmp 79) rfl T 44 rfl (.bool y) rfl rfl rfl 54 _ eT QkP (by rw [hvl];decide) ?_;obtain ⟨V3,hV3⟩:∃ V3,V3=w3.setRow T (((({ p with sig:=sgK bs 16 }:Pr).vals fa fc pa pc).toArray).setIfInBounds 44 (.bool y)):=⟨_,rfl⟩;rw [← hV3];rw [← hV3] at INV3;clear hV3 eT hvl;have inv:=(QG INV3);rw [show bs=Qao (Qah k 13 0) from HB] at inv;have INV5:=QQ inv;clear inv INV3;go_wp2;refine (QG AK2) _ _ ?_;apply (QG HN);exact INV5
end
theorem QiF:(Tryz.prog.info? 3).map (·.size)=some 1:=by kernel_rfl
theorem QpT (W:World) (a:Option Addr) (len cap:Nat) (k:Forest) (T Fb:Nat) (p:Pr)
  (hn:Qcl W a len cap k T Fb (tl 13 (Tryz.f27.body.getD .skip)) { p with wait:=Qcy k 14 }) :
  Qcl W a len cap k T Fb (tl 12 (Tryz.f27.body.getD .skip)) p:=by
 iterate 165 intro
 intro c V fa fc pa pc h;have kv:=h.value 14;have HH:=QQ h;have HN:=QQ hn;obtain ⟨x,hx⟩:∃ x,x=Qcy k 14:=⟨_,rfl⟩;rw [← hx] at kv;have HX:=QQ hx;clear hn h hx
 conv=>arg 2;whnf
 refine wp_seq_k (fun K aK=>?_);have AK:=QQ aK;clear aK;go_wp2_with (go_at_call 25;refine Qau ?_);unfold Qag;refine kv.mono ?_;rintro e w3 ⟨rfl,b3⟩;have inv:=(QG HH).grow b3;have eT:=inv.eT
 have hvl:((p.vals fa fc pa pc).toArray).size=55:=by rw [QS,Pr.vals_length inv.ok]
 have inv3:=inv.put { p with wait:=x } rfl rfl inv.ok (QiZ p fa fc pa pc inv.ok x);have INV3:=QQ inv3;clear inv inv3 b3 HH kv;go_wp2_with ((fail_if_success (unfold Qag));refine Qan (t:=3) rfl ?_);unfold Qag;refine Qar rfl 3 (.tmp 84) (.tmp 83) rfl T 45 rfl (.int .i64 x) rfl rfl rfl 54 _ eT QiF (by rw [hvl];decide) ?_;obtain ⟨V3,hV3⟩:∃ V3,V3=w3.setRow T ((p.vals fa fc pa pc).toArray.setIfInBounds 45 (.int .i64 x)):=⟨_,rfl⟩;rw [← hV3];rw [← hV3] at INV3;clear hV3 eT hvl;have inv:=(QG INV3);rw [show x=_ from HX] at inv;have INV5:=QQ inv;clear inv INV3;go_wp2;refine (QG AK) _ _ ?_;apply (QG HN);exact INV5
theorem QpU (W:World) (a:Option Addr) (len cap:Nat) (k:Forest) (T Fb:Nat) (p:Pr)
  (hn:Qcl W a len cap k T Fb (tl 14 (Tryz.f27.body.getD .skip)) { p with pipe:=Qcy k 15 }) :
  Qcl W a len cap k T Fb (tl 13 (Tryz.f27.body.getD .skip)) p:=by
 iterate 165 intro
 intro c V fa fc pa pc h;have kv:=h.value 15;have HH:=QQ h;have HN:=QQ hn;obtain ⟨x,hx⟩:∃ x,x=Qcy k 15:=⟨_,rfl⟩;rw [← hx] at kv;have HX:=QQ hx;clear hn h hx
 conv=>arg 2;whnf
 refine wp_seq_k (fun K aK=>?_);have AK:=QQ aK;clear aK;go_wp2_with (go_at_call 25;refine Qau ?_);unfold Qag;refine kv.mono ?_;rintro e w3 ⟨rfl,b3⟩;have inv:=(QG HH).grow b3;have eT:=inv.eT
 have hvl:((p.vals fa fc pa pc).toArray).size=55:=by rw [QS,Pr.vals_length inv.ok]
 have inv3:=inv.put { p with pipe:=x } rfl rfl inv.ok (QiY p fa fc pa pc inv.ok x);have INV3:=QQ inv3;clear inv inv3 b3 HH kv;go_wp2_with ((fail_if_success (unfold Qag));refine Qan (t:=3) rfl ?_);unfold Qag;refine Qar rfl 3 (.tmp 87) (.tmp 86) rfl T 46 rfl (.int .i64 x) rfl rfl rfl 54 _ eT QiF (by rw [hvl];decide) ?_;obtain ⟨V3,hV3⟩:∃ V3,V3=w3.setRow T ((p.vals fa fc pa pc).toArray.setIfInBounds 46 (.int .i64 x)):=⟨_,rfl⟩;rw [← hV3];rw [← hV3] at INV3;clear hV3 eT hvl;have inv:=(QG INV3);rw [show x=_ from HX] at inv;have INV5:=QQ inv;clear inv INV3;go_wp2;refine (QG AK) _ _ ?_;apply (QG HN);exact INV5
theorem QpV (W:World) (a:Option Addr) (len cap:Nat) (k:Forest) (T Fb:Nat) (p:Pr)
  (hn:Qcl W a len cap k T Fb (tl 15 (Tryz.f27.body.getD .skip)) { p with left:=Qcy k 16 % 4294967296 }) :
  Qcl W a len cap k T Fb (tl 14 (Tryz.f27.body.getD .skip)) p:=by
 iterate 28 intro
 intro u32
 iterate 136 intro
 intro c V fa fc pa pc h;have kv:=h.value 16;have HH:=QQ h;have HN:=QQ hn;obtain ⟨x,hx⟩:∃ x,x=Qcy k 16:=⟨_,rfl⟩;rw [← hx] at kv;have HX:=QQ hx;clear hn h hx
 conv=>arg 2;whnf
 refine wp_seq_k (fun K aK=>?_);have AK:=QQ aK;clear aK;go_wp2_with (go_at_call 25;refine Qau ?_);unfold Qag;refine kv.mono ?_;rintro e w3 ⟨rfl,b3⟩;have inv:=(QG HH).grow b3;have eT:=inv.eT
 have hvl:((p.vals fa fc pa pc).toArray).size=55:=by rw [QS,Pr.vals_length inv.ok]
 obtain ⟨y,hy⟩:∃ y,y=x % 4294967296:=⟨_,rfl⟩
 have wy:IntKind.u32.wrap x=y:=by rw [Qda,hy]
 have HY:=QQ hy;clear hy;have inv3:=inv.put { p with left:=y } rfl rfl inv.ok (QiX p fa fc pa pc inv.ok y);have INV3:=QQ inv3;clear inv inv3 b3 HH kv;go_wp2_with ((fail_if_success (unfold Qag));refine Qan (t:=40) rfl ?_);unfold Qag;refine Qar rfl 40 (.tmp 91) (.tmp 90) rfl T 50 rfl (.int .u32 y) rfl rfl rfl 54 _ eT QcC (by rw [hvl];decide) ?_;obtain ⟨V3,hV3⟩:∃ V3,V3=w3.setRow T ((p.vals fa fc pa pc).toArray.setIfInBounds 50 (.int .u32 y)):=⟨_,rfl⟩;rw [← hV3];rw [← hV3] at INV3;clear hV3 eT hvl;have inv:=(QG INV3);rw [show y=_ from HY,show x=_ from HX] at inv;have INV5:=QQ inv;clear inv INV3;go_wp2;refine (QG AK) _ _ ?_;apply (QG HN);exact INV5
section
section
variable {W : World} {a : Option Addr} {len cap : Nat} {k : Forest} {T Fb : Nat} {p : Pr} {c : Array Value} {V : World} {fa : Option Addr} {fc : Nat} {pa : Option Addr} {pc : Nat}
theorem Qa0.at51 (h:Qa0 W a len cap k T Fb p c V fa fc pa pc):V.cell? ⟨T,51,none⟩=some (.slice fa p.fds.length fc):=by
 have hz:((p.vals fa fc pa pc).toArray).size=55:=by rw [QS,Pr.vals_length h.ok]
 rw [cell_of_row V T 51 _ _ _ h.eT,← Qgm p fa fc pa pc h.ok fa fc p.fds,Array.getElem?_setIfInBounds_self,if_pos (by omega)]
theorem Qa0.at54 (h:Qa0 W a len cap k T Fb p c V fa fc pa pc):V.cell? ⟨T,54,none⟩=some (.slice pa p.pages.length pc):=by
 have hz:((p.vals fa fc pa pc).toArray).size=55:=by rw [QS,Pr.vals_length h.ok]
 rw [cell_of_row V T 54 _ _ _ h.eT,← QeL p fa fc pa pc h.ok pa pc p.pages,Array.getElem?_setIfInBounds_self,if_pos (by omega)]
end
theorem QpW (W:World) (a:Option Addr) (len cap:Nat) (k:Forest) (T Fb:Nat) (p:Pr) (hpf:p.fds=[])
  (hn:Qcl W a len cap k T Fb (tl 17 (Tryz.f27.body.getD .skip)) { p with fds:=(Qao (Qah k 17 0)).map QbJ }) :
  Qcl W a len cap k T Fb (tl 15 (Tryz.f27.body.getD .skip)) p:=by
 intro u1 u5 u6 u7 u8
 iterate 160 intro
 intro c V fa fc pa pc h;obtain ⟨i0,hi,hz0,hz1,hz2⟩:=info_parts QiE;have kf:=h.find 17;have HH:=QQ h;have HN:=QQ hn;obtain ⟨bs,hbs⟩:∃ bs,bs=Qao (Qah k 17 0):=⟨_,rfl⟩;have HB:=QQ hbs;clear hn h hbs
 conv=>arg 2;whnf
 refine wp_seq_k (fun K aK=>?_);have AK:=QQ aK;clear aK;go_wp2_with (go_at_call 24;refine Qau ?_);unfold Qag;refine kf.mono ?_;rintro e w1 F1;obtain ⟨b1,t,a1,l1,c1,ka,kl,kc,ok,rfl,hrow,hbl⟩:=QcZ F1;rw [show Qao (Qah k 17 0)=bs from (QG HB).symm] at hrow hbl;have inv1:=(QG HH).grow b1;have hc:=inv1.hc;have eF:=inv1.eF;have INV1:=QQ inv1;have HROW:=QQ hrow;clear kf F1 b1 HH hrow inv1;dsimp only;go_wp2_with ((fail_if_success (unfold Qag));refine Qan (t:=66) rfl ?_);unfold Qag;obtain ⟨C,hC⟩:∃ C:Array Value,C=#[.int .i64 t,.slice a1 l1 c1,.slice ka kl kc]:=⟨_,rfl⟩;refine Qab rfl 66 (.tmp 4) (.tmp 95) rfl Fb #[.int .i64 t,.slice a1 l1 c1,.slice ka kl kc] rfl rfl 66 c eF QbO (by rw [hc];rfl) (QaS ..) ?_;have inv2:=(QG INV1).fld C (by rw [hC];rfl);rw [← hC];obtain ⟨V2,hV2⟩:∃ V2,V2=w1.setRow Fb C:=⟨_,rfl⟩;rw [← hV2] at inv2 ⊢
 have hC1:C[1]?=some (.slice a1 l1 c1):=by rw [hC];rfl
 have hr0:QaL W.heap.size W (.slice a1 l1 c1) bs:=Qfn (QG INV1).below (QG HROW);obtain ⟨hlen,b,off,hopen,hcell⟩:=hr0.1.open;have hz:=hr0.2;have hrow:=hr0.1.lt;have HC1:=QQ hC1;have HCELL:=QQ hcell;have HOPEN:=QQ hopen;have INV2:=QQ (show Qa0 W a len cap k T Fb { p with fds:=(bs.take 0).map QbJ } C V2 fa fc pa pc by rw [List.take_zero,List.map_nil,← hpf];exact inv2);subst hlen;clear hV2 eF hc inv2 INV1 HROW hC hr0 hC1 hcell hopen;go_wp2;refine (QG AK) _ _ ?_;clear AK K;refine wp_seq_k (fun K aK=>?_);have AK:=QQ aK;clear aK;go_wp2;go_loopw [7,8] (fun i _ wr=>∃ (j:Nat) (ga:Option Addr) (gc:Nat),j≤bs.length∧i=.int .i64 (j:Int)∧Qa0 W a len cap k T Fb { p with fds:=(bs.take j).map QbJ } C wr ga gc pa pc) (fun i _ _=>bs.length-(intOf i).toNat)
 case atStart=>exact ⟨0,fa,fc,Nat.zero_le _,rfl,INV2⟩
 case round =>
  clear INV2;obtain ⟨j,ga,gc,hj,rfl,inv⟩:=hrel
  have q1:wr.cell? ⟨Fb,1,none⟩=some (.slice a1 bs.length c1):=by rw [cell_of_row wr _ 1 _ _ _ inv.eF];exact HC1
  by_cases hlt:j<bs.length
  ·have t1:decide ((j:Int)<(bs.length:Int))=true:=by simp;omega
   obtain ⟨rfl,hbn,hlc,hcm⟩:=(QG HOPEN) (by omega);have q2:wr.cell? ⟨b,off+j,none⟩=some (.int .u8 (bs.getD j 0)):=(inv.below.cell (p:=⟨b,off+j,none⟩) hbn).trans ((QG HCELL) j hlt)
   have hzj:0≤bs.getD j 0∧bs.getD j 0≤255:=by rw [Qba _ _ hlt];exact hz _ (List.getElem_mem hlt)
   have hlj:((bs.take j).map QbJ).length=j:=by rw [QM,List.length_take];omega
   have q3:=inv.at51;rw [show (({ p with fds:=(bs.take j).map QbJ }:Pr).fds).length=j from hlj] at q3
   have hsnoc:(bs.take (j+1)).map QbJ=(bs.take j).map QbJ++[QbJ (bs.getD j 0)]:=by
    rw [List.take_succ_eq_append_getElem hlt,List.map_append,Qba _ _ hlt];rfl
   obtain ⟨z,hzz⟩:∃ z,z=bs.getD j 0:=⟨_,rfl⟩;rw [← hzz] at q2 hzj hsnoc;have wz:IntKind.i64.wrap z=z:=Qfx hzj;have HS:=QQ hsnoc;have HL:=QQ hlj;have INV:=QQ inv;clear hzz hsnoc hlj inv hlc hcm;by_cases h255:z=255
   ·have t2:(z == 255)=true:=by simpa using h255
    have hf:QbJ z = -1:=by unfold QbJ;rw [if_pos h255]
    have HFD:=QQ hf;clear h255 hf;go_wp2_with (at_builtin;refine Qau ?_);unfold Qag;have inv:=(QG INV);have hlj:=(QG HL);have hsnoc:=(QG HS);rw [show QbJ z = -1 from HFD] at hsnoc;have hal:Below wr.heap.size wr (wr.alloc (.cells #[.int .i64 (-1)] 3)):=(QB _ wr).alloc (QN _) _;have invA:=inv.grow hal;have own:=inv.own.1;rw [show (({ p with fds:=(bs.take j).map QbJ }:Pr).fds)=(bs.take j).map QbJ from rfl,hlj] at own;have hFw:=inv.lF;refine wpList_append_own _ rfl _ _ 51 rfl (Fb+1) 3 i0 (.int .i64 0) 1 8 Tryz.underlying51 hi hz0 hz1 hz2 rfl (by decide) _ j _ (by rfl) (own.alloc _) ⟨wr.heap.size,0,none⟩ 1 1 [.int .i64 (-1)] (by rfl) rfl (Qgh wr (-1)) (by simp [Value.oneCell']) (by simp only [maxLen];omega) (by omega) (by simp;omega) ?_;intro v' w3 ho hg _;obtain ⟨ga',gc',hv',eT3,inv3⟩:=invA.fds (-1) (v':=v') (by rw [hlj];exact ho) (by rw [hlj];exact hg)
    have hl1:(({ p with fds:=(bs.take j).map QbJ }:Pr).fds++[-1]).length=j+1:=by rw [QL,hlj];rfl
    rw [hl1] at hv';subst hv'
    have h55:51+1≤((({ p with fds:=(bs.take j).map QbJ }:Pr).vals ga gc pa pc).toArray).size:=by rw [QS,Pr.vals_length inv.ok];decide
    have inv4:Qa0 W a len cap k T Fb { p with fds:=(bs.take (j+1)).map QbJ } C (w3.setRow T (((({ p with fds:=(bs.take j).map QbJ }:Pr).vals ga gc pa pc).toArray).setIfInBounds 51 (.slice ga' (j+1) gc'))) ga' gc' pa pc:=by
     rw [hsnoc];exact inv3
    have INV4:=QQ inv4;clear hg ho inv3 inv4 own inv invA hal hsnoc hlj INV q1 q2 q3;go_wp2_with ((fail_if_success (unfold Qag));refine Qan (t:=51) rfl ?_);unfold Qag;refine Qar rfl 51 (.tmp 117) (.tmp 116) rfl T 51 rfl (.slice ga' (j+1) gc') rfl rfl rfl 54 _ eT3 Qfd h55 ?_;obtain ⟨w4,hw4⟩:∃ w,w=w3.setRow T (((({ p with fds:=(bs.take j).map QbJ }:Pr).vals ga gc pa pc).toArray).setIfInBounds 51 (.slice ga' (j+1) gc')):=⟨_,rfl⟩;rw [← hw4];rw [← hw4] at INV4;clear hw4 h55 eT3;go_wp2;go_roundw
    case rel=>exact ⟨j+1,ga',gc',by omega,by go_num,INV4⟩
    case measure=>simp [intOf];omega
   ·have t2:(z == 255)=false:=by simpa using h255
    have hf:QbJ z=z:=by unfold QbJ;rw [if_neg h255]
    have HFD:=QQ hf;clear h255 hf;go_wp2_with (at_builtin;refine Qau ?_);unfold Qag;have inv:=(QG INV);have hlj:=(QG HL);have hsnoc:=(QG HS);rw [show QbJ z=z from HFD] at hsnoc;have hal:Below wr.heap.size wr (wr.alloc (.cells #[.int .i64 (z)] 3)):=(QB _ wr).alloc (QN _) _;have invA:=inv.grow hal;have own:=inv.own.1;rw [show (({ p with fds:=(bs.take j).map QbJ }:Pr).fds)=(bs.take j).map QbJ from rfl,hlj] at own;have hFw:=inv.lF;refine wpList_append_own _ rfl _ _ 51 rfl (Fb+1) 3 i0 (.int .i64 0) 1 8 Tryz.underlying51 hi hz0 hz1 hz2 rfl (by decide) _ j _ (by rfl) (own.alloc _) ⟨wr.heap.size,0,none⟩ 1 1 [.int .i64 (z)] (by rfl) rfl (Qgh wr (z)) (by simp [Value.oneCell']) (by simp only [maxLen];omega) (by omega) (by simp;omega) ?_;intro v' w3 ho hg _;obtain ⟨ga',gc',hv',eT3,inv3⟩:=invA.fds (z) (v':=v') (by rw [hlj];exact ho) (by rw [hlj];exact hg)
    have hl1:(({ p with fds:=(bs.take j).map QbJ }:Pr).fds++[z]).length=j+1:=by rw [QL,hlj];rfl
    rw [hl1] at hv';subst hv'
    have h55:51+1≤((({ p with fds:=(bs.take j).map QbJ }:Pr).vals ga gc pa pc).toArray).size:=by rw [QS,Pr.vals_length inv.ok];decide
    have inv4:Qa0 W a len cap k T Fb { p with fds:=(bs.take (j+1)).map QbJ } C (w3.setRow T (((({ p with fds:=(bs.take j).map QbJ }:Pr).vals ga gc pa pc).toArray).setIfInBounds 51 (.slice ga' (j+1) gc'))) ga' gc' pa pc:=by
     rw [hsnoc];exact inv3
    have INV4:=QQ inv4;clear hg ho inv3 inv4 own inv invA hal hsnoc hlj INV q1 q2 q3;go_wp2_with ((fail_if_success (unfold Qag));refine Qan (t:=51) rfl ?_);unfold Qag;refine Qar rfl 51 (.tmp 117) (.tmp 116) rfl T 51 rfl (.slice ga' (j+1) gc') rfl rfl rfl 54 _ eT3 Qfd h55 ?_;obtain ⟨w4,hw4⟩:∃ w,w=w3.setRow T (((({ p with fds:=(bs.take j).map QbJ }:Pr).vals ga gc pa pc).toArray).setIfInBounds 51 (.slice ga' (j+1) gc')):=⟨_,rfl⟩;rw [← hw4];rw [← hw4] at INV4;clear hw4 h55 eT3;go_wp2;go_roundw
    case rel=>exact ⟨j+1,ga',gc',by omega,by go_num,INV4⟩
    case measure=>simp [intOf];omega
  ·have t1:decide ((j:Int)<(bs.length:Int))=false:=by simp;omega
   obtain rfl:j=bs.length:=by omega
   rw [List.take_length] at inv;have INV:=QQ inv;clear inv;go_wp2;refine (QG AK) _ _ ?_;have inv:=(QG INV);rw [show bs.map QbJ=(Qao (Qah k 17 0)).map QbJ by rw [show bs=_ from HB]] at inv;apply (QG HN);exact inv
end
section
attribute [local go_sem] QaB QaJ QaA
theorem Qmo (x0 x1 x3:Int) (h:0≤x3∧x3≤255):(#[.int .i64 x0,.int .i64 x1,.bool (x3.tmod 2 == 1),.bool ((IntKind.u8.wrap (x3.tdiv 2)).tmod 2 == 1),.bool ((IntKind.u8.wrap (x3.tdiv 4)).tmod 2 == 1),.bool false]:Array Value)=(Pg.vals ⟨x0,x1,x3 % 2 == 1,x3 / 2 % 2 == 1,x3 / 4 % 2 == 1⟩).toArray:=by
 rw [Int.tmod_eq_emod_of_nonneg h.1,Int.tdiv_eq_ediv_of_nonneg h.1,Int.tdiv_eq_ediv_of_nonneg h.1,Qo6 _ (by omega),Qo6 _ (by omega),Int.tmod_eq_emod_of_nonneg (by omega),Int.tmod_eq_emod_of_nonneg (by omega)];rfl
theorem QpX (W:World) (a:Option Addr) (len cap:Nat) (k:Forest) (T Fb:Nat) (p:Pr) (hpp:p.pages=[])
  (hn:Qcl W a len cap k T Fb (tl 19 (Tryz.f27.body.getD .skip)) { p with pages:=pgD (Qao (Qah k 18 0)) }) :
  Qcl W a len cap k T Fb (tl 17 (Tryz.f27.body.getD .skip)) p:=by
 intro u1 u5 u6 u7 u8
 iterate 160 intro
 intro c V fa fc pa pc h;obtain ⟨i0,hi,hz0,hz1,hz2⟩:=info_parts Qj1;have kf:=h.find 18;have HH:=QQ h;have HN:=QQ hn;obtain ⟨bs,hbs⟩:∃ bs,bs=Qao (Qah k 18 0):=⟨_,rfl⟩;have HB:=QQ hbs;clear hn h hbs
 conv=>arg 2;whnf
 refine wp_seq_k (fun K aK=>?_);have AK:=QQ aK;clear aK;go_wp2_with (go_at_call 24;refine Qau ?_);unfold Qag;refine kf.mono ?_;rintro e w1 F1;obtain ⟨b1,t,a1,l1,c1,ka,kl,kc,ok,rfl,hrow,hbl⟩:=QcZ F1;rw [show Qao (Qah k 18 0)=bs from (QG HB).symm] at hrow hbl;have inv1:=(QG HH).grow b1;have hc:=inv1.hc;have eF:=inv1.eF;have INV1:=QQ inv1;have HROW:=QQ hrow;clear kf F1 b1 HH hrow inv1;dsimp only;go_wp2_with ((fail_if_success (unfold Qag));refine Qan (t:=66) rfl ?_);unfold Qag;obtain ⟨C,hC⟩:∃ C:Array Value,C=#[.int .i64 t,.slice a1 l1 c1,.slice ka kl kc]:=⟨_,rfl⟩;refine Qab rfl 66 (.tmp 4) (.tmp 121) rfl Fb #[.int .i64 t,.slice a1 l1 c1,.slice ka kl kc] rfl rfl 66 c eF QbO (by rw [hc];rfl) (QaS ..) ?_;have inv2:=(QG INV1).fld C (by rw [hC];rfl);rw [← hC];obtain ⟨V2,hV2⟩:∃ V2,V2=w1.setRow Fb C:=⟨_,rfl⟩;rw [← hV2] at inv2 ⊢
 have hC1:C[1]?=some (.slice a1 l1 c1):=by rw [hC];rfl
 have hr0:QaL W.heap.size W (.slice a1 l1 c1) bs:=Qfn (QG INV1).below (QG HROW);obtain ⟨hlen,b,off,hopen,hcell⟩:=hr0.1.open;have hz:=hr0.2;have hrow:=hr0.1.lt;have HC1:=QQ hC1;have HCELL:=QQ hcell;have HOPEN:=QQ hopen;have INV2:=QQ (show Qa0 W a len cap k T Fb { p with pages:=(List.range 0).map (Qf9 bs) } C V2 fa fc pa pc by rw [List.range_zero,List.map_nil,← hpp];exact inv2);subst hlen;clear hV2 eF hc inv2 INV1 HROW hC hr0 hC1 hcell hopen;go_wp2;refine (QG AK) _ _ ?_;clear AK K;refine wp_seq_k (fun K aK=>?_);have AK:=QQ aK;clear aK;go_wp2;obtain ⟨S,hS⟩:∃ S:Nat,S=bs.length / 4:=⟨_,rfl⟩;have HSZ:=QQ hS
 have hS2:4*S≤bs.length∧bs.length<4*S+4:=by omega
 clear hS;go_loopw [9,10] (fun i _ wr=>∃ (j:Nat) (ga:Option Addr) (gc:Nat),j≤S∧i=.int .i64 ((4*j:Nat):Int)∧Qa0 W a len cap k T Fb { p with pages:=(List.range j).map (Qf9 bs) } C wr fa fc ga gc) (fun i _ _=>4*S-(intOf i).toNat)
 case atStart=>exact ⟨0,pa,pc,Nat.zero_le _,rfl,INV2⟩
 case round =>
  clear INV2;obtain ⟨j,ga,gc,hj,rfl,inv⟩:=hrel
  have q1:wr.cell? ⟨Fb,1,none⟩=some (.slice a1 bs.length c1):=by rw [cell_of_row wr _ 1 _ _ _ inv.eF];exact HC1
  by_cases hlt:j<S
  ·obtain ⟨m,hm⟩:∃ m,m=4*j:=⟨_,rfl⟩
   rw [← hm]
   have t1:decide ((m:Int)+3<(bs.length:Int))=true:=by simp;omega
   have hm3:m+3<bs.length:=by omega
   obtain ⟨rfl,hbn,hlc,hcm⟩:=(QG HOPEN) (by omega)
   have qq:=fun (i:Nat) (hi:i<bs.length)=>(inv.below.cell (p:=⟨b,off+i,none⟩) hbn).trans ((QG HCELL) i hi)
   have hby:=fun (i:Nat) (hi:i<bs.length)=>(show 0≤bs.getD i 0∧bs.getD i 0≤255 by rw [Qba _ _ hi];exact hz _ (List.getElem_mem hi))
   have c0:=qq m (by omega);have c1':=qq (m+1) (by omega);have c3:=qq (m+3) (by omega);have h0:=hby m (by omega);have h1:=hby (m+1) (by omega);have h3:=hby (m+3) (by omega);obtain ⟨x0,hx0⟩:∃ z,z=bs.getD m 0:=⟨_,rfl⟩;obtain ⟨x1,hx1⟩:∃ z,z=bs.getD (m+1) 0:=⟨_,rfl⟩;obtain ⟨x3,hx3⟩:∃ z,z=bs.getD (m+3) 0:=⟨_,rfl⟩;rw [← hx0] at c0 h0;rw [← hx1] at c1' h1;rw [← hx3] at c3 h3
   have hpg:Qf9 bs j=⟨x0,x1,x3 % 2 == 1,x3 / 2 % 2 == 1,x3 / 4 % 2 == 1⟩:=by unfold Qf9;rw [← hm,← hx0,← hx1,← hx3]
   have hsnoc:(List.range (j+1)).map (Qf9 bs)=(List.range j).map (Qf9 bs)++[⟨x0,x1,x3 % 2 == 1,x3 / 2 % 2 == 1,x3 / 4 % 2 == 1⟩]:=by
    rw [List.range_succ,List.map_append,List.map_singleton,hpg]
   have hlj:((List.range j).map (Qf9 bs)).length=j:=by simp
   have q3:=inv.at54;rw [show (({ p with pages:=(List.range j).map (Qf9 bs) }:Pr).pages).length=j from hlj] at q3;have z0:IntKind.i64.wrap x0=x0:=Qfx h0;have z1:IntKind.i64.wrap x1=x1:=Qfx h1;have HS:=QQ hsnoc;have HL:=QQ hlj;have HM:=QQ hm;have INV:=QQ inv;have lT:T<wr.heap.size:=(QI.1 inv.eT).1;have lF:=inv.lF;have hTF:=inv.hF;have hWT:=inv.hT;have hown:=inv.own.2.1.lt;clear hx0 hx1 hx3 hpg hsnoc hlj inv qq hby hm hlc hcm
   have gcell:∀ (R:Nat→Prop) (W':World),(∀ x,R x→Fb+1≤x)→Qa R wr.drew W'→W'.cell? ⟨Fb,1,none⟩=some (.slice (some ⟨b,off,none⟩) bs.length c1)∧W'.cell? ⟨T,54,none⟩=some (.slice ga j gc)∧W'.cell? ⟨b,off+m,none⟩=some (.int .u8 x0)∧W'.cell? ⟨b,off+(m+1),none⟩=some (.int .u8 x1):=fun R W' hR hW=>by
    refine ⟨QaF (p:=⟨Fb,1,none⟩) (hW.block Fb lF (fun h=>by have:=hR _ h;omega)) q1,QaF (p:=⟨T,54,none⟩) (hW.block T lT (fun h=>by have:=hR _ h;omega)) q3,
     QaF (p:=⟨b,off+m,none⟩) (hW.block b (by show b<wr.heap.size;omega) (fun h=>by have:=hR _ h;omega)) c0,?_⟩
    exact QaF (p:=⟨b,off+(m+1),none⟩) (hW.block b (by show b<wr.heap.size;omega) (fun h=>by have:=hR _ h;omega)) c1'
   have i1:IntKind.i64.wrap ((m:Int)+1)=(m:Int)+1:=by
    exact (Qcp ((m:Int)+1) ⟨by omega,by omega⟩).trans (by unfold Qd1;rw [if_neg (by omega)])
   have n0:(m:Int)<(bs.length:Int):=by omega
   have n1:(m:Int)+1<(bs.length:Int):=by omega
   have n2:(0:Int)≤(m:Int)+1:=by omega
   go_wp2;rename_i K2 aK2;have AK2:=QQ aK2;clear aK2
   obtain ⟨R,hR⟩:∃ R:Nat→Prop,R=fun x=>(Value.slice ga j gc).ownBlock=some x:=⟨_,rfl⟩
   have hlj:=(QG HL);rw [hlj] at hown
   have hRF:∀ x,R x→Fb+1≤x:=fun x hx=>by rw [hR] at hx;exact (hown x hx).1
   have HX:=QQ (fun W'=>gcell R W' hRF);have HR:=QQ hR;have HRF:=QQ hRF
   have hji:(j:Int)≤20000:=by omega
   clear gcell hR hRF q1 q3 c0 c1' c3 hlj hown;refine QbV (Qa R) 30 2 (by kernel_rfl) rfl ?_;refine QbI [0,1,2,3,4,5,6,7,8,9,10,11,12,13,14,15,16,17,18,19,20,21,22,23,24,25,26,27] (by kernel_rfl) (by kernel_rfl) ?_
   iterate 28
    first
    | (refine Qcr (Qa.pre R) rfl (by rfl) (v:=?_) (fun W hW=>?_) (fun K hK=>?_);rotate_left;· (obtain ⟨y1,y2,y3,y4⟩:=(QG HX) W hW;go_simp;first | done | rfl))
    | refine Qb0 (Qa.pre R) rfl (by rfl) (fun K hK=>?_)
    go_simp;refine hK _ ?_;clear hK K
   refine Qcq ?_;refine QaU 28 rfl (by kernel_rfl) (by rfl) (fun K hK=>?_);go_simp;rw [Qmo x0 x1 x3 h3];obtain ⟨PG,hPG⟩:∃ P:Pg,P=⟨x0,x1,x3 % 2 == 1,x3 / 2 % 2 == 1,x3 / 4 % 2 == 1⟩:=⟨_,rfl⟩;have HPG:=QQ hPG;rw [← hPG];obtain ⟨w6,hw6⟩:∃ w6,w6=(wr.alloc (.cells PG.vals.toArray 110)).drew:=⟨_,rfl⟩
   have b6:Below wr.heap.size wr w6:=by rw [hw6];exact ((QB _ wr).alloc (QN _) _).drew
   have e6:w6.heap[wr.heap.size]?=some (.cells PG.vals.toArray 110):=by rw [hw6];exact QW _ _
   have s6:wr.heap.size+1=w6.heap.size:=by rw [hw6];simp
   rw [← hw6];refine hK _ _ (Wr.of_below (⟨b6.os,b6.tape,b6.output,b6.size,b6.block⟩:Below wr.drew.heap.size wr.drew w6)) ?_;have B6:=QQ (QA b6 (QA e6 s6));clear hw6 b6 e6 s6 hPG;clear hK K;refine QaN (fun K hK=>?_);go_simp;refine hK _ ?_;clear hK K;refine QaU 29 rfl (by kernel_rfl) (by rfl) (fun K hK=>?_);obtain ⟨b6,e6,s6⟩:=(QG B6);have hlj:=(QG HL);have hsnoc:=(QG HS);rw [← (QG HPG)] at hsnoc;have invA:=(QG INV).grow b6;have own:=invA.own.2.1;rw [show (({ p with pages:=(List.range j).map (Qf9 bs) }:Pr).pages)=(List.range j).map (Qf9 bs) from rfl,hlj] at own;have hFw:=invA.lF
   refine QaQ (.tmp 138) (.tmp 165) 52 rfl (Fb+1) 110 i0 _ 6 24 Tryz.underlying52 hi hz0 hz1 hz2 rfl (by decide) (.slice ga j gc) j _ rfl own (some ⟨wr.heap.size,0,none⟩) 1 1 PG.vals rfl rfl (Qmp PG) (.inr ⟨_,_,rfl,fun jj u hj=>by
    rw [Nat.zero_add,cell_of_row w6 _ jj _ _ _ e6,List.getElem?_toArray];exact hj⟩) (by omega) (by simp only [maxLen];omega) (by omega) ?_
   intro v' w3 ho hg _;obtain ⟨ga',gc',hv',eT3,inv3⟩:=invA.pgs PG (v':=v') (by rw [hlj];exact ho) (by rw [hlj];exact hg)
   have hl1:(({ p with pages:=(List.range j).map (Qf9 bs) }:Pr).pages++[PG]).length=j+1:=by rw [QL,hlj];rfl
   rw [hl1] at hv';subst hv'
   have h55:54+1≤((({ p with pages:=(List.range j).map (Qf9 bs) }:Pr).vals fa fc ga gc).toArray).size:=by rw [QS,Pr.vals_length invA.ok];decide
   have inv4:Qa0 W a len cap k T Fb { p with pages:=(List.range (j+1)).map (Qf9 bs) } C (w3.setRow T (((({ p with pages:=(List.range j).map (Qf9 bs) }:Pr).vals fa fc ga gc).toArray).setIfInBounds 54 (.slice ga' (j+1) gc'))) fa fc ga' gc':=by
    rw [hsnoc];exact inv3
   have INV4:=QQ inv4;have ET3:=QQ eT3
   have hw3:Qa R w6 w3:=Wr.grown (Wr.refl R w6) hg fun x hx=>.inl (by rw [show R=_ from HR];exact hx)
   clear hg ho inv3 inv4 own invA hsnoc hlj b6 e6 s6 eT3;refine hK _ _ hw3 ?_;clear hK K;refine QaN (fun K hK=>?_);go_simp;refine hK _ ?_;clear hK K;refine Qcm (by kernel_rfl) ?_;refine QbA 30 rfl (by kernel_rfl) (by rfl) (fun K hK=>?_);go_simp;refine hK _ _ ?_;clear hK K;refine Qbo (fun K hK=>?_);go_simp;refine hK _ ?_;clear hK K;refine QbA 31 rfl (by kernel_rfl) (by rfl) (fun K hK=>?_);refine QbG 52 (.tmp 167) (.tmp 166) rfl T 54 rfl (.slice ga' (j+1) gc') rfl rfl rfl 54 _ (QG ET3) QiB h55 ?_;obtain ⟨w4,hw4⟩:∃ w,w=w3.setRow T (((({ p with pages:=(List.range j).map (Qf9 bs) }:Pr).vals fa fc ga gc).toArray).setIfInBounds 54 (.slice ga' (j+1) gc')):=⟨_,rfl⟩;rw [← hw4];rw [← hw4] at INV4;clear hw4 h55 ET3;refine hK _ _ ?_;clear hK K;refine Qbo (fun K hK=>?_);go_simp;refine hK _ ?_;clear hK K;refine Qc0 (by kernel_rfl) ?_;refine (QG AK2) _ _ ?_;have hm:=(QG HM);go_wp2;go_roundw
   case rel=>exact ⟨j+1,ga',gc',by omega,by go_num,INV4⟩
   case measure=>simp [intOf];omega
  ·have hjS:j=S:=by omega
   subst hjS
   have t1:decide (((4*j:Nat):Int)+3<(bs.length:Int))=false:=by simp;omega
   have INV:=QQ inv;obtain ⟨m,hm⟩:∃ m,m=4*j:=⟨_,rfl⟩;rw [← hm] at t1 ⊢
   have hmb:m≤20000:=by omega
   clear inv hm;go_wp2;refine (QG AK) _ _ ?_;have inv:=(QG INV);rw [show (List.range j).map (Qf9 bs)=pgD (Qao (Qah k 18 0)) by rw [← (QG HB)];unfold pgD;rw [show j=bs.length / 4 from HSZ]] at inv;apply (QG HN);exact inv
end
section
attribute [local go_sem] QaB QaJ QaA
theorem QpY (W:World) (a:Option Addr) (len cap:Nat) (k:Forest) (T Fb:Nat) (p:Pr) (hp:p=Qb8 k) :
  Qcl W a len cap k T Fb (tl 19 (Tryz.f27.body.getD .skip)) p:=by
 iterate 165 intro
 intro c V fa fc pa pc h;obtain ⟨PV,hPV⟩:∃ PV:Array Value,PV=(p.vals fa fc pa pc).toArray:=⟨_,rfl⟩
 have hP5:PV.size=55:=by rw [hPV,QS,Pr.vals_length h.ok]
 have hP1:PV.all (·.oneCell')=true:=by rw [hPV,Array.all_eq_true_iff_forall_mem];exact fun v hv=>Qdw _ _ _ _ _ v (by simpa using hv)
 have hiP:(Tryz.prog.info? 54).map (·.size)=some PV.size:=by rw [hP5];exact QdY
 have eT:=h.eT;have eR:=h.eR;have hT:=h.hT;rw [← hPV] at eT;have HH:=QQ (QA h (QA hPV hp));clear h hPV hp
 conv=>arg 2;whnf
 refine wp_seq_k (fun K aK=>?_);have AK:=QQ aK;clear aK
 go_wp2_with first
  | (refine Qai (by rfl) 54 (.tmp 3) rfl T 0 rfl PV PV _ eT (by rw [List.drop_zero,List.take_of_length_le (by simp)]) _ Tryz.underlying54 rfl hiP ?_)
  | ((fail_if_success (unfold Qag));refine Qan (t:=54) rfl ?_)
 unfold Qag;refine Qab rfl 54 (.tmp 2) (.tmp 168) rfl W.heap.size PV rfl rfl 54 QdQ eR hiP (by rw [hP5];rfl) hP1 ?_;obtain ⟨V6,hV6⟩:∃ V6,V6=V.setRow W.heap.size PV:=⟨_,rfl⟩
 have e6:V6.heap[W.heap.size]?=some (.cells PV 54):=by rw [hV6];exact setRow_heap _ _ _ _ _ _ eR
 have HV6:=QQ hV6;rw [← hV6];clear hV6 eR eT;go_wp2;refine (QG AK) _ _ ?_;go_wp2;obtain ⟨h,hPV,hp⟩:=(QG HH);have hF:=h.hF;refine bodyPost_ret (results_cell_row rfl _ _ W.heap.size 54 PV (0,0) _ rfl e6 Tryz.underlying54 rfl hiP) rfl ?_;refine ⟨fa,fc,pa,pc,by rw [hPV,hp],?_,by rw [show V6=_ from HV6];exact Qaj h.below (QN _) _⟩;rw [← hp];have own:=h.own
 have key:∀ x,Fb+1≤x→V6.heap[x]?=V.heap[x]?:=fun x hx=>by rw [show V6=_ from HV6];exact setRow_other _ _ _ _ (by omega)
 exact ⟨QaI own.1 (by omega) fun x hx=>key x (own.1.lt x hx).1,QaI own.2.1 (by omega) fun x hx=>key x (own.2.1.lt x hx).1,own.2.2⟩
theorem QkF (k:Forest) (n7 n8 n9:Int) (h7:n7=Qcy k 7) (h8:n8=Qcy k 8) (h9:n9=Qcy k 9) (hz:¬ n9=2) :
  (⟨n7,n8,n9,0,cpD (Qao (Qah k 11 0)),cpD (Qao (Qah k 12 0)),sgD (Qao (Qah k 13 0)),Qcy k 14,Qcy k 15,Qcy k 16 % 4294967296,(Qao (Qah k 17 0)).map QbJ,pgD (Qao (Qah k 18 0))⟩:Pr)=Qb8 k:=by
 unfold Qb8;rw [← h9,if_neg hz,← h7,← h8]
theorem QlN (W:World) (a:Option Addr) (len cap:Nat) (k:Forest) (h:SlF W.heap.size W a len cap k) (hcnt:k.cnt≤20000) :
  Calls Tryz.prog 27 #[.slice a len cap] W fun e W'=>∃ fa fc pa pc,e=.returned (.agg ((Qb8 k).vals fa fc pa pc).toArray)∧Qb3 W.heap.size W' fa fc pa pc (Qb8 k)∧Below W.heap.size W W':=by
 have kv:=fun (V:World) (hV:Below W.heap.size W V) (tag:Int)=>Qgl k hcnt a len cap V ((h.below hV).mono hV.size) tag
 have KV:=QQ kv;have H0:=QQ h;clear h kv;go_enter Tryz.func27,Tryz.ntmps27;refine wp_seq_k (fun K aK=>?_);have AK:=QQ aK;clear aK;go_wp2;refine (QG AK) _ _ ?_;clear AK K;generalize hV:World.alloc W _=V;have hV2:V=W.alloc (.cells QdQ 54):=hV.symm;clear hV
 have bV:Below W.heap.size W V:=by rw [hV2];exact (QB _ _).alloc (QN _) _
 have eR:V.heap[W.heap.size]?=some (.cells QdQ 54):=by rw [hV2];exact QW _ _
 have sV:W.heap.size<V.heap.size:=by rw [hV2];simp
 clear hV2;refine wp_seq_k (fun K aK=>?_);have AK:=QQ aK;clear aK;go_wp2_with (go_at_call 25;refine Qau ?_);unfold Qag;refine Calls.mono ((QG KV) V bV 7) ?_;rintro e' w7 ⟨rfl,b0⟩;replace eR:=(b0.block _ (by omega)).trans eR
 replace sV:W.heap.size<w7.heap.size:=by have:=b0.size;omega
 replace bV:=bV.trans (b0.mono bV.size);clear b0;go_wp2_with (go_at_call 25;refine Qau ?_);unfold Qag;refine Calls.mono ((QG KV) w7 bV 8) ?_;rintro e' w8 ⟨rfl,b0⟩;replace eR:=(b0.block _ (by omega)).trans eR
 replace sV:W.heap.size<w8.heap.size:=by have:=b0.size;omega
 replace bV:=bV.trans (b0.mono bV.size);clear b0;go_wp2_with (go_at_call 25;refine Qau ?_);unfold Qag;refine Calls.mono ((QG KV) w8 bV 9) ?_;rintro e' w9 ⟨rfl,b0⟩;replace eR:=(b0.block _ (by omega)).trans eR
 replace sV:W.heap.size<w9.heap.size:=by have:=b0.size;omega
 replace bV:=bV.trans (b0.mono bV.size);clear b0;obtain ⟨n7,h7⟩:∃ x,x=Qcy k 7:=⟨_,rfl⟩;obtain ⟨n8,h8⟩:∃ x,x=Qcy k 8:=⟨_,rfl⟩;obtain ⟨n9,h9⟩:∃ x,x=Qcy k 9:=⟨_,rfl⟩;obtain ⟨PV,hPV⟩:∃ PV:Array Value,PV=((prZ n7 n8 n9 0).vals none 0 none 0).toArray:=⟨_,rfl⟩
 have hP5:PV.size=55:=by rw [hPV,QS,Pr.vals_length (Qf4 ..)]
 have hP1:PV.all (·.oneCell')=true:=by rw [hPV,Array.all_eq_true_iff_forall_mem];exact fun v hv=>Qdw _ _ _ _ _ v (by simpa using hv)
 have hPB:PV=_:=hPV.trans (by rw [QhW]);rw [← h7,← h8,← h9];have HN:=QQ (QA h7 (QA h8 h9));have HPV:=QQ hPV;clear h7 h8 h9 hPV;have HPB:=QQ hPB;clear hPB;go_wp2_with ((fail_if_success (unfold Qag));refine Qan (t:=54) rfl ?_);unfold Qag;generalize hA:World.alloc w9 _=A;have hA2:A=w9.alloc (Obj.cells QdQ 54):=hA.symm;clear hA
 have pq:A.heap[w9.heap.size]?=some (.cells QdQ 54):=by rw [hA2];exact QW _ _
 have bA:Below w9.heap.size w9 A:=by rw [hA2];exact (QB _ _).alloc (QN _) _
 clear hA2
 have hiP:(Tryz.prog.info? 54).map (·.size)=some PV.size:=by rw [hP5];exact QdY
 refine Qab rfl 54 (.tmp 3) (.tmp 17) rfl w9.heap.size PV rfl (by rw [show PV=_ from HPB];rfl) 54 QdQ pq hiP (by rw [hP5];rfl) hP1 ?_;obtain ⟨V5,hV5⟩:∃ V5,V5=A.setRow w9.heap.size PV:=⟨_,rfl⟩
 have e5:V5.heap[w9.heap.size]?=some (.cells PV 54):=by rw [hV5];exact setRow_heap _ _ _ _ _ _ pq
 have b5:Below w9.heap.size w9 V5:=by rw [hV5];exact Qaj bA (QN _) _
 rw [← hV5];clear hV5 pq bA;replace eR:=(b5.block _ (by omega)).trans eR
 have q2:V5.cell? ⟨w9.heap.size,2,none⟩=some (.int .i64 n9):=by rw [cell_of_row V5 _ 2 _ _ _ e5,show PV=_ from HPB];rfl
 have B5:=bV.trans (b5.mono bV.size);have lT:w9.heap.size<V5.heap.size:=(QI.1 e5).1;obtain ⟨T,hT⟩:∃ T,T=w9.heap.size:=⟨_,rfl⟩;rw [← hT] at e5 q2 sV lT ⊢;clear bV b5 hT;go_wp2;refine (QG AK) _ _ ?_;clear AK K;refine wp_seq_k (fun K aK=>?_);have AK:=QQ aK;clear aK;by_cases hz:n9=2
 ·subst hz
  go_wp2_with (go_at_call 25;refine Qau ?_);unfold Qag;refine Calls.mono ((QG KV) V5 B5 10) ?_;rintro e' w6 ⟨rfl,b0⟩;replace e5:=(b0.block _ lT).trans e5;replace eR:=(b0.block _ (by omega)).trans eR;have B6:=B5.trans (b0.mono B5.size);have hu:=Qda (Qcy k 10);obtain ⟨n10,h10⟩:∃ x,x=Qcy k 10:=⟨_,rfl⟩;obtain ⟨m10,h10m⟩:∃ x,x=n10 % 4294967296:=⟨_,rfl⟩;rw [← h10,← h10m] at hu;rw [← h10];have HM:=QQ (QA h10 h10m);obtain ⟨PW,hPW⟩:∃ PW:Array Value,PW=((prZ n7 n8 2 m10).vals none 0 none 0).toArray:=⟨_,rfl⟩
  have hQ5:PW.size=55:=by rw [hPW,QS,Pr.vals_length (Qf4 ..)]
  have hQ1:PW.all (·.oneCell')=true:=by rw [hPW,Array.all_eq_true_iff_forall_mem];exact fun v hv=>Qdw _ _ _ _ _ v (by simpa using hv)
  have hset:PV.setIfInBounds 3 (.int .u32 m10)=PW:=by
   rw [show PV=_ from HPV,hPW];have:=QdS [.int .i64 n7,.int .i64 n8,.int .i64 2] (((prZ n7 n8 2 m10).vals none 0 none 0).drop 4) (.int .u32 0) (.int .u32 m10) 3 rfl;simpa [prZ,Pr.vals] using this
  have hiQ:(Tryz.prog.info? 54).map (·.size)=some PW.size:=by rw [hQ5];exact QdY
  have HPW:=QQ hPW;have HSET:=QQ hset;clear h10 h10m hPW hset b0 B5 q2 lT;go_wp2_with ((fail_if_success (unfold Qag));refine Qan (t:=40) rfl ?_);unfold Qag;refine Qar rfl 40 (.tmp 24) (.tmp 23) rfl T 3 rfl (.int .u32 m10) rfl rfl rfl 54 _ e5 QcC (by rw [hP5];decide) ?_;rw [show PV.setIfInBounds 3 (.int .u32 m10)=PW from HSET];obtain ⟨V7,hV7⟩:∃ V7,V7=w6.setRow T PW:=⟨_,rfl⟩
  have e7:V7.heap[T]?=some (.cells PW 54):=by rw [hV7];exact setRow_heap _ _ _ _ _ _ e5
  have eR7:V7.heap[W.heap.size]?=some (.cells QdQ 54):=by rw [hV7,setRow_other _ _ _ _ (by omega)];exact eR
  have B7:Below W.heap.size W V7:=by rw [hV7];exact Qaj B6 (by omega) _
  rw [← hV7];clear hV7 e5 eR B6 HSET
  go_wp2_with first
   | (refine Qai (by rfl) 54 (.tmp 3) rfl T 0 rfl PW PW _ e7 (by rw [List.drop_zero,List.take_of_length_le (by simp)]) _ Tryz.underlying54 rfl hiQ ?_)
   | ((fail_if_success (unfold Qag));refine Qan (t:=54) rfl ?_)
  unfold Qag;refine Qab rfl 54 (.tmp 2) (.tmp 25) rfl W.heap.size PW rfl rfl 54 QdQ eR7 hiQ (by rw [hQ5];rfl) hQ1 ?_;obtain ⟨V8,hV8⟩:∃ V8,V8=V7.setRow W.heap.size PW:=⟨_,rfl⟩
  have e8:V8.heap[W.heap.size]?=some (.cells PW 54):=by rw [hV8];exact setRow_heap _ _ _ _ _ _ eR7
  have b8:Below W.heap.size W V8:=by rw [hV8];exact Qaj B7 (by omega) _
  rw [← hV8];clear hV8 eR7 e7 B7;go_wp2;obtain ⟨h7,h8,h9⟩:=(QG HN);obtain ⟨h10,h10m⟩:=(QG HM)
  have hk:Qb8 k=prZ n7 n8 2 m10:=by
   unfold Qb8;rw [← h9,if_pos rfl,← h7,← h8,← h10,← h10m]
  refine bodyPost_ret (results_cell_row rfl _ _ W.heap.size 54 PW (0,0) _ rfl e8 Tryz.underlying54 rfl hiQ) rfl ?_;refine ⟨none,0,none,0,?_,?_,b8⟩
  ·rw [hk,show PW=_ from HPW]
  ·rw [hk];exact Qb3.none _ _ _ rfl rfl
 ·have hz2:(n9 == 2)=false:=by simpa using hz
  have HZ:=QQ hz;clear HPB hz;go_wp2;refine (QG AK) _ _ ?_;clear AK K;refine wp_seq_k (fun K aK=>?_);have AK:=QQ aK;clear aK;obtain ⟨bs,hbs⟩:∃ bs,bs=Qao (Qah k 11 0):=⟨_,rfl⟩;have kf:=QfP k V5 W.heap.size B5.size a len cap ((QG H0).below B5) hcnt 11 0;have HB:=QQ hbs;clear hbs q2;go_wp2_with (go_at_call 24;refine Qau ?_);unfold Qag;refine kf.mono ?_;rintro e w1 F1;obtain ⟨b1,t,a1,l1,c1,ka,kl,kc,ok,rfl,hrow,hbl⟩:=QcZ F1;rw [show Qao (Qah k 11 0)=bs from (QG HB).symm] at hrow hbl;have eT1:=(b1.block _ lT).trans e5;have eR1:=(b1.block _ (by omega)).trans eR;have B6:=B5.trans (b1.mono B5.size);have hr0:QaL W.heap.size W (.slice a1 l1 c1) bs:=Qfn B6 hrow
  have sT:T<w1.heap.size:=by have:=b1.size;omega
  clear kf F1 hrow e5 eR b1 lT B5;dsimp only;go_wp2_with ((fail_if_success (unfold Qag));refine Qan (t:=66) rfl ?_);unfold Qag;obtain ⟨C,hC⟩:∃ C:Array Value,C=#[.int .i64 t,.slice a1 l1 c1,.slice ka kl kc]:=⟨_,rfl⟩;refine Qab rfl 66 (.tmp 4) (.tmp 29) rfl w1.heap.size #[.int .i64 t,.slice a1 l1 c1,.slice ka kl kc] rfl rfl 66 zT (QW _ _) QbO rfl (QaS ..) ?_;rw [World.setRow_alloc_new,← hC];obtain ⟨V2,hV2⟩:∃ V2,V2=w1.alloc (.cells C 66):=⟨_,rfl⟩
  have bV2:Below w1.heap.size w1 V2:=by rw [hV2];exact (QB _ _).alloc (QN _) _
  have eF:V2.heap[w1.heap.size]?=some (.cells C 66):=by rw [hV2];exact QW _ _
  rw [← hV2];obtain ⟨Fb,hFb⟩:∃ Fb,Fb=w1.heap.size:=⟨_,rfl⟩;rw [← hFb] at eF ⊢
  have inv2:Qa0 W a len cap k T Fb (prZ n7 n8 n9 0) C V2 none 0 none 0 :=
   ⟨H0,hcnt,B6.trans (bV2.mono B6.size),(bV2.block _ (by omega)).trans eR1,by rw [← (QG HPV)];exact (bV2.block _ sT).trans eT1,by omega,eF,by rw [hC];rfl,by omega,Qb3.none _ _ _ rfl rfl,Qf4 ..⟩
  have q1:V2.cell? ⟨Fb,1,none⟩=some (.slice a1 l1 c1):=by rw [cell_of_row V2 _ 1 _ _ _ eF,hC];rfl
  have hr2:QaL V2.heap.size V2 (.slice a1 l1 c1) bs:=(hr0.below inv2.below).mono inv2.below.size;have INV2:=QQ inv2;clear hV2 bV2 eF hFb inv2 hC hr0 eT1 eR1 B6 sT;have kd:=QjR V2 a1 l1 c1 bs hr2 (by omega);have hok:=Qhk hr2.2;have hone:=Qgz (cpD bs)
  have hsz:(cpD bs).vals.toArray.size=11:=by rw [QS,Cp.vals_length hok]
  obtain ⟨cp,hcp⟩:∃ cp,cp=cpD bs:=⟨_,rfl⟩;rw [← hcp] at kd hok hone hsz;obtain ⟨R,hR⟩:∃ R,R=cp.vals.toArray:=⟨_,rfl⟩;rw [← hR] at kd hone hsz;have HCP:=QQ (QA hcp hR);clear hcp hR hr2 hbl;go_wp2;refine (QG AK) _ _ ?_;clear AK K;refine wp_seq_k (fun K aK=>?_);have AK:=QQ aK;clear aK;go_wp2_with (go_at_call 68;refine Qau ?_);unfold Qag;refine kd.mono ?_;rintro e w3 ⟨rfl,b3⟩;have inv3:=(QG INV2).grow b3;have eT:=inv3.eT
  have hvl:(((prZ n7 n8 n9 0).vals none 0 none 0).toArray).size=55:=by rw [QS,Pr.vals_length inv3.ok]
  have inv4:=inv3.put { prZ n7 n8 n9 0 with cpu:=cp } rfl rfl ⟨hok,inv3.ok.2⟩ (R:=((((prZ n7 n8 n9 0).vals none 0 none 0).toArray).toList.take 4++R.toList++(((prZ n7 n8 n9 0).vals none 0 none 0).toArray).toList.drop (4+R.size)).toArray) (by
   obtain ⟨_,hR⟩:=(QG HCP);rw [hsz,hR]
   exact congrArg List.toArray (Qkf (prZ n7 n8 n9 0) none 0 none 0 inv3.ok cp hok))
  have INV4:=QQ inv4;clear kd q1 b3 inv3 inv4 INV2;go_wp2_with ((fail_if_success (unfold Qag));refine Qan (t:=45) rfl ?_);unfold Qag;refine QdJ rfl 45 (.tmp 34) (.tmp 33) rfl T 4 R rfl rfl 54 _ eT (by rw [hsz];exact Qbv) (by rw [hsz,hvl];decide) hone ?_;go_wp2;refine (QG AK) _ _ ?_;obtain ⟨hcp,_⟩:=(QG HCP);have inv4:=(QG INV4);rw [hcp,show bs=Qao (Qah k 11 0) from HB] at inv4;obtain ⟨h7,h8,h9⟩:=(QG HN)
  have hseg:Qcl W a len cap k T Fb (tl 5 (Tryz.f27.body.getD .skip)) { prZ n7 n8 n9 0 with cpu:=cpD (Qao (Qah k 11 0)) }:=by
   refine Qqu W a len cap k T Fb _ (Qqv W a len cap k T Fb _ rfl (QpT W a len cap k T Fb _ (QpU W a len cap k T Fb _ (QpV W a len cap k T Fb _ (QpW W a len cap k T Fb _ rfl (QpX W a len cap k T Fb _ rfl (QpY W a len cap k T Fb _ ?_)))))));exact QkF k n7 n8 n9 h7 h8 h9 HZ
  exact hseg _ _ _ _ _ _ _ _ _ _ _ _ _ _ _ _ _ _ _ _ _ _ _ _ _ _ _ _ _ _ _ _ _ _ _ _ _ _ _ _ _ _ _ _ _ _ _ _ _ _ _ _ _ _ _ _ _ _ _ _ _ _ _ _ _ _ _ _ _ _ _ _ _ _ _ _ _ _ _ _ _ _ _ _ _ _ _ _ _ _ _ _ _ _ _ _ _ _ _ _ _ _ _ _ _ _ _ _ _ _ _ _ _ _ _ _ _ _ _ _ _ _ _ _ _ _ _ _ _ _ _ _ _ _ _ _ _ _ _ _ _ _ _ _ _ _ _ _ _ _ _ _ _ _ _ _ _ _ _ _ _ _ _ _ _ _ _ none 0 none 0 inv4
end
end Go.Proofs.YtejcandhijdnhaaGreat
