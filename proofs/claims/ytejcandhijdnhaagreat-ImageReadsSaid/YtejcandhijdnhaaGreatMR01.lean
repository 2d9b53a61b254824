/- Own texts of this seat, one behind the other, without needless spaces (part 1 of 26). -/
import Derived.RangeFuncNested
import Derived.RangeFuncBound
import Derived.RangeFuncCalls
import Derived.RangeFuncLeaves
import Derived.Scope
import Derived.RangeFuncBox
import Derived.Laws.AppendOwn
import Derived.Laws.BytesArg
import Derived.WalkKit
import Derived.ProofKit
import Derived.OpenShut
import Derived.Test.YtejcandhijdnhaaGreatRows
import Derived.Deep.Slices
import Derived.Deep.Fields
import Derived.ChangeSame
import Derived.ShutString
import Derived.ChangeOld
import GoSem.Core.Float
import GoSem.Extern.MathFloor
import Derived.Lib.Hide
import Derived.Below
import Derived.BigRegion
import Derived.Laws.BitsLemmas
import Derived.Shelf.Abstract
import Derived.OwnWalkIn
import Derived.TacticsInMore
import Derived.LoopNIn
import Derived.LoopIn
import Derived.BigFrameIn
import Derived.BigRegionIn
import Derived.Maps.AppendAt
import Derived.Laws.Externs
import Derived.BigFrame
import Derived.Deep.WholeRow
import Derived.Deep.Cut
import Derived.Deep.CutRange
import Derived.Deep.CutBlock
import Derived.Lib.Hide
import Derived.Below
import Derived.RangeFuncRecord
namespace Go.Proofs.YtejcandhijdnhaaGreat
open Go Go.RowKit
set_option linter.unusedVariables false
set_option linter.unusedSimpArgs false
set_option linter.unnecessarySimpa false
set_option maxRecDepth 100000
set_option maxHeartbeats 16000000
theorem QN (n : Nat) : n ≤ n := Nat.le_refl n
theorem QW (w : World) (o : Obj) : (w.alloc o).heap[w.heap.size]? = some o := World.alloc_heap_new w o
theorem QI {α : Type _} {i : Nat} {b : α} {xs : Array α} : xs[i]? = some b ↔ ∃ h : i < xs.size, xs[i] = b := Array.getElem?_eq_some_iff
theorem QA {a b : Prop} (x : a) (y : b) : a ∧ b := ⟨x, y⟩
theorem QB (B : Nat) (w : World) : Below B w w := Below.refl B w
theorem QS {α : Type _} {l : List α} : l.toArray.size = l.length := List.size_toArray
theorem QL {α : Type _} {l k : List α} : (l ++ k).length = l.length + k.length := List.length_append
theorem QM {α β : Type _} {l : List α} (f : α → β) : (l.map f).length = l.length := List.length_map f
theorem QG {p : Prop} (h : Hid p) : p := h
theorem QQ {p : Prop} (h : p) : Hid p := h
section
def Qag (p:Prop):Prop:=p
theorem Qau {p:Prop} (h:Qag p):p:=h
structure QaM (p:Nat→Prop) (W W':World):Prop where
 os:W'.os=W.os
 tape:W'.tape=W.tape
 output:W'.output=W.output
 size:W.heap.size≤W'.heap.size
 block:∀ b,p b→W'.heap[b]?=W.heap[b]?
structure Wr (S S':Nat→Prop) (W W':World):Prop where
 os:W'.os=W.os
 tape:W'.tape=W.tape
 output:W'.output=W.output
 size:W.heap.size≤W'.heap.size
 block:∀ b,b<W.heap.size→¬ S b→W'.heap[b]?=W.heap[b]?
 new:∀ b,S' b→S b∨W.heap.size≤b
theorem QaM.refl (p:Nat→Prop) (W:World):QaM p W W:=⟨rfl,rfl,rfl,QN _,fun _ _=>rfl⟩
theorem QaM.trans {p:Nat→Prop} {A B C:World} (h:QaM p A B) (k:QaM p B C):QaM p A C :=
 ⟨k.os.trans h.os,k.tape.trans h.tape,k.output.trans h.output,Nat.le_trans h.size k.size,fun b hb=>(k.block b hb).trans (h.block b hb)⟩
theorem QaM.mono {p q:Nat→Prop} {A B:World} (h:QaM p A B) (hq:∀ b,q b→p b):QaM q A B:=⟨h.os,h.tape,h.output,h.size,fun b hb=>h.block b (hq b hb)⟩
theorem QaM.below {n:Nat} {p:Nat→Prop} {A B:World} (h:QaM p A B) (hq:∀ b,b<n→p b):Below n A B:=⟨h.os,h.tape,h.output,h.size,fun b hb=>h.block b (hq b hb)⟩
theorem QaM.putObj {p:Nat→Prop} (W:World) (l:Nat) (o:Obj) (hl:¬ p l):QaM p W (W.putObj l o) :=
 ⟨rfl,rfl,rfl,by simp,fun b hb=>World.putObj_heap_other (fun e=>hl (by rw [← e];exact hb))⟩
theorem QaM.of_below {n:Nat} {A B:World} (h:Below n A B):QaM (fun b=>b<n) A B:=⟨h.os,h.tape,h.output,h.size,h.block⟩
theorem Wr.refl (S:Nat→Prop) (W:World):Wr S S W W:=⟨rfl,rfl,rfl,QN _,fun _ _ _=>rfl,fun _ h=>.inl h⟩
theorem Wr.trans {S S' S'':Nat→Prop} {A B C:World} (h:Wr S S' A B) (k:Wr S' S'' B C):Wr S S'' A C :=
 ⟨k.os.trans h.os,k.tape.trans h.tape,k.output.trans h.output,Nat.le_trans h.size k.size,
  fun b hb hs=>(k.block b (Nat.lt_of_lt_of_le hb h.size) (fun h'=>(h.new b h').elim hs (fun h2=>by omega))).trans (h.block b hb hs),
  fun b hb=>(k.new b hb).elim (h.new b) (fun h2=>.inr (Nat.le_trans h.size h2))⟩
theorem Wr.of_below {S:Nat→Prop} {A B:World} (h:Below A.heap.size A B):Wr S S A B:=⟨h.os,h.tape,h.output,h.size,fun b hb _=>h.block b hb,fun _ h=>.inl h⟩
theorem Wr.setCell {S S':Nat→Prop} {A B:World} (h:Wr S S' A B) {p:Addr} (hp:S p.block∨A.heap.size≤p.block) (v:Value):Wr S S' A (B.setCell p v) :=
 ⟨h.os,h.tape,h.output,by show _≤(B.heap.modify _ _).size;rw [Array.size_modify];exact h.size,fun b hb hs=>(Below.heap_setCell B p v b (fun e=>by subst e;exact hp.elim hs (fun h2=>by omega))).trans (h.block b hb hs),h.new⟩
theorem Wr.alloc {S S':Nat→Prop} {A B:World} (h:Wr S S' A B) (o:Obj):Wr S S' A (B.alloc o) :=
 ⟨h.os,h.tape,h.output,by simp;have:=h.size;omega,fun b hb hs=>(Below.heap_alloc B o b (Nat.lt_of_lt_of_le hb h.size)).trans (h.block b hb hs),h.new⟩
theorem Wr.drew {S S':Nat→Prop} {A B:World} (h:Wr S S' A B):Wr S S' A B.drew:=⟨h.os,h.tape,h.output,h.size,h.block,h.new⟩
theorem Wr.to {S S' S'':Nat→Prop} {A B:World} (h:Wr S S' A B) (hn:∀ b,S'' b→S b∨A.heap.size≤b):Wr S S'' A B:=⟨h.os,h.tape,h.output,h.size,h.block,hn⟩
theorem Wr.grown {S S':Nat→Prop} {A B C:World} {row:Option Nat} (h:Wr S S' A B) (hg:B.grownBy C row) (hr:∀ b,row=some b→S b∨A.heap.size≤b):Wr S S' A C :=
 ⟨hg.os.trans h.os,hg.tape.trans h.tape,hg.output.trans h.output,Nat.le_trans h.size hg.size,
  fun b hb hs=>(hg.block b (Nat.lt_of_lt_of_le hb h.size) (fun e=>(hr b e.symm).elim hs (fun h2=>by omega))).trans (h.block b hb hs),h.new⟩
theorem Qac {A B:World} {base:Nat} {e:TypeId} {size:Nat} {v:Value} {n:Nat} {xs:List Value} (h:A.ownsRow base e size v n xs) (hs:∀ b,v.ownBlock=some b→B.heap[b]?=A.heap[b]?):B.ownsRow base e size v n xs:=by
 refine ⟨h.1,?_⟩
 rcases h.2 with h | ⟨g,cap,cur,rfl,h1,h2,h3⟩
 ·exact .inl h
 ·exact .inr ⟨g,cap,cur,rfl,h1,(hs g rfl).trans h2,h3⟩
def QeP (B:Nat) (I:Nat→(Nat→Prop)→World→Prop):Prop:=∀ k S W W',I k S W→QaM (fun b=>b<B∨S b) W W'→I k S W'
def Qp {α:Type} (P:Program) (g:Nat) (lb:Array Value) (encs:α→Array Value) (X:Nat→Prop) (xs:List α) (w:World):Prop :=
 ∀ (l:Nat) (J Jx:Nat→(Nat→Prop)→World→Prop) (S0:Nat→Prop) (W:World),Below w.heap.size w W→QeP W.heap.size J→QeP W.heap.size Jx →
  (∀ k S W,J k S W→∀ b,S b→b<W.heap.size)→(∀ b,X b→¬ S0 b) →
  (∀ (k:Nat) (h:k<xs.length) (S:Nat→Prop) (W1:World),J k S W1→YieldAt Fence.wide 100 P l (encs xs[k]) W1 fun e W' =>
   (e=.returned (.bool true)∧∃ S',J (k+1) S' W'∧Wr S S' W1 W')∨(e=.returned (.bool false)∧∃ S',Jx (k+1) S' W'∧Wr S S' W1 W')) →
  J 0 S0 W →
  Calls P g (#[.func (.yield l) #[] #[]]++lb) W fun e W'=>(∃ v,e=.returned v)∧((∃ S',J xs.length S' W')∨∃ k S',k≤xs.length∧Jx k S' W')
def Qd4 (I:Nat→(Nat→Prop)→World→Prop) (Ix:Code→Nat→(Nat→Prop)→World→Prop) (k:Nat) (S:Nat→Prop) (W:World):Exit→Act→World→Prop
 | .normal,_,W'=>∃ S',I (k+1) S' W'∧Wr S S' W W'
 | .ret,_,W'=>∃ S',Ix .ret (k+1) S' W'∧Wr S S' W W'
 | .exit id,_,W'=>∃ S',Ix (.exit id) (k+1) S' W'∧Wr S S' W W'
 | .goto t,_,W'=>∃ S',Ix (.goto t) (k+1) S' W'∧Wr S S' W W'
 | .panic _,_,_=>False
 | .outgrown,_,_=>False
theorem Qm4 {m m':Nat} {P:Program} {l l':Nat} {args:Array Value} {W:World} {R:Ending→World→Prop} (h:YieldAt Fence.wide m P l args W R):YieldAt (Fence.wide.inRound l') m' P l args W R:=by
 obtain ⟨fn,tmps,assign,body,h1,h2,h3⟩:=h;exact ⟨fn,tmps,assign,body,h1,h2,fun c cs _=>h3 c cs (room_wide _)⟩
theorem Qd8 {P:Program} {f:FuncId} {args:Array Value} {w:World} {R:Ending→World→Prop} (l n:Nat) (h:Calls P f args w R):CallsIn (Fence.wide.inRound l) n P f args w R:=CallsIn.inRound l (callsIn_wide.2 h)
theorem Qel {P:Program} {n:Nat} {c:Code} {Q:Exit→Act→World→Prop} {a:Act} {w:World} (h:c.wpIn Fence.wide n P (Exit.noGoto Q) a w):(Code.scope c).wpIn Fence.wide n P Q a w :=
 wpIn_wide.2 (wp_scope_straight (wpIn_wide.1 h))
variable {P : Program} {n : Nat}
theorem Qeg {α:Type} {g:Operand} {ps:Array Tmp} {assign body:Code} {Q:Exit→Act→World→Prop} {a:Act} {w:World}
  {gf:Nat} {lb:Array Value} (hg:a.eval g=.func (.func gf) #[] lb) (eg:∀ args w,(callFunc gf args).run P w=.ok (.enter gf args) w)
  {encs:α→Array Value} {X:Nat→Prop} {xs:List α} (hseq:Qp P gf lb encs X xs w) (hps:∀ x,(encs x).size=ps.size)
  (I:Nat→(Nat→Prop)→World→Prop) (Ix:Code→Nat→(Nat→Prop)→World→Prop) (S0:Nat→Prop)
  (hX:∀ b,X b→b<w.heap.size∧¬ S0 b) (hI:QeP w.heap.size I) (hIx:∀ c,QeP w.heap.size (Ix c)) (hlt:∀ k S W,I k S W→∀ b,S b→b<W.heap.size) (h0:I 0 S0 w)
  (a₁:α→Act)
  (hassign:∀ (l:Nat) (x:α) (W:World) (K:Act→World→Prop),K (a₁ x) W →
   assign.wpIn (Fence.wide.inRound l) 100 P (Exit.then K (fun _ _ _=>False)) { tmps:=(ps.zip (encs x)).foldl (fun t (p,v)=>t.setIfInBounds p v) a.tmps,defers:=[] } W)
  (hbody:∀ (l k:Nat) (h:k<xs.length) (S:Nat→Prop) (W:World),I k S W →
   body.wpIn (Fence.wide.inRound l) 100 P (Qd4 I Ix k S W) (a₁ xs[k]) W)
  (hdone:∀ (D:Nat) (S:Nat→Prop) (W:World),w.heap.size≤D→¬ S D→I xs.length S W→W.heap[D]?=some (.deferred (some [])) →
   Q .normal { a with defers:={ target:=.collected D,args:=#[] }::a.defers } W)
  (hstop:∀ (D:Nat) (c:Code) (k:Nat) (S:Nat→Prop) (W:World),w.heap.size≤D→¬ S D→k≤xs.length→Ix c k S W→W.heap[D]?=some (.deferred (some [])) →
   c.wpIn Fence.wide n P Q { a with defers:={ target:=.collected D,args:=#[] }::a.defers } W) :
  (Code.rangeFunc g ps assign body).wpIn Fence.wide n P Q a w:=by
 refine wpIn_rangeFunc fun fn hfn=>?_
 obtain ⟨rec,hrec⟩:∃ rec:LoopState→Option Code→Loop,rec=fun st pe=>{ state:=st,pending:=pe,fn,tmps:=a.tmps,params:=ps,assign,body,defers:=w.heap.size }:=⟨_,rfl⟩
 obtain ⟨V,hV⟩:∃ V,V=(w.alloc (.deferred (some []))).alloc (.loop (rec .ready none)):=⟨_,rfl⟩
 have sV:V.heap.size=w.heap.size+2:=by rw [hV];simp
 have lV:V.heap[w.heap.size+1]?=some (.loop (rec .ready none)):=by
  have:=QW (w.alloc (.deferred (some []))) (.loop (rec .ready none));rw [World.size_alloc] at this;rw [hV];exact this
 have dV:V.heap[w.heap.size]?=some (.deferred (some [])):=by
  rw [hV];exact (Below.heap_alloc _ _ _ (by simp)).trans (QW w _)
 have bV:Below w.heap.size w V:=by rw [hV];exact ((QB _ w).alloc (QN _) _).alloc (by simp) _
 have s0:∀ b,S0 b→b<w.heap.size:=hlt _ _ _ h0;have iV:I 0 S0 V:=hI _ _ _ _ h0 ((QaM.of_below bV).mono fun b hb=>hb.elim id (s0 b))
 refine ⟨w.heap.size+1,[{ target:=.collected w.heap.size,args:=#[] }],V,{ target:=.fn (.func gf) lb,args:=#[.func (.yield (w.heap.size+1)) #[] #[]] },V,gf,
  #[.func (.yield (w.heap.size+1)) #[] #[]]++lb,V,?_,?_,fun _ _=>trivial,?_,fun h=>by simp [Fence.wide] at h,callsIn_wide.2 ?_⟩
 ·rw [hV,hrec];exact run_enterLoop_outer _ _ _ _ _
 ·simp only [resolve,hg];simp [go_sem]
 ·simp [invoke,go_sem,eg]
 clear hV
 -- the rounds' blocks,with the loop's own two
 obtain ⟨T,hT⟩:∃ T:(Nat→Prop)→Nat→Prop,T=fun S b=>S b∨b=w.heap.size∨b=w.heap.size+1:=⟨_,rfl⟩
 have T1:∀ S b,T S b↔(S b∨b=w.heap.size∨b=w.heap.size+1):=fun S b=>by rw [hT]
 clear hT
 refine (hseq (w.heap.size+1)
  (fun k S W=>∃ Sc,S=T Sc∧I k Sc W∧¬ Sc w.heap.size∧¬ Sc (w.heap.size+1)∧W.heap[w.heap.size+1]?=some (.loop (rec .ready none))∧W.heap[w.heap.size]?=some (.deferred (some [])))
  (fun k S W=>∃ Sc c,S=T Sc∧Ix c k Sc W∧¬ Sc w.heap.size∧¬ Sc (w.heap.size+1)∧W.heap[w.heap.size+1]?=some (.loop (rec .done (some c)))∧W.heap[w.heap.size]?=some (.deferred (some [])))
  (T S0) V bV ?_ ?_ ?_ ?_ ?_ ⟨S0,rfl,iV,fun h=>by have:=s0 _ h;omega,fun h=>by have:=s0 _ h;omega,lV,dV⟩).mono ?_
 ·rintro k S A A' ⟨Sc,rfl,hi,n1,n2,hl,hd⟩ hs
  exact ⟨Sc,rfl,hI _ _ _ _ hi (hs.mono fun b hb=>hb.elim (fun h=>.inl (by omega)) (fun h=>.inr ((T1 _ _).2 (.inl h)))),n1,n2,(hs.block _ (.inl (by omega))).trans hl,(hs.block _ (.inl (by omega))).trans hd⟩
 ·rintro k S A A' ⟨Sc,c,rfl,hi,n1,n2,hl,hd⟩ hs
  exact ⟨Sc,c,rfl,hIx c _ _ _ _ hi (hs.mono fun b hb=>hb.elim (fun h=>.inl (by omega)) (fun h=>.inr ((T1 _ _).2 (.inl h)))),n1,n2,(hs.block _ (.inl (by omega))).trans hl,(hs.block _ (.inl (by omega))).trans hd⟩
 ·rintro k S A ⟨Sc,rfl,hi,n1,n2,hl,hd⟩ b hb
  rcases (T1 _ _).1 hb with h | h | h
  ·exact hlt _ _ _ hi b h
  ·rw [h];exact (QI.1 hd).1
  ·rw [h];exact (QI.1 hl).1
 ·intro b hb h
  obtain ⟨h1,h2⟩:=hX b hb
  rcases (T1 _ _).1 h with h3 | h3 | h3
  ·exact h2 h3
  ·omega
  ·omega
 ·-- one round
  rintro k hk S W ⟨Sc,rfl,hi,n1,n2,hl,hd⟩;have hy:=run_yield (P:=P) (args:=encs xs[k]) hl (by rw [hrec];exact hps _);rw [hrec] at hy;refine ⟨fn,_,assign,body,hy,roundIn_of_wpIn hfn (hassign _ _ W _ ?_)⟩;clear hy;have hlt2:w.heap.size+1<W.heap.size:=(QI.1 hl).1;refine ⟨_,run_beginRound hl (by rw [hrec]),?_⟩;obtain ⟨W3,h3⟩:∃ W3,W3=W.putObj (w.heap.size+1) (.loop { rec .ready none with state:=.busy }):=⟨_,rfl⟩
  have hl3:W3.heap[w.heap.size+1]?=some (.loop { rec .ready none with state:=.busy }):=by rw [h3];exact World.putObj_heap_same hlt2
  have hd3:W3.heap[w.heap.size]?=some (.deferred (some [])):=by rw [h3];exact (World.putObj_heap_other (by omega)).trans hd
  have hi3:I k Sc W3:=hI _ _ _ _ hi (by rw [h3];exact QaM.putObj _ _ _ (fun h=>h.elim (fun h=>by omega) n2))
  have wr3:Wr (T Sc) (T Sc) W W3:=by
   rw [h3];exact ⟨rfl,rfl,rfl,by simp,fun b _ hs=>World.putObj_heap_other (fun e=>hs ((T1 _ _).2 (.inr (.inr e)))),fun b h=>.inl h⟩
  rw [← h3];clear h3
  have after:∀ (jump:Option Code) (Sc':Nat→Prop) (W4:World),Wr Sc Sc' W3 W4 →
    ∃ W5,W5=W4.putObj (w.heap.size+1) (.loop (rec (if jump.isNone then .ready else .done) jump))∧(Instr.endRound (w.heap.size+1) jump).run P W4=.ok (.bool jump.isNone) W5 ∧
    ¬ Sc' w.heap.size∧¬ Sc' (w.heap.size+1) ∧
    W5.heap[w.heap.size+1]?=some (.loop (rec (if jump.isNone then .ready else .done) jump))∧W5.heap[w.heap.size]?=some (.deferred (some []))∧Wr (T Sc) (T Sc') W W5:=fun jump Sc' W4 hw=>by
   have s3:=wr3.size;have hl4:=(hw.block _ (by omega) n2).trans hl3;have hd4:=(hw.block _ (by omega) n1).trans hd3
   have m1:¬ Sc' w.heap.size:=fun h=>(hw.new _ h).elim n1 (fun h=>by omega)
   have m2:¬ Sc' (w.heap.size+1):=fun h=>(hw.new _ h).elim n2 (fun h=>by omega)
   have hr:=run_endRound (P:=P) jump hl4;have hlt4:=(QI.1 hl4).1;rw [hrec] at hr ⊢;refine ⟨_,rfl,hr,m1,m2,World.putObj_heap_same hlt4,(World.putObj_heap_other (by omega)).trans hd4,?_⟩
   have w34:Wr (T Sc) (T Sc') W3 W4:=⟨hw.os,hw.tape,hw.output,hw.size,fun b hb hs=>hw.block b hb (fun h=>hs ((T1 _ _).2 (.inl h))),
    fun b hb=>((T1 _ _).1 hb).elim (fun h=>(hw.new b h).elim (fun h=>.inl ((T1 _ _).2 (.inl h))) .inr) (fun h=>.inl ((T1 _ _).2 (.inr h)))⟩
   refine (wr3.trans w34).trans ⟨rfl,rfl,rfl,by simp,fun b _ hs=>World.putObj_heap_other (fun e=>hs ((T1 _ _).2 (.inr (.inr e)))),fun b h=>.inl h⟩
  have leaves:∀ (c:Code) (Sc':Nat→Prop) (W4:World),Ix c (k+1) Sc' W4→Wr Sc Sc' W3 W4→∃ v W5,(Instr.endRound (w.heap.size+1) (some c)).run P W4=.ok v W5 ∧
    (Ending.returned v=.returned (.bool false)∧∃ S',(∃ Sc c,S'=T Sc∧Ix c (k+1) Sc W5∧¬ Sc w.heap.size∧¬ Sc (w.heap.size+1)∧W5.heap[w.heap.size+1]?=some (.loop (rec .done (some c)))∧W5.heap[w.heap.size]?=some (.deferred (some [])))∧Wr (T Sc) S' W W5) :=
   fun c Sc' W4 hi4 hw=>by
    obtain ⟨W5,e5,hr,m1,m2,hl5,hd5,hw5⟩:=after (some c) Sc' W4 hw;exact ⟨_,W5,hr,rfl,T Sc',⟨Sc',c,rfl,hIx c _ _ _ _ hi4 (by rw [e5];exact QaM.putObj _ _ _ (fun h=>h.elim (fun h=>by omega) m2)),m1,m2,hl5,hd5⟩,hw5⟩
  refine wpIn_mono (hbody _ k hk Sc W3 hi3) fun e a4 W4 hp=>?_
  cases e with
  | normal =>
   obtain ⟨Sc',hi4,hw⟩:=hp;obtain ⟨W5,e5,hr,m1,m2,hl5,hd5,hw5⟩:=after none Sc' W4 hw;exact ⟨_,W5,hr,.inl ⟨rfl,T Sc',⟨Sc',rfl,hI _ _ _ _ hi4 (by rw [e5];exact QaM.putObj _ _ _ (fun h=>h.elim (fun h=>by omega) m2)),m1,m2,hl5,hd5⟩,hw5⟩⟩
  | ret =>
   obtain ⟨Sc',hi4,hw⟩:=hp;obtain ⟨v,W5,hr,h⟩:=leaves .ret Sc' W4 hi4 hw;exact ⟨v,W5,hr,.inr h⟩
  | exit id =>
   obtain ⟨Sc',hi4,hw⟩:=hp;obtain ⟨v,W5,hr,h⟩:=leaves (.exit id) Sc' W4 hi4 hw;exact ⟨v,W5,hr,.inr h⟩
  | goto t =>
   obtain ⟨Sc',hi4,hw⟩:=hp;obtain ⟨v,W5,hr,h⟩:=leaves (.goto t) Sc' W4 hi4 hw;exact ⟨v,W5,hr,.inr h⟩
  | panic ch=>exact hp.elim
  | outgrown=>exact hp.elim
 ·-- Qcg the iterator
  rintro e W2 ⟨⟨v,rfl⟩,(⟨S',Sc,rfl,hi,n1,n2,hl,hd⟩ | ⟨k,S',hk,Sc,c,rfl,hi,n1,n2,hl,hd⟩)⟩
  ·have he:=run_endLoop (P:=P) hl (by rw [hrec];simp)
   have hp:(rec .ready none).pending=none:=by rw [hrec]
   rw [hp] at he;exact ⟨none,_,he,hdone _ Sc _ (QN _) n1 (hI _ _ _ _ hi (QaM.putObj _ _ _ (fun h=>h.elim (fun h=>by omega) n2))) ((World.putObj_heap_other (by omega)).trans hd)⟩
  ·have he:=run_endLoop (P:=P) hl (by rw [hrec];simp)
   have hp:(rec .done (some c)).pending=some c:=by rw [hrec]
   rw [hp] at he;exact ⟨some c,_,he,hstop _ c k Sc _ (QN _) n1 hk (hIx c _ _ _ _ hi (QaM.putObj _ _ _ (fun h=>h.elim (fun h=>by omega) n2))) ((World.putObj_heap_other (by omega)).trans hd)⟩
end
def QaO:Value→Nat→Prop
 | .slice (some a) len _,b=>0<len∧b=a.block
 | _,_=>False
def Qdb (k:IntKind) (n₀:Nat) (W:World) (sv:Value) (zs:List Int):Prop :=
 (∃ a cap,sv=.slice a 0 cap∧zs=[])∨∃ b off cap,sv=.slice (some ⟨b,off,none⟩) zs.length cap∧b<n₀∧zs.length≤cap∧cap≤maxLen∧∀ j,j<zs.length→W.cell? ⟨b,off+j,none⟩=some (.int k (zs.getD j 0))
theorem QaF {A B:World} {p:Addr} {v:Value} (h:B.heap[p.block]?=A.heap[p.block]?) (hc:A.cell? p=some v):B.cell? p=some v:=(World.cell?_of_block h).trans hc
theorem Qdb.same {k:IntKind} {n₀:Nat} {A B:World} {sv:Value} {zs:List Int} (h:Qdb k n₀ A sv zs) (hs:∀ b,QaO sv b→B.heap[b]?=A.heap[b]?):Qdb k n₀ B sv zs:=by
 rcases h with h | ⟨b,off,cap,rfl,hb,h1,h2,hc⟩
 ·exact .inl h
 ·exact .inr ⟨b,off,cap,rfl,hb,h1,h2,fun j hj=>QaF (p:=⟨b,off+j,none⟩) (hs b ⟨by omega,rfl⟩) (hc j hj)⟩
theorem Qdb.lt {k:IntKind} {n₀:Nat} {W:World} {sv:Value} {zs:List Int} (h:Qdb k n₀ W sv zs):∀ b,QaO sv b→b<n₀:=by
 rcases h with ⟨a,cap,rfl,rfl⟩ | ⟨b,off,cap,rfl,hb,_⟩
 ·intro b hb
  cases a <;> simp [QaO] at hb
 ·rintro _ ⟨_,rfl⟩;exact hb
theorem Qdb.mono {k:IntKind} {n m:Nat} {W:World} {sv:Value} {zs:List Int} (h:Qdb k n W sv zs) (hm:n≤m):Qdb k m W sv zs:=by
 rcases h with h | ⟨b,off,cap,h1,hb,h2⟩
 ·exact .inl h
 ·exact .inr ⟨b,off,cap,h1,by omega,h2⟩
theorem Qdb.below {k:IntKind} {n:Nat} {A B:World} {sv:Value} {zs:List Int} (h:Qdb k n A sv zs) (hb:Below n A B):Qdb k n B sv zs:=h.same fun b hx=>hb.block b (h.lt b hx)
theorem Qdb.slice {k:IntKind} {n₀:Nat} {W:World} {sv:Value} {zs:List Int} (h:Qdb k n₀ W sv zs):∃ a cap,sv=.slice a zs.length cap:=by
 rcases h with ⟨a,cap,rfl,rfl⟩ | ⟨b,off,cap,rfl,_⟩
 ·exact ⟨_,_,rfl⟩
 ·exact ⟨_,_,rfl⟩
theorem Qdb.open {k:IntKind} {n₀:Nat} {W:World} {a:Option Addr} {len cap:Nat} {zs:List Int} (h:Qdb k n₀ W (.slice a len cap) zs) :
  zs.length=len∧∃ b off,(0<len→a=some ⟨b,off,none⟩∧b<n₀∧len≤cap∧cap≤maxLen)∧∀ j,j<len→W.cell? ⟨b,off+j,none⟩=some (.int k (zs.getD j 0)):=by
 rcases h with ⟨a,c,h,rfl⟩ | ⟨b,off,c,h,hb,h1,h2,hc⟩
 ·injection h with e1 e2 e3;subst e1 e2 e3
  exact ⟨rfl,0,0,fun h=>by omega,fun j h=>by omega⟩
 ·injection h with e1 e2 e3;subst e1 e2 e3
  exact ⟨rfl,b,off,fun _=>⟨rfl,hb,h1,h2⟩,hc⟩
theorem Qba (zs:List Int) (j:Nat) (h:j<zs.length):zs.getD j 0=zs[j]:=by simp [List.getD,List.getElem?_eq_getElem h]
theorem Qdb.of_own {k:IntKind} {base:Nat} {e:TypeId} {W:World} {v:Value} {n:Nat} {zs:List Int} (h:W.ownsRow base e 1 v n (zs.map (Value.int k))):zs.length=n∧Qdb k W.heap.size W v zs:=by
 have hn:zs.length=n:=by have:=h.1;simpa using this
 refine ⟨hn,?_⟩;subst hn;have hlt:=h.lt
 have hc:=fun g=>h.cells (g:=g)
 rcases h.2 with ⟨rfl,h0⟩ | ⟨g,cap,cur,rfl,h1,h2,h3,h4,_⟩
 ·exact .inl ⟨_,_,rfl,List.eq_nil_of_length_eq_zero h0⟩
 ·refine .inr ⟨g,0,cap,rfl,(hlt g rfl).2,h3,h4,fun j hj=>?_⟩
  have:=hc g rfl j (.int k (zs.getD j 0)) (by rw [List.getElem?_map,Qba _ _ hj,List.getElem?_eq_getElem hj];rfl);simpa [Addr.add_lit] using this
def Qlb (k:IntKind) (w:World) (a:Option Addr) (len cap:Nat) (zs:List Int):Prop :=
 (a=none∧len=0∧cap=0∧zs=[]) ∨
 ∃ x,a=some x∧len≤cap∧cap≤maxLen∧zs.length=cap∧(∀ i,i<zs.length→w.cell? (x.add i)=some (.int k (zs.getD i 0)))∧∀ n∈zs,(Lit.int k n).wf=true
theorem Qlb.row {k:IntKind} {w:World} {a:Option Addr} {len cap:Nat} {zs:List Int} (h:Qlb k w a len cap zs):(zs.take len).length=len∧Qdb k w.heap.size w (.slice a len cap) (zs.take len)∧∀ z∈zs.take len,(Lit.int k z).wf=true:=by
 rcases h with ⟨rfl,rfl,rfl,rfl⟩ | ⟨x,rfl,hl,hm,hz,hc,hw⟩
 ·exact ⟨rfl,.inl ⟨_,_,rfl,rfl⟩,by simp⟩
 ·have e:(zs.take len).length=len:=by rw [List.length_take];omega
  refine ⟨e,?_,fun z h=>hw z (List.mem_of_mem_take h)⟩;by_cases h0:len=0
  ·subst h0
   exact .inl ⟨_,_,rfl,by simp⟩
  ·obtain ⟨b,off,spot⟩:=x
   have hspot:spot=none:=by
    have:=World.cell?_spot (hc 0 (by omega));simpa [Addr.add] using this
   subst hspot
   have c:∀ i,i<len→w.cell? ⟨b,off+i,none⟩=some (.int k (zs.getD i 0)):=fun i hi=>by
    have:=hc i (by omega)
    rwa [show (⟨b,off,none⟩:Addr).add i=⟨b,off+i,none⟩ from by unfold Addr.add;split <;> simp_all] at this
   refine .inr ⟨b,off,cap,by rw [e],World.block_lt_of_cell? w _ (c 0 (by omega)),by omega,hm,fun j hj=>?_⟩;rw [e] at hj;rw [c j hj];simp [List.getD,hj]
def QaL (n₀:Nat) (W:World) (sv:Value) (zs:List Int):Prop:=Qdb .u8 n₀ W sv zs∧∀ z∈zs,0≤z∧z≤255
theorem QaL.same {n₀:Nat} {A B:World} {sv:Value} {zs:List Int} (h:QaL n₀ A sv zs) (hs:∀ b,QaO sv b→B.heap[b]?=A.heap[b]?):QaL n₀ B sv zs:=⟨h.1.same hs,h.2⟩
theorem QaL.lt {n₀:Nat} {W:World} {sv:Value} {zs:List Int} (h:QaL n₀ W sv zs):∀ b,QaO sv b→b<n₀:=h.1.lt
theorem QaL.mono {n m:Nat} {W:World} {sv:Value} {zs:List Int} (h:QaL n W sv zs) (hm:n≤m):QaL m W sv zs:=⟨h.1.mono hm,h.2⟩
theorem QaL.below {n:Nat} {A B:World} {sv:Value} {zs:List Int} (h:QaL n A sv zs) (hb:Below n A B):QaL n B sv zs:=⟨h.1.below hb,h.2⟩
theorem QaL.slice {n₀:Nat} {W:World} {sv:Value} {zs:List Int} (h:QaL n₀ W sv zs):∃ a cap,sv=.slice a zs.length cap:=h.1.slice
theorem Qlb.row8 {w:World} {a:Option Addr} {len cap:Nat} {zs:List Int} (h:Qlb .u8 w a len cap zs):QaL w.heap.size w (.slice a len cap) (zs.take len):=⟨h.row.2.1,fun z hz=>bounds_u8 (h.row.2.2 z hz)⟩
theorem Qdz {P:Program} {n₀:Nat} {W:World} {sv:Value} {zs:List Int} (h:Qdb .u8 n₀ W sv zs) (src e dst:TypeId) (hs:P.underlying src=some (.slice e)) (he:P.underlying e=some (.int .u8)) (hd:P.underlying dst=some .string) :
  (convert src dst sv).run P W=.ok (.string (strOfNums zs)) W:=by
 rcases h with ⟨a,cap,rfl,rfl⟩ | ⟨b,off,cap,rfl,hb,h1,h2,hc⟩
 ·cases a with
  | none=>exact run_convert_bytes_nil W src e hs he 0 cap dst hd
  | some a =>
   have hl:(loadCells a 0).run P W=.ok #[] W:=run_loadCells_list (P:=P) W a [] (fun j v hj=>by simp at hj);rw [run_convert_bytes_string W src dst e _ 0 cap hs he hd,run_bytesToString W _ 0 cap [] hl];rfl
 ·exact run_convert_bytes_arg W src e hs he b off zs.length cap zs rfl hc dst hd
section
open Go.ChangeShapes Go.WideShapes Go.ChangeAt Go.Deep
section
variable {H : Type} {enc : TypeId × Value → H} {w : World} {Qau : Bool}
theorem open_bytes {fuel:Nat} {v:Value} {x:DataW H × List MemPlace} (h:DataW.trod enc Tryz.prog w 0 (fun _=>true) Qau fuel 22 [v]=some x) :
  ∃ (a:Option Addr) (len cap:Nat) (zs:List Int),v=.slice a len cap∧QaL w.heap.size w (.slice a len cap) zs:=by
 rcases open_ints Tryz.underlying22 Tryz.underlying5 (by kernel_rfl) h with ⟨hcs,_⟩ | ⟨x,l,c,zs,hcs,_,hl,hm,hz,_,hcell,hwz⟩
 ·injection hcs with hcs
  exact ⟨none,0,0,[],hcs,⟨.inl ⟨_,_,rfl,rfl⟩,by simp⟩⟩
 ·injection hcs with hcs
  exact ⟨some x,l,c,zs.take l,hcs,Qlb.row8 (.inr ⟨_,rfl,hl,hm,by simpa using hz,hcell,hwz⟩)⟩
end
end
def fl (n:Int):Nat:=FloatKind.f64.nearest n
theorem Qnk (way:Ieee.Toward) (s:Bool) (m:Nat):way.cut s m 0=m:=by
 unfold Ieee.Toward.cut;have:m % 1=0:=Nat.mod_one m
 cases way <;> simp [this]
theorem QhM (n:Int) (h:n.natAbs<2 ^ 40):∃ k:Nat,k≤1074∧FloatKind.f64.decode (fl n)=.number (decide (n<0)) (n.natAbs*2 ^ k) (-(k:Int)):=by
 unfold fl FloatKind.nearest FloatKind.encode FloatKind.decode;simp only [FloatKind.format,Ieee.Format.write,Ieee.Format.nearest];by_cases h0:n.natAbs=0
 ·obtain rfl:n=0:=by omega
  obtain ⟨k,hk⟩:∃ k,k=1074:=⟨_,rfl⟩;refine ⟨k,by omega,?_⟩;rw [show Int.natAbs 0=0 from rfl,if_pos rfl,Nat.zero_mul,hk];decide
 ·rw [if_neg h0]
  generalize hs:decide (n<0)=s;obtain ⟨m,hm⟩:∃ m,m=n.natAbs:=⟨_,rfl⟩;rw [← hm] at h h0 ⊢;clear hm;have hL:m.log2<40:=(Nat.log2_lt h0).2 h;have hlo:2 ^ m.log2≤m:=Nat.log2_self_le h0;have hhi:m<2 ^ (m.log2+1):=Nat.lt_log2_self;generalize m.log2=L at hL hlo hhi
  have e1:max (0+(L:Int)-(Ieee.double.fractionBits:Int)) Ieee.double.leastPlace=(L:Int)-52:=by
   have:Ieee.double.leastPlace = -1074:=by decide
   have h2:Ieee.double.fractionBits=52:=rfl;rw [this,h2];omega
  rw [e1]
  have e2:((0:Int)-((L:Int)-52)).toNat=52-L:=by omega
  have e3:((L:Int)-52-0).toNat=0:=by omega
  have e4:((L:Int)-52-Ieee.double.leastPlace).toNat=L+1022:=by
   have:Ieee.double.leastPlace = -1074:=by decide
   rw [this];omega
  rw [e2,e3,e4,Qnk,Nat.shiftLeft_eq];obtain ⟨B,hB⟩:∃ B:Nat,B=2 ^ 52:=⟨_,rfl⟩
  have hb:Ieee.double.binade=B:=by rw [hB];decide
  have hi:Ieee.double.infRung=2047*B:=by rw [hB];decide
  have hw:Ieee.double.signWeight=2048*B:=by rw [hB];decide
  have p1:B≤m*2 ^ (52-L):=by
   have:2 ^ L*2 ^ (52-L)≤m*2 ^ (52-L):=Nat.mul_le_mul_right _ hlo;rw [hB]
   rwa [← Nat.pow_add,show L+(52-L)=52 by omega] at this
  have p2:m*2 ^ (52-L)<2*B:=by
   have:m*2 ^ (52-L)<2 ^ (L+1)*2 ^ (52-L):=Nat.mul_lt_mul_of_pos_right hhi (Nat.pow_pos (by decide));rw [hB]
   rwa [← Nat.pow_add,show L+1+(52-L)=53 by omega] at this
  have hBp:0<B:=by rw [hB];decide
  refine ⟨52-L,by omega,?_⟩;generalize hK:m*2 ^ (52-L)=K at p1 p2;rw [hb,hi];clear hB hlo hhi h hK h0 e1 e2 e3 e4;obtain ⟨r,hr⟩:∃ r,r=(L+1022)*B+K:=⟨_,rfl⟩
  have hr2:r=(L+1023)*B+(K-B):=by
   have:(L+1023)*B=(L+1022)*B+B:=Nat.succ_mul _ _;rw [hr,this];omega
  have hr3:r<2047*B:=by
   have:(L+1022)*B+2*B≤2047*B:=by rw [← Nat.add_mul];exact Nat.mul_le_mul_right _ (by omega)
   omega
  have hr4:B≤r:=by omega
  have q7:r / B=L+1023:=by
   rw [hr2,Nat.mul_comm,Nat.mul_add_div hBp,Nat.div_eq_of_lt (by omega),Nat.add_zero]
  have q8:r % B=K-B:=by
   rw [hr2,Nat.mul_comm,Nat.mul_add_mod,Nat.mod_eq_of_lt (by omega)]
  rw [← hr,Nat.min_eq_left (by omega)];clear hr hr2;unfold Ieee.Format.read Ieee.Format.word;rw [hb,hi,hw]
  have hW:0<2048*B:=by omega
  have q1:(2048*B+r) / (2048*B) % 2=1:=by
   rw [Nat.add_div_left _ hW,Nat.div_eq_of_lt (by omega)]
  have q2:r / (2048*B) % 2=0:=by rw [Nat.div_eq_of_lt (by omega)]
  have q3:(2048*B+r) % (2048*B)=r:=by rw [Nat.add_mod_left,Nat.mod_eq_of_lt (by omega)]
  have q4:r % (2048*B)=r:=Nat.mod_eq_of_lt (by omega)
  have q5:¬ r<B:=by omega
  have q9:Ieee.double.leastPlace+((L+1023-1:Nat):Int) = -((52-L:Nat):Int):=by
   have:Ieee.double.leastPlace = -1074:=by decide
   rw [this];omega
  have q10:B+(K-B)=K:=by omega
  clear hb hi hw
  cases s
  ·simp only [Bool.false_eq_true,if_false,q2,q4,q5,hr3,if_true,q7,q8,q9,q10];rfl
  ·simp only [if_true,q1,q3,q5,hr3,if_false,q7,q8,q9,q10];rfl
theorem Qei (n:Int) (k:Nat):Ieee.signed (decide (n<0)) (n.natAbs*2 ^ k) 0=n*2 ^ k:=by
 unfold Ieee.signed;rw [Nat.shiftLeft_zero];by_cases h:n<0
 ·rw [if_pos (by simpa using h)]
  push_cast
  rw [show (n.natAbs:Int) = -n by omega,Int.neg_mul,Int.neg_neg]
 ·rw [if_neg (by simpa using h)]
  push_cast
  rw [show (n.natAbs:Int)=n by omega]
theorem Qg2 (s:Bool) (m k:Nat):Ieee.signed s m k=Ieee.signed s (m*2 ^ k) 0:=by
 unfold Ieee.signed;rw [Nat.shiftLeft_zero,Nat.shiftLeft_eq]
theorem QjV (a b:Int) (ha:a.natAbs<2 ^ 40) (hb:b.natAbs<2 ^ 40):Ieee.Datum.order (FloatKind.f64.decode (fl a)) (FloatKind.f64.decode (fl b))=some (compare a b):=by
 obtain ⟨i,hi,ea⟩:=QhM a ha;obtain ⟨j,hj,eb⟩:=QhM b hb;rw [ea,eb];unfold Ieee.Datum.order;obtain ⟨t,ht⟩:∃ t,t=max i j:=⟨_,rfl⟩
 have e1:min (-(i:Int)) (-(j:Int)) = -(t:Int):=by omega
 have e2:(-(i:Int) - -(t:Int)).toNat=t-i:=by omega
 have e3:(-(j:Int) - -(t:Int)).toNat=t-j:=by omega
 simp only [e1,e2,e3];rw [Qg2,Qg2 (decide (b<0)),Nat.mul_assoc,Nat.mul_assoc,← Nat.pow_add,← Nat.pow_add,show i+(t-i)=t by omega,show j+(t-j)=t by omega,Qei,Qei];have hp:(0:Int)<2 ^ t:=Int.pow_pos (by decide)
 congr 1
 rcases Int.lt_trichotomy a b with h | h | h
 ·rw [show compare a b=.lt from Int.compare_eq_lt.2 h]
  exact Int.compare_eq_lt.2 (Int.mul_lt_mul_of_pos_right h hp)
 ·subst h;simp
 ·rw [show compare a b=.gt from Int.compare_eq_gt.2 h]
  exact Int.compare_eq_gt.2 (Int.mul_lt_mul_of_pos_right h hp)
theorem Qps (n:Int) (way:Ieee.Toward) (k:Nat):way.cut (decide (n<0)) (n.natAbs*2 ^ k) k=n.natAbs:=by
 unfold Ieee.Toward.cut;by_cases h0:n.natAbs=0
 ·obtain rfl:n=0:=by omega
  cases way <;> simp
 ·have hl:k≤(n.natAbs*2 ^ k).log2:=by
   refine (Nat.le_log2 ?_).2 ?_
   ·exact Nat.mul_ne_zero h0 (by have:0<2 ^ k:=Nat.pow_pos (by decide);omega)
   ·exact Nat.le_mul_of_pos_left _ (by omega)
  have e:min k ((n.natAbs*2 ^ k).log2+2)=k:=by omega
  have hp:0<2 ^ k:=Nat.pow_pos (by decide);simp only [e];rw [Nat.shiftLeft_eq,Nat.one_mul,Nat.mul_div_cancel _ hp,Nat.mul_mod_left]
  cases way <;> simp <;> omega
theorem QgH (n:Int) (h:n.natAbs<2 ^ 40) (way:Ieee.Toward):(FloatKind.f64.decode (fl n)).integral way=.number (decide (n<0)) n.natAbs 0:=by
 obtain ⟨k,hk,e⟩:=QhM n h;rw [e];unfold Ieee.Datum.integral
 have e1:(-(k:Int)).toNat=0:=by omega
 have e2:(- -(k:Int)).toNat=k:=by omega
 simp only [e1,e2,Nat.shiftLeft_zero,Qps]
theorem Qnq (n:Int) (h:n.natAbs<2 ^ 40):FloatKind.f64.encode ((FloatKind.f64.decode (fl n)).integral .down)=fl n:=by
 rw [QgH n h];rfl
theorem Qnr (n:Int) (h:n.natAbs<2 ^ 40):(FloatKind.f64.decode (fl n)).toInt .zero=some n:=by
 unfold Ieee.Datum.toInt;rw [QgH n h];simp only [];have:=Qei n 0;simpa using this
theorem floor_run (n : Int) (h : n.natAbs < 2 ^ 40) (P : Program) (w : World) : (Extern.MathFloor.toIntegral "math.archFloor" .down #[.float .f64 (fl n)]).run P w = .ok (.float .f64 (fl n)) w := by
 have e:=Qnq n h;obtain ⟨k,hk,e2⟩:=QhM n h;rw [e2] at e
 have key:∀ (x:Nat) (s:Bool) (m:Nat) (p:Int),FloatKind.f64.decode x=.number s m p→FloatKind.f64.encode (Ieee.Datum.integral .down (.number s m p))=x →
   (Extern.MathFloor.toIntegral "math.archFloor" .down #[.float .f64 x]).run P w = .ok (.float .f64 x) w := fun x s m p h1 h2 => by
  have h3 : Extern.MathFloor.toIntegral "math.archFloor" .down #[.float .f64 x] = pure (Value.float .f64 (FloatKind.f64.encode (Ieee.Datum.integral .down (.number s m p)))) := by
   show (match FloatKind.f64.decode x with
    | .nan s t=>_
    | d=>pure (Value.float .f64 (FloatKind.f64.encode (d.integral .down))))=_
   rw [h1]
  rw [h3,h2,Sem.run_pure]
 exact key _ _ _ _ e2 e
theorem Qnl (n:Int) (w:World):(convert 2 191 (.int .i64 n)).run Tryz.prog w=.ok (.float .f64 (fl n)) w:=by
 unfold convert;simp [Sem.run_bind,run_underlying Tryz.underlying2,run_underlying Tryz.underlying191,Conv.intToFloat,fl]
theorem QoH (n:Int) (h:n.natAbs<2 ^ 40) (w:World):(convert 191 2 (.float .f64 (fl n))).run Tryz.prog w=.ok (.int .i64 n) w:=by
 unfold convert
 have h2:IntKind.i64.min≤n∧n≤IntKind.i64.max:=by
  have e1:IntKind.i64.min = -9223372036854775808:=rfl;have e2:IntKind.i64.max=9223372036854775807:=rfl
  have:(2:Nat) ^ 40=1099511627776:=by decide
  omega
 simp only [Sem.run_bind,run_underlying Tryz.underlying2,run_underlying Tryz.underlying191,Result.andThen_ok,Conv.floatToInt,Qnr n h];rw [if_pos h2,Sem.run_pure]
theorem Qgy (op:BinOp) (a b:Int) (ha:a.natAbs<2 ^ 40) (hb:b.natAbs<2 ^ 40) (r:Bool) (w:World) (h:(op=.geq∧r=decide (b≤a))∨(op=.lss∧r=decide (a<b))∨(op=.gtr∧r=decide (b<a))∨(op=.eql∧r=decide (a=b))∨(op=.neq∧r=decide (a≠b))) :
  (Op.floatCmp op .f64 (fl a) (fl b)).run Tryz.prog w=.ok (.bool r) w:=by
 have ho:FloatKind.f64.format.order (fl a) (fl b)=some (compare a b):=QjV a b ha hb
 rcases Int.lt_trichotomy a b with h0 | h0 | h0
 ·have hc:compare a b=.lt:=Int.compare_eq_lt.2 h0
  rcases h with ⟨rfl,rfl⟩ | ⟨rfl,rfl⟩ | ⟨rfl,rfl⟩ | ⟨rfl,rfl⟩ | ⟨rfl,rfl⟩ <;> simp only [Op.floatCmp,ho,hc,Sem.run_pure] <;> congr 2 <;> rw [Bool.eq_iff_iff,decide_eq_true_iff] <;> constructor <;> intro h1 <;> first | omega | exact absurd h1 (by decide) | decide
 ·have hc:compare a b=.eq:=by subst h0;simp
  rcases h with ⟨rfl,rfl⟩ | ⟨rfl,rfl⟩ | ⟨rfl,rfl⟩ | ⟨rfl,rfl⟩ | ⟨rfl,rfl⟩ <;> simp only [Op.floatCmp,ho,hc,Sem.run_pure] <;> congr 2 <;> rw [Bool.eq_iff_iff,decide_eq_true_iff] <;> constructor <;> intro h1 <;> first | omega | exact absurd h1 (by decide) | decide
 ·have hc:compare a b=.gt:=Int.compare_eq_gt.2 h0
  rcases h with ⟨rfl,rfl⟩ | ⟨rfl,rfl⟩ | ⟨rfl,rfl⟩ | ⟨rfl,rfl⟩ | ⟨rfl,rfl⟩ <;> simp only [Op.floatCmp,ho,hc,Sem.run_pure] <;> congr 2 <;> rw [Bool.eq_iff_iff,decide_eq_true_iff] <;> constructor <;> intro h1 <;> first | omega | exact absurd h1 (by decide) | decide
theorem Qg0 (a b:Nat) (w:World) (t:Array TypeId) (u:TypeId):(Builtin.complex_ t u #[.float .f64 a,.float .f64 b]).run Tryz.prog w=.ok (.complex .f64 a b) w:=rfl
theorem Qh0 (a b:Nat) (w:World) (t:Array TypeId) (u:TypeId):(Builtin.real_ t u #[.complex .f64 a b]).run Tryz.prog w=.ok (.float .f64 a) w:=rfl
theorem QhZ (a b:Nat) (w:World) (t:Array TypeId) (u:TypeId):(Builtin.imag_ t u #[.complex .f64 a b]).run Tryz.prog w=.ok (.float .f64 b) w:=rfl
def Qd (n:Int):Int:=if 524288≤n.tmod 1048576 then n.tmod 1048576-1048576 else if n.tmod 1048576 < -524288 then n.tmod 1048576+1048576 else n.tmod 1048576
def QeO (x:Int):Int:=if 2147483648≤x then x-4294967296 else x
theorem QeZ (n:Int):-1048576<n.tmod 1048576∧n.tmod 1048576<1048576:=by
 have h1:=Int.tmod_lt_of_pos n (show (0:Int)<1048576 by decide);have h2:=Int.lt_tmod_of_pos n (show (0:Int)<1048576 by decide);omega
theorem Qi2 (n:Int):-524288≤Qd n∧Qd n<524288:=by
 have:=QeZ n;unfold Qd
 split
 ·omega
 ·split <;> omega
theorem Qkk (n:Int) (h1:-9223372036854775808≤n) (h2:n≤9223372036854775807) (W:World) :
  Calls Tryz.prog 127 #[.int .i64 n] W fun e W'=>e=.returned (.float .f64 (fl (Qd n)))∧W'=W:=by
 obtain ⟨m,hm⟩:∃ m,m=n.tmod 1048576:=⟨_,rfl⟩;have hb:=QeZ n
 have hw:Qd n=if 524288≤m then m-1048576 else if m < -524288 then m+1048576 else m:=by unfold Qd;rw [← hm]
 rw [← hm] at hb;rw [hw];clear hw;replace hm:=hm.symm;go_enter Tryz.func127,Tryz.ntmps127
 have cv:=fun n=>Qnl n W
 go_wp2
 ·go_ret
  exact ⟨rfl,rfl⟩
 ·go_ret
  exact ⟨rfl,rfl⟩
 ·go_ret
  exact ⟨rfl,rfl⟩
theorem QnF (n m:Int) (h1:-9223372036854775808≤n∧n≤9223372036854775807) (h2:-9223372036854775808≤m∧m≤9223372036854775807) (W:World) :
  Calls Tryz.prog 110 #[.int .i64 n,.int .i64 m] W fun e W'=>e=.returned (.complex .f64 (fl (Qd n)) (fl (Qd m)))∧W'=W:=by
 have k1:=Qkk n h1.1 h1.2 W;have k2:=Qkk m h2.1 h2.2 W;obtain ⟨a,ha⟩:∃ a,a=fl (Qd n):=⟨_,rfl⟩;obtain ⟨b,hb⟩:∃ b,b=fl (Qd m):=⟨_,rfl⟩;rw [← ha] at k1 ⊢;rw [← hb] at k2 ⊢;clear ha hb;go_enter Tryz.func110,Tryz.ntmps110;go_wp2_with (go_at_call 127;refine Qau ?_);unfold Qag;refine k1.mono ?_;rintro e w ⟨rfl,rfl⟩;go_wp2_with (go_at_call 127;refine Qau ?_);unfold Qag;refine k2.mono ?_;rintro e w' ⟨rfl,rfl⟩;have cx:=Qg0 a b w';go_wp2;go_ret;exact ⟨rfl,rfl⟩
def wrN (x:Int):Int:=Qd (QeO x)
theorem Qfc (x y:Int) (h1:0≤x∧x<4294967296) (h2:0≤y∧y<4294967296) (W:World) :
  Calls Tryz.prog 89 #[.int .u32 x,.int .u32 y] W fun e W'=>e=.returned (.complex .f64 (fl (wrN x)) (fl (wrN y)))∧W'=W:=by
 have e1:IntKind.i32.wrap x=QeO x:=by
  show (if (true&&decide (x % (4294967296:Int) ≥ 2147483648))=true then x % 4294967296-4294967296 else x % 4294967296)=_;unfold QeO;simp only [Bool.true_and,decide_eq_true_eq]
  split <;> split <;> omega
 have e2:IntKind.i32.wrap y=QeO y:=by
  show (if (true&&decide (y % (4294967296:Int) ≥ 2147483648))=true then y % 4294967296-4294967296 else y % 4294967296)=_;unfold QeO;simp only [Bool.true_and,decide_eq_true_eq]
  split <;> split <;> omega
 obtain ⟨a,ha⟩:∃ a,QeO x=a:=⟨_,rfl⟩;obtain ⟨b,hb⟩:∃ b,QeO y=b:=⟨_,rfl⟩
 have b1:-2147483648≤a∧a<2147483648:=by rw [← ha];unfold QeO;split <;> omega
 have b2:-2147483648≤b∧b<2147483648:=by rw [← hb];unfold QeO;split <;> omega
 have k:=QnF a b (by omega) (by omega) W;unfold wrN;rw [ha] at e1 ⊢;rw [hb] at e2 ⊢;clear ha hb;go_enter Tryz.func89,Tryz.ntmps89
 go_wp2_with first
  | (go_at_call 110;refine k.mono ?_;rintro e w ⟨rfl,hw⟩;subst hw)
 go_ret;exact ⟨rfl,rfl⟩
theorem Qgv (a:Nat) (ha:a<4294967296):(BitVec.ofInt 32 (a:Int)).toNat=a:=by
 rw [BitVec.ofInt_natCast,BitVec.toNat_ofNat];exact Nat.mod_eq_of_lt (by omega)
theorem Qdx (a:Nat) (ha:a<4294967296):IntKind.u32.wrap (a:Int)=(a:Int):=by
 rw [IntKind.wrap_u32];omega
theorem Qok (a b:Nat) (ha:a<4294967296) (hb:b<4294967296):bits .or .u32 a b=((a ||| b:Nat):Int):=by
 have h:a ||| b<2 ^ 32:=Nat.or_lt_two_pow (by omega) (by omega)
 show IntKind.u32.wrap ((BitVec.ofInt 32 (a:Int) ||| BitVec.ofInt 32 (b:Int)).toNat:Int)=_;rw [BitVec.toNat_or,Qgv a ha,Qgv b hb,Qdx _ (by omega)]
theorem QfX (a b:Nat) (ha:a<4294967296) (hb:b<4294967296):bits .xor .u32 a b=((a ^^^ b:Nat):Int):=by
 have h:a ^^^ b<2 ^ 32:=Nat.xor_lt_two_pow (by omega) (by omega);show IntKind.u32.wrap ((BitVec.ofInt 32 (a:Int) ^^^ BitVec.ofInt 32 (b:Int)).toNat:Int)=_;rw [BitVec.toNat_xor,Qgv a ha,Qgv b hb,Qdx _ (by omega)]
def QeT (a b:Nat):Nat:=(BitVec.ofNat 32 a &&& ~~~ BitVec.ofNat 32 b).toNat
theorem Qkm (a b:Nat):QeT a b<4294967296:=by
 have:=(BitVec.ofNat 32 a &&& ~~~ BitVec.ofNat 32 b).isLt;unfold QeT;omega
theorem Qkn (a b:Nat):bits .andNot .u32 a b=((QeT a b:Nat):Int):=by
 show IntKind.u32.wrap ((BitVec.ofInt 32 (a:Int) &&& ~~~ BitVec.ofInt 32 (b:Int)).toNat:Int)=_;rw [BitVec.ofInt_natCast,BitVec.ofInt_natCast];exact Qdx _ (Qkm a b)
theorem Qej (a b i:Nat):(QeT a b).testBit i=(decide (i<32)&&a.testBit i&&!b.testBit i):=by
 unfold QeT;rw [← BitVec.getLsbD];rw [BitVec.getLsbD_and,BitVec.getLsbD_not,BitVec.getLsbD_ofNat,BitVec.getLsbD_ofNat]
 by_cases h:i<32 <;> simp [h]
theorem Qjq (n:Nat) (x:Int):((BitVec.ofInt n x).toNat:Int)=x % (2 ^ n:Nat):=by
 rw [BitVec.toNat_ofInt];exact Int.toNat_of_nonneg (Int.emod_nonneg _ (by have:=Nat.two_pow_pos n;omega))
theorem Qdq (x:Int) (i:Nat) (hi:i≤32):bits .and .u32 x ((2 ^ i-1:Nat):Int)=x % ((2 ^ i:Nat):Int):=by
 have h1:2 ^ i≤4294967296:=by have:=Nat.pow_le_pow_right (n:=2) (by decide) hi;omega
 have h2:=Nat.two_pow_pos i;show IntKind.u32.wrap ((BitVec.ofInt 32 x &&& BitVec.ofInt 32 ((2 ^ i-1:Nat):Int)).toNat:Int)=_;rw [BitVec.toNat_and,Qgv _ (by omega),Nat.and_two_pow_sub_one_eq_mod];have h3:(BitVec.ofInt 32 x).toNat % 2 ^ i<2 ^ i:=Nat.mod_lt _ h2;rw [Qdx _ (by omega),Int.natCast_emod,Qjq];exact Int.emod_emod_of_dvd _ (by exact_mod_cast Nat.pow_dvd_pow 2 hi)
theorem Qi7 (a:Nat) (ha:a<18446744073709551616):(BitVec.ofInt 64 (a:Int)).toNat=a:=by
 rw [BitVec.ofInt_natCast,BitVec.toNat_ofNat];exact Nat.mod_eq_of_lt (by omega)
theorem Qby (a:Nat) (ha:a<18446744073709551616):IntKind.u64.wrap (a:Int)=(a:Int):=by
 rw [IntKind.wrap_u64];omega
theorem Qol (a b:Nat) (ha:a<18446744073709551616) (hb:b<18446744073709551616):bits .or .u64 a b=((a ||| b:Nat):Int):=by
 have h:a ||| b<2 ^ 64:=Nat.or_lt_two_pow (by omega) (by omega)
 show IntKind.u64.wrap ((BitVec.ofInt 64 (a:Int) ||| BitVec.ofInt 64 (b:Int)).toNat:Int)=_;rw [BitVec.toNat_or,Qi7 a ha,Qi7 b hb,Qby _ (by omega)]
theorem Qle (x:Int):bits .and .u32 x 15=x % 16:=Qdq x 4 (by decide)
theorem Qg (x:Int):bits .and .u32 x 1=x % 2:=Qdq x 1 (by decide)
section
open Go.Shelf
attribute [local go_sem] Oper.semAt_some
theorem QmU {k:IntKind} {a b:Int} (h:a=b):Value.int k a=.int k b:=by rw [h]
def QhG:Value→Nat→Value
 | .slice (some a) len _,k=>.slice (some (a.add (4*k))) (min 4 (len-4*k)) (min 4 (len-4*k))
 | v,_=>v
theorem Qgx (B1 B2:Nat) (sv:Value) (zs:List Int) (w:World) (h1:B1<w.heap.size) (h2:B2<w.heap.size) (c1:w.cell? ⟨B1,0,none⟩=some sv) (c2:w.cell? ⟨B2,0,none⟩=some (.int .i64 4)) (hr:QaL w.heap.size w sv zs) (hsm:zs.length≤140737488351232) :
  Qp Tryz.prog 87 #[.pointer (some ⟨B1,0,none⟩),.pointer (some ⟨B2,0,none⟩)] (fun k:Nat=>#[QhG sv k]) (fun b=>b=B1∨b=B2∨QaO sv b) (List.range ((zs.length+3) / 4)) w:=by
 intro l J Jx S0 W hW hJ hJx hlt hX hY h0;have C1:W.cell? ⟨B1,0,none⟩=some sv:=(hW.cell (p:=⟨B1,0,none⟩) h1).trans c1;have C2:W.cell? ⟨B2,0,none⟩=some (.int .i64 4):=(hW.cell (p:=⟨B2,0,none⟩) h2).trans c2;refine (callsIn_wide (n:=101)).1 ?_
 rcases hr with ⟨⟨a,cap,rfl,rfl⟩ | ⟨b,off,cap,rfl,hb,hle,hcap,hc⟩,hz⟩
 ·refine callsIn_of_wp Tryz.func87 rfl trivial ?_ rfl
  simp only [Tryz.ntmps87,QS,List.length_cons,List.length_nil,Nat.reduceAdd,Nat.reduceSub,Array.replicate_succ,Array.replicate_zero,List.push_toArray,List.append_toArray,List.nil_append,List.cons_append]
  gi_wp2
  gi_loopw [4] (fun i wr=>i=.int .i64 0∧J 0 S0 wr∧wr.cell? ⟨B1,0,none⟩=some (.slice a 0 cap)) (fun _ _=>0)
  case atStart=>exact ⟨rfl,h0,C1⟩
  case round =>
   obtain ⟨rfl,hJs,hc1⟩:=hrel
   gi_wp2
   go_end0;exact ⟨⟨_,rfl⟩,.inl ⟨S0,by simpa using hJs⟩⟩
 ·have hlen:(⟨b,off,none⟩:Addr).block=b:=rfl
  have C2':∀ j,j<zs.length→W.cell? ⟨b,off+j,none⟩=some (.int .u8 (zs.getD j 0)):=fun j hj=>(hW.cell (p:=⟨b,off+j,none⟩) hb).trans (hc j hj)
  have x1:¬ S0 B1:=hX _ (.inl rfl);have x2:¬ S0 B2:=hX _ (.inr (.inl rfl));have hWs:=hW.size;refine callsIn_of_wp Tryz.func87 rfl trivial ?_ rfl;simp only [Tryz.ntmps87,QS,List.length_cons,List.length_nil,Nat.reduceAdd,Nat.reduceSub,Array.replicate_succ,Array.replicate_zero,List.push_toArray,List.append_toArray,List.nil_append,List.cons_append]
  gi_wp2
  gi_loopw [4] (fun i wr=>∃ (k:Nat) (S:Nat→Prop),i=.int .i64 (4*(k:Int))∧k≤(zs.length+3) / 4∧J k S wr∧Wr S0 S W wr) (fun i _=>(zs.length+4)-(intOf i).toNat)
  case atStart=>exact ⟨0,S0,rfl,Nat.zero_le _,h0,Wr.refl _ _⟩
  case round =>
   obtain ⟨k,S,rfl,hk,hJs,hw⟩:=hrel;have hc1:wr.cell? ⟨B1,0,none⟩=some (.slice (some ⟨b,off,none⟩) zs.length cap):=QaF (hw.block _ (by show B1<_;omega) x1) C1;have hc2:wr.cell? ⟨B2,0,none⟩=some (.int .i64 4):=QaF (hw.block _ (by show B2<_;omega) x2) C2;by_cases hlt:4*k<zs.length
   ·have t1:decide (4*(k:Int)<((zs.length:Nat):Int))=true:=by simp;omega
    have hmin:(if ((zs.length-4*k:Nat):Int)<4 then ((zs.length-4*k:Nat):Int) else 4)=((min 4 (zs.length-4*k):Nat):Int):=by split <;> omega
    gi_wp2
    gi_region
    obtain ⟨m,hm⟩:∃ m,m=min 4 (zs.length-4*k):=⟨_,rfl⟩;rw [← hm]
    have hk2:k<(List.range ((zs.length+3) / 4)).length:=by simp;omega
    obtain ⟨fn,tmps,assign,body,hy,hR⟩:=hY k hk2 S wr.drew (hJ k S wr _ hJs ⟨rfl,rfl,rfl,QN _,fun _ _=>rfl⟩);rw [show (List.range ((zs.length+3) / 4))[k]=k from by simp] at hy;simp only [QhG,Addr.add_lit,← hm] at hy;have hc1d:wr.drew.cell? ⟨B1,0,none⟩=some (.slice (some ⟨b,off,none⟩) zs.length cap):=hc1;have hc2d:wr.drew.cell? ⟨B2,0,none⟩=some (.int .i64 4):=hc2
    have m1:4*k+m≤zs.length:=by omega
    have m2:m≤4:=by omega
    have m3:4*k+m≤cap:=by omega
    have m4:¬ m=0:=by omega
    have hwS:=hw.size;have hwd:Wr S0 S W wr.drew:=hw.drew;clear hmin hc1 hc2 hm
    gi_wp2
    refine hR.mono ?_;rintro e W3 (⟨rfl,S',hJ3,hw3⟩ | ⟨rfl,S',hJx3,hw3⟩)
    ·have hw':=hwd.trans hw3
     have hc23:W3.cell? ⟨B2,0,none⟩=some (.int .i64 4):=QaF (hw'.block _ (by show B2<_;omega) x2) C2
     gi_wp2
     go_roundw
     case rel=>exact ⟨k+1,S',by congr 1,by omega,hJ3,hw'⟩
     case measure=>simp [intOf];omega
    ·gi_wp2
     refine bodyPost_ret (results_none rfl _ _ _) rfl ?_;exact ⟨⟨_,rfl⟩,.inr ⟨k+1,S',hk2,hJx3⟩⟩
   ·have t1:decide (4*(k:Int)<((zs.length:Nat):Int))=false:=by simp;omega
    gi_wp2
    go_end0
    obtain rfl:k=(zs.length+3) / 4:=by omega
    exact ⟨⟨_,rfl⟩,.inl ⟨S,by simpa using hJs⟩⟩
theorem QjP (F:Fence) (n:Nat) (hF:F.fn 58) (hro:F.round=none) (a:Option Addr) (len cap:Nat) (w:World) :
  CallsIn F n Tryz.prog 58 #[.slice a len cap,.int .i64 4] w fun e w' =>
   e=.returned (.func (.func 87) #[] #[.pointer (some ⟨w.heap.size,0,none⟩),.pointer (some ⟨w.heap.size+1,0,none⟩)]) ∧
   w'=(w.alloc (.cells #[.slice a len cap] 22)).alloc (.cells #[.int .i64 4] 3):=by
 refine callsIn_of_wp Tryz.func58 rfl hF ?_ hro;simp only [Tryz.ntmps58,QS,List.length_cons,List.length_nil,Nat.reduceAdd,Nat.reduceSub,Array.replicate_succ,Array.replicate_zero,List.push_toArray,List.append_toArray,List.nil_append,List.cons_append]
 gi_wp2
 go_ret;exact ⟨by simp,rfl⟩
theorem Qns (F:Fence) (n:Nat) (hF:F.fn 88) (hro:F.round=none) (a:Option Addr) (len cap:Nat) (w:World) :
  CallsIn F n Tryz.prog 88 #[.slice a len cap] w fun e w' =>
   e=.returned (.func (.func 109) #[] #[.pointer (some ⟨w.heap.size,0,none⟩)])∧w'=w.alloc (.cells #[.slice a len cap] 22):=by
 refine callsIn_of_wp Tryz.func88 rfl hF ?_ hro;simp only [Tryz.ntmps88,QS,List.length_cons,List.length_nil,Nat.reduceAdd,Nat.reduceSub,Array.replicate_succ,Array.replicate_zero,List.push_toArray,List.append_toArray,List.nil_append,List.cons_append]
 gi_wp2
 go_ret;exact ⟨rfl,rfl⟩
def leW (zs:List Int) (b:Nat):Nat→Nat
 | 0=>0
 | i+1=>leW zs b i+256 ^ i*(zs.getD (b+i) 0).toNat
theorem Qhu (zs:List Int) (hz:∀ z∈zs,0≤z∧z≤255) (b i:Nat):leW zs b i<256 ^ i:=by
 induction i with
 | zero=>simp [leW]
 | succ i ih =>
  have hC:(zs.getD (b+i) 0).toNat≤255:=by
   by_cases h:b+i<zs.length
   ·have:=hz _ (List.getElem_mem h)
    rw [show zs.getD (b+i) 0=zs[b+i] from by simp [List.getD,List.getElem?_eq_getElem h]];omega
   ·rw [show zs.getD (b+i) 0=0 from by simp [List.getD,List.getElem?_eq_none (Nat.le_of_not_lt h)]];simp
  have:256 ^ i*(zs.getD (b+i) 0).toNat≤256 ^ i*255:=Nat.mul_le_mul_left _ hC;simp only [leW,Nat.pow_succ];omega
theorem Qml (X C j:Nat) (hj:j<4) (hX:X<256 ^ j) (hC:C≤255):bits .or .u32 (X:Int) ((C:Int)*2 ^ (8*j) % 4294967296)=((X+256 ^ j*C:Nat):Int):=by
 have e:(256:Nat) ^ j=2 ^ (8*j):=by rw [Nat.pow_mul]
 have h1:256 ^ j*C≤256 ^ j*255:=Nat.mul_le_mul_left _ hC;have h2:(256:Nat) ^ (j+1)≤256 ^ 4:=Nat.pow_le_pow_right (by decide) hj;rw [Nat.pow_succ] at h2
 have h4:256 ^ j*C<4294967296:=by omega
 rw [show (C:Int)*2 ^ (8*j)=((256 ^ j*C:Nat):Int) from by rw [Nat.mul_comm,e];simp [Nat.mul_comm],show ((256 ^ j*C:Nat):Int) % 4294967296=((256 ^ j*C:Nat):Int) from by omega,
  Qok X _ (by omega) h4]
 congr 1
 rw [Nat.or_comm,Nat.add_comm,e];exact (Nat.two_pow_add_eq_or_of_lt (by rw [← e];exact hX) C).symm
def QoL (zs:List Int) (k:Nat):Array Value:=#[.int .u32 (leW zs (4*k) (min 4 (zs.length-4*k))),.bool (decide (4*k+4≤zs.length))]
theorem Qjj (B1:Nat) (sv:Value) (zs:List Int) (w:World) (h1:B1<w.heap.size) (c1:w.cell? ⟨B1,0,none⟩=some sv) (hr:QaL w.heap.size w sv zs) (hsm:zs.length≤140737488351232) :
  Qp Tryz.prog 109 #[.pointer (some ⟨B1,0,none⟩)] (QoL zs) (fun b=>b=B1∨QaO sv b) (List.range ((zs.length+3) / 4)) w:=by
 intro l J Jx S0 W hW hJ hJx hlt hX hY h0;have C1:W.cell? ⟨B1,0,none⟩=some sv:=(hW.cell (p:=⟨B1,0,none⟩) h1).trans c1;have hWs:=hW.size
 have hrW:QaL w.heap.size W sv zs:=hr.same fun b hb=>hW.block b (hr.lt b hb)
 obtain ⟨a,cap,hsv⟩:=hr.slice;refine (callsIn_wide (n:=101)).1 ?_;refine callsIn_of_wp_marks Tryz.func109 rfl trivial ?_ rfl;simp only [Tryz.ntmps109,QS,List.length_cons,List.length_nil,Nat.reduceAdd,Nat.reduceSub,Array.replicate_succ,Array.replicate_zero,List.push_toArray,List.append_toArray,List.nil_append,List.cons_append]
 have C1a:W.cell? ⟨B1,0,none⟩=some (.slice a zs.length cap):=by rw [C1,hsv]
 have C1b:(W.alloc (.cells #[.func (.yield l) #[] #[]] 175)).cell? ⟨B1,0,none⟩=some (.slice a zs.length cap):=(((QB _ W).alloc (QN _) _).cell (p:=⟨B1,0,none⟩) (by show B1<_;omega)).trans C1a;have hch:Fence.wide.fn 58:=trivial
 gi_wp2_with (gi_at_call 58;refine (QjP Fence.wide _ trivial rfl _ _ _ _).mono ?_;rintro e w' ⟨rfl,rfl⟩)
 clear hch C1b;subst hsv;obtain ⟨W3,hW3⟩:∃ W3,W3=((W.alloc (.cells #[.func (.yield l) #[] #[]] 175)).alloc (.cells #[.slice a zs.length cap] 22)).alloc (.cells #[.int .i64 4] 3):=⟨_,rfl⟩
 have sz:W3.heap.size=W.heap.size+3:=by rw [hW3];simp
 have bW:Below W.heap.size W W3:=by rw [hW3];exact (((QB _ W).alloc (QN _) _).alloc (by simp) _).alloc (by simp;omega) _
 have cY:W3.cell? ⟨W.heap.size,0,none⟩=some (.func (.yield l) #[] #[]):=by
  rw [hW3];exact ((((QB _ _).alloc (QN _) _).alloc (by simp) _).cell (p:=⟨W.heap.size,0,none⟩) (by simp)).trans (World.cell?_alloc_mark ..)
 have cB:W3.cell? ⟨W.heap.size+1,0,none⟩=some (.slice a zs.length cap):=by
  rw [hW3];refine (((QB _ _).alloc (QN _) _).cell (p:=⟨W.heap.size+1,0,none⟩) (by simp)).trans ?_;have:=World.cell?_alloc_mark (W.alloc (.cells #[.func (.yield l) #[] #[]] 175)) #[.slice a zs.length cap] 22 (0,0) 0;simpa using this
 have cN:W3.cell? ⟨W.heap.size+1+1,0,none⟩=some (.int .i64 4):=by
  rw [hW3];have:=World.cell?_alloc_mark ((W.alloc (.cells #[.func (.yield l) #[] #[]] 175)).alloc (.cells #[.slice a zs.length cap] 22)) #[.int .i64 4] 3 (0,0) 0;simpa using this
 rw [← hW3];have hr3:QaL W3.heap.size W3 (.slice a zs.length cap) zs:=(hrW.same fun b hb=>bW.block b (by have:=hr.lt b hb;omega)).mono (by omega);have s0:=hlt 0 S0 W h0
 refine Qeg (gf:=87) rfl (enters_of Tryz.func87 (by kernel_rfl) rfl)
  (Qgx (W.heap.size+1) (W.heap.size+1+1) _ zs W3 (by omega) (by omega) cB cN hr3 hsm) (fun _=>rfl)
  (fun k S A=>J k S A∧A.cell? ⟨W.heap.size,0,none⟩=some (.func (.yield l) #[] #[])∧¬ S W.heap.size∧(∀ b,QaO (.slice a zs.length cap) b→¬ S b∧A.heap[b]?=W3.heap[b]?))
  (fun c k S A=>c=.ret∧Jx k S A) S0 ?hX ?hI ?hIx ?hlt ?h0
  (fun k=>{ tmps:=#[.func (.yield l) #[] #[],.pointer (some ⟨B1,0,none⟩),.pointer (some ⟨W.heap.size,0,none⟩),QhG (.slice a zs.length cap) k,undef,undef,undef,.slice a zs.length cap,
   .func (.func 87) #[] #[.pointer (some ⟨W.heap.size+1,0,none⟩),.pointer (some ⟨W.heap.size+1+1,0,none⟩)],QhG (.slice a zs.length cap) k,
   undef,undef,undef,undef,undef,undef,undef,undef,undef,undef,undef,undef,undef,undef,undef,undef,undef,undef,undef,undef,undef,undef],defers:=[] }) ?assign ?body ?done ?stop
 case hX =>
  rintro b (rfl | rfl | hb)
  ·exact ⟨by omega,fun h=>by have:=s0 _ h;omega⟩
  ·exact ⟨by omega,fun h=>by have:=s0 _ h;omega⟩
  ·exact ⟨by have:=hr.lt b hb;omega,hX _ (.inr hb)⟩
 case hI =>
  rintro k S A A' ⟨hj,hc,hn,hb⟩ hs
  exact ⟨hJ _ _ _ _ hj (hs.mono fun b hb=>hb.elim (fun h=>.inl (by omega)) .inr),QaF (hs.block _ (.inl (by show W.heap.size<_;omega))) hc,hn,
   fun b h=>⟨(hb b h).1,(hs.block b (.inl (by have:=hr.lt b h;omega))).trans (hb b h).2⟩⟩
 case hIx =>
  rintro c k S A A' ⟨hc,hj⟩ hs;exact ⟨hc,hJx _ _ _ _ hj (hs.mono fun b hb=>hb.elim (fun h=>.inl (by omega)) .inr)⟩
 case hlt =>
  rintro k S A ⟨hj,_⟩;exact hlt _ _ _ hj
 case h0 =>
  exact ⟨hJ _ _ _ _ h0 ((QaM.of_below bW).mono fun b hb=>hb.elim id (s0 b)),cY,fun h=>by have:=s0 _ h;omega,fun b hb=>⟨hX _ (.inr hb),rfl⟩⟩
 case assign =>
  intro l' k A K hK
  gi_wp2
  exact hK
 case body =>
  rintro l' k hk S A ⟨hj,hcY,hnY,hbk⟩;have hz:=hr.2;rw [show (List.range ((zs.length+3) / 4))[k]=k from by simp]
  have hN:k<(zs.length+3) / 4:=by simpa using hk
  rcases hr3.1 with ⟨a',cp',h,rfl⟩ | ⟨b,off,cp,h,hb,hle,hcap,hc⟩
  ·simp at hN
  injection h with h2 _ h3
  subst h2;subst h3
  have hcA:∀ j,j<zs.length→A.cell? ⟨b,off+j,none⟩=some (.int .u8 (zs.getD j 0)):=fun j hj2=>QaF (p:=⟨b,off+j,none⟩) (hbk b ⟨by omega,rfl⟩).2 (hc j hj2)
  obtain ⟨fn,tmps,assign,body,hy,hR⟩:=Qm4 (l':=l') (m':=99) (hY k hk S A hj);rw [show (List.range ((zs.length+3) / 4))[k]=k from by simp] at hy;simp only [QhG,Addr.add_lit,QoL] at hy ⊢;obtain ⟨m,hm⟩:∃ m,m=min 4 (zs.length-4*k):=⟨_,rfl⟩;rw [← hm] at hy ⊢
  have m1:4*k+m≤zs.length:=by omega
  have m2:m≤4:=by omega
  have m4:1≤m:=by omega
  have hq:((m:Int) == 4)=decide (4*k+4≤zs.length):=by
   rw [Bool.eq_iff_iff];simp;omega
  clear hm
  gi_wp2
  gi_loopw [4,12] (fun a i wr=>∃ j:Nat,j≤m∧i=.int .i64 j∧a=.int .u32 (leW zs (4*k) j)∧wr=A) (fun _ i _=>m-(intOf i).toNat)
  case atStart=>exact ⟨0,Nat.zero_le _,rfl,rfl,rfl⟩
  case round =>
   obtain ⟨j,hj,rfl,rfl,rfl⟩:=hrel;by_cases hlt:j<m
   ·have hcj:=hcA (4*k+j) (by omega)
    rw [← Nat.add_assoc] at hcj
    obtain ⟨C,hC,hC2⟩:∃ C:Nat,zs.getD (4*k+j) 0=C∧C≤255:=by
     have h:=hz (zs[4*k+j]'(by omega)) (List.getElem_mem _);exact ⟨(zs[4*k+j]'(by omega)).toNat,by simp [List.getD,List.getElem?_eq_getElem (show 4*k+j<zs.length by omega)];omega,by omega⟩
    rw [hC] at hcj
    have h8:8*(j:Int)≤24:=by omega
    have hl:=Qhu zs hr.2 (4*k) j;have hC3:=QQ hC;clear hC
    gi_wp2
    refine ⟨⟨j+1,by omega,by simp,QmU ?_,trivial⟩,by simp [intOf];omega⟩;rw [Qml _ _ j (by omega) hl hC2];have hC:zs.getD (4*k+j) 0=C:=hC3;simp only [leW,hC,Int.toNat_natCast]
   ·obtain rfl:j=m:=by omega
    gi_wp2
    refine hR.mono ?_;have hlA:W.heap.size<wr.heap.size:=World.block_lt_of_cell? wr _ hcY;rintro e W4 (⟨rfl,S',hJ4,hw4⟩ | ⟨rfl,S',hJx4,hw4⟩)
    ·gi_wp2
     exact ⟨S',⟨hJ4,QaF (hw4.block _ hlA hnY) hcY,fun h=>(hw4.new _ h).elim hnY (fun h=>by omega),fun x hx=>by
      have h1:=hr.lt x hx
      exact ⟨fun h=>(hw4.new _ h).elim (hbk x hx).1 (fun h=>by omega),(hw4.block x (by omega) (hbk x hx).1).trans (hbk x hx).2⟩⟩,hw4⟩
    ·gi_wp2
     exact ⟨S',⟨rfl,hJx4⟩,hw4⟩
 case done =>
  rintro D S A hD hS ⟨hj,_⟩ hK;refine ⟨by simp,.inl ⟨_,_,rfl,run_takeDeferred hK,?_⟩⟩;refine ⟨_,results_none rfl _ _ _,⟨_,rfl⟩,.inl ⟨S,?_⟩⟩;exact hJ _ _ _ _ (by simpa using hj) (QaM.putObj _ _ _ (fun h=>h.elim (fun h=>by omega) hS))
 case stop =>
  rintro D c k S A hD hS hk ⟨rfl,hj⟩ hK
  gi_wp2
  refine ⟨by simp,.inl ⟨_,_,rfl,run_takeDeferred hK,?_⟩⟩;refine ⟨_,results_none rfl _ _ _,⟨_,rfl⟩,.inr ⟨k,S,hk,?_⟩⟩;exact hJx _ _ _ _ hj (QaM.putObj _ _ _ (fun h=>h.elim (fun h=>by omega) hS))
end
section
attribute [local go_sem] Oper.semAt_some
theorem QmF (n:Int) (h:n.natAbs<2 ^ 40) (w:World):(callFunc 134 #[.float .f64 (fl n)]).run Tryz.prog w=.ok (.value (.float .f64 (fl n))) w:=by
 rw [run_callFunc_extern (e := Extern.MathFloor.toIntegral "math.archFloor" .down) Tryz.func134 (by kernel_rfl) (by kernel_rfl) (by kernel_rfl) (by kernel_rfl), floor_run n h];rfl
theorem QlX (n:Int) (h:n.natAbs<2 ^ 40) (W:World) :
  Calls Tryz.prog 126 #[.float .f64 (fl n)] W fun e W'=>e=.returned (.float .f64 (fl n))∧W'=W:=by
 have k:=QmF n h W;obtain ⟨a,ha⟩:∃ a,a=fl n:=⟨_,rfl⟩;rw [← ha] at k ⊢;clear ha h;go_enter Tryz.func126,Tryz.ntmps126;go_wp2;go_ret;exact ⟨rfl,rfl⟩
theorem QnP (F:Fence) (n:Nat) (hF:F.fn 125) (hro:F.round=none) (a b:Nat) (w:World) :
  CallsIn F n Tryz.prog 125 #[.complex .f64 a b] w fun e w' =>
   e=.returned (.func (.func 133) #[] #[.pointer (some ⟨w.heap.size,0,none⟩)])∧w'=w.alloc (.cells #[.complex .f64 a b] 42):=by
 refine callsIn_of_wp Tryz.func125 rfl hF ?_ hro;simp only [Tryz.ntmps125,QS,List.length_cons,List.length_nil,Nat.reduceAdd,Nat.reduceSub,Array.replicate_succ,Array.replicate_zero,List.push_toArray,List.append_toArray,List.nil_append,List.cons_append]
 gi_wp2
 go_ret;exact ⟨rfl,rfl⟩
theorem Qjt (B:Nat) (a b:Nat) (w:World) (h1:B<w.heap.size) (c1:w.cell? ⟨B,0,none⟩=some (.complex .f64 a b)) :
  Qp Tryz.prog 133 #[.pointer (some ⟨B,0,none⟩)] (fun v:Nat=>#[.float .f64 v]) (fun x=>x=B) [a,b] w:=by
 intro l J Jx S0 W hW hJ hJx hlt hX hY h0;have C1:W.cell? ⟨B,0,none⟩=some (.complex .f64 a b):=(hW.cell (p:=⟨B,0,none⟩) h1).trans c1;have xB:¬ S0 B:=hX _ rfl;have hBW:=Nat.lt_of_lt_of_le h1 hW.size
 have e1:=fun w t u=>Qh0 a b w t u
 have e2:=fun w t u=>QhZ a b w t u
 refine (callsIn_wide (n:=101)).1 ?_;refine callsIn_of_wp Tryz.func133 rfl trivial ?_ rfl;simp only [Tryz.ntmps133,QS,List.length_cons,List.length_nil,Nat.reduceAdd,Nat.reduceSub,Array.replicate_succ,Array.replicate_zero,List.push_toArray,List.append_toArray,List.nil_append,List.cons_append];obtain ⟨fn,tmps,assign,body,hy,hR⟩:=hY 0 (by simp) S0 W h0;simp only [List.getElem_cons_zero] at hy
 gi_wp2
 refine hR.mono ?_;rintro e W3 (⟨rfl,S',hJ3,hw3⟩ | ⟨rfl,S',hJx3,hw3⟩)
 ·have C3:W3.cell? ⟨B,0,none⟩=some (.complex .f64 a b):=QaF (hw3.block B hBW xB) C1
  obtain ⟨fn2,tmps2,assign2,body2,hy2,hR2⟩:=hY 1 (by simp) S' W3 hJ3;simp only [List.getElem_cons_succ,List.getElem_cons_zero] at hy2;clear hy hR C1
  gi_wp2
  refine hR2.mono ?_;rintro e W4 (⟨rfl,S4,hJ4,hw4⟩ | ⟨rfl,S4,hJx4,hw4⟩)
  ·clear hy2 hR2 C3
   gi_wp2
   go_end0;exact ⟨⟨_,rfl⟩,.inl ⟨S4,hJ4⟩⟩
  ·clear hy2 hR2 C3
   gi_wp2
   go_end0;exact ⟨⟨_,rfl⟩,.inr ⟨2,S4,by simp,hJx4⟩⟩
 ·clear hy hR C1
  gi_wp2
  go_end0;exact ⟨⟨_,rfl⟩,.inr ⟨1,S',by simp,hJx3⟩⟩
theorem Qoy (t:TypeId) (a b:Nat):binOp .geq t (.float .f64 a) (.float .f64 b)=Op.floatCmp .geq .f64 a b:=rfl
theorem Qln (t:TypeId) (a b:Nat):binOp .lss t (.float .f64 a) (.float .f64 b)=Op.floatCmp .lss .f64 a b:=rfl
theorem Qlm (t:TypeId) (a b:Nat):binOp .eql t (.float .f64 a) (.float .f64 b)=Op.floatCmp .eql .f64 a b:=rfl
theorem Qoh:fl (-524288)=13916122848574832640:=by decide
theorem QoK:fl 524288=4692750811720056832:=by decide
theorem Qjp (n m:Int) (hn:-524288≤n∧n<524288) (hm:-524288≤m∧m<524288) (W:World) :
  Calls Tryz.prog 106 #[.complex .f64 (fl n) (fl m)] W fun e W'=>e=.returned (.bool true)∧Below W.heap.size W W':=by
 refine (callsIn_wide (n:=102)).1 ?_;refine callsIn_of_wp_marks Tryz.func106 rfl trivial ?_ rfl;simp only [Tryz.ntmps106,QS,List.length_cons,List.length_nil,Nat.reduceAdd,Nat.reduceSub,Array.replicate_succ,Array.replicate_zero,List.push_toArray,List.append_toArray,List.nil_append,List.cons_append];have hch:Fence.wide.fn 125:=trivial
 have hfl:∀ k∈[n,m],∀ w,(Op.floatCmp .geq .f64 (fl k) 13916122848574832640).run Tryz.prog w=.ok (.bool true) w∧(Op.floatCmp .lss .f64 (fl k) 4692750811720056832).run Tryz.prog w=.ok (.bool true) w∧(Op.floatCmp .eql .f64 (fl k) (fl k)).run Tryz.prog w=.ok (.bool true) w ∧
   Calls Tryz.prog 126 #[.float .f64 (fl k)] w fun e w'=>e=.returned (.float .f64 (fl k))∧w'=w:=by
  intro k hk w
  have hb:-524288≤k∧k<524288:=by simp at hk;rcases hk with rfl | rfl <;> assumption
  have hs:k.natAbs<2 ^ 40:=by omega
  refine ⟨?_,?_,?_,QlX k hs w⟩
  ·rw [← Qoh];exact Qgy .geq k (-524288) hs (by decide) true w (.inl ⟨rfl,by simp;omega⟩)
  ·rw [← QoK];exact Qgy .lss k 524288 hs (by decide) true w (.inr (.inl ⟨rfl,by simp;omega⟩))
  ·exact Qgy .eql k k hs hs true w (.inr (.inr (.inr (.inl ⟨rfl,by simp⟩))))
 have HFL:=QQ hfl;clear hn hm hfl;obtain ⟨a,ha⟩:∃ a,a=fl n:=⟨_,rfl⟩;obtain ⟨b,hb⟩:∃ b,b=fl m:=⟨_,rfl⟩;have HA:=QQ ha;have HB:=QQ hb;rw [← ha,← hb];clear ha hb
 gi_wp2
 refine Qel ?_
 gi_wp2
 refine wpIn_label ?_
 gi_wp2_with (gi_at_call 125;refine (QnP Fence.wide _ trivial rfl _ _ _).mono ?_;rintro e w' ⟨rfl,rfl⟩)
 clear hch;obtain ⟨W3,hW3⟩:∃ W3,W3=(W.alloc (.cells #[.bool true] 4)).alloc (.cells #[.complex .f64 a b] 42):=⟨_,rfl⟩
 have sz:W3.heap.size=W.heap.size+2:=by rw [hW3];simp
 have bW:Below W.heap.size W W3:=by rw [hW3];exact ((QB _ W).alloc (QN _) _).alloc (by simp) _
 have bF:Boxed W3 W.heap.size 4 (.bool true):=by rw [hW3];exact (Boxed.new W _ _).alloc _
 have bZ:Boxed W3 (W.heap.size+1) 42 (.complex .f64 a b):=by
  rw [hW3];have:=Boxed.new (W.alloc (.cells #[.bool true] 4)) 42 (.complex .f64 a b);rw [World.size_alloc] at this;exact this
 rw [← hW3];clear hW3
 have HK:∀ k (h:k<2),∀ w,(Op.floatCmp .geq .f64 ([a,b][k]'h) 13916122848574832640).run Tryz.prog w=.ok (.bool true) w∧(Op.floatCmp .lss .f64 ([a,b][k]'h) 4692750811720056832).run Tryz.prog w=.ok (.bool true) w∧(Op.floatCmp .eql .f64 ([a,b][k]'h) ([a,b][k]'h)).run Tryz.prog w=.ok (.bool true) w ∧
   Calls Tryz.prog 126 #[.float .f64 ([a,b][k]'h)] w fun e w'=>e=.returned (.float .f64 ([a,b][k]'h))∧w'=w:=by
  intro k h w;have hfl:=(QG HFL);have ha:a=fl n:=HA;have hb:b=fl m:=HB
  match k,h with
  | 0,_=>simp only [List.getElem_cons_zero];rw [ha];exact hfl n (by simp) w
  | 1,_=>simp only [List.getElem_cons_succ,List.getElem_cons_zero];rw [hb];exact hfl m (by simp) w
 clear HFL HA HB
 refine Qeg (gf:=133) rfl (enters_of Tryz.func133 (by kernel_rfl) rfl) (Qjt (W.heap.size+1) a b W3 (by omega) bZ.cell) (fun _=>rfl)
  (fun k S A=>S=(fun x=>x=W.heap.size)∧Boxed A W.heap.size 4 (.bool true)∧Below W.heap.size W A) (fun _ _ _ _=>False) (fun x=>x=W.heap.size) ?hX ?hI ?hIx ?hlt ?h0
  (fun v=>{ tmps:=#[.complex .f64 a b,undef,.bool false,.pointer (some ⟨W.heap.size,0,none⟩),.float .f64 v,.complex .f64 a b,.func (.func 133) #[] #[.pointer (some ⟨W.heap.size+1,0,none⟩)],.float .f64 v,
   undef,undef,undef,undef,undef,undef,undef,undef,undef,undef,undef,undef,undef,undef,undef],defers:=[] }) ?assign ?body ?done ?stop
 case hX=>rintro x rfl;exact ⟨by omega,by omega⟩
 case hI=>rintro k S A A' ⟨rfl,q1,q2⟩ hs;exact ⟨rfl,(hs.block _ (.inr rfl)).trans q1,q2.trans (hs.below fun x hx=>.inl (by omega))⟩
 case hIx=>rintro c k S A A' h _;exact h
 case hlt=>rintro k S A ⟨rfl,q1,q2⟩ x hx;rw [hx];exact q1.lt
 case h0=>exact ⟨rfl,bF,bW⟩
 case assign =>
  intro l' v A K hK
  gi_wp2
  exact hK
 case stop=>rintro D c k S A _ _ _ h;exact h.elim
 case body =>
  rintro l' k hk S A ⟨rfl,q1,q2⟩;obtain ⟨f1,f2,f3,f4⟩:=HK k (by simpa using hk) A;obtain ⟨v,hv⟩:∃ v,v=[a,b][k]'(by simpa using hk):=⟨_,rfl⟩;rw [show [a,b][k]=v from hv.symm];rw [← hv] at f1 f2 f3 f4;rw [← Qoy 191] at f1;rw [← Qln 191] at f2;rw [← Qlm 191] at f3;have hch2:Fence.wide.fn 126:=trivial;have c1:=q1.cell;have g1:=q1.frozen;have q3:=q1.set (.bool true);have c2:=q3.cell;clear HK hv bZ bF
  gi_wp2_with (gi_at_call 126;refine (Qd8 _ _ f4).mono ?_;rintro e w ⟨rfl,hw⟩;subst hw)
  exact ⟨fun x=>x=W.heap.size,⟨rfl,q3,q2.setCell (p:=⟨W.heap.size,0,none⟩) (QN _) _⟩,(Wr.refl (fun x=>x=W.heap.size) _).setCell (p:=⟨W.heap.size,0,none⟩) (.inl rfl) _⟩
 case done =>
  rintro D S A hD hS ⟨rfl,q1,q2⟩ hK;have c1:=q1.cell
  have hDn:W.heap.size≠D:=by omega
  gi_wp2
  refine ⟨by simp,.inl ⟨_,_,rfl,run_takeDeferred hK,?_⟩⟩;refine ⟨.bool true,by simp [results,Tryz.results106,go_sem],rfl,q2.trans (QaM.below (QaM.putObj (p:=fun b=>b<W.heap.size) _ _ _ (by show ¬ D<W.heap.size;omega)) (fun b hb=>hb))⟩
end
section
def QeQ:Array Value:=#[.int .u32 0,.int .u32 0,.int .u32 0,.int .u32 0,.int .u32 0,.int .u32 0,.int .u32 0,.int .u32 0,.complex .f64 0 0,.complex .f64 0 0,.int .u32 0]
def QpE:Array Value:=#[.int .u32 0,.int .u32 0,.int .u32 0,.int .u32 0,.int .u32 0,.int .u32 0,.int .u32 0,.int .u32 0,.int .u32 0,.int .u32 0,.int .u32 0,.int .u32 0,.int .u32 0,.int .u32 0,.int .u32 0,.int .u32 0,.int .u32 0,.int .u32 0,.bool false]
theorem Qa2 {P:Program} (w:World) (g off:Nat) (ty:TypeId) (cs:List Value) (d:TypeDesc) (hc:∀ j v,cs[j]?=some v→w.cell? ⟨g,off+j,none⟩=some v)
  (hu:P.underlying ty=some d) (hd:(match d with | .struct _ | .array _ _=>true | _=>false)=true) (hi:(P.info? ty).map (·.size)=some cs.length) :
  (loadVar ty ⟨g,off,none⟩).run P w=.ok (.agg cs.toArray) w:=by
 have hl:(loadCells ⟨g,off,none⟩ cs.length).run P w=.ok cs.toArray w :=
  run_loadCells_list (P:=P) w ⟨g,off,none⟩ cs (fun j v hv=>by
   have hadd:(⟨g,off,none⟩:Addr).add j=⟨g,off+j,none⟩:=by unfold Addr.add;split <;> simp_all
   rw [hadd];exact hc j v hv)
 cases hq:P.info? ty with
 | none=>simp [hq] at hi
 | some i =>
  have hs:i.size=cs.length:=by simpa [hq] using hi
  have hagg:(isAgg ty).run P w=.ok true w:=by
   unfold isAgg;rw [Sem.run_bind,run_underlying hu w]
   cases d <;> simp_all
  simp [loadVar,Sem.run_bind,hagg,sizeOf,typeInfo,hq,hs,hl]
section
variable {P : Program} {ops : Array Oper} {Q : Exit → Act → World → Prop} {a : Act} {w : World} {rest : List Oper} {o : Oper}
theorem Qai (hw:Region.wanted o (yielded ops a.tmps)=true) (ty:TypeId) (x:Operand) (ho:o.op=.load ty x) (g off:Nat) (hx:a.eval x=.pointer (some ⟨g,off,none⟩)) (row part:Array Value) (t:TypeId)
  (hg:w.heap[g]?=some (.cells row t (0,0))) (hp:(row.toList.drop off).take part.size=part.toList) (d:TypeDesc)
  (hu:P.underlying ty=some d) (hd:(match d with | .struct _ | .array _ _=>true | _=>false)=true) (hi:(P.info? ty).map (·.size)=some part.size)
  (h:wpList P ops Q rest (a.put o.dst (.agg part)) w):wpList P ops Q (o::rest) a w:=by
 refine BigFrame.wpList_want hw fun K hK=>?_
 have hr:=Qa2 (P:=P) w g off ty part.toList d (fun j v hj=>by
  rw [← hp,List.getElem?_take] at hj
  split at hj
  ·rw [List.getElem?_drop] at hj
   rw [cell_of_row w _ (off+j) _ _ _ hg,← Array.getElem?_toList];exact hj
  ·cases hj) hu hd (by simpa using hi)
 unfold Oper.wp execOp;simp only [ho,hx,Instr.loadAt,Instr.sureAddr,Sem.run_bind,Sem.run_pure,Result.andThen_ok,hr];exact hK _ _ h
theorem QcN (hw:Region.wanted o (yielded ops a.tmps)=true) (k:BinOp) (t t2:TypeId) (x y:Operand) (ho:o.op=.binOp k t x y t2) (v:Value) (hq:(eqGuard k t x y (a.eval x) (a.eval y)).run P w=.ok () w) (hr:(binOp k t (a.eval x) (a.eval y)).run P w=.ok v w)
  (h:wpList P ops Q rest (a.put o.dst v) w):wpList P ops Q (o::rest) a w:=by
 refine BigFrame.wpList_want hw fun K hK=>?_
 unfold Oper.wp execOp;simp only [ho,Sem.run_bind,Sem.run_pure,Result.andThen_ok,hq,hr];exact hK _ _ h
end
theorem QfH:Tryz.prog.eqGuardType Tryz.prog.depth 45=false:=by kernel_rfl
theorem Qjk:Tryz.prog.eqGuardType Tryz.prog.depth 48=false:=by kernel_rfl
theorem QhC (n a b:Int) (W:World) :
  Calls Tryz.prog 33 #[.int .i64 n,.int .i64 a,.int .i64 b] W fun e W'=>e=.returned (.bool (decide (a≤n∧n≤b)))∧W'=W:=by
 go_enter Tryz.func33,Tryz.ntmps33;by_cases h1:a≤n
 ·have t1:decide (a≤n)=true:=by simpa using h1
  by_cases h2:n≤b
  ·have t2:decide (n≤b)=true:=by simpa using h2
   go_wp2;go_ret;exact ⟨by simp [h1,h2],rfl⟩
  ·have t2:decide (n≤b)=false:=by simpa using h2
   go_wp2;go_ret;exact ⟨by simp [h2],rfl⟩
 ·have t1:decide (a≤n)=false:=by simpa using h1
  go_wp2;go_ret;exact ⟨by simp [h1],rfl⟩
end
structure Cp where
 r:List Int
 za:Int
 zb:Int
 zc:Int
 zd:Int
 pc:Int
def Cp.vals (c:Cp):List Value:=c.r.map (Value.int .u32)++[.complex .f64 (fl c.za) (fl c.zb),.complex .f64 (fl c.zc) (fl c.zd),.int .u32 c.pc]
def Cp.zero:Cp:=⟨List.replicate 8 0,0,0,0,0,0⟩
def Cp.Ok (c:Cp):Prop:=c.r.length=8∧(∀ z∈c.r,0≤z∧z<4294967296)∧(-524288≤c.za∧c.za<524288)∧(-524288≤c.zb∧c.zb<524288)∧(-524288≤c.zc∧c.zc<524288)∧(-524288≤c.zd∧c.zd<524288)∧0≤c.pc∧c.pc<4294967296
theorem Cp.vals_length {c:Cp} (h:c.Ok):c.vals.length=11:=by simp [Cp.vals,h.1]
def Qi3 (w:List Int):Cp:=⟨w.take 8,wrN (w.getD 8 0),wrN (w.getD 9 0),wrN (w.getD 10 0),wrN (w.getD 11 0),w.getD 12 0⟩
theorem QcH (x:Int):-524288≤wrN x∧wrN x<524288:=Qi2 _
theorem Qey {w:List Int} {i:Nat} (hz:∀ z∈w,0≤z∧z<4294967296):0≤w.getD i 0∧w.getD i 0<4294967296:=by
 by_cases h:i<w.length
 ·rw [show w.getD i 0=w[i] from by simp [List.getD,List.getElem?_eq_getElem h]];exact hz _ (List.getElem_mem h)
 ·rw [show w.getD i 0=0 from by simp [List.getD,List.getElem?_eq_none (Nat.le_of_not_lt h)]];omega
theorem QhH {w:List Int} (hl:w.length=13) (hz:∀ z∈w,0≤z∧z<4294967296):(Qi3 w).Ok :=
 ⟨by simp [Qi3,hl],fun z h=>hz z (List.mem_of_mem_take h),QcH _,QcH _,QcH _,QcH _,(Qey hz).1,(Qey hz).2⟩
structure Sg where
 pend:Int
 mask:Int
 hand:List Int
 busy:Bool
def Sg.vals (s:Sg):List Value:=[.int .u32 s.pend,.int .u32 s.mask]++s.hand.map (Value.int .u32)++[.bool s.busy]
def Sg.zero:Sg:=⟨0,0,List.replicate 16 0,false⟩
def Sg.Ok (s:Sg):Prop:=(0≤s.pend∧s.pend<4294967296)∧(0≤s.mask∧s.mask<4294967296)∧s.hand.length=16∧∀ z∈s.hand,0≤z∧z<4294967296
theorem Sg.vals_length {s:Sg} (h:s.Ok):s.vals.length=19:=by simp [Sg.vals,h.2.2.1]
structure Pg where
 page:Int
 frame:Int
 w:Bool
 s:Bool
 c:Bool
def Pg.vals (p:Pg):List Value:=[.int .i64 p.page,.int .i64 p.frame,.bool p.w,.bool p.s,.bool p.c,.bool false]
structure Pr where
 pid:Int
 parent:Int
 state:Int
 status:Int
 cpu:Cp
 saved:Cp
 sig:Sg
 wait:Int
 pipe:Int
 left:Int
 fds:List Int
 pages:List Pg
def Pr.vals (p:Pr) (fa:Option Addr) (fc:Nat) (pa:Option Addr) (pc:Nat):List Value :=
 [.int .i64 p.pid,.int .i64 p.parent,.int .i64 p.state,.int .u32 p.status]++p.cpu.vals++p.saved.vals++p.sig.vals ++
 [.int .i64 p.wait,.int .i64 p.pipe,.int .i64 0,.int .i64 0,.int .i64 0,.int .u32 p.left,.slice fa p.fds.length fc,.int .u32 0,.int .i64 0,.slice pa p.pages.length pc]
structure Pp where
 bytes:List Int
 rd:Int
 wr:Int
structure Wt where
 pid:Int
 kp:Int
 kf:Int
 ko:Int
def Wt.vals (w:Wt):List Value:=[.int .i64 w.pid,.int .i64 w.kp,.int .i64 w.kf,.int .i64 w.ko]
structure Im where
 procs:List Pr
 objs:List (List Int)
 pipes:List Pp
 files:List (Int × Bool)
 waits:List Wt
def Qc (n:Nat) (W:World) (a:Option Addr) (len cap:Nat) (vs:List Value):Prop:=len=0∨∃ b off,a=some ⟨b,off,none⟩∧b<n∧len≤cap∧cap≤maxLen∧∀ j v,vs[j]?=some v→W.cell? ⟨b,off+j,none⟩=some v
theorem Qc.below {n:Nat} {A B:World} {a:Option Addr} {len cap:Nat} {vs:List Value} (h:Qc n A a len cap vs) (hb:Below n A B):Qc n B a len cap vs:=by
 rcases h with h | ⟨b,off,e,h1,h2,h3,h4⟩
 ·exact .inl h
 ·exact .inr ⟨b,off,e,h1,h2,h3,fun j v hj=>(hb.cell (p:=⟨b,off+j,none⟩) h1).trans (h4 j v hj)⟩
theorem Qc.mono {n m:Nat} {W:World} {a:Option Addr} {len cap:Nat} {vs:List Value} (h:Qc n W a len cap vs) (hm:n≤m):Qc m W a len cap vs:=by
 rcases h with h | ⟨b,off,e,h1,h2⟩
 ·exact .inl h
 ·exact .inr ⟨b,off,e,Nat.lt_of_lt_of_le h1 hm,h2⟩
end Go.Proofs.YtejcandhijdnhaaGreat
