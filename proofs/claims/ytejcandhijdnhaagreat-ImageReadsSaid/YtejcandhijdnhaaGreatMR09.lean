/- Own texts of this seat, one behind the other, without needless spaces (part 9 of 26). -/
import Derived.Test.YtejcandhijdnhaaGreatMR01
import Derived.Test.YtejcandhijdnhaaGreatMR02
import Derived.Test.YtejcandhijdnhaaGreatMR08
namespace Go.Proofs.YtejcandhijdnhaaGreat
open Go Go.RowKit
set_option linter.unusedVariables false
set_option linter.unusedSimpArgs false
set_option linter.unnecessarySimpa false
set_option maxRecDepth 100000
set_option maxHeartbeats 16000000
section
structure QcJ where
 fa:Option Addr
 fc:Nat
 pa:Option Addr
 pc:Nat
structure Mem where
 P:List (Pr × QcJ)
 O:List (List Int)
 B:List (Pp × (Option Addr × Nat))
 F:List (Int × Bool)
 K:List (Wt)
def Mem.im (x:Mem):Im:=⟨x.P.map (·.1),x.O,x.B.map (·.1),x.F,x.K⟩
def Mem.none:Mem:=⟨[],[],[],[],[]⟩
structure Sl5 where
 p:Option Addr × Nat
 o:Option Addr × Nat
 b:Option Addr × Nat
 f:Option Addr × Nat
 k:Option Addr × Nat
def Sl5.none:Sl5:=⟨(Option.none,0),(Option.none,0),(Option.none,0),(Option.none,0),(Option.none,0)⟩
def Mem.cells (x:Mem) (s:Sl5):List Value:=[.slice s.p.1 x.P.length s.p.2,.slice s.o.1 x.O.length s.o.2,.slice s.b.1 x.B.length s.b.2,.slice s.f.1 x.F.length s.f.2,.slice s.k.1 x.K.length s.k.2]
def QaP:(Pr × QcJ)→List Value:=fun q=>q.1.vals q.2.fa q.2.fc q.2.pa q.2.pc
def QbQ:(List Int)→List Value:=fun l=>[Value.string (strOfNums l)]
def QbN:(Pp × (Option Addr × Nat))→List Value:=fun q=>[Value.slice q.2.1 q.1.bytes.length q.2.2,.int .i64 q.1.rd,.int .i64 q.1.wr]
def Qbm:(Int × Bool)→List Value:=fun q=>[Value.int .i64 q.1,.bool q.2]
def Qbp:(Wt)→List Value:=Wt.vals
structure Qbf (base:Nat) (W:World) (x:Mem) (s:Sl5):Prop where
 P:W.ownsRow base 54 55 (.slice s.p.1 x.P.length s.p.2) x.P.length (x.P.flatMap QaP)
 O:W.ownsRow base 9 1 (.slice s.o.1 x.O.length s.o.2) x.O.length (x.O.flatMap QbQ)
 B:W.ownsRow base 68 3 (.slice s.b.1 x.B.length s.b.2) x.B.length (x.B.flatMap QbN)
 F:W.ownsRow base 76 2 (.slice s.f.1 x.F.length s.f.2) x.F.length (x.F.flatMap Qbm)
 K:W.ownsRow base 80 4 (.slice s.k.1 x.K.length s.k.2) x.K.length (x.K.flatMap Qbp)
 each:∀ q∈x.P,Qb3 base W q.2.fa q.2.fc q.2.pa q.2.pc q.1∧q.1.Ok
 pipe:∀ q∈x.B,W.ownsRow base 5 1 (.slice q.2.1 q.1.bytes.length q.2.2) q.1.bytes.length (q.1.bytes.map (Value.int .u8))
 empty:(x.P=[]→s.p=(Option.none,0))∧(x.O=[]→s.o=(Option.none,0))∧(x.B=[]→s.b=(Option.none,0))∧(x.F=[]→s.f=(Option.none,0))∧(x.K=[]→s.k=(Option.none,0))
theorem Qbf.nil (base:Nat) (W:World):Qbf base W Mem.none Sl5.none :=
 ⟨World.ownsRow_nil _ _ _ _,World.ownsRow_nil _ _ _ _,World.ownsRow_nil _ _ _ _,World.ownsRow_nil _ _ _ _,World.ownsRow_nil _ _ _ _,by simp [Mem.none],by simp [Mem.none],by simp [Sl5.none]⟩
def Qd3 (x:Mem) (s:Sl5) (b:Nat):Prop :=
 (Value.slice s.p.1 x.P.length s.p.2).ownBlock=some b∨(Value.slice s.o.1 x.O.length s.o.2).ownBlock=some b∨(Value.slice s.b.1 x.B.length s.b.2).ownBlock=some b∨(Value.slice s.f.1 x.F.length s.f.2).ownBlock=some b∨(Value.slice s.k.1 x.K.length s.k.2).ownBlock=some b
 ∨ (∃ q∈x.P,(Value.slice q.2.fa q.1.fds.length q.2.fc).ownBlock=some b∨(Value.slice q.2.pa q.1.pages.length q.2.pc).ownBlock=some b)∨∃ q∈x.B,(Value.slice q.2.1 q.1.bytes.length q.2.2).ownBlock=some b
theorem Qbf.keep {base base':Nat} {W W':World} {x:Mem} {s:Sl5} (h:Qbf base W x s) (hb:base'≤base) (hs:∀ b,Qd3 x s b→W'.heap[b]?=W.heap[b]?):Qbf base' W' x s where
 P:=QaI h.P hb fun c hc=>hs c (.inl hc)
 O:=QaI h.O hb fun c hc=>hs c (.inr (.inl hc))
 B:=QaI h.B hb fun c hc=>hs c (.inr (.inr (.inl hc)))
 F:=QaI h.F hb fun c hc=>hs c (.inr (.inr (.inr (.inl hc))))
 K:=QaI h.K hb fun c hc=>hs c (.inr (.inr (.inr (.inr (.inl hc)))))
 each q hq:=⟨⟨QaI (h.each q hq).1.1 hb fun c hc=>hs c (.inr (.inr (.inr (.inr (.inr (.inl ⟨q,hq,.inl hc⟩)))))),QaI (h.each q hq).1.2.1 hb fun c hc=>hs c (.inr (.inr (.inr (.inr (.inr (.inl ⟨q,hq,.inr hc⟩)))))),(h.each q hq).1.2.2⟩,(h.each q hq).2⟩
 pipe q hq:=QaI (h.pipe q hq) hb fun c hc=>hs c (.inr (.inr (.inr (.inr (.inr (.inr ⟨q,hq,hc⟩))))))
 empty:=h.empty
theorem Qbf.lt {base:Nat} {W:World} {x:Mem} {s:Sl5} (h:Qbf base W x s):∀ b,Qd3 x s b→base≤b∧b<W.heap.size:=by
 intro b hb
 rcases hb with hb | hb | hb | hb | hb | ⟨q,hq,hb | hb⟩ | ⟨q,hq,hb⟩
 ·exact h.P.lt b hb
 ·exact h.O.lt b hb
 ·exact h.B.lt b hb
 ·exact h.F.lt b hb
 ·exact h.K.lt b hb
 ·exact (h.each q hq).1.1.lt b hb
 ·exact (h.each q hq).1.2.1.lt b hb
 ·exact (h.pipe q hq).lt b hb
theorem Qbx {base:Nat} {W:World} {t:TypeId} {s n:Nat} {v:Value} {l:List Value} (h:W.ownsRow base t s v (n+1) l):∃ g c,v=.slice (some ⟨g,0,none⟩) (n+1) c:=by
 rcases h.2 with ⟨_,h0⟩ | ⟨g,c,cur,rfl,_⟩
 ·omega
 ·exact ⟨g,c,rfl⟩
section
variable {W V V1 : World} {B : Nat} {x : Mem} {s : Sl5}
theorem Qbf.putP (h:Qbf B V x s) (z:Pr × QcJ) (hq:Qb3 B V1 z.2.fa z.2.fc z.2.pa z.2.pc z.1∧z.1.Ok) {v':Value} (ho:V1.ownsRow B 54 55 v' (x.P.length+1) (x.P.flatMap QaP++QaP z)) (hg:V.grownBy V1 (Value.slice s.p.1 x.P.length s.p.2).ownBlock) :
  ∃ g c,v'=.slice (some ⟨g,0,none⟩) (x.P.length+1) c∧Qbf B V1 { x with P:=x.P++[z] } { s with p:=(some ⟨g,0,none⟩,c) }:=by
 obtain ⟨g,c,rfl⟩:=Qbx ho;refine ⟨g,c,rfl,?_⟩
 exact {
  P:=by simpa [List.flatMap_append] using ho
  O:=h.O.kept hg (QaK (by decide) h.P h.O)
  B:=h.B.kept hg (QaK (by decide) h.P h.B)
  F:=h.F.kept hg (QaK (by decide) h.P h.F)
  K:=h.K.kept hg (QaK (by decide) h.P h.K)
  each:=fun q hq2=>(List.mem_append.1 hq2).elim (fun hq'=>⟨⟨(h.each q hq').1.1.kept hg (QaK (by decide) h.P (h.each q hq').1.1),(h.each q hq').1.2.1.kept hg (QaK (by decide) h.P (h.each q hq').1.2.1),(h.each q hq').1.2.2⟩,(h.each q hq').2⟩) (fun h1=>by rw [List.mem_singleton.1 h1];exact hq)
  pipe:=fun q hq'=>(h.pipe q hq').kept hg (QaK (by decide) h.P (h.pipe q hq'))
  empty:=⟨(by simp),h.empty.2.1,h.empty.2.2.1,h.empty.2.2.2.1,h.empty.2.2.2.2⟩ }
theorem Qbf.putO (h:Qbf B V x s) (z:List Int) {v':Value} (ho:V1.ownsRow B 9 1 v' (x.O.length+1) (x.O.flatMap QbQ++QbQ z)) (hg:V.grownBy V1 (Value.slice s.o.1 x.O.length s.o.2).ownBlock) :
  ∃ g c,v'=.slice (some ⟨g,0,none⟩) (x.O.length+1) c∧Qbf B V1 { x with O:=x.O++[z] } { s with o:=(some ⟨g,0,none⟩,c) }:=by
 obtain ⟨g,c,rfl⟩:=Qbx ho;refine ⟨g,c,rfl,?_⟩
 exact {
  P:=h.P.kept hg (QaK (by decide) h.O h.P)
  O:=by simpa [List.flatMap_append] using ho
  B:=h.B.kept hg (QaK (by decide) h.O h.B)
  F:=h.F.kept hg (QaK (by decide) h.O h.F)
  K:=h.K.kept hg (QaK (by decide) h.O h.K)
  each:=fun q hq'=>⟨⟨(h.each q hq').1.1.kept hg (QaK (by decide) h.O (h.each q hq').1.1),(h.each q hq').1.2.1.kept hg (QaK (by decide) h.O (h.each q hq').1.2.1),(h.each q hq').1.2.2⟩,(h.each q hq').2⟩
  pipe:=fun q hq'=>(h.pipe q hq').kept hg (QaK (by decide) h.O (h.pipe q hq'))
  empty:=⟨h.empty.1,(by simp),h.empty.2.2.1,h.empty.2.2.2.1,h.empty.2.2.2.2⟩ }
theorem Qbf.putB (h:Qbf B V x s) (z:Pp × (Option Addr × Nat)) (hq:V1.ownsRow B 5 1 (.slice z.2.1 z.1.bytes.length z.2.2) z.1.bytes.length (z.1.bytes.map (Value.int .u8))) {v':Value} (ho:V1.ownsRow B 68 3 v' (x.B.length+1) (x.B.flatMap QbN++QbN z)) (hg:V.grownBy V1 (Value.slice s.b.1 x.B.length s.b.2).ownBlock) :
  ∃ g c,v'=.slice (some ⟨g,0,none⟩) (x.B.length+1) c∧Qbf B V1 { x with B:=x.B++[z] } { s with b:=(some ⟨g,0,none⟩,c) }:=by
 obtain ⟨g,c,rfl⟩:=Qbx ho;refine ⟨g,c,rfl,?_⟩
 exact {
  P:=h.P.kept hg (QaK (by decide) h.B h.P)
  O:=h.O.kept hg (QaK (by decide) h.B h.O)
  B:=by simpa [List.flatMap_append] using ho
  F:=h.F.kept hg (QaK (by decide) h.B h.F)
  K:=h.K.kept hg (QaK (by decide) h.B h.K)
  each:=fun q hq'=>⟨⟨(h.each q hq').1.1.kept hg (QaK (by decide) h.B (h.each q hq').1.1),(h.each q hq').1.2.1.kept hg (QaK (by decide) h.B (h.each q hq').1.2.1),(h.each q hq').1.2.2⟩,(h.each q hq').2⟩
  pipe:=fun q hq2=>(List.mem_append.1 hq2).elim (fun hq'=>(h.pipe q hq').kept hg (QaK (by decide) h.B (h.pipe q hq'))) (fun h1=>by rw [List.mem_singleton.1 h1];exact hq)
  empty:=⟨h.empty.1,h.empty.2.1,(by simp),h.empty.2.2.2.1,h.empty.2.2.2.2⟩ }
theorem Qbf.putF (h:Qbf B V x s) (z:Int × Bool) {v':Value} (ho:V1.ownsRow B 76 2 v' (x.F.length+1) (x.F.flatMap Qbm++Qbm z)) (hg:V.grownBy V1 (Value.slice s.f.1 x.F.length s.f.2).ownBlock) :
  ∃ g c,v'=.slice (some ⟨g,0,none⟩) (x.F.length+1) c∧Qbf B V1 { x with F:=x.F++[z] } { s with f:=(some ⟨g,0,none⟩,c) }:=by
 obtain ⟨g,c,rfl⟩:=Qbx ho;refine ⟨g,c,rfl,?_⟩
 exact {
  P:=h.P.kept hg (QaK (by decide) h.F h.P)
  O:=h.O.kept hg (QaK (by decide) h.F h.O)
  B:=h.B.kept hg (QaK (by decide) h.F h.B)
  F:=by simpa [List.flatMap_append] using ho
  K:=h.K.kept hg (QaK (by decide) h.F h.K)
  each:=fun q hq'=>⟨⟨(h.each q hq').1.1.kept hg (QaK (by decide) h.F (h.each q hq').1.1),(h.each q hq').1.2.1.kept hg (QaK (by decide) h.F (h.each q hq').1.2.1),(h.each q hq').1.2.2⟩,(h.each q hq').2⟩
  pipe:=fun q hq'=>(h.pipe q hq').kept hg (QaK (by decide) h.F (h.pipe q hq'))
  empty:=⟨h.empty.1,h.empty.2.1,h.empty.2.2.1,(by simp),h.empty.2.2.2.2⟩ }
theorem Qbf.putK (h:Qbf B V x s) (z:Wt) {v':Value} (ho:V1.ownsRow B 80 4 v' (x.K.length+1) (x.K.flatMap Qbp++Qbp z)) (hg:V.grownBy V1 (Value.slice s.k.1 x.K.length s.k.2).ownBlock) :
  ∃ g c,v'=.slice (some ⟨g,0,none⟩) (x.K.length+1) c∧Qbf B V1 { x with K:=x.K++[z] } { s with k:=(some ⟨g,0,none⟩,c) }:=by
 obtain ⟨g,c,rfl⟩:=Qbx ho;refine ⟨g,c,rfl,?_⟩
 exact {
  P:=h.P.kept hg (QaK (by decide) h.K h.P)
  O:=h.O.kept hg (QaK (by decide) h.K h.O)
  B:=h.B.kept hg (QaK (by decide) h.K h.B)
  F:=h.F.kept hg (QaK (by decide) h.K h.F)
  K:=by simpa [List.flatMap_append] using ho
  each:=fun q hq'=>⟨⟨(h.each q hq').1.1.kept hg (QaK (by decide) h.K (h.each q hq').1.1),(h.each q hq').1.2.1.kept hg (QaK (by decide) h.K (h.each q hq').1.2.1),(h.each q hq').1.2.2⟩,(h.each q hq').2⟩
  pipe:=fun q hq'=>(h.pipe q hq').kept hg (QaK (by decide) h.K (h.pipe q hq'))
  empty:=⟨h.empty.1,h.empty.2.1,h.empty.2.2.1,h.empty.2.2.2.1,(by simp)⟩ }
end
end
section
theorem QbT:(Tryz.prog.info? 29).map (·.size)=some 5:=by kernel_rfl
def imZ:Array Value:=(Mem.none.cells Sl5.none).toArray
structure QaZ (W:World) (a:Option Addr) (len cap:Nat) (k:Forest) (T:Nat) (x:Mem) (V:World) (s:Sl5) (ds:List Nat):Prop where
 fields:SlF T V a len cap k
 cnt:k.cnt≤20000
 below:Below W.heap.size W V
 eR:V.heap[W.heap.size]?=some (.cells imZ 29)
 eT:V.heap[T]?=some (.cells (x.cells s).toArray 29)
 hT:W.heap.size+1≤T
 own:Qbf (T+1) V x s
 marks:∀ D∈ds,T<D∧V.heap[D]?=some (.deferred (some []))
 nodup:ds.Nodup
section
variable {W : World} {a : Option Addr} {len cap : Nat} {k : Forest} {T : Nat} {x : Mem} {V : World} {s : Sl5} {ds : List Nat}
theorem QaZ.lT (h:QaZ W a len cap k T x V s ds):T<V.heap.size:=(QI.1 h.eT).1
theorem QaZ.markLt (h:QaZ W a len cap k T x V s ds) {D:Nat} (hD:D∈ds):D<V.heap.size:=(QI.1 (h.marks D hD).2).1
theorem QaZ.same (h:QaZ W a len cap k T x V s ds) {V':World} (h1:V'.os=V.os) (h2:V'.tape=V.tape) (h3:V'.output=V.output) (h4:V.heap.size≤V'.heap.size)
  (hb:∀ b,b≤T∨Qd3 x s b∨b∈ds→V'.heap[b]?=V.heap[b]?):QaZ W a len cap k T x V' s ds:=by
 have hT:=h.hT
 exact ⟨h.fields.below ⟨h1,h2,h3,h4,fun b hb'=>hb b (.inl (by omega))⟩,h.cnt,h.below.trans ⟨h1,h2,h3,h4,fun b hb'=>hb b (.inl (by omega))⟩,(hb _ (.inl (by omega))).trans h.eR,(hb _ (.inl (QN _))).trans h.eT,hT,
  h.own.keep (QN _) fun b hb'=>hb b (.inr (.inl hb')),fun D hD=>⟨(h.marks D hD).1,(hb D (.inr (.inr hD))).trans (h.marks D hD).2⟩,h.nodup⟩
theorem QaZ.grow (h:QaZ W a len cap k T x V s ds) {V1:World} (b:Below V.heap.size V V1):QaZ W a len cap k T x V1 s ds :=
 h.same b.os b.tape b.output b.size fun c hc=>b.block c (by
  have:=h.lT
  rcases hc with hc | hc | hc
  ·omega
  ·exact (h.own.lt c hc).2
  ·exact h.markLt hc)
theorem QaZ.apart (h:QaZ W a len cap k T x V s ds) {D:Nat} (hD:D∈ds) {B:Nat} {t:TypeId} {sz n:Nat} {v:Value} {l:List Value} (ho:V.ownsRow B t sz v n l):v.ownBlock≠some D:=by
 intro e
 rcases ho.2 with ⟨rfl,_⟩ | ⟨g,c,cur,rfl,_,hg,_⟩
 ·cases e
 ·simp only [Value.ownBlock,Option.some.injEq] at e
  subst e;rw [(h.marks _ hD).2] at hg
  cases hg
theorem QaZ.put (h:QaZ W a len cap k T x V s ds) {V1:World} {B:Nat} {t:TypeId} {sz n:Nat} {v:Value} {l:List Value} (ho:V.ownsRow B t sz v n l) (hB:T+1≤B) (hg:V.grownBy V1 v.ownBlock) (x':Mem) (s':Sl5) (own:Qbf (T+1) V1 x' s') {R:Array Value} (hR:R=(x'.cells s').toArray) :
  V1.heap[T]?=some (.cells (x.cells s).toArray 29)∧QaZ W a len cap k T x' (V1.setRow T R) s' ds:=by
 subst hR;have lT:=h.lT;have hT:=h.hT
 have hr:∀ c,c≤T→some c≠v.ownBlock:=fun c hc e=>by have:=(ho.lt c e.symm).1;omega
 have hb:∀ c,c≤T→V1.heap[c]?=V.heap[c]?:=fun c hc=>hg.block c (by omega) (hr c hc)
 have e1:=(hb T (QN _)).trans h.eT
 have hs:∀ c,c≠T→(V1.setRow T (x'.cells s').toArray).heap[c]?=V1.heap[c]?:=fun c hc=>setRow_other _ _ _ _ hc
 have bl:Below T V (V1.setRow T (x'.cells s').toArray):=⟨hg.os,hg.tape,hg.output,by rw [size_setRow];exact hg.size,fun b hb'=>(hs b (by omega)).trans (hb b (by omega))⟩;refine ⟨e1,h.fields.below bl,h.cnt,h.below.trans ⟨bl.os,bl.tape,bl.output,bl.size,fun b hb'=>bl.block b (by omega)⟩,(bl.block _ (by omega)).trans h.eR,setRow_heap _ _ _ _ _ _ e1,hT,?_,fun D hD=>⟨(h.marks D hD).1,?_⟩,h.nodup⟩
 ·exact own.keep (QN _) fun c hc=>hs c (by have:=(own.lt c hc).1;omega)
 ·rw [hs D (by have:=(h.marks D hD).1;omega),hg.block D (h.markLt hD) (fun e=>h.apart hD ho e.symm)]
  exact (h.marks D hD).2
theorem QaZ.atP (h:QaZ W a len cap k T x V s ds):V.cell? ⟨T,0,none⟩=some (.slice s.p.1 x.P.length s.p.2):=by rw [cell_of_row V T 0 _ _ _ h.eT];rfl
theorem QaZ.putP (h:QaZ W a len cap k T x V s ds) (z:Pr × QcJ) {V1:World} (hq:Qb3 (T+1) V1 z.2.fa z.2.fc z.2.pa z.2.pc z.1∧z.1.Ok) {v':Value} (ho:V1.ownsRow (T+1) 54 55 v' (x.P.length+1) (x.P.flatMap QaP++QaP z)) (hg:V.grownBy V1 (Value.slice s.p.1 x.P.length s.p.2).ownBlock) :
  ∃ g c,v'=.slice (some ⟨g,0,none⟩) (x.P.length+1) c∧V1.heap[T]?=some (.cells (x.cells s).toArray 29)∧QaZ W a len cap k T { x with P:=x.P++[z] } (V1.setRow T (((x.cells s).toArray).setIfInBounds 0 v')) { s with p:=(some ⟨g,0,none⟩,c) } ds:=by
 obtain ⟨g,c,rfl,own⟩:=h.own.putP z hq ho hg;exact ⟨g,c,rfl,h.put h.own.P (QN _) hg _ _ own (by simp [Mem.cells])⟩
theorem QaZ.atO (h:QaZ W a len cap k T x V s ds):V.cell? ⟨T,1,none⟩=some (.slice s.o.1 x.O.length s.o.2):=by rw [cell_of_row V T 1 _ _ _ h.eT];rfl
theorem QaZ.putO (h:QaZ W a len cap k T x V s ds) (z:List Int) {V1:World} {v':Value} (ho:V1.ownsRow (T+1) 9 1 v' (x.O.length+1) (x.O.flatMap QbQ++QbQ z)) (hg:V.grownBy V1 (Value.slice s.o.1 x.O.length s.o.2).ownBlock) :
  ∃ g c,v'=.slice (some ⟨g,0,none⟩) (x.O.length+1) c∧V1.heap[T]?=some (.cells (x.cells s).toArray 29)∧QaZ W a len cap k T { x with O:=x.O++[z] } (V1.setRow T (((x.cells s).toArray).setIfInBounds 1 v')) { s with o:=(some ⟨g,0,none⟩,c) } ds:=by
 obtain ⟨g,c,rfl,own⟩:=h.own.putO z ho hg;exact ⟨g,c,rfl,h.put h.own.O (QN _) hg _ _ own (by simp [Mem.cells])⟩
theorem QaZ.atB (h:QaZ W a len cap k T x V s ds):V.cell? ⟨T,2,none⟩=some (.slice s.b.1 x.B.length s.b.2):=by rw [cell_of_row V T 2 _ _ _ h.eT];rfl
theorem QaZ.putB (h:QaZ W a len cap k T x V s ds) (z:Pp × (Option Addr × Nat)) {V1:World} (hq:V1.ownsRow (T+1) 5 1 (.slice z.2.1 z.1.bytes.length z.2.2) z.1.bytes.length (z.1.bytes.map (Value.int .u8))) {v':Value} (ho:V1.ownsRow (T+1) 68 3 v' (x.B.length+1) (x.B.flatMap QbN++QbN z)) (hg:V.grownBy V1 (Value.slice s.b.1 x.B.length s.b.2).ownBlock) :
  ∃ g c,v'=.slice (some ⟨g,0,none⟩) (x.B.length+1) c∧V1.heap[T]?=some (.cells (x.cells s).toArray 29)∧QaZ W a len cap k T { x with B:=x.B++[z] } (V1.setRow T (((x.cells s).toArray).setIfInBounds 2 v')) { s with b:=(some ⟨g,0,none⟩,c) } ds:=by
 obtain ⟨g,c,rfl,own⟩:=h.own.putB z hq ho hg;exact ⟨g,c,rfl,h.put h.own.B (QN _) hg _ _ own (by simp [Mem.cells])⟩
theorem QaZ.atF (h:QaZ W a len cap k T x V s ds):V.cell? ⟨T,3,none⟩=some (.slice s.f.1 x.F.length s.f.2):=by rw [cell_of_row V T 3 _ _ _ h.eT];rfl
theorem QaZ.putF (h:QaZ W a len cap k T x V s ds) (z:Int × Bool) {V1:World} {v':Value} (ho:V1.ownsRow (T+1) 76 2 v' (x.F.length+1) (x.F.flatMap Qbm++Qbm z)) (hg:V.grownBy V1 (Value.slice s.f.1 x.F.length s.f.2).ownBlock) :
  ∃ g c,v'=.slice (some ⟨g,0,none⟩) (x.F.length+1) c∧V1.heap[T]?=some (.cells (x.cells s).toArray 29)∧QaZ W a len cap k T { x with F:=x.F++[z] } (V1.setRow T (((x.cells s).toArray).setIfInBounds 3 v')) { s with f:=(some ⟨g,0,none⟩,c) } ds:=by
 obtain ⟨g,c,rfl,own⟩:=h.own.putF z ho hg;exact ⟨g,c,rfl,h.put h.own.F (QN _) hg _ _ own (by simp [Mem.cells])⟩
theorem QaZ.atK (h:QaZ W a len cap k T x V s ds):V.cell? ⟨T,4,none⟩=some (.slice s.k.1 x.K.length s.k.2):=by rw [cell_of_row V T 4 _ _ _ h.eT];rfl
theorem QaZ.putK (h:QaZ W a len cap k T x V s ds) (z:Wt) {V1:World} {v':Value} (ho:V1.ownsRow (T+1) 80 4 v' (x.K.length+1) (x.K.flatMap Qbp++Qbp z)) (hg:V.grownBy V1 (Value.slice s.k.1 x.K.length s.k.2).ownBlock) :
  ∃ g c,v'=.slice (some ⟨g,0,none⟩) (x.K.length+1) c∧V1.heap[T]?=some (.cells (x.cells s).toArray 29)∧QaZ W a len cap k T { x with K:=x.K++[z] } (V1.setRow T (((x.cells s).toArray).setIfInBounds 4 v')) { s with k:=(some ⟨g,0,none⟩,c) } ds:=by
 obtain ⟨g,c,rfl,own⟩:=h.own.putK z ho hg;exact ⟨g,c,rfl,h.put h.own.K (QN _) hg _ _ own (by simp [Mem.cells])⟩
end
def QcQ (Q:Exit→Act→World→Prop) (W:World) (v0:Value) (a:Option Addr) (len cap:Nat) (k:Forest) (T:Nat) (c:Code) (x:Mem):Prop :=
 ∀ (v1 v4 v5 u8 u9 u10 u11 u12 u13 u14 u15 u16 u17 u18 u19 u20 u21 u22 u23 u24 u25 u26 u27 u28 u29 u30 u31 u32 u33 u34 u35 u36 u37 u38 u39 u40 u41 u42 u43 u44 u45 u46 u47 u48 u49 u50 u51 u52 u53 u54 u55 u56 u57 u58 u59 u60 u61 u62 u63 u64 u65 u66 u67 u68 u69 u70 u71 u72 u73 u74 u75 u76 u77 u78 u79 u80 u81 u82 u83 u84 u85 u86 u87 u88 u89 u90 u91 u92 u93 u94 u95 u96 u97 u98 u99 u100 u101 u102 u103 u104 u105 u106 u107 u108 u109 u110 u111 u112 u113 u114 u115 u116 u117 u118 u119 u120 u121 u122 u123 u124 u125 u126 u127 u128 u129 u130 u131 u132 u133 u134 u135 u136 u137 u138 u139 u140 u141 u142 u143 u144 u145 u146 u147 u148 u149 u150 u151 u152 u153 u154 u155 u156 u157 u158 u159 u160 u161 u162 u163 u164 u165 u166 u167 u168 u169 u170 u171 u172 u173 u174 u175 u176 u177 u178 u179 u180 u181 u182 u183 u184 u185 u186:Value) (V:World) (s:Sl5) (ds:List Nat),QaZ W a len cap k T x V s ds →
  c.wpIn Fence.wide 102 Tryz.prog Q { tmps:=#[v0,v1,.pointer (some ⟨W.heap.size,0,none⟩),.int .i64 0,v4,v5,.slice a len cap,.pointer (some ⟨T,0,none⟩),u8,u9,u10,u11,u12,u13,u14,u15,u16,u17,u18,u19,u20,u21,u22,u23,u24,u25,u26,u27,u28,u29,u30,u31,u32,u33,u34,u35,u36,u37,u38,u39,u40,u41,u42,u43,u44,u45,u46,u47,u48,u49,u50,u51,u52,u53,u54,u55,u56,u57,u58,u59,u60,u61,u62,u63,u64,u65,u66,u67,u68,u69,u70,u71,u72,u73,u74,u75,u76,u77,u78,u79,u80,u81,u82,u83,u84,u85,u86,u87,u88,u89,u90,u91,u92,u93,u94,u95,u96,u97,u98,u99,u100,u101,u102,u103,u104,u105,u106,u107,u108,u109,u110,u111,u112,u113,u114,u115,u116,u117,u118,u119,u120,u121,u122,u123,u124,u125,u126,u127,u128,u129,u130,u131,u132,u133,u134,u135,u136,u137,u138,u139,u140,u141,u142,u143,u144,u145,u146,u147,u148,u149,u150,u151,u152,u153,u154,u155,u156,u157,u158,u159,u160,u161,u162,u163,u164,u165,u166,u167,u168,u169,u170,u171,u172,u173,u174,u175,u176,u177,u178,u179,u180,u181,u182,u183,u184,u185,u186],defers:=ds.map QeE } V
end
section
attribute [local go_sem] Oper.semAt_some
theorem Qpz {x:Mem} {s:Sl5} {O':List (List Int)} {o:Option Addr × Nat} {b:Nat} (h:Qd3 { x with O:=O' } { s with o:=o } b):Qd3 x s b∨(Value.slice o.1 O'.length o.2).ownBlock=some b:=by
 rcases h with h | h | h | h | h | h | h
 ·exact .inl (.inl h)
 ·exact .inr h
 ·exact .inl (.inr (.inr (.inl h)))
 ·exact .inl (.inr (.inr (.inr (.inl h))))
 ·exact .inl (.inr (.inr (.inr (.inr (.inl h)))))
 ·exact .inl (.inr (.inr (.inr (.inr (.inr (.inl h))))))
 ·exact .inl (.inr (.inr (.inr (.inr (.inr (.inr h))))))
theorem QjX {n:Nat} {W:World} {tag:Int} {fs:List (Fe × List Int)} {f:Forest} (h:Fes n W fs f):(Qak tag fs).map (·.2)=(f.sel tag).map (·.1):=by
 obtain ⟨h1,h2⟩:=h.hits tag
 refine List.ext_getElem (by simpa using h1) fun i hi hi2=>?_
 simp only [QM] at hi hi2;simpa using (h2 i hi hi2).1
theorem Qj3:(Tryz.prog.info? 9).map (fun i=>(i.zero,i.size,i.bytes))=some (some (.string ⟨#[]⟩),1,16):=by kernel_rfl
theorem QiC:(Tryz.prog.info? 24).map (·.size)=some 1:=by kernel_rfl
theorem QqT (Q:Exit→Act→World→Prop) (W:World) (v0:Value) (a:Option Addr) (len cap:Nat) (k:Forest) (T:Nat) (x:Mem) (hx:x.O=[])
  (hn:QcQ Q W v0 a len cap k T (tl 7 (Tryz.f5.body.getD .skip)) { x with O:=(k.sel 2).map (·.1) }) :
  QcQ Q W v0 a len cap k T (tl 6 (Tryz.f5.body.getD .skip)) x:=by
 intro v1 v4 v5 u8 u9 u10 u11 u12 u13 u14 u15 u16 u17 u18 u19 u20 u21 u22 u23 u24 u25 u26 u27 u28 u29 u30 u31 u32 u33 u34 u35 u36 u37 u38 u39 u40 u41 u42 u43 u44 u45 u46 u47 u48 u49 u50 u51 u52 u53 u54 u55 u56 u57 u58 u59 u60 u61 u62 u63 u64 u65 u66 u67 u68 u69 u70 u71 u72 u73 u74 u75 u76 u77 u78 u79 u80 u81 u82 u83 u84 u85 u86 u87 u88 u89 u90 u91 u92 u93 u94 u95 u96 u97 u98 u99 u100 u101 u102 u103 u104 u105 u106 u107 u108 u109 u110 u111 u112 u113 u114 u115 u116 u117 u118 u119 u120 u121 u122 u123 u124 u125 u126 u127 u128 u129 u130 u131 u132 u133 u134 u135 u136 u137 u138 u139 u140 u141 u142 u143 u144 u145 u146 u147 u148 u149 u150 u151 u152 u153 u154 u155 u156 u157 u158 u159 u160 u161 u162 u163 u164 u165 u166 u167 u168 u169 u170 u171 u172 u173 u174 u175 u176 u177 u178 u179 u180 u181 u182 u183 u184 u185 u186 V s ds h;have HN:=QQ hn;clear hn;obtain ⟨fs,F1,F2,F3⟩:=h.fields.fes;subst F3;have hcnt:=h.cnt;have lT:=h.lT;have hT:=h.hT
 have hsm:fs.length≤1000000:=by have:=Fes.length fs k F1;have:=Forest.length_le_cnt k;omega
 have hbs:∀ e∈fs,e.2.length≤1048576:=fun e he=>by have:=Fes.small fs k F1 e he;omega
 have hby:∀ e∈fs,QaL T V (.slice e.1.a e.1.l e.1.c) e.2:=fun e he=>Fes.rows fs k F1 e he
 have hch3:Fence.wide.fn 16:=trivial;have HH:=QQ h;clear h
 conv=>arg 4;whnf
 refine wpIn_seq_k (fun K' aK=>?_);have AK:=QQ aK;clear aK
 gi_wp2_with (gi_at_call 16;refine (QeV Fence.wide _ trivial rfl _ _ _ _ _).mono ?_;rintro e w' ⟨rfl,rfl⟩)
 obtain ⟨Y,hY⟩:∃ Y,Y=(V.alloc (.cells #[.slice a fs.length cap] 59)).alloc (.cells #[.int .i64 2] 3):=⟨_,rfl⟩
 have bwX:Below V.heap.size V Y:=by rw [hY];exact ((QB _ _).alloc (QN _) _).alloc (by simp) _
 have sY:V.heap.size+2=Y.heap.size:=by rw [hY];simp
 rw [← hY];have h:=(QG HH)
 have hmb:∀ b,Qd3 x s b→b<V.heap.size:=fun b hb=>(h.own.lt b hb).2
 have hdl:∀ D∈ds,D<V.heap.size:=fun D hD=>h.markLt hD
 have hso:s.o=(none,0):=h.own.empty.2.1 hx
 have hlen:∀ i,((((Qak 2 fs).take i).map (·.2)).length≤1000000):=fun i=>by
  have:=List.length_filter_le (fun x:Fe × List Int=>x.1.t == 2) fs;rw [QM,List.length_take];unfold Qak;omega
 clear h
 refine QcX V T (Nat.le_of_lt lT) a fs.length cap 2 fs hY rfl rfl F2 hby hsm hbs rfl
  (fun i S A=>∃ o:Option Addr × Nat,QaZ W a fs.length cap k T { x with O:=((Qak 2 fs).take i).map (·.2) } A { s with o:=o } ds∧Below T V A∧A.ownsRow Y.heap.size 9 1 (.slice o.1 (((Qak 2 fs).take i).map (·.2)).length o.2) (((Qak 2 fs).take i).map (·.2)).length ((((Qak 2 fs).take i).map (·.2)).flatMap QbQ)∧S=fun b=>b=T∨(Value.slice o.1 (((Qak 2 fs).take i).map (·.2)).length o.2).ownBlock=some b)
  (fun c i S A=>False) (fun b=>b=T∨(Value.slice none 0 0).ownBlock=some b) (fun b hb=>by rcases hb with rfl | hb;exact ⟨QN _,lT⟩;cases hb) ?hI ?hIx ?hlt ?h0 (fun args m A=>∀ cs,args.getD 0 undef=.agg cs→A.heap[m]?=some (.cells cs 66)) (fun _ _ _ _ he hA cs hcs=>he.trans (hA cs hcs))
  (fun args m=>{ tmps:=#[v0,v1,.pointer (some ⟨W.heap.size,0,none⟩),.int .i64 0,v4,v5,.slice a fs.length cap,.pointer (some ⟨T,0,none⟩),.pointer (some ⟨m,0,none⟩),u9,u10,u11,u12,u13,u14,u15,u16,u17,u18,u19,u20,u21,u22,u23,u24,u25,u26,u27,u28,u29,u30,u31,u32,u33,u34,u35,u36,u37,u38,u39,u40,u41,u42,u43,u44,u45,u46,.slice a fs.length cap,.func (.func 57) #[] #[.pointer (some ⟨V.heap.size,0,none⟩),.pointer (some ⟨V.heap.size+1,0,none⟩)],args.getD 0 undef,args.getD 1 undef,u51,u52,u53,u54,u55,u56,u57,u58,u59,u60,u61,u62,u63,u64,u65,u66,u67,u68,u69,u70,u71,u72,u73,u74,u75,u76,u77,u78,u79,u80,u81,u82,u83,u84,u85,u86,u87,u88,u89,u90,u91,u92,u93,u94,u95,u96,u97,u98,u99,u100,u101,u102,u103,u104,u105,u106,u107,u108,u109,u110,u111,u112,u113,u114,u115,u116,u117,u118,u119,u120,u121,u122,u123,u124,u125,u126,u127,u128,u129,u130,u131,u132,u133,u134,u135,u136,u137,u138,u139,u140,u141,u142,u143,u144,u145,u146,u147,u148,u149,u150,u151,u152,u153,u154,u155,u156,u157,u158,u159,u160,u161,u162,u163,u164,u165,u166,u167,u168,u169,u170,u171,u172,u173,u174,u175,u176,u177,u178,u179,u180,u181,u182,u183,u184,u185,u186],defers:=[] }) ?assign ?body ?done ?stop
 case hI =>
  rintro i S A A' ⟨o,inv,bT,own,rfl⟩ hs;refine ⟨o,inv.same hs.os hs.tape hs.output hs.size (fun b hb=>hs.block b ?_),bT.trans ⟨hs.os,hs.tape,hs.output,hs.size,fun b hb=>hs.block b (.inl (by omega))⟩,Qac own (fun b hb=>hs.block b (.inr (.inr hb))),rfl⟩
  rcases hb with hb | hb | hb
  ·left;omega
  ·exact (Qpz hb).elim (fun h=>.inl (by have:=hmb b h;omega)) (fun h=>.inr (.inr h))
  ·left;have:=hdl b hb;omega
 case hIx=>intro c i S A A' h;exact h.elim
 case hlt =>
  rintro i S A ⟨o,inv,bT,own,rfl⟩ b hb
  rcases hb with rfl | hb
  ·exact inv.lT
  ·exact (own.lt b hb).2
 case h0 =>
  have h:=(QG HH).grow bwX
  have e:({ x with O:=((Qak 2 fs).take 0).map (·.2) }:Mem)=x:=by cases x;simp at hx;subst hx;rfl
  have e2:({ s with o:=(none,0) }:Sl5)=s:=by rw [← hso]
  exact ⟨(none,0),by rw [e,e2];exact h,bwX.mono (Nat.le_of_lt lT),World.ownsRow_nil _ _ _ _,rfl⟩
 case assign =>
  rintro l i hi A args G K ⟨v,rfl,_⟩ hK
  gi_wp2_with ((fail_if_success (unfold Qag));refine QaV (t:=66) rfl ?_)
  unfold Qag;obtain ⟨cs,hcs⟩:∃ cs:Array Value,cs=((Qak 2 fs)[i]).1.cells.toArray:=⟨_,rfl⟩
  have hc3:cs.size=3:=by rw [hcs];rfl
  have hc1:cs.all (·.oneCell')=true:=by rw [hcs];simp [Fe.cells,Value.oneCell']
  refine QaD rfl 66 (.tmp 8) (.tmp 49) rfl A.heap.size cs rfl (by rw [hcs];rfl) 66 _ (QW _ _) (by rw [hc3];exact Qdi) (by rw [hc3];rfl) hc1 ?_
  gi_wp2
  refine hK _ (Qaj ((QB _ A).alloc (QN _) _) (QN _) _) (fun cs' hcs'=>?_)
  have e:cs'=cs:=by rw [hcs];injection hcs' with e;exact e.symm
  rw [e];exact setRow_heap _ _ _ _ _ _ (QW _ _)
 case body =>
  rintro l i hi S A m args G ⟨o,inv,bT,own,rfl⟩ hm1 hm2 hm3 hm4 hAf ⟨v,rfl,q4,rfl⟩ hG;have hmem:(Qak 2 fs)[i]∈fs:=(List.mem_filter.1 (show (Qak 2 fs)[i]∈Qak 2 fs from List.getElem_mem _)).1;have hrow:=((hby _ hmem).below bT);have hA:=hAf _ rfl
  have c1:A.cell? ⟨m,1,none⟩=some (.slice ((Qak 2 fs)[i]).1.a ((Qak 2 fs)[i]).1.l ((Qak 2 fs)[i]).1.c):=by rw [cell_of_row A m 1 _ _ _ hA];rfl
  have cv:=Qdz (P:=Tryz.prog) hrow.1 22 5 9 Tryz.underlying22 Tryz.underlying5 Tryz.underlying9;obtain ⟨bs,hbs2⟩:∃ bs,bs=((Qak 2 fs)[i]).2:=⟨_,rfl⟩
  have hcat:((Qak 2 fs).take (i+1)).map (·.2)=((Qak 2 fs).take i).map (·.2)++[bs]:=by rw [List.take_succ_eq_append_getElem hi,List.map_append,hbs2];rfl
  rw [← hbs2] at cv
  have hlj:(((Qak 2 fs).take i).map (·.2)).length=i:=by rw [QM,List.length_take];omega
  have hlj1:(((Qak 2 fs).take (i+1)).map (·.2)).length=i+1:=by rw [QM,List.length_take];omega
  have c2:A.cell? ⟨T,1,none⟩=some (.slice o.1 i o.2):=inv.atO.trans (congrArg (fun n=>some (Value.slice o.1 n o.2)) hlj);have HLJ:=QQ (QA hlj hlj1)
  have hi5:i≤1000000:=by have:=hlen i;omega
  have INV:=QQ inv;have OWN:=QQ own;have BT:=QQ bT;have HCAT:=QQ hcat;obtain ⟨ag,hag⟩:∃ ag:Value,ag=.agg (((Qak 2 fs)[i]).1.cells).toArray:=⟨_,rfl⟩;rw [← hag];clear hA hAf inv own bT q4 hG hcat hbs2 hrow hag hlj hlj1;obtain ⟨ra,hra⟩:∃ y,y=((Qak 2 fs)[i]).1.a:=⟨_,rfl⟩;obtain ⟨rl,hrl⟩:∃ y,y=((Qak 2 fs)[i]).1.l:=⟨_,rfl⟩;obtain ⟨rc,hrc⟩:∃ y,y=((Qak 2 fs)[i]).1.c:=⟨_,rfl⟩;rw [← hra,← hrl,← hrc] at cv c1;clear hra hrl hrc;obtain ⟨i0,hi0,hz0,hz1,hz2⟩:=info_parts Qj3
  gi_wp2_with (gi_at_builtin;refine Qau ?_)
  unfold Qag;have inv:=(QG INV);obtain ⟨hlj,hlj1⟩:=(QG HLJ);have own:=(QG OWN);rw [hlj] at own;have bT:=(QG BT);have hcat:=(QG HCAT);have hal:Below A.heap.size A (A.alloc (.cells #[.string (strOfNums bs)] 9)):=(QB _ A).alloc (QN _) _
  have hal2:A.heap.size≤(A.alloc (.cells #[.string (strOfNums bs)] 9)).heap.size:=by simp
  have invA:=inv.grow hal;refine wpListIn_append_own_at _ rfl _ _ 24 rfl Y.heap.size 9 i0 _ 1 16 Tryz.underlying24 hi0 hz0 hz1 hz2 rfl (by decide) _ i _ (by rfl) (own.alloc _) ⟨A.heap.size,0,none⟩ 1 1 (QbQ bs) (by rfl) rfl (QbR A #[.string (strOfNums bs)] 9) (by simp [QbQ,Value.oneCell']) (by simp only [maxLen];omega) (by omega) (by omega) ?_;intro v' w3 ho hg _ hat;obtain ⟨g,c,hv',eT3,inv3⟩:=invA.putO bs (v':=v') (by rw [hlj];exact QaI ho (by omega) (fun _ _=>rfl)) (by rw [hlj];exact hg);have hl1:(({ x with O:=((Qak 2 fs).take i).map (·.2) }:Mem).O.length+1)=i+1:=congrArg (·+1) hlj;rw [hl1] at hv';subst hv'
  have hoth:∀ b,b≠T→(w3.setRow T (((({ x with O:=((Qak 2 fs).take i).map (·.2) }:Mem).cells { s with o:=o }).toArray).setIfInBounds 1 (.slice (some ⟨g,0,none⟩) (i+1) c))).heap[b]?=w3.heap[b]?:=fun b hb=>setRow_other _ _ _ _ hb
  have hrowlt:∀ b,(Value.slice o.1 i o.2).ownBlock=some b→Y.heap.size≤b:=fun b hb=>(own.lt b hb).1
  have own4:(w3.setRow T (((({ x with O:=((Qak 2 fs).take i).map (·.2) }:Mem).cells { s with o:=o }).toArray).setIfInBounds 1 (.slice (some ⟨g,0,none⟩) (i+1) c))).ownsRow Y.heap.size 9 1 (.slice (some ⟨g,0,none⟩) (((Qak 2 fs).take (i+1)).map (·.2)).length c) (((Qak 2 fs).take (i+1)).map (·.2)).length ((((Qak 2 fs).take (i+1)).map (·.2)).flatMap QbQ):=by
   rw [hlj1,hcat,List.flatMap_append,show [bs].flatMap QbQ=QbQ bs by simp]
   refine Qac ho fun b hb=>hoth b (by have:=(ho.lt b hb).1;omega)
  have inv4:QaZ W a fs.length cap k T { x with O:=((Qak 2 fs).take (i+1)).map (·.2) } (w3.setRow T (((({ x with O:=((Qak 2 fs).take i).map (·.2) }:Mem).cells { s with o:=o }).toArray).setIfInBounds 1 (.slice (some ⟨g,0,none⟩) (i+1) c))) { s with o:=(some ⟨g,0,none⟩,c) } ds:=by rw [hcat];exact inv3
  have bT4:Below T V (w3.setRow T (((({ x with O:=((Qak 2 fs).take i).map (·.2) }:Mem).cells { s with o:=o }).toArray).setIfInBounds 1 (.slice (some ⟨g,0,none⟩) (i+1) c))):=⟨hg.os.trans bT.os,hg.tape.trans bT.tape,hg.output.trans bT.output,by rw [size_setRow];have:=hg.size;have:=bT.size;omega,fun b hb=>by
   rw [hoth b (by omega),hg.block b (by have:=bT.size;omega) (fun e=>by have:=hrowlt b e.symm;omega),hal.block b (by have:=bT.size;omega)]
   exact bT.block b hb⟩
  have wr4:Wr (fun b=>(b=T∨(Value.slice o.1 (((Qak 2 fs).take i).map (·.2)).length o.2).ownBlock=some b)∨v.ownBlock=some b) (fun b=>b=T∨(Value.slice (some ⟨g,0,none⟩) (((Qak 2 fs).take (i+1)).map (·.2)).length c).ownBlock=some b) A (w3.setRow T (((({ x with O:=((Qak 2 fs).take i).map (·.2) }:Mem).cells { s with o:=o }).toArray).setIfInBounds 1 (.slice (some ⟨g,0,none⟩) (i+1) c))):=by
   refine ⟨hg.os,hg.tape,hg.output,by rw [size_setRow];have:=hg.size;omega,fun b hb hs=>?_,fun b hb=>?_⟩
   ·rw [hoth b (fun e=>hs (.inl (.inl e))),hg.block b (by omega) (fun e=>hs (.inl (.inr (by rw [hlj];exact e.symm)))),hal.block b hb]
   ·rcases hb with hb | hb
    ·exact .inl (.inl (.inl hb))
    ·rcases hat with h1 | h1
     ·exact .inl (.inl (.inr (by rw [hlj];exact h1.symm.trans hb)))
     ·right
      have:some b=some (A.alloc (.cells #[.string (strOfNums bs)] 9)).heap.size:=hb.symm.trans h1
      injection this with this
      omega
  have IALL:=QQ (QA inv4 (QA bT4 (QA own4 wr4)));clear hg ho inv3 own inv invA hal hal2 inv4 own4 bT4 wr4 hat hcat bT hoth hrowlt hlj hlj1 hl1
  gi_wp2_with ((fail_if_success (unfold Qag));refine QaV (t:=24) rfl ?_)
  unfold Qag;refine Qbe rfl 24 (.tmp 58) (.tmp 57) rfl T 1 rfl (.slice (some ⟨g,0,none⟩) (i+1) c) rfl rfl rfl 29 _ eT3 QiC (by simp [Mem.cells]) ?_;obtain ⟨inv4,bT4,own4,wr4⟩:=(QG IALL);obtain ⟨w4,hw4⟩:∃ w,w=(w3.setRow T (((({ x with O:=((Qak 2 fs).take i).map (·.2) }:Mem).cells { s with o:=o }).toArray).setIfInBounds 1 (.slice (some ⟨g,0,none⟩) (i+1) c))):=⟨_,rfl⟩;rw [← hw4] at inv4 bT4 own4 wr4 ⊢;replace IALL:=QQ (QA inv4 (QA bT4 (QA own4 wr4)));clear eT3 hw4 inv4 bT4 own4 wr4
  gi_wp2
  obtain ⟨inv4,bT4,own4,wr4⟩:=(QG IALL);exact ⟨_,⟨(some ⟨g,0,none⟩,c),inv4,bT4,own4,rfl⟩,wr4⟩
 case done =>
  rintro D S A hD hS ⟨o,inv,bT,own,rfl⟩ hK;refine (QG AK) _ _ ?_;rw [List.take_length,QjX F1] at inv
  have hnd:D ∉ ds:=fun h=>by have:=hdl D h;omega
  have inv':QaZ W a fs.length cap k T { x with O:=(k.sel 2).map (·.1) } A { s with o:=o } (D::ds):=⟨inv.fields,inv.cnt,inv.below,inv.eR,inv.eT,inv.hT,inv.own,fun D' hD'=>(List.mem_cons.1 hD').elim (fun e=>by rw [e];exact ⟨by omega,hK⟩) (fun h=>inv.marks D' h),List.nodup_cons.2 ⟨hnd,inv.nodup⟩⟩;exact (QG HN) _ _ _ _ _ _ _ _ _ _ _ _ _ _ _ _ _ _ _ _ _ _ _ _ _ _ _ _ _ _ _ _ _ _ _ _ _ _ _ _ _ _ _ _ _ _ _ _ _ _ _ _ _ _ _ _ _ _ _ _ _ _ _ _ _ _ _ _ _ _ _ _ _ _ _ _ _ _ _ _ _ _ _ _ _ _ _ _ _ _ _ _ _ _ _ _ _ _ _ _ _ _ _ _ _ _ _ _ _ _ _ _ _ _ _ _ _ _ _ _ _ _ _ _ _ _ _ _ _ _ _ _ _ _ _ _ _ _ _ _ _ _ _ _ _ _ _ _ _ _ _ _ _ _ _ _ _ _ _ _ _ _ _ _ _ _ _ _ _ _ _ _ _ _ _ _ _ _ _ _ _ _ A _ (D::ds) inv'
 case stop =>
  rintro D c i S A hD hS hk h hK;exact h.elim
end
section
attribute [local go_sem] Oper.semAt_some
theorem QoU {α:Type} {n:Nat} {W:World} {tag:Int} {fs:List (Fe × List Int)} {f:Forest} (h:Fes n W fs f) (g:List Int→α):(Qak tag fs).map (fun e=>g e.2)=(f.sel tag).map (fun e=>g e.1):=by
 have:=congrArg (List.map g) (QjX (tag:=tag) h);simpa [List.map_map,Function.comp_def] using this
theorem Qpy {x:Mem} {s:Sl5} {O':List (Int × Bool)} {o:Option Addr × Nat} {b:Nat} (h:Qd3 { x with F:=O' } { s with f:=o } b):Qd3 x s b∨(Value.slice o.1 O'.length o.2).ownBlock=some b:=by
 rcases h with h | h | h | h | h | h | h
 ·exact .inl (.inl h)
 ·exact .inl (.inr (.inl h))
 ·exact .inl (.inr (.inr (.inl h)))
 ·exact .inr h
 ·exact .inl (.inr (.inr (.inr (.inr (.inl h)))))
 ·exact .inl (.inr (.inr (.inr (.inr (.inr (.inl h))))))
 ·exact .inl (.inr (.inr (.inr (.inr (.inr (.inr h))))))
def Qa3 (bs:List Int):Int × Bool:=(QiW bs / 2,QiW bs % 2 == 1)
theorem Qlf (x:Int):bits .and .u64 x 1=x % 2:=by
 have h1:((BitVec.ofInt 64 x).toNat:Int) % 2=x % 2:=by rw [BitVec.toNat_ofInt];omega
 have h3:=(BitVec.ofInt 64 x).isLt;show IntKind.u64.wrap ((BitVec.ofInt 64 x &&& BitVec.ofInt 64 ((1:Nat):Int)).toNat:Int)=_;rw [BitVec.toNat_and,Qi7 1 (by decide),show (1:Nat)=2 ^ 1-1 from rfl,Nat.and_two_pow_sub_one_eq_mod,Qby _ (by omega)];omega
theorem QiD:(Tryz.prog.info? 76).map (fun i=>(i.zero,i.size,i.bytes))=some (some (.agg #[.int .i64 0,.bool false]),2,16):=by kernel_rfl
theorem Qhr:(Tryz.prog.info? 26).map (·.size)=some 1:=by kernel_rfl
theorem QqV (Q:Exit→Act→World→Prop) (W:World) (v0:Value) (a:Option Addr) (len cap:Nat) (k:Forest) (T:Nat) (x:Mem) (hx:x.F=[])
  (hn:QcQ Q W v0 a len cap k T (tl 9 (Tryz.f5.body.getD .skip)) { x with F:=(k.sel 6).map (fun e=>Qa3 e.1) }) :
  QcQ Q W v0 a len cap k T (tl 8 (Tryz.f5.body.getD .skip)) x:=by
 intro v1 v4 v5 u8 u9 u10 u11 u12 u13 u14 u15 u16 u17 u18 u19 u20 u21 u22 u23 u24 u25 u26 u27 u28 u29 u30 u31 u32 u33 u34 u35 u36 u37 u38 u39 u40 u41 u42 u43 u44 u45 u46 u47 u48 u49 u50 u51 u52 u53 u54 u55 u56 u57 u58 u59 u60 u61 u62 u63 u64 u65 u66 u67 u68 u69 u70 u71 u72 u73 u74 u75 u76 u77 u78 u79 u80 u81 u82 u83 u84 u85 u86 u87 u88 u89 u90 u91 u92 u93 u94 u95 u96 u97 u98 u99 u100 u101 u102 u103 u104 u105 u106 u107 u108 u109 u110 u111 u112 u113 u114 u115 u116 u117 u118 u119 u120 u121 u122 u123 u124 u125 u126 u127 u128 u129 u130 u131 u132 u133 u134 u135 u136 u137 u138 u139 u140 u141 u142 u143 u144 u145 u146 u147 u148 u149 u150 u151 u152 u153 u154 u155 u156 u157 u158 u159 u160 u161 u162 u163 u164 u165 u166 u167 u168 u169 u170 u171 u172 u173 u174 u175 u176 u177 u178 u179 u180 u181 u182 u183 u184 u185 u186 V s ds h;have HN:=QQ hn;clear hn;obtain ⟨fs,F1,F2,F3⟩:=h.fields.fes;subst F3;have hcnt:=h.cnt;have lT:=h.lT;have hT:=h.hT
 have hsm:fs.length≤1000000:=by have:=Fes.length fs k F1;have:=Forest.length_le_cnt k;omega
 have hbs:∀ e∈fs,e.2.length≤1048576:=fun e he=>by have:=Fes.small fs k F1 e he;omega
 have hby:∀ e∈fs,QaL T V (.slice e.1.a e.1.l e.1.c) e.2:=fun e he=>Fes.rows fs k F1 e he
 have hch3:Fence.wide.fn 16:=trivial;have HH:=QQ h;clear h
 conv=>arg 4;whnf
 refine wpIn_seq_k (fun K' aK=>?_);have AK:=QQ aK;clear aK
 gi_wp2_with (gi_at_call 16;refine (QeV Fence.wide _ trivial rfl _ _ _ _ _).mono ?_;rintro e w' ⟨rfl,rfl⟩)
 obtain ⟨Y,hY⟩:∃ Y,Y=(V.alloc (.cells #[.slice a fs.length cap] 59)).alloc (.cells #[.int .i64 6] 3):=⟨_,rfl⟩
 have bwX:Below V.heap.size V Y:=by rw [hY];exact ((QB _ _).alloc (QN _) _).alloc (by simp) _
 have sY:V.heap.size+2=Y.heap.size:=by rw [hY];simp
 rw [← hY];have h:=(QG HH)
 have hmb:∀ b,Qd3 x s b→b<V.heap.size:=fun b hb=>(h.own.lt b hb).2
 have hdl:∀ D∈ds,D<V.heap.size:=fun D hD=>h.markLt hD
 have hso:s.f=(none,0):=h.own.empty.2.2.2.1 hx
 have hlen:∀ i,((((Qak 6 fs).take i).map (fun e=>Qa3 e.2)).length≤1000000):=fun i=>by
  have:=List.length_filter_le (fun x:Fe × List Int=>x.1.t == 6) fs;rw [QM,List.length_take];unfold Qak;omega
 clear h
 refine QcX V T (Nat.le_of_lt lT) a fs.length cap 6 fs hY rfl rfl F2 hby hsm hbs rfl
  (fun i S A=>∃ o:Option Addr × Nat,QaZ W a fs.length cap k T { x with F:=((Qak 6 fs).take i).map (fun e=>Qa3 e.2) } A { s with f:=o } ds∧Below T V A∧A.ownsRow Y.heap.size 76 2 (.slice o.1 (((Qak 6 fs).take i).map (fun e=>Qa3 e.2)).length o.2) (((Qak 6 fs).take i).map (fun e=>Qa3 e.2)).length ((((Qak 6 fs).take i).map (fun e=>Qa3 e.2)).flatMap Qbm)∧S=fun b=>b=T∨(Value.slice o.1 (((Qak 6 fs).take i).map (fun e=>Qa3 e.2)).length o.2).ownBlock=some b)
  (fun c i S A=>False) (fun b=>b=T∨(Value.slice none 0 0).ownBlock=some b) (fun b hb=>by rcases hb with rfl | hb;exact ⟨QN _,lT⟩;cases hb) ?hI ?hIx ?hlt ?h0 (fun args m A=>∀ cs,args.getD 0 undef=.agg cs→A.heap[m]?=some (.cells cs 66)) (fun _ _ _ _ he hA cs hcs=>he.trans (hA cs hcs))
  (fun args m=>{ tmps:=#[v0,v1,.pointer (some ⟨W.heap.size,0,none⟩),.int .i64 0,v4,v5,.slice a fs.length cap,.pointer (some ⟨T,0,none⟩),u8,u9,u10,u11,u12,u13,u14,u15,u16,u17,u18,u19,u20,.pointer (some ⟨m,0,none⟩),u22,u23,u24,u25,u26,u27,u28,u29,u30,u31,u32,u33,u34,u35,u36,u37,u38,u39,u40,u41,u42,u43,u44,u45,u46,u47,u48,u49,u50,u51,u52,u53,u54,u55,u56,u57,u58,u59,u60,u61,u62,u63,u64,u65,u66,u67,u68,u69,u70,u71,u72,u73,u74,u75,u76,u77,u78,u79,u80,u81,u82,u83,u84,u85,u86,u87,u88,u89,u90,u91,u92,u93,u94,u95,u96,u97,u98,u99,u100,u101,u102,u103,u104,u105,u106,u107,.slice a fs.length cap,.func (.func 57) #[] #[.pointer (some ⟨V.heap.size,0,none⟩),.pointer (some ⟨V.heap.size+1,0,none⟩)],args.getD 0 undef,args.getD 1 undef,u112,u113,u114,u115,u116,u117,u118,u119,u120,u121,u122,u123,u124,u125,u126,u127,u128,u129,u130,u131,u132,u133,u134,u135,u136,u137,u138,u139,u140,u141,u142,u143,u144,u145,u146,u147,u148,u149,u150,u151,u152,u153,u154,u155,u156,u157,u158,u159,u160,u161,u162,u163,u164,u165,u166,u167,u168,u169,u170,u171,u172,u173,u174,u175,u176,u177,u178,u179,u180,u181,u182,u183,u184,u185,u186],defers:=[] }) ?assign ?body ?done ?stop
 case hI =>
  rintro i S A A' ⟨o,inv,bT,own,rfl⟩ hs;refine ⟨o,inv.same hs.os hs.tape hs.output hs.size (fun b hb=>hs.block b ?_),bT.trans ⟨hs.os,hs.tape,hs.output,hs.size,fun b hb=>hs.block b (.inl (by omega))⟩,Qac own (fun b hb=>hs.block b (.inr (.inr hb))),rfl⟩
  rcases hb with hb | hb | hb
  ·left;omega
  ·exact (Qpy hb).elim (fun h=>.inl (by have:=hmb b h;omega)) (fun h=>.inr (.inr h))
  ·left;have:=hdl b hb;omega
 case hIx=>intro c i S A A' h;exact h.elim
 case hlt =>
  rintro i S A ⟨o,inv,bT,own,rfl⟩ b hb
  rcases hb with rfl | hb
  ·exact inv.lT
  ·exact (own.lt b hb).2
 case h0 =>
  have h:=(QG HH).grow bwX
  have e:({ x with F:=((Qak 6 fs).take 0).map (fun e=>Qa3 e.2) }:Mem)=x:=by cases x;simp at hx;subst hx;rfl
  have e2:({ s with f:=(none,0) }:Sl5)=s:=by rw [← hso]
  exact ⟨(none,0),by rw [e,e2];exact h,bwX.mono (Nat.le_of_lt lT),World.ownsRow_nil _ _ _ _,rfl⟩
 case assign =>
  rintro l i hi A args G K ⟨v,rfl,_⟩ hK
  gi_wp2_with ((fail_if_success (unfold Qag));refine QaV (t:=66) rfl ?_)
  unfold Qag;obtain ⟨cs,hcs⟩:∃ cs:Array Value,cs=((Qak 6 fs)[i]).1.cells.toArray:=⟨_,rfl⟩
  have hc3:cs.size=3:=by rw [hcs];rfl
  have hc1:cs.all (·.oneCell')=true:=by rw [hcs];simp [Fe.cells,Value.oneCell']
  refine QaD rfl 66 (.tmp 21) (.tmp 110) rfl A.heap.size cs rfl (by rw [hcs];rfl) 66 _ (QW _ _) (by rw [hc3];exact Qdi) (by rw [hc3];rfl) hc1 ?_
  gi_wp2
  refine hK _ (Qaj ((QB _ A).alloc (QN _) _) (QN _) _) (fun cs' hcs'=>?_)
  have e:cs'=cs:=by rw [hcs];injection hcs' with e;exact e.symm
  rw [e];exact setRow_heap _ _ _ _ _ _ (QW _ _)
 case body =>
  rintro l i hi S A m args G ⟨o,inv,bT,own,rfl⟩ hm1 hm2 hm3 hm4 hAf ⟨v,rfl,q4,rfl⟩ hG;have hmem:(Qak 6 fs)[i]∈fs:=(List.mem_filter.1 (show (Qak 6 fs)[i]∈Qak 6 fs from List.getElem_mem _)).1;have hrow:=((hby _ hmem).below bT);have hA:=hAf _ rfl;have hwb:=hby _ hmem;have hsml:=hbs _ hmem;have kv:=Qfs A T (by have:=inv.lT;omega) ((Qak 6 fs)[i]).1.t ((Qak 6 fs)[i]).1.a ((Qak 6 fs)[i]).1.l ((Qak 6 fs)[i]).1.c ((Qak 6 fs)[i]).2 ((Qak 6 fs)[i]).1.ka ((Qak 6 fs)[i]).1.kl ((Qak 6 fs)[i]).1.kc hrow (by omega);have hA:=hAf _ rfl
  have htag:((Qak 6 fs)[i]).1.t=6:=by
   have:=(List.mem_filter.1 (show (Qak 6 fs)[i]∈Qak 6 fs from List.getElem_mem _)).2;simpa using this
  obtain ⟨bs,hbs2⟩:∃ bs,bs=((Qak 6 fs)[i]).2:=⟨_,rfl⟩
  have hcat:((Qak 6 fs).take (i+1)).map (fun e=>Qa3 e.2)=((Qak 6 fs).take i).map (fun e=>Qa3 e.2)++[Qa3 bs]:=by rw [List.take_succ_eq_append_getElem hi,List.map_append,hbs2];rfl
  have hub:=Qe0 (bs:=bs) (by rw [hbs2];exact hwb.2)
  have hu:(if (6:Int)<128∧bs.length=8 then Qek bs else 0)=QiW bs:=by unfold QiW;simp
  rw [htag,← hbs2] at kv;obtain ⟨cs,hcs⟩:∃ cs,cs=((Qak 6 fs)[i]).1.cells:=⟨_,rfl⟩
  have hcs3:cs.length=3:=by rw [hcs];rfl
  have hcsv:cs=[.int .i64 6,.slice ((Qak 6 fs)[i]).1.a ((Qak 6 fs)[i]).1.l ((Qak 6 fs)[i]).1.c,.slice ((Qak 6 fs)[i]).1.ka ((Qak 6 fs)[i]).1.kl ((Qak 6 fs)[i]).1.kc]:=by rw [hcs];unfold Fe.cells;rw [htag]
  have hcl:∀ j v,cs[j]?=some v→A.cell? ⟨m,0+j,none⟩=some v:=fun j v hj=>by
   rw [cell_of_row A m (0+j) _ _ _ hA,Nat.zero_add,← hcs,List.getElem?_toArray];exact hj
  have hlj:(((Qak 6 fs).take i).map (fun e=>Qa3 e.2)).length=i:=by rw [QM,List.length_take];omega
  have hlj1:(((Qak 6 fs).take (i+1)).map (fun e=>Qa3 e.2)).length=i+1:=by rw [QM,List.length_take];omega
  have hi5:i≤1000000:=by have:=hlen i;omega
  obtain ⟨u,hu2⟩:∃ u,u=QiW bs:=⟨_,rfl⟩;obtain ⟨okb,hok⟩:∃ okb,okb=decide ((6:Int)<128∧bs.length=8):=⟨_,rfl⟩;unfold Qgr at kv;rw [hu,← hu2,← hok] at kv;rw [← hu2] at hub;have HUU:=QQ hu2;have KVV:=QQ kv;have HCV:=QQ hcsv;have INV:=QQ inv;have OWN:=QQ own;have BT:=QQ bT;have HCAT:=QQ hcat;have HLJ:=QQ (QA hlj hlj1);have HCL:=QQ hcl;have HU:=QQ hu;obtain ⟨ag,hag⟩:∃ ag:Value,ag=.agg (((Qak 6 fs)[i]).1.cells).toArray:=⟨_,rfl⟩;rw [← hag];clear hA hAf inv own bT q4 hG hcat hbs2 hrow hag hlj hlj1 hcl hcsv hcs hwb hsml kv hu htag hu2 hok;obtain ⟨i0,hi0,hz0,hz1,hz2⟩:=info_parts QiD;have hchv:Fence.wide.fn 18:=trivial
  gi_wp2_with ((fail_if_success (unfold Qag));refine Qd5 (t:=66) rfl ?_)
  unfold Qag;refine QbC rfl 66 (.tmp 21) rfl m 0 rfl cs _ HCL Tryz.underlying66 rfl (by rw [hcs3];exact Qdi) ?_;rw [show cs=_ from HCV]
  gi_wp2_with (gi_at_call 18;refine Qau ?_)
  unfold Qag;refine (Qd8 _ _ KVV).mono ?_;rintro e w1 ⟨b1,rfl⟩
  have c2:w1.cell? ⟨T,3,none⟩=some (.slice o.1 i o.2):=by
   have inv:=((QG INV).grow b1);obtain ⟨hlj,hlj1⟩:=(QG HLJ);exact inv.atF.trans (congrArg (fun n=>some (Value.slice o.1 n o.2)) hlj)
  have hw1:IntKind.i64.wrap (u / 2)=u / 2:=(Qcp (u / 2) ⟨by omega,by omega⟩).trans (by unfold Qd1;rw [if_neg (by omega)])
  gi_wp2_with (gi_at_builtin;refine Qau ?_)
  unfold Qag;rw [Qlf u];have inv:=(QG INV);obtain ⟨hlj,hlj1⟩:=(QG HLJ);have own:=(QG OWN);rw [hlj] at own;have bT:=(QG BT);have hcat:=(QG HCAT);have hal:Below w1.heap.size w1 (w1.alloc (.cells #[Value.int .i64 (u / 2),.bool (u % 2 == 1)] 76)):=(QB _ w1).alloc (QN _) _
  have hal2:w1.heap.size≤(w1.alloc (.cells #[Value.int .i64 (u / 2),.bool (u % 2 == 1)] 76)).heap.size:=by simp
  have inv1:=inv.grow b1;have own1:=Qac (B:=w1) own (fun b hb=>b1.block b (own.lt b hb).2);have sA1:=b1.size;have invA:=inv1.grow hal
  have hcu:Qbm (Qa3 bs)=[Value.int .i64 (u / 2),.bool (u % 2 == 1)]:=by unfold Qbm Qa3;rw [← (QG HUU)]
  refine wpListIn_append_own_at _ rfl _ _ 26 rfl Y.heap.size 76 i0 _ 2 16 Tryz.underlying26 hi0 hz0 hz1 hz2 rfl (by decide) _ i _ (by rfl) (own1.alloc _) ⟨w1.heap.size,0,none⟩ 1 1 (Qbm (Qa3 bs)) (by rfl) rfl (by rw [hcu];exact QbR w1 #[Value.int .i64 (u / 2),.bool (u % 2 == 1)] 76) (by rw [hcu];simp [Value.oneCell']) (by simp only [maxLen];omega) (by omega) (by omega) ?_;intro v' w3 ho hg _ hat;obtain ⟨g,c,hv',eT3,inv3⟩:=invA.putF (Qa3 bs) (v':=v') (by rw [hlj];exact QaI ho (by omega) (fun _ _=>rfl)) (by rw [hlj];exact hg);have hl1:(({ x with F:=((Qak 6 fs).take i).map (fun e=>Qa3 e.2) }:Mem).F.length+1)=i+1:=congrArg (·+1) hlj;rw [hl1] at hv';subst hv'
  have hoth:∀ b,b≠T→(w3.setRow T (((({ x with F:=((Qak 6 fs).take i).map (fun e=>Qa3 e.2) }:Mem).cells { s with f:=o }).toArray).setIfInBounds 3 (.slice (some ⟨g,0,none⟩) (i+1) c))).heap[b]?=w3.heap[b]?:=fun b hb=>setRow_other _ _ _ _ hb
  have hrowlt:∀ b,(Value.slice o.1 i o.2).ownBlock=some b→Y.heap.size≤b:=fun b hb=>(own.lt b hb).1
  have own4:(w3.setRow T (((({ x with F:=((Qak 6 fs).take i).map (fun e=>Qa3 e.2) }:Mem).cells { s with f:=o }).toArray).setIfInBounds 3 (.slice (some ⟨g,0,none⟩) (i+1) c))).ownsRow Y.heap.size 76 2 (.slice (some ⟨g,0,none⟩) (((Qak 6 fs).take (i+1)).map (fun e=>Qa3 e.2)).length c) (((Qak 6 fs).take (i+1)).map (fun e=>Qa3 e.2)).length ((((Qak 6 fs).take (i+1)).map (fun e=>Qa3 e.2)).flatMap Qbm):=by
   rw [hlj1,hcat,List.flatMap_append,show [Qa3 bs].flatMap Qbm=Qbm (Qa3 bs) by simp]
   refine Qac ho fun b hb=>hoth b (by have:=(ho.lt b hb).1;omega)
  have inv4:QaZ W a fs.length cap k T { x with F:=((Qak 6 fs).take (i+1)).map (fun e=>Qa3 e.2) } (w3.setRow T (((({ x with F:=((Qak 6 fs).take i).map (fun e=>Qa3 e.2) }:Mem).cells { s with f:=o }).toArray).setIfInBounds 3 (.slice (some ⟨g,0,none⟩) (i+1) c))) { s with f:=(some ⟨g,0,none⟩,c) } ds:=by rw [hcat];exact inv3
  have bT4:Below T V (w3.setRow T (((({ x with F:=((Qak 6 fs).take i).map (fun e=>Qa3 e.2) }:Mem).cells { s with f:=o }).toArray).setIfInBounds 3 (.slice (some ⟨g,0,none⟩) (i+1) c))):=⟨hg.os.trans (b1.os.trans bT.os),hg.tape.trans (b1.tape.trans bT.tape),hg.output.trans (b1.output.trans bT.output),by rw [size_setRow];have:=hg.size;have:=bT.size;omega,fun b hb=>by
   rw [hoth b (by omega),hg.block b (by have:=bT.size;omega) (fun e=>by have:=hrowlt b e.symm;omega),hal.block b (by have:=bT.size;omega),b1.block b (by have:=bT.size;omega)]
   exact bT.block b hb⟩
  have wr4:Wr (fun b=>(b=T∨(Value.slice o.1 (((Qak 6 fs).take i).map (fun e=>Qa3 e.2)).length o.2).ownBlock=some b)∨v.ownBlock=some b) (fun b=>b=T∨(Value.slice (some ⟨g,0,none⟩) (((Qak 6 fs).take (i+1)).map (fun e=>Qa3 e.2)).length c).ownBlock=some b) A (w3.setRow T (((({ x with F:=((Qak 6 fs).take i).map (fun e=>Qa3 e.2) }:Mem).cells { s with f:=o }).toArray).setIfInBounds 3 (.slice (some ⟨g,0,none⟩) (i+1) c))):=by
   refine ⟨hg.os.trans b1.os,hg.tape.trans b1.tape,hg.output.trans b1.output,by rw [size_setRow];have:=hg.size;omega,fun b hb hs=>?_,fun b hb=>?_⟩
   ·rw [hoth b (fun e=>hs (.inl (.inl e))),hg.block b (by omega) (fun e=>hs (.inl (.inr (by rw [hlj];exact e.symm)))),hal.block b (by omega),b1.block b hb]
   ·rcases hb with hb | hb
    ·exact .inl (.inl (.inl hb))
    ·rcases hat with h1 | h1
     ·exact .inl (.inl (.inr (by rw [hlj];exact h1.symm.trans hb)))
     ·right
      have:some b=some (w1.alloc (.cells #[Value.int .i64 (u / 2),.bool (u % 2 == 1)] 76)).heap.size:=hb.symm.trans h1
      injection this with this
      omega
  have IALL:=QQ (QA inv4 (QA bT4 (QA own4 wr4)));clear hg ho inv3 own inv invA inv1 own1 hcu hal hal2 inv4 own4 bT4 wr4 hat hcat bT hoth hrowlt hlj hlj1 hl1
  gi_wp2_with ((fail_if_success (unfold Qag));refine QaV (t:=26) rfl ?_)
  unfold Qag;refine Qbe rfl 26 (.tmp 128) (.tmp 127) rfl T 3 rfl (.slice (some ⟨g,0,none⟩) (i+1) c) rfl rfl rfl 29 _ eT3 Qhr (by simp [Mem.cells]) ?_;obtain ⟨inv4,bT4,own4,wr4⟩:=(QG IALL);obtain ⟨w4,hw4⟩:∃ w,w=(w3.setRow T (((({ x with F:=((Qak 6 fs).take i).map (fun e=>Qa3 e.2) }:Mem).cells { s with f:=o }).toArray).setIfInBounds 3 (.slice (some ⟨g,0,none⟩) (i+1) c))):=⟨_,rfl⟩;rw [← hw4] at inv4 bT4 own4 wr4 ⊢;replace IALL:=QQ (QA inv4 (QA bT4 (QA own4 wr4)));clear eT3 hw4 inv4 bT4 own4 wr4
  gi_wp2
  obtain ⟨inv4,bT4,own4,wr4⟩:=(QG IALL);exact ⟨_,⟨(some ⟨g,0,none⟩,c),inv4,bT4,own4,rfl⟩,wr4⟩
 case done =>
  rintro D S A hD hS ⟨o,inv,bT,own,rfl⟩ hK;refine (QG AK) _ _ ?_;rw [List.take_length,QoU F1 Qa3] at inv
  have hnd:D ∉ ds:=fun h=>by have:=hdl D h;omega
  have inv':QaZ W a fs.length cap k T { x with F:=(k.sel 6).map (fun e=>Qa3 e.1) } A { s with f:=o } (D::ds):=⟨inv.fields,inv.cnt,inv.below,inv.eR,inv.eT,inv.hT,inv.own,fun D' hD'=>(List.mem_cons.1 hD').elim (fun e=>by rw [e];exact ⟨by omega,hK⟩) (fun h=>inv.marks D' h),List.nodup_cons.2 ⟨hnd,inv.nodup⟩⟩;exact (QG HN) _ _ _ _ _ _ _ _ _ _ _ _ _ _ _ _ _ _ _ _ _ _ _ _ _ _ _ _ _ _ _ _ _ _ _ _ _ _ _ _ _ _ _ _ _ _ _ _ _ _ _ _ _ _ _ _ _ _ _ _ _ _ _ _ _ _ _ _ _ _ _ _ _ _ _ _ _ _ _ _ _ _ _ _ _ _ _ _ _ _ _ _ _ _ _ _ _ _ _ _ _ _ _ _ _ _ _ _ _ _ _ _ _ _ _ _ _ _ _ _ _ _ _ _ _ _ _ _ _ _ _ _ _ _ _ _ _ _ _ _ _ _ _ _ _ _ _ _ _ _ _ _ _ _ _ _ _ _ _ _ _ _ _ _ _ _ _ _ _ _ _ _ _ _ _ _ _ _ _ _ _ _ A _ (D::ds) inv'
 case stop =>
  rintro D c i S A hD hS hk h hK;exact h.elim
end
section
attribute [local go_sem] Oper.semAt_some
theorem QiL {b:Nat} (h:Qd3 Mem.none Sl5.none b):False:=by
 rcases h with h | h | h | h | h | ⟨q,hq,_⟩ | ⟨q,hq,_⟩
 all_goals first | cases h | cases hq
theorem QpA {x:Mem} {s:Sl5} {L:List (Pr × QcJ)} {o:Option Addr × Nat} {b:Nat} (h:Qd3 { x with P:=L } { s with p:=o } b):Qd3 x s b∨Qd3 { Mem.none with P:=L } { Sl5.none with p:=o } b:=by
 rcases h with h | h | h | h | h | h | h
 ·exact .inr (.inl h)
 ·exact .inl (.inr (.inl h))
 ·exact .inl (.inr (.inr (.inl h)))
 ·exact .inl (.inr (.inr (.inr (.inl h))))
 ·exact .inl (.inr (.inr (.inr (.inr (.inl h)))))
 ·exact .inr (.inr (.inr (.inr (.inr (.inr (.inl h))))))
 ·exact .inl (.inr (.inr (.inr (.inr (.inr (.inr h))))))
section
variable {P : Program} {o : Oper} {a : Act} {w : World}
theorem QfR {K:Value→World→Prop} (t e:TypeId) (x:Operand) (ho:o.op=.buildSlice t 1 #[(0,x)]) (v:Value) (hv:a.eval x=v) (cs:Array Value) (hcs:v.cells=cs) (ie:TypeInfo) (z:Value)
  (hu:P.underlying t=some (.slice e)) (hie:P.info? e=some ie) (hz:ie.zero=some z) (hsz:ie.size=cs.size) (hpos:0<cs.size) (hsm:cs.size≤1000) (h:K (.slice (some ⟨w.heap.size,0,none⟩) 1 1) (w.alloc (.cells cs e))) :
  upV P K ((execOp a.eval o).run P w):=by
 have hf:Instr.fill (fun i=>some (i*ie.size,ie.size)) ((Array.range (1*ie.size)).map (z.cells[· % z.cells.size]!)) [(0,v)]=some cs:=by
  have:=Great.fill_whole (s:=ie.size) (by omega) [v] ((Array.range (1*ie.size)).map (z.cells[· % z.cells.size]!)) (fun u hu=>by
   have:u=v:=by simpa using hu
   rw [this,hcs,hsz]) (by simp)
  rw [show ([v].zipIdx 0).map (fun x=>(x.2,x.1))=[(0,v)] from rfl] at this;rw [this];simp [hcs]
 have hr:=run_buildSlice (P:=P) w t e 1 #[(0,v)] cs ie z hu hie hz (by omega) (by omega) hf
 have hp:(#[(0,x)].map fun (x:Nat × Operand)=>(x.1,a.eval x.2))=#[(0,v)]:=by simp [hv]
 unfold execOp;simp only [ho,Sem.run_bind];rw [hp,hr];simp only [Result.andThen_ok,Sem.run_pure,upV];exact h
end
theorem Qo3 {w:List Int} (hl:w.length=19) (hz:∀ z∈w,0≤z∧z<4294967296):(Qoo w).Ok:=by
 have hd:∀ i,0≤w.getD i 0∧w.getD i 0<4294967296:=fun i=>by
  rw [List.getD_eq_getElem?_getD]
  rcases h:w[i]? with _ | y
  ·simp
  ·exact hz y (List.mem_of_getElem? h)
 refine ⟨hd 0,hd 1,by simp [Qoo,hl],fun z h=>hz z (List.mem_of_mem_drop (List.mem_of_mem_take h))⟩
theorem QhO {k:Forest} (hb:∀ tag:Int,∀ z∈Qao (Qah k tag 0),0≤z∧z≤255):(Qbu k).Ok:=by
 unfold Qbu
 split
 ·exact Qf4 ..
 ·exact ⟨QhH (QbS _ _) (QbD (hb 11) 13),QhH (QbS _ _) (QbD (hb 12) 13),Qo3 (QbS _ _) (QbD (hb 13) 19)⟩
theorem Qdd {tag:Int}:∀ {f:Forest} {e:List Int × Forest},e∈f.sel tag→e.2.cnt≤f.cnt
 | .nil,e,h=>by cases h
 | .cons t b k r,e,h=>by
  rw [Forest.sel] at h
  have hc:k.cnt≤(Forest.cons t b k r).cnt∧r.cnt≤(Forest.cons t b k r).cnt:=by simp only [Forest.cnt];omega
  split at h
  ·rcases List.mem_cons.1 h with rfl | h
   ·exact hc.1
   ·exact Nat.le_trans (Qdd h) hc.2
  ·exact Nat.le_trans (Qdd h) hc.2
theorem Qb3.low {base base':Nat} {W W':World} {fa:Option Addr} {fc:Nat} {pa:Option Addr} {pc:Nat} {p:Pr} (h:Qb3 base W fa fc pa pc p) (hb:base'≤base) (hs:∀ b,base≤b→b<W.heap.size→W'.heap[b]?=W.heap[b]?):Qb3 base' W' fa fc pa pc p :=
 ⟨QaI h.1 hb fun b hb=>hs b (h.1.lt b hb).1 (h.1.lt b hb).2,QaI h.2.1 hb fun b hb=>hs b (h.2.1.lt b hb).1 (h.2.1.lt b hb).2,h.2.2⟩
theorem Qmg {L:List (Pr × QcJ)} {z:Pr × QcJ} {o o':Option Addr × Nat} {b:Nat} (h:Qd3 { Mem.none with P:=L++[z] } { Sl5.none with p:=o' } b) :
  Qd3 { Mem.none with P:=L } { Sl5.none with p:=o } b∨(Value.slice o'.1 (L++[z]).length o'.2).ownBlock=some b∨((Value.slice z.2.fa z.1.fds.length z.2.fc).ownBlock=some b∨(Value.slice z.2.pa z.1.pages.length z.2.pc).ownBlock=some b):=by
 rcases h with h | h | h | h | h | ⟨q,hq,h⟩ | ⟨q,hq,h⟩
 ·exact .inr (.inl h)
 ·cases h
 ·cases h
 ·cases h
 ·cases h
 ·rcases List.mem_append.1 hq with hq | hq
  ·exact .inl (.inr (.inr (.inr (.inr (.inr (.inl ⟨q,hq,h⟩))))))
  ·rw [List.mem_singleton.1 hq] at h;exact .inr (.inr h)
 ·cases hq
theorem QcU {W W':World} {b:Nat} (h:W'.heap[b]?=W.heap[b]?) (off:Nat):W'.cell? ⟨b,off,none⟩=W.cell? ⟨b,off,none⟩:=by
 simp only [World.cell?,h]
theorem Qj2:(Tryz.prog.info? 54).map (fun i=>(i.zero,i.size,i.bytes))=some (some (.agg QdQ),55,368):=by kernel_rfl
theorem QjZ:(Tryz.prog.info? 23).map (·.size)=some 1:=by kernel_rfl
theorem QqW (Q:Exit→Act→World→Prop) (W:World) (v0:Value) (a:Option Addr) (len cap:Nat) (k:Forest) (T:Nat) (x:Mem) (hx:x.P=[])
  (hn:∀ L:List (Pr × QcJ),L.map (·.1)=(k.sel 132).map (fun e=>Qbu e.2)→QcQ Q W v0 a len cap k T (tl 10 (Tryz.f5.body.getD .skip)) { x with P:=L }) :
  QcQ Q W v0 a len cap k T (tl 9 (Tryz.f5.body.getD .skip)) x:=by
 intro v1 v4 v5 u8 u9 u10 u11 u12 u13 u14 u15 u16 u17 u18 u19 u20 u21 u22 u23 u24 u25 u26 u27 u28 u29 u30 u31 u32 u33 u34 u35 u36 u37 u38 u39 u40 u41 u42 u43 u44 u45 u46 u47 u48 u49 u50 u51 u52 u53 u54 u55 u56 u57 u58 u59 u60 u61 u62 u63 u64 u65 u66 u67 u68 u69 u70 u71 u72 u73 u74 u75 u76 u77 u78 u79 u80 u81 u82 u83 u84 u85 u86 u87 u88 u89 u90 u91 u92 u93 u94 u95 u96 u97 u98 u99 u100 u101 u102 u103 u104 u105 u106 u107 u108 u109 u110 u111 u112 u113 u114 u115 u116 u117 u118 u119 u120 u121 u122 u123 u124 u125 u126 u127 u128 u129 u130 u131 u132 u133 u134 u135 u136 u137 u138 u139 u140 u141 u142 u143 u144 u145 u146 u147 u148 u149 u150 u151 u152 u153 u154 u155 u156 u157 u158 u159 u160 u161 u162 u163 u164 u165 u166 u167 u168 u169 u170 u171 u172 u173 u174 u175 u176 u177 u178 u179 u180 u181 u182 u183 u184 u185 u186 V s ds h;have HN:=QQ hn;clear hn;obtain ⟨fs,F1,F2,F3⟩:=h.fields.fes;subst F3;have hcnt:=h.cnt;have lT:=h.lT;have hT:=h.hT
 have hsm:fs.length≤1000000:=by have:=Fes.length fs k F1;have:=Forest.length_le_cnt k;omega
 have hbs:∀ e∈fs,e.2.length≤1048576:=fun e he=>by have:=Fes.small fs k F1 e he;omega
 have hby:∀ e∈fs,QaL T V (.slice e.1.a e.1.l e.1.c) e.2:=fun e he=>Fes.rows fs k F1 e he
 have hch3:Fence.wide.fn 16:=trivial;have HH:=QQ h;clear h
 conv=>arg 4;whnf
 refine wpIn_seq_k (fun K' aK=>?_);have AK:=QQ aK;clear aK
 gi_wp2_with (gi_at_call 16;refine (QeV Fence.wide _ trivial rfl _ _ _ _ _).mono ?_;rintro e w' ⟨rfl,rfl⟩)
 obtain ⟨Y,hY⟩:∃ Y,Y=(V.alloc (.cells #[.slice a fs.length cap] 59)).alloc (.cells #[.int .i64 132] 3):=⟨_,rfl⟩
 have bwX:Below V.heap.size V Y:=by rw [hY];exact ((QB _ _).alloc (QN _) _).alloc (by simp) _
 have sY:V.heap.size+2=Y.heap.size:=by rw [hY];simp
 rw [← hY];have h:=(QG HH)
 have hmb:∀ b,Qd3 x s b→b<V.heap.size:=fun b hb=>(h.own.lt b hb).2
 have hdl:∀ D∈ds,D<V.heap.size:=fun D hD=>h.markLt hD
 have hso:s.p=(none,0):=h.own.empty.1 hx;have hsel:(Qak 132 fs).length=(k.sel 132).length:=(F1.hits 132).1
 have hlen:(k.sel 132).length≤1000000:=by
  have:=List.length_filter_le (fun x:Fe × List Int=>x.1.t == 132) fs;rw [← hsel];unfold Qak;omega
 clear h
 refine QcX V T (Nat.le_of_lt lT) a fs.length cap 132 fs hY rfl rfl F2 hby hsm hbs rfl
  (fun i S A=>∃ (o:Option Addr × Nat) (L:List (Pr × QcJ)),L.map (·.1)=((k.sel 132).take i).map (fun e=>Qbu e.2)∧QaZ W a fs.length cap k T { x with P:=L } A { s with p:=o } ds∧Below T V A∧Qbf Y.heap.size A { Mem.none with P:=L } { Sl5.none with p:=o }∧S=fun b=>b=T∨Qd3 { Mem.none with P:=L } { Sl5.none with p:=o } b)
  (fun c i S A=>False) (fun b=>b=T∨Qd3 Mem.none Sl5.none b) (fun b hb=>by rcases hb with rfl | hb;exact ⟨QN _,lT⟩;exact (QiL hb).elim) ?hI ?hIx ?hlt ?h0 (fun args m A=>∀ cs,args.getD 0 undef=.agg cs→A.heap[m]?=some (.cells cs 66)) (fun _ _ _ _ he hA cs hcs=>he.trans (hA cs hcs))
  (fun args m=>{ tmps:=#[v0,v1,.pointer (some ⟨W.heap.size,0,none⟩),.int .i64 0,v4,v5,.slice a fs.length cap,.pointer (some ⟨T,0,none⟩),u8,u9,u10,u11,u12,u13,u14,u15,u16,u17,u18,u19,u20,u21,u22,u23,.pointer (some ⟨m,0,none⟩),u25,u26,u27,u28,u29,u30,u31,u32,u33,u34,u35,u36,u37,u38,u39,u40,u41,u42,u43,u44,u45,u46,u47,u48,u49,u50,u51,u52,u53,u54,u55,u56,u57,u58,u59,u60,u61,u62,u63,u64,u65,u66,u67,u68,u69,u70,u71,u72,u73,u74,u75,u76,u77,u78,u79,u80,u81,u82,u83,u84,u85,u86,u87,u88,u89,u90,u91,u92,u93,u94,u95,u96,u97,u98,u99,u100,u101,u102,u103,u104,u105,u106,u107,u108,u109,u110,u111,u112,u113,u114,u115,u116,u117,u118,u119,u120,u121,u122,u123,u124,u125,u126,u127,u128,.slice a fs.length cap,.func (.func 57) #[] #[.pointer (some ⟨V.heap.size,0,none⟩),.pointer (some ⟨V.heap.size+1,0,none⟩)],args.getD 0 undef,args.getD 1 undef,u133,u134,u135,u136,u137,u138,u139,u140,u141,u142,u143,u144,u145,u146,u147,u148,u149,u150,u151,u152,u153,u154,u155,u156,u157,u158,u159,u160,u161,u162,u163,u164,u165,u166,u167,u168,u169,u170,u171,u172,u173,u174,u175,u176,u177,u178,u179,u180,u181,u182,u183,u184,u185,u186],defers:=[] }) ?assign ?body ?done ?stop
 case hI =>
  rintro i S A A' ⟨o,L,hL,inv,bT,own,rfl⟩ hs;refine ⟨o,L,hL,inv.same hs.os hs.tape hs.output hs.size (fun b hb=>hs.block b ?_),bT.trans ⟨hs.os,hs.tape,hs.output,hs.size,fun b hb=>hs.block b (.inl (by omega))⟩,own.keep (QN _) (fun b hb=>hs.block b (.inr (.inr hb))),rfl⟩
  rcases hb with hb | hb | hb
  ·left;omega
  ·exact (QpA hb).elim (fun h=>.inl (by have:=hmb b h;omega)) (fun h=>.inr (.inr h))
  ·left;have:=hdl b hb;omega
 case hIx=>intro c i S A A' h;exact h.elim
 case hlt =>
  rintro i S A ⟨o,L,hL,inv,bT,own,rfl⟩ b hb
  rcases hb with rfl | hb
  ·exact inv.lT
  ·exact (own.lt b hb).2
 case h0 =>
  have h:=(QG HH).grow bwX
  have e:({ x with P:=[] }:Mem)=x:=by cases x;simp at hx;subst hx;rfl
  have e2:({ s with p:=(none,0) }:Sl5)=s:=by rw [← hso]
  exact ⟨(none,0),[],by simp,by rw [e,e2];exact h,bwX.mono (Nat.le_of_lt lT),Qbf.nil _ _,rfl⟩
 case assign =>
  rintro l i hi A args G K ⟨v,rfl,_⟩ hK
  gi_wp2_with ((fail_if_success (unfold Qag));refine QaV (t:=66) rfl ?_)
  unfold Qag;obtain ⟨cs,hcs⟩:∃ cs:Array Value,cs=((Qak 132 fs)[i]).1.cells.toArray:=⟨_,rfl⟩
  have hc3:cs.size=3:=by rw [hcs];rfl
  have hc1:cs.all (·.oneCell')=true:=by rw [hcs];simp [Fe.cells,Value.oneCell']
  refine QaD rfl 66 (.tmp 24) (.tmp 131) rfl A.heap.size cs rfl (by rw [hcs];rfl) 66 _ (QW _ _) (by rw [hc3];exact Qdi) (by rw [hc3];rfl) hc1 ?_
  gi_wp2
  refine hK _ (Qaj ((QB _ A).alloc (QN _) _) (QN _) _) (fun cs' hcs'=>?_)
  have e:cs'=cs:=by rw [hcs];injection hcs' with e;exact e.symm
  rw [e];exact setRow_heap _ _ _ _ _ _ (QW _ _)
 case body =>
  rintro l i hi S A m args G ⟨o,L,hL,inv,bT,own,rfl⟩ hm1 hm2 hm3 hm4 hAf ⟨v,rfl,q4,rfl⟩ hG;have hchp:Fence.wide.fn 20:=trivial;have hA:=hAf _ rfl
  have hi2:i<(k.sel 132).length:=by omega
  obtain ⟨g1,g2,g3,g4⟩:=(F1.hits 132).2 i hi hi2;obtain ⟨kid,hkid⟩:∃ kid,kid=((k.sel 132)[i]).2:=⟨_,rfl⟩
  have hkc:kid.cnt≤20000:=by rw [hkid];exact Nat.le_trans (Qdd (List.getElem_mem hi2)) hcnt
  rw [← hkid] at g4
  have hcat:((k.sel 132).take (i+1)).map (fun e=>Qbu e.2)=((k.sel 132).take i).map (fun e=>Qbu e.2)++[Qbu kid]:=by rw [List.take_succ_eq_append_getElem hi2,List.map_append,hkid];rfl
  have hLl:L.length=i:=by have:=congrArg List.length hL;rw [QM,QM,List.length_take] at this;omega
  have kidA:SlF A.heap.size A ((Qak 132 fs)[i]).1.ka ((Qak 132 fs)[i]).1.kl ((Qak 132 fs)[i]).1.kc kid:=(g4.below bT).mono (Nat.le_of_lt inv.lT)
  have z2:A.cell? ⟨m,2,none⟩=some (.slice ((Qak 132 fs)[i]).1.ka ((Qak 132 fs)[i]).1.kl ((Qak 132 fs)[i]).1.kc):=by rw [cell_of_row A m 2 _ _ _ hA];rfl
  have z0:A.cell? ⟨T,0,none⟩=some (.slice o.1 i o.2):=inv.atP.trans (congrArg (fun n=>some (Value.slice o.1 n o.2)) hLl);have lmA:m<A.heap.size:=(QI.1 hA).1;have lTA:=inv.lT
  have hi5:i≤1000000:=by omega
  obtain ⟨ag,hag⟩:∃ ag:Value,ag=.agg (((Qak 132 fs)[i]).1.cells).toArray:=⟨_,rfl⟩;rw [← hag];obtain ⟨ka,hka⟩:∃ y,y=((Qak 132 fs)[i]).1.ka:=⟨_,rfl⟩;obtain ⟨kl,hkl⟩:∃ y,y=((Qak 132 fs)[i]).1.kl:=⟨_,rfl⟩;obtain ⟨kc,hkc2⟩:∃ y,y=((Qak 132 fs)[i]).1.kc:=⟨_,rfl⟩;rw [← hka,← hkl,← hkc2] at kidA z2;have bD:Below A.heap.size A A.drew:=⟨rfl,rfl,rfl,QN _,fun _ _=>rfl⟩
  have hTr:(Value.slice o.1 i o.2).ownBlock≠some T:=fun e=>by
   have:=own.P.lt T (by rw [show ({ Mem.none with P:=L }:Mem).P.length=i from hLl];exact e);omega
  have hmr:(Value.slice o.1 i o.2).ownBlock≠some m:=fun e=>hm3 (.inr (.inl (by rw [show ({ Mem.none with P:=L }:Mem).P.length=i from hLl];exact e)))
  obtain ⟨Rg,hRg⟩:∃ Rg:Nat→Prop,Rg=fun b=>(Value.slice o.1 i o.2).ownBlock=some b:=⟨_,rfl⟩
  have HX:=QQ (show ∀ W',Qa Rg A.drew W'→W'.cell? ⟨T,0,none⟩=some (.slice o.1 i o.2)∧W'.cell? ⟨m,2,none⟩=some (.slice ka kl kc) from fun W' hW=>by
   exact ⟨(QcU (hW.block T lTA (by rw [hRg];exact hTr)) 0).trans z0,(QcU (hW.block m lmA (by rw [hRg];exact hmr)) 2).trans z2⟩)
  have HRG:=QQ hRg;clear hRg hTr hmr;have HK:=QQ kidA;have INV:=QQ inv;have OWN:=QQ own;have BT:=QQ bT;have HCAT:=QQ hcat;have HLL:=QQ (QA hLl hL);obtain ⟨i0,hi0,hz0,hz1,hz2⟩:=info_parts Qj2
  have hTm:T+1≤Y.heap.size:=by omega
  have hYA:Y.heap.size≤A.heap.size:=by omega
  clear hA hAf inv own bT q4 hG hcat g1 g2 g3 g4 hkid hag hka hkl hkc2 z2 z0 kidA hLl hL hm1 hm2 hm3 hm4
  obtain ⟨Sg,hSg⟩:∃ Sg:Nat→Prop,Sg=fun b=>b=T∨(Value.slice o.1 i o.2).ownBlock=some b:=⟨_,rfl⟩
  have HSG:=QQ hSg;clear hSg
  gi_wp2_with fail
  refine Qcw (Qa Rg) (Qa Sg) 7 2 (by kernel_rfl) rfl (by kernel_rfl) ?_;refine QbI [0,1,2,3] (by kernel_rfl) (by kernel_rfl) ?_
  iterate 4
   first
   | (refine Qcr (Qa.pre Rg) rfl (by rfl) (v:=?_) (fun W hW=>?_) (fun K hK=>?_);rotate_left;· (obtain ⟨q0,q2⟩:=(QG HX) W hW;go_simp;first | done | rfl))
   | refine Qb0 (Qa.pre Rg) rfl (by rfl) (fun K hK=>?_)
   go_simp;refine hK _ ?_;clear hK K
  refine Qcq ?_;refine QaU 4 rfl (by kernel_rfl) (by rfl) (fun K hK=>?_);go_simp;refine Calls.mono (QgY _ _ _ _ _ ((QG HK).below ⟨rfl,rfl,rfl,QN _,fun _ _=>rfl⟩) hkc) ?_;rintro e5 w5 ⟨fa,fc,pa,pc,rfl,own5,b5⟩;refine ⟨_,rfl,hK _ _ (Wr.of_below b5) ?_⟩
  have hok:(Qbu kid).Ok:=by
   obtain ⟨fs',F1',_,_⟩:=(QG HK).fes;exact QhO (fun tag=>Qc6 F1' tag)
  have hl55:=Pr.vals_length hok fa fc pa pc;have hone:=Qdw (Qbu kid) fa fc pa pc;obtain ⟨PV,hPV⟩:∃ PV,PV=((Qbu kid).vals fa fc pa pc).toArray:=⟨_,rfl⟩
  have hP5:PV.size=55:=by rw [hPV,QS,hl55]
  have hP1:∀ u∈PV.toList,u.oneCell'=true:=by rw [hPV];exact fun u hu=>hone u (by simpa using hu)
  rw [← hPV];have HPV:=QQ hPV;have O5:=QQ own5;have B5:=QQ b5;have HOK:=QQ hok;have s5:A.heap.size≤w5.heap.size:=b5.size;clear hPV hone hl55 own5 b5 hok;clear hK K;refine QaN (fun K hK=>?_);go_simp;refine hK _ ?_;clear hK K;refine QaU 5 rfl (by kernel_rfl) (by rfl) (fun K hK=>?_);refine QfR 23 54 (.tmp 137) rfl (.agg PV) rfl PV rfl i0 _ Tryz.underlying23 hi0 hz0 (by rw [hz1,hP5]) (by rw [hP5];decide) (by rw [hP5];decide) ?_;obtain ⟨W6,hW6⟩:∃ W6,W6=w5.alloc (.cells PV 54):=⟨_,rfl⟩
  have b6:Below w5.heap.size w5 W6:=by rw [hW6];exact (QB _ _).alloc (QN _) _
  have x6:W6.heap[w5.heap.size]?=some (.cells PV 54):=by rw [hW6];exact QW _ _
  rw [← hW6];refine hK _ _ (Wr.of_below b6) ?_;clear hW6;have hB:Below A.heap.size A W6:=(bD.trans (QG B5)).trans (b6.mono s5);have inv:=(QG INV).grow hB;have own:=(QG OWN)
  have own6:Qbf Y.heap.size W6 { Mem.none with P:=L } { Sl5.none with p:=o }:=own.keep (QN _) fun b hb=>hB.block b (own.lt b hb).2
  obtain ⟨hLl,hL⟩:=(QG HLL)
  have ownP:W6.ownsRow Y.heap.size 54 55 (.slice o.1 i o.2) i (L.flatMap QaP):=by have:=own6.P;rw [show ({ Mem.none with P:=L }:Mem).P.length=i from hLl] at this;exact this
  have H6:=QQ (QA hB (QA inv own6));have hB6:∀ b,b<w5.heap.size→W6.heap[b]?=w5.heap[b]?:=b6.block;have HSG2:=QQ (QA hLl hL);have s6:=b6.size;clear hB inv own own6 hLl hL b6;clear hK K;refine QaN (fun K hK=>?_);go_simp;refine hK _ ?_;clear hK K;refine QaU 6 rfl (by kernel_rfl) (by rfl) (fun K hK=>?_)
  refine QaQ (.tmp 134) (.tmp 138) 23 rfl Y.heap.size 54 i0 _ 55 368 Tryz.underlying23 hi0 hz0 hz1 hz2 rfl (by decide) (.slice o.1 i o.2) i (L.flatMap QaP) rfl ownP (some ⟨w5.heap.size,0,none⟩) 1 1 PV.toList rfl (by rw [Array.length_toList,hP5]) hP1 (.inr ⟨_,_,rfl,fun j u hj=>by
   rw [Nat.zero_add,cell_of_row W6 _ j _ _ _ x6];simpa using hj⟩) (by omega) (by simp only [maxLen];omega) (by omega) ?_
  intro v7 w7 o7 gr7 hv7;obtain ⟨hB,inv,own6⟩:=(QG H6);obtain ⟨hLl,hL⟩:=(QG HSG2);have own0:=(QG OWN)
  have hrow:∀ b,(Value.slice o.1 i o.2).ownBlock=some b→Y.heap.size≤b∧b<A.heap.size:=fun b hb=>by
   have:=own0.P;rw [show ({ Mem.none with P:=L }:Mem).P.length=i from hLl] at this;exact this.lt b hb
  have pr7:Qb3 A.heap.size w7 fa fc pa pc (Qbu kid):=(show Qb3 A.heap.size w5 fa fc pa pc (Qbu kid) from O5).low (QN _) fun b h1 h2=>by
   rw [gr7.block b (by omega) (fun e=>by have:=(hrow b e.symm).2;omega),hB6 b h2]
  have hok:=(QG HOK)
  have hpv:PV.toList=QaP (Qbu kid,⟨fa,fc,pa,pc⟩):=by rw [show PV=_ from HPV];rfl
  rw [hpv] at o7;obtain ⟨g,c7,hv',eT7,inv7⟩:=inv.putP (Qbu kid,⟨fa,fc,pa,pc⟩) ⟨pr7.low (by omega) (fun _ _ _=>rfl),hok⟩ (v':=v7) (by rw [show ({ x with P:=L }:Mem).P.length=i from hLl];exact QaI o7 hTm (fun _ _=>rfl)) (by rw [show ({ x with P:=L }:Mem).P.length=i from hLl];exact gr7);obtain ⟨g',c',hv2,own7⟩:=own6.putP (Qbu kid,⟨fa,fc,pa,pc⟩) ⟨pr7.low hYA (fun _ _ _=>rfl),hok⟩ (v':=v7) (by rw [show ({ Mem.none with P:=L }:Mem).P.length=i from hLl];exact o7) (by rw [show ({ Mem.none with P:=L }:Mem).P.length=i from hLl];exact gr7);rw [hv'] at hv2
  injection hv2 with e1 _ e2
  injection e1 with e1
  injection e1 with e1
  subst e1 e2;rw [show ({ x with P:=L }:Mem).P.length+1=i+1 from congrArg (·+1) hLl] at hv';subst hv';obtain ⟨w8,hw8⟩:∃ w,w=(w7.setRow T (((({ x with P:=L }:Mem).cells { s with p:=o }).toArray).setIfInBounds 0 (.slice (some ⟨g,0,none⟩) (i+1) c7))):=⟨_,rfl⟩
  have hoth:∀ b,b≠T→w8.heap[b]?=w7.heap[b]?:=fun b hb=>by rw [hw8];exact setRow_other _ _ _ _ hb
  have s8:w8.heap.size=w7.heap.size:=by rw [hw8,size_setRow]
  have s7:=gr7.size;rw [← hw8] at inv7
  have own8:Qbf Y.heap.size w8 { Mem.none with P:=L++[(Qbu kid,⟨fa,fc,pa,pc⟩)] } { Sl5.none with p:=(some ⟨g,0,none⟩,c7) }:=own7.keep (QN _) fun b hb=>hoth b (by have:=(own7.lt b hb).1;omega)
  have bT:=(QG BT);have sbT:=bT.size
  have bT8:Below T V w8:=⟨by rw [hw8];exact gr7.os.trans (hB.os.trans bT.os),by rw [hw8];exact gr7.tape.trans (hB.tape.trans bT.tape),by rw [hw8];exact gr7.output.trans (hB.output.trans bT.output),by have:=hB.size;omega,fun b hb=>by
   rw [hoth b (by omega),gr7.block b (by have:=hB.size;omega) (fun e=>by have:=(hrow b e.symm).1;omega),hB.block b (by omega)]
   exact bT.block b hb⟩
  have hL8:(L++[(Qbu kid,(⟨fa,fc,pa,pc⟩:QcJ))]).map (·.1)=((k.sel 132).take (i+1)).map (fun e=>Qbu e.2):=by
   rw [List.map_append,hL,show ((k.sel 132).take (i+1)).map (fun e=>Qbu e.2)=_ from HCAT];rfl
  have hw7:Wr Rg Rg W6 w7:=Wr.grown (Wr.refl Rg W6) gr7 fun b hb=>.inl (by rw [show Rg=_ from HRG];exact hb)
  have hw78:Wr Sg Sg w7 w8:=by rw [hw8];exact (Wr.refl Sg w7).setRow (.inl (by rw [show Sg=_ from HSG];exact .inl rfl)) _
  have wr8:Wr (fun b=>(b=T∨Qd3 { Mem.none with P:=L } { Sl5.none with p:=o } b)∨v.ownBlock=some b) (fun b=>b=T∨Qd3 { Mem.none with P:=L++[(Qbu kid,⟨fa,fc,pa,pc⟩)] } { Sl5.none with p:=(some ⟨g,0,none⟩,c7) } b) A w8:=by
   refine ⟨by rw [hw8];exact gr7.os.trans hB.os,by rw [hw8];exact gr7.tape.trans hB.tape,by rw [hw8];exact gr7.output.trans hB.output,by have:=hB.size;omega,fun b hb hs=>?_,fun b hb=>?_⟩
   ·rw [hoth b (fun e=>hs (.inl (.inl e))),gr7.block b (by have:=hB.size;omega) (fun e=>hs (.inl (.inr (.inl (by rw [show ({ Mem.none with P:=L }:Mem).P.length=i from hLl];exact e.symm))))),hB.block b hb]
   ·rcases hb with hb | hb
    ·exact .inl (.inl (.inl hb))
    ·rcases Qmg hb with h | h | h
     ·exact .inl (.inl (.inr h))
     ·rcases hv7 with h1 | h1
      ·exact .inl (.inl (.inr (.inl (by rw [show ({ Mem.none with P:=L }:Mem).P.length=i from hLl];exact h1.symm.trans h))))
      ·right
       have:some b=some W6.heap.size:=h.symm.trans h1
       injection this with this
       have:=hB.size;omega
     ·right
      rcases h with h | h
      ·exact (pr7.1.lt b h).1
      ·exact (pr7.2.1.lt b h).1
  have IALL:=QQ (QA inv7 (QA bT8 (QA own8 (QA hL8 wr8))));have HW8:=QQ (QA hw8 hw78);clear inv7 own8 bT8 wr8 hL8 hw8 hw78 own7 own6 own0 inv hB hLl hL pr7 hok hpv hrow hoth s8 bT sbT o7 gr7 hv7 x6 ownP;refine hK _ _ hw7 ?_;clear hw7;clear hK K;refine QaN (fun K hK=>?_);go_simp;refine hK _ ?_;clear hK K;refine Qcm (by kernel_rfl) ?_;refine Qal (fun K hK=>?_);go_simp;refine hK _ ?_;clear hK K;refine Qam [7] (by kernel_rfl) (by kernel_rfl) ?_
  iterate 1
   first
   | (refine Qax (Qa.pre Sg) rfl (by rfl) (v:=?_) (fun W hW=>?_) (fun K hK=>?_);rotate_left;· (go_simp;first | done | rfl))
   | refine Qap (Qa.pre Sg) rfl (by rfl) (fun K hK=>?_)
   go_simp;refine hK _ ?_;clear hK K
  refine Qaw ?_;refine Qaq 8 rfl (by kernel_rfl) (by rfl) (fun K hK=>?_);refine QbG 23 (.tmp 140) (.tmp 139) rfl T 0 rfl (.slice (some ⟨g,0,none⟩) (i+1) c7) rfl rfl rfl 29 _ eT7 QjZ (by simp [Mem.cells]) ?_;obtain ⟨hw8,hw78⟩:=(QG HW8);rw [← hw8];refine hK _ _ hw78 ?_;clear eT7 hw8 hw78;clear hK K;refine Qal (fun K hK=>?_);go_simp;refine hK _ ?_;clear hK K;refine QaR (by kernel_rfl) ?_
  gi_wp2
  obtain ⟨inv4,bT4,own4,hL4,wr4⟩:=(QG IALL);exact ⟨_,⟨(some ⟨g,0,none⟩,c7),_,hL4,inv4,bT4,own4,rfl⟩,wr4⟩
 case done =>
  rintro D S A hD hS ⟨o,L,hL,inv,bT,own,rfl⟩ hK;refine (QG AK) _ _ ?_;rw [hsel,List.take_length] at hL
  have hnd:D ∉ ds:=fun h=>by have:=hdl D h;omega
  have inv':QaZ W a fs.length cap k T { x with P:=L } A { s with p:=o } (D::ds):=⟨inv.fields,inv.cnt,inv.below,inv.eR,inv.eT,inv.hT,inv.own,fun D' hD'=>(List.mem_cons.1 hD').elim (fun e=>by rw [e];exact ⟨by omega,hK⟩) (fun h=>inv.marks D' h),List.nodup_cons.2 ⟨hnd,inv.nodup⟩⟩;exact (QG HN) L hL _ _ _ _ _ _ _ _ _ _ _ _ _ _ _ _ _ _ _ _ _ _ _ _ _ _ _ _ _ _ _ _ _ _ _ _ _ _ _ _ _ _ _ _ _ _ _ _ _ _ _ _ _ _ _ _ _ _ _ _ _ _ _ _ _ _ _ _ _ _ _ _ _ _ _ _ _ _ _ _ _ _ _ _ _ _ _ _ _ _ _ _ _ _ _ _ _ _ _ _ _ _ _ _ _ _ _ _ _ _ _ _ _ _ _ _ _ _ _ _ _ _ _ _ _ _ _ _ _ _ _ _ _ _ _ _ _ _ _ _ _ _ _ _ _ _ _ _ _ _ _ _ _ _ _ _ _ _ _ _ _ _ _ _ _ _ _ _ _ _ _ _ _ _ _ _ _ _ _ _ _ _ A _ (D::ds) inv'
 case stop =>
  rintro D c i S A hD hS hk h hK;exact h.elim
end
end Go.Proofs.YtejcandhijdnhaaGreat
