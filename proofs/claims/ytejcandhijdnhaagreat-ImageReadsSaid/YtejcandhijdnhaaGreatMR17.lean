/- Own texts of this seat, one behind the other, without needless spaces (part 17 of 26). -/
import Derived.Test.YtejcandhijdnhaaGreatMR01
import Derived.Test.YtejcandhijdnhaaGreatMR05
import Derived.Test.YtejcandhijdnhaaGreatMR07
import Derived.Test.YtejcandhijdnhaaGreatMR10
import Derived.Test.YtejcandhijdnhaaGreatMR14
import Derived.Test.YtejcandhijdnhaaGreatMR15
import Derived.Test.YtejcandhijdnhaaGreatMR16
namespace Go.Proofs.YtejcandhijdnhaaGreat
open Go Go.RowKit
set_option linter.unusedVariables false
set_option linter.unusedSimpArgs false
set_option linter.unnecessarySimpa false
set_option maxRecDepth 100000
set_option maxHeartbeats 16000000
section
structure Qb4 (base:Nat) (W:World) (x:Mem) (s:Sl5):Prop where
 P:W.ownsRow base 54 55 (.slice s.p.1 x.P.length s.p.2) x.P.length (x.P.flatMap QaP)
 O:W.ownsRow base 9 1 (.slice s.o.1 x.O.length s.o.2) x.O.length (x.O.flatMap QbQ)
 B:W.ownsRow base 68 3 (.slice s.b.1 x.B.length s.b.2) x.B.length (x.B.flatMap QbN)
 F:W.ownsRow base 76 2 (.slice s.f.1 x.F.length s.f.2) x.F.length (x.F.flatMap Qbm)
 K:W.ownsRow base 80 4 (.slice s.k.1 x.K.length s.k.2) x.K.length (x.K.flatMap Qbp)
 each:∀ q∈x.P,Qb3 base W q.2.fa q.2.fc q.2.pa q.2.pc q.1∧q.1.Ok
 empty:(x.P=[]→s.p=(Option.none,0))∧(x.O=[]→s.o=(Option.none,0))∧(x.B=[]→s.b=(Option.none,0))∧(x.F=[]→s.f=(Option.none,0))∧(x.K=[]→s.k=(Option.none,0))
theorem Qb4.nil (base:Nat) (W:World):Qb4 base W Mem.none Sl5.none :=
 ⟨World.ownsRow_nil _ _ _ _,World.ownsRow_nil _ _ _ _,World.ownsRow_nil _ _ _ _,World.ownsRow_nil _ _ _ _,World.ownsRow_nil _ _ _ _,by simp [Mem.none],by simp [Sl5.none]⟩
def Qos (x:Mem) (s:Sl5) (b:Nat):Prop :=
 (Value.slice s.p.1 x.P.length s.p.2).ownBlock=some b∨(Value.slice s.o.1 x.O.length s.o.2).ownBlock=some b∨(Value.slice s.b.1 x.B.length s.b.2).ownBlock=some b∨(Value.slice s.f.1 x.F.length s.f.2).ownBlock=some b∨(Value.slice s.k.1 x.K.length s.k.2).ownBlock=some b
 ∨ (∃ q∈x.P,(Value.slice q.2.fa q.1.fds.length q.2.fc).ownBlock=some b∨(Value.slice q.2.pa q.1.pages.length q.2.pc).ownBlock=some b)
theorem Qb4.keep {base base':Nat} {W W':World} {x:Mem} {s:Sl5} (h:Qb4 base W x s) (hb:base'≤base) (hs:∀ b,Qos x s b→W'.heap[b]?=W.heap[b]?):Qb4 base' W' x s where
 P:=QaI h.P hb fun c hc=>hs c (.inl hc)
 O:=QaI h.O hb fun c hc=>hs c (.inr (.inl hc))
 B:=QaI h.B hb fun c hc=>hs c (.inr (.inr (.inl hc)))
 F:=QaI h.F hb fun c hc=>hs c (.inr (.inr (.inr (.inl hc))))
 K:=QaI h.K hb fun c hc=>hs c (.inr (.inr (.inr (.inr (.inl hc)))))
 each q hq:=⟨⟨QaI (h.each q hq).1.1 hb fun c hc=>hs c (.inr (.inr (.inr (.inr (.inr ⟨q,hq,.inl hc⟩))))),QaI (h.each q hq).1.2.1 hb fun c hc=>hs c (.inr (.inr (.inr (.inr (.inr ⟨q,hq,.inr hc⟩))))),(h.each q hq).1.2.2⟩,(h.each q hq).2⟩
 empty:=h.empty
theorem Qb4.lt {base:Nat} {W:World} {x:Mem} {s:Sl5} (h:Qb4 base W x s):∀ b,Qos x s b→base≤b∧b<W.heap.size:=by
 intro b hb
 rcases hb with hb | hb | hb | hb | hb | ⟨q,hq,hb | hb⟩
 ·exact h.P.lt b hb
 ·exact h.O.lt b hb
 ·exact h.B.lt b hb
 ·exact h.F.lt b hb
 ·exact h.K.lt b hb
 ·exact (h.each q hq).1.1.lt b hb
 ·exact (h.each q hq).1.2.1.lt b hb
section
variable {W V V1 : World} {B : Nat} {x : Mem} {s : Sl5}
theorem Qb4.putP (h:Qb4 B V x s) (z:Pr × QcJ) (hq:Qb3 B V1 z.2.fa z.2.fc z.2.pa z.2.pc z.1∧z.1.Ok) {v':Value} (ho:V1.ownsRow B 54 55 v' (x.P.length+1) (x.P.flatMap QaP++QaP z)) (hg:V.grownBy V1 (Value.slice s.p.1 x.P.length s.p.2).ownBlock) :
  ∃ g c,v'=.slice (some ⟨g,0,none⟩) (x.P.length+1) c∧Qb4 B V1 { x with P:=x.P++[z] } { s with p:=(some ⟨g,0,none⟩,c) }:=by
 obtain ⟨g,c,rfl⟩:=Qbx ho;refine ⟨g,c,rfl,?_⟩
 exact {
  P:=by simpa [List.flatMap_append] using ho
  O:=h.O.kept hg (QaK (by decide) h.P h.O)
  B:=h.B.kept hg (QaK (by decide) h.P h.B)
  F:=h.F.kept hg (QaK (by decide) h.P h.F)
  K:=h.K.kept hg (QaK (by decide) h.P h.K)
  each:=fun q hq2=>(List.mem_append.1 hq2).elim (fun hq'=>⟨⟨(h.each q hq').1.1.kept hg (QaK (by decide) h.P (h.each q hq').1.1),(h.each q hq').1.2.1.kept hg (QaK (by decide) h.P (h.each q hq').1.2.1),(h.each q hq').1.2.2⟩,(h.each q hq').2⟩) (fun h1=>by rw [List.mem_singleton.1 h1];exact hq)
  empty:=⟨(by simp),h.empty.2.1,h.empty.2.2.1,h.empty.2.2.2.1,h.empty.2.2.2.2⟩ }
theorem Qb4.putO (h:Qb4 B V x s) (z:List Int) {v':Value} (ho:V1.ownsRow B 9 1 v' (x.O.length+1) (x.O.flatMap QbQ++QbQ z)) (hg:V.grownBy V1 (Value.slice s.o.1 x.O.length s.o.2).ownBlock) :
  ∃ g c,v'=.slice (some ⟨g,0,none⟩) (x.O.length+1) c∧Qb4 B V1 { x with O:=x.O++[z] } { s with o:=(some ⟨g,0,none⟩,c) }:=by
 obtain ⟨g,c,rfl⟩:=Qbx ho;refine ⟨g,c,rfl,?_⟩
 exact {
  P:=h.P.kept hg (QaK (by decide) h.O h.P)
  O:=by simpa [List.flatMap_append] using ho
  B:=h.B.kept hg (QaK (by decide) h.O h.B)
  F:=h.F.kept hg (QaK (by decide) h.O h.F)
  K:=h.K.kept hg (QaK (by decide) h.O h.K)
  each:=fun q hq'=>⟨⟨(h.each q hq').1.1.kept hg (QaK (by decide) h.O (h.each q hq').1.1),(h.each q hq').1.2.1.kept hg (QaK (by decide) h.O (h.each q hq').1.2.1),(h.each q hq').1.2.2⟩,(h.each q hq').2⟩
  empty:=⟨h.empty.1,(by simp),h.empty.2.2.1,h.empty.2.2.2.1,h.empty.2.2.2.2⟩ }
theorem Qb4.putB (h:Qb4 B V x s) (z:Pp × (Option Addr × Nat)) {v':Value} (ho:V1.ownsRow B 68 3 v' (x.B.length+1) (x.B.flatMap QbN++QbN z)) (hg:V.grownBy V1 (Value.slice s.b.1 x.B.length s.b.2).ownBlock) :
  ∃ g c,v'=.slice (some ⟨g,0,none⟩) (x.B.length+1) c∧Qb4 B V1 { x with B:=x.B++[z] } { s with b:=(some ⟨g,0,none⟩,c) }:=by
 obtain ⟨g,c,rfl⟩:=Qbx ho;refine ⟨g,c,rfl,?_⟩
 exact {
  P:=h.P.kept hg (QaK (by decide) h.B h.P)
  O:=h.O.kept hg (QaK (by decide) h.B h.O)
  B:=by simpa [List.flatMap_append] using ho
  F:=h.F.kept hg (QaK (by decide) h.B h.F)
  K:=h.K.kept hg (QaK (by decide) h.B h.K)
  each:=fun q hq'=>⟨⟨(h.each q hq').1.1.kept hg (QaK (by decide) h.B (h.each q hq').1.1),(h.each q hq').1.2.1.kept hg (QaK (by decide) h.B (h.each q hq').1.2.1),(h.each q hq').1.2.2⟩,(h.each q hq').2⟩
  empty:=⟨h.empty.1,h.empty.2.1,(by simp),h.empty.2.2.2.1,h.empty.2.2.2.2⟩ }
theorem Qb4.putF (h:Qb4 B V x s) (z:Int × Bool) {v':Value} (ho:V1.ownsRow B 76 2 v' (x.F.length+1) (x.F.flatMap Qbm++Qbm z)) (hg:V.grownBy V1 (Value.slice s.f.1 x.F.length s.f.2).ownBlock) :
  ∃ g c,v'=.slice (some ⟨g,0,none⟩) (x.F.length+1) c∧Qb4 B V1 { x with F:=x.F++[z] } { s with f:=(some ⟨g,0,none⟩,c) }:=by
 obtain ⟨g,c,rfl⟩:=Qbx ho;refine ⟨g,c,rfl,?_⟩
 exact {
  P:=h.P.kept hg (QaK (by decide) h.F h.P)
  O:=h.O.kept hg (QaK (by decide) h.F h.O)
  B:=h.B.kept hg (QaK (by decide) h.F h.B)
  F:=by simpa [List.flatMap_append] using ho
  K:=h.K.kept hg (QaK (by decide) h.F h.K)
  each:=fun q hq'=>⟨⟨(h.each q hq').1.1.kept hg (QaK (by decide) h.F (h.each q hq').1.1),(h.each q hq').1.2.1.kept hg (QaK (by decide) h.F (h.each q hq').1.2.1),(h.each q hq').1.2.2⟩,(h.each q hq').2⟩
  empty:=⟨h.empty.1,h.empty.2.1,h.empty.2.2.1,(by simp),h.empty.2.2.2.2⟩ }
theorem Qb4.putK (h:Qb4 B V x s) (z:Wt) {v':Value} (ho:V1.ownsRow B 80 4 v' (x.K.length+1) (x.K.flatMap Qbp++Qbp z)) (hg:V.grownBy V1 (Value.slice s.k.1 x.K.length s.k.2).ownBlock) :
  ∃ g c,v'=.slice (some ⟨g,0,none⟩) (x.K.length+1) c∧Qb4 B V1 { x with K:=x.K++[z] } { s with k:=(some ⟨g,0,none⟩,c) }:=by
 obtain ⟨g,c,rfl⟩:=Qbx ho;refine ⟨g,c,rfl,?_⟩
 exact {
  P:=h.P.kept hg (QaK (by decide) h.K h.P)
  O:=h.O.kept hg (QaK (by decide) h.K h.O)
  B:=h.B.kept hg (QaK (by decide) h.K h.B)
  F:=h.F.kept hg (QaK (by decide) h.K h.F)
  K:=by simpa [List.flatMap_append] using ho
  each:=fun q hq'=>⟨⟨(h.each q hq').1.1.kept hg (QaK (by decide) h.K (h.each q hq').1.1),(h.each q hq').1.2.1.kept hg (QaK (by decide) h.K (h.each q hq').1.2.1),(h.each q hq').1.2.2⟩,(h.each q hq').2⟩
  empty:=⟨h.empty.1,h.empty.2.1,h.empty.2.2.1,h.empty.2.2.2.1,(by simp)⟩ }
end
structure Qbk (W:World) (a:Option Addr) (len cap:Nat) (k:Forest) (T:Nat) (x:Mem) (V:World) (s:Sl5):Prop where
 fields:SlF T V a len cap k
 cnt:k.cnt≤20000
 below:Below W.heap.size W V
 eR:V.heap[W.heap.size]?=some (.cells imZ 29)
 eT:V.heap[T]?=some (.cells (x.cells s).toArray 29)
 hT:W.heap.size+1≤T
 own:Qb4 (T+1) V x s
 pipe:∀ q∈x.B,QaL T V (.slice q.2.1 q.1.bytes.length q.2.2) q.1.bytes
section
variable {W : World} {a : Option Addr} {len cap : Nat} {k : Forest} {T : Nat} {x : Mem} {V : World} {s : Sl5}
theorem Qbk.lT (h:Qbk W a len cap k T x V s):T<V.heap.size:=(QI.1 h.eT).1
theorem Qbk.same (h:Qbk W a len cap k T x V s) {V':World} (h1:V'.os=V.os) (h2:V'.tape=V.tape) (h3:V'.output=V.output) (h4:V.heap.size≤V'.heap.size)
  (hb:∀ b,b≤T∨Qos x s b→V'.heap[b]?=V.heap[b]?):Qbk W a len cap k T x V' s:=by
 have hT:=h.hT;have bl:Below T V V':=⟨h1,h2,h3,h4,fun b hb'=>hb b (.inl (by omega))⟩
 exact ⟨h.fields.below bl,h.cnt,h.below.trans ⟨h1,h2,h3,h4,fun b hb'=>hb b (.inl (by omega))⟩,(hb _ (.inl (by omega))).trans h.eR,(hb _ (.inl (QN _))).trans h.eT,hT,
  h.own.keep (QN _) fun b hb'=>hb b (.inr hb'),fun q hq=>(h.pipe q hq).below bl⟩
theorem Qbk.grow (h:Qbk W a len cap k T x V s) {V1:World} (b:Below V.heap.size V V1):Qbk W a len cap k T x V1 s :=
 h.same b.os b.tape b.output b.size fun c hc=>b.block c (by
  have:=h.lT
  rcases hc with hc | hc
  ·omega
  ·exact (h.own.lt c hc).2)
theorem Qbk.put (h:Qbk W a len cap k T x V s) {V1:World} {B:Nat} {t:TypeId} {sz n:Nat} {v:Value} {l:List Value} (ho:V.ownsRow B t sz v n l) (hB:T+1≤B) (hg:V.grownBy V1 v.ownBlock) (x':Mem) (s':Sl5) (own:Qb4 (T+1) V1 x' s') (hp:∀ q∈x'.B,QaL T V (.slice q.2.1 q.1.bytes.length q.2.2) q.1.bytes) {R:Array Value} (hR:R=(x'.cells s').toArray) :
  V1.heap[T]?=some (.cells (x.cells s).toArray 29)∧Qbk W a len cap k T x' (V1.setRow T R) s':=by
 subst hR;have lT:=h.lT;have hT:=h.hT
 have hr:∀ c,c≤T→some c≠v.ownBlock:=fun c hc e=>by have:=(ho.lt c e.symm).1;omega
 have hb:∀ c,c≤T→V1.heap[c]?=V.heap[c]?:=fun c hc=>hg.block c (by omega) (hr c hc)
 have e1:=(hb T (QN _)).trans h.eT
 have hs:∀ c,c≠T→(V1.setRow T (x'.cells s').toArray).heap[c]?=V1.heap[c]?:=fun c hc=>setRow_other _ _ _ _ hc
 have bl:Below T V (V1.setRow T (x'.cells s').toArray):=⟨hg.os,hg.tape,hg.output,by rw [size_setRow];exact hg.size,fun b hb'=>(hs b (by omega)).trans (hb b (by omega))⟩;refine ⟨e1,h.fields.below bl,h.cnt,h.below.trans ⟨bl.os,bl.tape,bl.output,bl.size,fun b hb'=>bl.block b (by omega)⟩,(bl.block _ (by omega)).trans h.eR,setRow_heap _ _ _ _ _ _ e1,hT,?_,fun q hq=>(hp q hq).below bl⟩
 exact own.keep (QN _) fun c hc=>hs c (by have:=(own.lt c hc).1;omega)
theorem Qbk.at (h:Qbk W a len cap k T x V s) (hz:True):Qb2 V.heap.size V x s :=
 ⟨Qbn h.own.P,Qbn h.own.O,Qbn h.own.B,Qbn h.own.F,Qbn h.own.K,fun q hq=>Qbn (h.own.each q hq).1.1,fun q hq=>Qbn (h.own.each q hq).1.2.1,fun q hq=>(h.pipe q hq).mono (Nat.le_of_lt h.lT)⟩
theorem Qbk.atP (h:Qbk W a len cap k T x V s):V.cell? ⟨T,0,none⟩=some (.slice s.p.1 x.P.length s.p.2):=by rw [cell_of_row V T 0 _ _ _ h.eT];rfl
theorem Qbk.putP (h:Qbk W a len cap k T x V s) (z:Pr × QcJ) {V1:World} (hq:Qb3 (T+1) V1 z.2.fa z.2.fc z.2.pa z.2.pc z.1∧z.1.Ok) {v':Value} (ho:V1.ownsRow (T+1) 54 55 v' (x.P.length+1) (x.P.flatMap QaP++QaP z)) (hg:V.grownBy V1 (Value.slice s.p.1 x.P.length s.p.2).ownBlock) :
  ∃ g c,v'=.slice (some ⟨g,0,none⟩) (x.P.length+1) c∧V1.heap[T]?=some (.cells (x.cells s).toArray 29)∧Qbk W a len cap k T { x with P:=x.P++[z] } (V1.setRow T (((x.cells s).toArray).setIfInBounds 0 v')) { s with p:=(some ⟨g,0,none⟩,c) }:=by
 obtain ⟨g,c,rfl,own⟩:=h.own.putP z hq ho hg;exact ⟨g,c,rfl,h.put h.own.P (QN _) hg _ _ own h.pipe (by simp [Mem.cells])⟩
theorem Qbk.atO (h:Qbk W a len cap k T x V s):V.cell? ⟨T,1,none⟩=some (.slice s.o.1 x.O.length s.o.2):=by rw [cell_of_row V T 1 _ _ _ h.eT];rfl
theorem Qbk.putO (h:Qbk W a len cap k T x V s) (z:List Int) {V1:World} {v':Value} (ho:V1.ownsRow (T+1) 9 1 v' (x.O.length+1) (x.O.flatMap QbQ++QbQ z)) (hg:V.grownBy V1 (Value.slice s.o.1 x.O.length s.o.2).ownBlock) :
  ∃ g c,v'=.slice (some ⟨g,0,none⟩) (x.O.length+1) c∧V1.heap[T]?=some (.cells (x.cells s).toArray 29)∧Qbk W a len cap k T { x with O:=x.O++[z] } (V1.setRow T (((x.cells s).toArray).setIfInBounds 1 v')) { s with o:=(some ⟨g,0,none⟩,c) }:=by
 obtain ⟨g,c,rfl,own⟩:=h.own.putO z ho hg;exact ⟨g,c,rfl,h.put h.own.O (QN _) hg _ _ own h.pipe (by simp [Mem.cells])⟩
theorem Qbk.atB (h:Qbk W a len cap k T x V s):V.cell? ⟨T,2,none⟩=some (.slice s.b.1 x.B.length s.b.2):=by rw [cell_of_row V T 2 _ _ _ h.eT];rfl
theorem Qbk.putB (h:Qbk W a len cap k T x V s) (z:Pp × (Option Addr × Nat)) {V1:World} (hq:QaL T V (.slice z.2.1 z.1.bytes.length z.2.2) z.1.bytes) {v':Value} (ho:V1.ownsRow (T+1) 68 3 v' (x.B.length+1) (x.B.flatMap QbN++QbN z)) (hg:V.grownBy V1 (Value.slice s.b.1 x.B.length s.b.2).ownBlock) :
  ∃ g c,v'=.slice (some ⟨g,0,none⟩) (x.B.length+1) c∧V1.heap[T]?=some (.cells (x.cells s).toArray 29)∧Qbk W a len cap k T { x with B:=x.B++[z] } (V1.setRow T (((x.cells s).toArray).setIfInBounds 2 v')) { s with b:=(some ⟨g,0,none⟩,c) }:=by
 obtain ⟨g,c,rfl,own⟩:=h.own.putB z ho hg;exact ⟨g,c,rfl,h.put h.own.B (QN _) hg _ _ own (fun q h2=>(List.mem_append.1 h2).elim (h.pipe q) (fun h3=>by rw [List.mem_singleton.1 h3];exact hq)) (by simp [Mem.cells])⟩
theorem Qbk.atF (h:Qbk W a len cap k T x V s):V.cell? ⟨T,3,none⟩=some (.slice s.f.1 x.F.length s.f.2):=by rw [cell_of_row V T 3 _ _ _ h.eT];rfl
theorem Qbk.putF (h:Qbk W a len cap k T x V s) (z:Int × Bool) {V1:World} {v':Value} (ho:V1.ownsRow (T+1) 76 2 v' (x.F.length+1) (x.F.flatMap Qbm++Qbm z)) (hg:V.grownBy V1 (Value.slice s.f.1 x.F.length s.f.2).ownBlock) :
  ∃ g c,v'=.slice (some ⟨g,0,none⟩) (x.F.length+1) c∧V1.heap[T]?=some (.cells (x.cells s).toArray 29)∧Qbk W a len cap k T { x with F:=x.F++[z] } (V1.setRow T (((x.cells s).toArray).setIfInBounds 3 v')) { s with f:=(some ⟨g,0,none⟩,c) }:=by
 obtain ⟨g,c,rfl,own⟩:=h.own.putF z ho hg;exact ⟨g,c,rfl,h.put h.own.F (QN _) hg _ _ own h.pipe (by simp [Mem.cells])⟩
theorem Qbk.atK (h:Qbk W a len cap k T x V s):V.cell? ⟨T,4,none⟩=some (.slice s.k.1 x.K.length s.k.2):=by rw [cell_of_row V T 4 _ _ _ h.eT];rfl
theorem Qbk.putK (h:Qbk W a len cap k T x V s) (z:Wt) {V1:World} {v':Value} (ho:V1.ownsRow (T+1) 80 4 v' (x.K.length+1) (x.K.flatMap Qbp++Qbp z)) (hg:V.grownBy V1 (Value.slice s.k.1 x.K.length s.k.2).ownBlock) :
  ∃ g c,v'=.slice (some ⟨g,0,none⟩) (x.K.length+1) c∧V1.heap[T]?=some (.cells (x.cells s).toArray 29)∧Qbk W a len cap k T { x with K:=x.K++[z] } (V1.setRow T (((x.cells s).toArray).setIfInBounds 4 v')) { s with k:=(some ⟨g,0,none⟩,c) }:=by
 obtain ⟨g,c,rfl,own⟩:=h.own.putK z ho hg;exact ⟨g,c,rfl,h.put h.own.K (QN _) hg _ _ own h.pipe (by simp [Mem.cells])⟩
end
def QhJ (k:Forest):Pp:=⟨Qao (Qah k 3 0),Qcy k 4,Qcy k 5⟩
def Qim (bs:List Int):Int × Bool:=(atB bs 0 8 / 2,atB bs 0 8 % 2 == 1)
def QhK (bs:List Int):Wt:=⟨atB bs 0 4,atB bs 4 4,atB bs 8 4,atB bs 12 4⟩
def Qa4 (f:Forest):Im:=⟨(f.sel 132).map fun e=>Qb8 e.2,(f.sel 2).map (·.1),(f.sel 131).map fun e=>QhJ e.2,(f.sel 6).map fun e=>Qim e.1,(f.sel 19).map fun e=>QhK e.1⟩
theorem Qh1 (tag:Int):∀ f g:Forest,(f.app g).sel tag=f.sel tag++g.sel tag
 | .nil,g=>rfl
 | .cons t b k r,g=>by
  show (Forest.cons t b k (r.app g)).sel tag=_;rw [Forest.sel,Forest.sel,Qh1 tag r g]
  split <;> rfl
theorem QmH (tag t:Int) (b:List Int) (k:Forest):(Forest.cons t b k .nil).sel tag=if t=tag then [(b,k)] else []:=by
 rw [Forest.sel];rfl
def QcB (X:Im) (t:Int) (b:List Int) (k:Forest):Im :=
 ⟨X.procs++(if t=132 then [Qb8 k] else []),X.objs++(if t=2 then [b] else []),X.pipes++(if t=131 then [QhJ k] else []),X.files++(if t=6 then [Qim b] else []),X.waits++(if t=19 then [QhK b] else [])⟩
theorem QkC (f:Forest) (t:Int) (b:List Int) (k:Forest):Qa4 (f.app (.cons t b k .nil))=QcB (Qa4 f) t b k:=by
 unfold Qa4 QcB;simp only [Qh1,QmH,List.map_append]
 congr 1 <;> congr 1 <;> split <;> rfl
end
theorem Qka {α:Type} (g:α→Forest) (tag:Int):∀ l:List α,(Qay g l).sel tag=l.flatMap fun x=>(g x).sel tag
 | []=>rfl
 | x::l=>by rw [Qay,Qh1,Qka g tag l];rfl
theorem QjW {α β:Type} (f:α→β):∀ l:List α,(l.flatMap fun x=>[f x])=l.map f
 | []=>rfl
 | x::l=>by rw [List.flatMap_cons,QjW f l];rfl
theorem Qiw {α β:Type}:∀ l:List α,(l.flatMap fun _=>([]:List β))=[]
 | []=>rfl
 | x::l=>by rw [List.flatMap_cons,Qiw l];rfl
def QeN (p:Pp):Forest:=.cons 3 p.bytes .nil (.cons 4 (Qa7 p.rd.toNat) .nil (.cons 5 (Qa7 p.wr.toNat) .nil .nil))
theorem QmG (X:Im):(Qb1 X).sel 132=X.procs.map (fun p=>([],Qbl p))∧(Qb1 X).sel 2=X.objs.map (fun o=>(o,.nil))∧(Qb1 X).sel 131=X.pipes.map (fun p=>([],QeN p)) ∧
  (Qb1 X).sel 6=X.files.map (fun f=>(Qa7 (2*f.1+Qb6 f.2).toNat,.nil))∧(Qb1 X).sel 19=X.waits.map (fun w=>(wsB [w.pid,w.kp,w.kf,w.ko],.nil)):=by
 unfold Qb1
 refine ⟨?_,?_,?_,?_,?_⟩ <;> simp [Qh1,Qka,QmH,QeG,Qct,Qb9,Qcj,Qck,QjW,Qiw,QeN]
theorem QjE (x:Int) (h:0≤x∧x<4294967296) (l:List Int):Qek (w4 x++l)=x+4294967296*Qek l:=by
 simp only [w4,List.cons_append,List.nil_append,Qek];omega
theorem Qhy (n:Nat) (h:n<4294967296):Qa7 n=w4 (n:Int)++[0,0,0,0]:=by
 unfold Qa7 QaE w4;rw [Nat.mod_eq_of_lt h,Nat.div_eq_of_lt h];simp;omega
theorem Qdr (x:Int) (h:0≤x∧x<4294967296):atB (Qa7 x.toNat) 0 8=x:=by
 rw [Qhy _ (by omega),Int.toNat_of_nonneg h.1];unfold atB;have e:((w4 x++[0,0,0,0]).drop 0).take (min 8 7)=w4 x++[0,0,0]:=rfl;rw [e,QjE x h];simp [Qek]
theorem Qke (x:Int) (h:0≤x∧x<4294967296):QiW (Qa7 x.toNat)=x:=by
 unfold QiW;rw [if_pos (QaG _),Qhy _ (by omega),Int.toNat_of_nonneg h.1,QjE x h];simp [Qek]
theorem Qc3 (x:Int) (h:0≤x∧x<4294967296) (k:Forest):QcF (some (Qa7 x.toNat,k))=x:=by
 show Qd1 (QiW (Qa7 x.toNat))=x;rw [Qke x h];unfold Qd1;rw [if_neg (by omega)]
theorem Qm7 (p:List Int) (x:Int) (h:0≤x∧x<4294967296) (q:List Int):atB (p++(w4 x++q)) p.length 4=x:=by
 unfold atB;rw [List.drop_left,show min 4 7=4 from rfl,show (w4 x++q).take 4=w4 x++[] from by simp [w4],QjE x h];simp [Qek]
theorem Qpg (p:List Int) (ws:List Int) (q:List Int) (k:Nat) (hk:k<ws.length) (h:0≤ws[k]∧ws[k]<4294967296):atB (p++(wsB ws++q)) (p.length+4*k) 4=ws[k]:=by
 have e:wsB ws=wsB (ws.take k)++(w4 ws[k]++wsB (ws.drop (k+1))):=by
  unfold wsB;rw [← List.flatMap_cons,← List.flatMap_append,← List.drop_eq_getElem_cons hk,List.take_append_drop]
 rw [e,show p++(wsB (ws.take k)++(w4 ws[k]++wsB (ws.drop (k+1)))++q)=(p++wsB (ws.take k))++(w4 ws[k]++(wsB (ws.drop (k+1))++q)) by simp only [List.append_assoc],show p.length+4*k=(p++wsB (ws.take k)).length by rw [QL,Qe2,List.length_take];omega];exact Qm7 _ _ h _
theorem Qeq (x:Int) (h:-524288≤x∧x<524288):wrN (x % 4294967296)=x:=by
 have e:QeO (x % 4294967296)=x:=by unfold QeO;split <;> omega
 unfold wrN Qd;rw [e]
 have e2:x.tmod 1048576=x:=by
  rcases Int.lt_or_le x 0 with h0 | h0
  ·rw [← Int.neg_neg x,Int.neg_tmod,Int.tmod_eq_emod_of_nonneg (by omega)];omega
  ·rw [Int.tmod_eq_emod_of_nonneg h0];omega
 rw [e2,if_neg (by omega),if_neg (by omega)]
theorem Qiu (p:Pr):Qah (Qbl p) 7 0=some (Qa7 p.pid.toNat,.nil)∧Qah (Qbl p) 8 0=some (Qa7 p.parent.toNat,.nil)∧Qah (Qbl p) 9 0=some (Qa7 p.state.toNat,.nil):=by
 unfold Qbl Qff
 refine ⟨?_,?_,?_⟩ <;> simp [Forest.app,Qah]
theorem Qit (p:Pr) (h:p.state=2):Qah (Qbl p) 10 0=some (Qa7 p.status.toNat,.nil):=by
 unfold Qbl Qff;rw [if_pos h];simp [Forest.app,Qah]
theorem Qiv (p:Pr) (h:¬ p.state=2):Qah (Qbl p) 10 0=none∧Qah (Qbl p) 11 0=some (cpB p.cpu,.nil)∧Qah (Qbl p) 12 0=some (cpB p.saved,.nil)∧Qah (Qbl p) 13 0=some (sgB p.sig,.nil) ∧
  Qah (Qbl p) 14 0=some (Qa7 p.wait.toNat,.nil)∧Qah (Qbl p) 15 0=some (Qa7 p.pipe.toNat,.nil)∧Qah (Qbl p) 16 0=some (Qa7 p.left.toNat,.nil)∧Qah (Qbl p) 17 0=some (fdB p.fds,.nil)∧Qah (Qbl p) 18 0=some (pgB p.pages,.nil):=by
 unfold Qbl Qff QkR;rw [if_neg h]
 refine ⟨?_,?_,?_,?_,?_,?_,?_,?_,?_⟩ <;> simp [Forest.app,Qah]
theorem Qli (ws:List Int) (q:List Int) (k:Nat) (hk:k<ws.length) (h:0≤ws[k]∧ws[k]<4294967296):atB (wsB ws++q) (4*k) 4=ws[k]:=by
 have:=Qpg [] ws q k hk h;simpa using this
theorem Qlz {c:Cp} (h:c.Ok):(cpW c).length=13:=by unfold cpW;rw [QL,h.1];rfl
theorem Qod {c:Cp} (h:c.Ok):∀ z∈cpW c,0≤z∧z<4294967296:=by
 intro z hz;unfold cpW at hz
 rcases List.mem_append.1 hz with hz | hz
 ·exact h.2.1 z hz
 ·have:=h.2.2.2.2.2.2
  simp only [List.mem_cons,List.not_mem_nil,or_false] at hz
  rcases hz with rfl | rfl | rfl | rfl | rfl <;> omega
theorem Qlw (c:Cp) (h:c.Ok):cpD (cpB c)=c:=by
 have hl:=Qlz h
 have at_:∀ k (hk:k<(cpW c).length),atB (cpB c) (4*k) 4=(cpW c)[k]:=fun k hk=>by
  have:=Qli (cpW c) [] k hk (Qod h _ (List.getElem_mem hk));rw [List.append_nil] at this;exact this
 have r:Qjy (cpB c) 8=c.r:=by
  refine List.ext_getElem (by simp [Qjy,h.1]) fun i h1 h2=>?_
  simp only [Qjy,QM,List.length_range] at h1;simp only [Qjy,List.getElem_map,List.getElem_range,if_pos h1];rw [at_ i (by omega)];unfold cpW;rw [List.getElem_append_left h2]
 have tail:∀ j (hj:j<5),(cpW c)[8+j]'(by omega)=[c.za % 4294967296,c.zb % 4294967296,c.zc % 4294967296,c.zd % 4294967296,c.pc][j]:=fun j hj=>by
  unfold cpW;rw [List.getElem_append_right (by rw [h.1];omega)];simp only [h.1,Nat.add_sub_cancel_left]
 unfold cpD;rw [r,show (32:Nat)=4*(8+0) from rfl,show (36:Nat)=4*(8+1) from rfl,show (40:Nat)=4*(8+2) from rfl,show (44:Nat)=4*(8+3) from rfl,show (48:Nat)=4*(8+4) from rfl];rw [at_ (8+0) (by omega),at_ (8+1) (by omega),at_ (8+2) (by omega),at_ (8+3) (by omega),at_ (8+4) (by omega)];rw [tail 0 (by decide),tail 1 (by decide),tail 2 (by decide),tail 3 (by decide),tail 4 (by decide)];obtain ⟨_,_,h3,h4,h5,h6,_⟩:=h;show Cp.mk c.r (wrN (c.za % 4294967296)) (wrN (c.zb % 4294967296)) (wrN (c.zc % 4294967296)) (wrN (c.zd % 4294967296)) c.pc=c;rw [Qeq _ h3,Qeq _ h4,Qeq _ h5,Qeq _ h6]
theorem Qo2 (s:Sg) (h:s.Ok):sgD (sgB s)=s:=by
 have hl:(s.pend::s.mask::s.hand).length=18:=by simp [h.2.2.1]
 have hin:∀ z∈(s.pend::s.mask::s.hand),0≤z∧z<4294967296:=by
  intro z hz
  rcases List.mem_cons.1 hz with rfl | hz
  ·exact h.1
  ·rcases List.mem_cons.1 hz with rfl | hz
   ·exact h.2.1
   ·exact h.2.2.2 z hz
 have at_:∀ k (hk:k<(s.pend::s.mask::s.hand).length),atB (sgB s) (4*k) 4=(s.pend::s.mask::s.hand)[k]:=fun k hk=>Qli _ [Qb6 s.busy] k hk (hin _ (List.getElem_mem hk))
 have b1:atB (sgB s) 72 1=Qb6 s.busy:=by
  unfold atB sgB;rw [show (72:Nat)=(wsB (s.pend::s.mask::s.hand)).length by rw [Qe2,hl],List.drop_left];simp [Qek]
 have hh:QeW (sgB s) 16=s.hand:=by
  refine List.ext_getElem (by simp [QeW,h.2.2.1]) fun i h1 h2=>?_
  simp only [QeW,QM,List.length_range] at h1;simp only [QeW,List.getElem_map,List.getElem_range,if_pos h1];rw [show 8+4*i=4*(i+2) by omega,at_ (i+2) (by omega)];rfl
 unfold sgD;rw [hh,b1,show (0:Nat)=4*0 from rfl,at_ 0 (by omega),show (4:Nat)=4*1 from rfl];have a1:=at_ 1 (by omega);rw [show (s.pend::s.mask::s.hand)[1]=s.mask from rfl] at a1
 have hb:(Qb6 s.busy == 1)=s.busy:=by cases s.busy <;> rfl
 rw [hb];exact congrArg (fun m=>Sg.mk s.pend m s.hand s.busy) a1
theorem QbL {α:Type} {f:α→α}:∀ l:List α,(∀ x∈l,f x=x)→l.map f=l
 | [],_=>rfl
 | x::l,h=>by rw [List.map_cons,h x (List.mem_cons_self ..),QbL l fun y hy=>h y (List.mem_cons_of_mem _ hy)]
theorem Qog (l:List Int) (h:∀ x∈l,-1≤x∧x≤63):(fdB l).map QbJ=l:=by
 unfold fdB;rw [List.map_map]
 refine QbL l fun x hx=>?_
 have:=h x hx;show QbJ (x % 256)=x;unfold QbJ
 split <;> omega
def QpH (m:Pg):Prop:=(0≤m.page∧m.page<64)∧0≤m.frame∧m.frame<256
theorem QiK:∀ (l:List Pg) (last:Int),-1≤last→Qbc last l=true→∀ m∈l,QpH m
 | [],_,_,_,m,hm=>by cases hm
 | x::l,last,hl,h,m,hm=>by
  unfold Qbc Qfk at h;simp only [Bool.and_eq_true,decide_eq_true_eq] at h
  rcases List.mem_cons.1 hm with rfl | hm
  ·exact ⟨⟨by omega,by omega⟩,by omega,by omega⟩
  ·exact QiK l x.page (by omega) h.2 m hm
theorem Qgi:∀ (l:List Pg) (i:Nat) (hi:i<l.length) (j:Nat),j<4→(pgB l).getD (4*i+j) 0=(QkW l[i]).getD j 0
 | [],i,hi,_,_=>absurd hi (Nat.not_lt_zero i)
 | m::l,0,_,j,hj=>by
  show (QkW m++pgB l).getD (4*0+j) 0=_;have e:(QkW m).length=4:=rfl;rw [Nat.mul_zero,Nat.zero_add,List.getD,List.getElem?_append_left (by omega)];rfl
 | m::l,i+1,hi,j,hj=>by
  show (QkW m++pgB l).getD (4*(i+1)+j) 0=_;have e:(QkW m).length=4:=rfl;rw [List.getD,List.getElem?_append_right (by omega),e,show 4*(i+1)+j-4=4*i+j by omega];exact Qgi l i (by simpa using hi) j hj
theorem Qev (w s c:Bool):((Qb6 w+2*Qb6 s+4*Qb6 c) % 2 == 1)=w∧((Qb6 w+2*Qb6 s+4*Qb6 c) / 2 % 2 == 1)=s∧((Qb6 w+2*Qb6 s+4*Qb6 c) / 4 % 2 == 1)=c:=by
 cases w <;> cases s <;> cases c <;> decide
theorem QoY (l:List Pg) (h:∀ m∈l,QpH m):pgD (pgB l)=l:=by
 have hl:=QfN l
 refine List.ext_getElem (by simp [pgD,hl]) fun i h1 h2=>?_
 simp only [pgD,List.getElem_map,List.getElem_range];have hm:=h l[i] (List.getElem_mem h2);unfold Qf9;have e0:=Qgi l i h2 0 (by decide);rw [Nat.add_zero] at e0;rw [e0,Qgi l i h2 1 (by decide),Qgi l i h2 3 (by decide)];generalize l[i]=m at hm;obtain ⟨pg,f,w,s,c⟩:=m;obtain ⟨g1,g2⟩:=hm;show Pg.mk (pg % 256) (f % 256) ((Qb6 w+2*Qb6 s+4*Qb6 c) % 2 == 1) ((Qb6 w+2*Qb6 s+4*Qb6 c) / 2 % 2 == 1) ((Qb6 w+2*Qb6 s+4*Qb6 c) / 4 % 2 == 1)=_;rw [(Qev w s c).1,(Qev w s c).2.1,(Qev w s c).2.2,show pg % 256=pg by simp only at g1;omega,show f % 256=f by simp only at g2;omega]
theorem Qmr {p:Pr} (h:Qbj p=true) (hs:p.state=2):p=prZ p.pid p.parent 2 p.status:=by
 unfold Qbj at h;rw [if_pos hs] at h;unfold Qa8 at h;simp only [Bool.and_eq_true,decide_eq_true_eq,beq_iff_eq,Cp.eq_iff,Sg.eq_iff,List.length_eq_zero_iff] at h;obtain ⟨pid,parent,state,status,cpu,saved,sig,wt,pi,lf,fds,pages⟩:=p;obtain ⟨_,⟨⟨⟨⟨⟨⟨⟨h1,h2⟩,h3⟩,h4⟩,h5⟩,h6⟩,h7⟩,h8⟩⟩:=h;simp only at h1 h2 h3 h4 h5 h6 h7 h8 hs;subst h1 h2 h3 h4 h5 h6 h7 h8 hs;rfl
theorem Qms {p:Pr} (h:Qbj p=true) (hs:¬ p.state=2):(p.state=1∧p.status=0)∧(0≤p.wait∧p.wait<4294967296)∧(0≤p.pipe∧p.pipe<4294967296)∧(∀ x∈p.fds,-1≤x∧x≤63)∧∀ m∈p.pages,QpH m:=by
 unfold Qbj at h;rw [if_neg hs] at h;unfold Qbq Qdc Qci at h;simp only [Bool.and_eq_true,decide_eq_true_eq,beq_iff_eq,List.all_eq_true] at h;obtain ⟨_,⟨⟨⟨⟨⟨h1,h2⟩,_⟩,⟨⟨⟨h3,h4⟩,_⟩,_⟩⟩,⟨_,h5⟩⟩,h6⟩⟩:=h;refine ⟨⟨h1,h2⟩,by omega,by omega,fun x hx=>?_,QiK _ _ (by decide) h6⟩;have:=h5 x hx;unfold Qf1 at this;simpa using this
theorem Qmt {p:Pr} (h:Qbj p=true):(0≤p.pid∧p.pid<4294967296)∧(0≤p.parent∧p.parent<4294967296):=by
 unfold Qbj at h;simp only [Bool.and_eq_true,decide_eq_true_eq] at h;omega
theorem QkE (p:Pr) (hf:p.Fine) (h:Qbj p=true):Qb8 (Qbl p)=p:=by
 obtain ⟨n1,n2⟩:=Qmt h;obtain ⟨f7,f8,f9⟩:=Qiu p
 have v7:Qcy (Qbl p) 7=p.pid:=by unfold Qcy;rw [f7];exact Qdr _ n1
 have v8:Qcy (Qbl p) 8=p.parent:=by unfold Qcy;rw [f8];exact Qdr _ n2
 by_cases hs:p.state=2
 ·have v9:Qcy (Qbl p) 9=2:=by unfold Qcy;rw [f9,hs];exact Qdr 2 (by decide)
  have v10:Qcy (Qbl p) 10=p.status:=by unfold Qcy;rw [Qit p hs];exact Qdr _ hf.status
  unfold Qb8;rw [if_pos v9,v7,v8,v10];have:=hf.status;rw [show p.status % 4294967296=p.status by omega];exact (Qmr h hs).symm
 ·obtain ⟨⟨h1,h2⟩,h3,h4,h5,h6⟩:=Qms h hs
  obtain ⟨_,g11,g12,g13,g14,g15,g16,g17,g18⟩:=Qiv p hs
  have v9:Qcy (Qbl p) 9=p.state:=by unfold Qcy;rw [f9];exact Qdr _ (by omega)
  have v14:Qcy (Qbl p) 14=p.wait:=by unfold Qcy;rw [g14];exact Qdr _ h3
  have v15:Qcy (Qbl p) 15=p.pipe:=by unfold Qcy;rw [g15];exact Qdr _ h4
  have v16:Qcy (Qbl p) 16=p.left:=by unfold Qcy;rw [g16];exact Qdr _ hf.left
  unfold Qb8;rw [if_neg (by rw [v9];exact hs),v7,v8,v9,v14,v15,v16,g11,g12,g13,g17,g18];have:=hf.left;rw [show p.left % 4294967296=p.left by omega];simp only [Qao];rw [Qlw _ hf.ok.1,Qlw _ hf.ok.2.1,Qo2 _ hf.ok.2.2,Qog _ h5,QoY _ h6,← h2]
theorem QjU (z:Int) (b:Bool):(2*z+Qb6 b) / 2=z∧((2*z+Qb6 b) % 2 == 1)=b:=by
 cases b
 ·rw [show Qb6 false=0 from rfl];exact ⟨by omega,by rw [show (2*z+0) % 2=0 by omega];rfl⟩
 ·rw [show Qb6 true=1 from rfl];exact ⟨by omega,by rw [show (2*z+1) % 2=1 by omega];rfl⟩
theorem QlL (X:Im) (hf:X.Fine) (h:Qcb X=true):Qa4 (Qb1 X)=X:=by
 obtain ⟨_,h6,h7,h8,h9,h10⟩:=Qc7 h;obtain ⟨s1,s2,s3,s4,s5⟩:=QmG X;obtain ⟨procs,objs,pipes,files,waits⟩:=X;unfold Qa4;rw [s1,s2,s3,s4,s5];simp only [List.map_map]
 have i1:List.map ((fun e:List Int × Forest=>Qb8 e.2) ∘ fun p=>([],Qbl p)) procs=procs:=by
  refine QbL procs fun p hp=>?_
  have:=QkE p (hf.procs p hp) (h6 p hp);simpa only [Function.comp] using this
 have i2:List.map ((fun e:List Int × Forest=>e.1) ∘ fun o=>(o,Forest.nil)) objs=objs:=QbL objs fun o _=>rfl
 rw [i1,i2];clear i1 i2
 congr 1
 ·refine QbL pipes fun p hp=>?_
  have hb:=h8 p hp;unfold QbK at hb;simp only [Bool.and_eq_true,decide_eq_true_eq] at hb
  have e3:Qah (QeN p) 3 0=some (p.bytes,.nil):=by simp [QeN,Qah]
  have e4:Qah (QeN p) 4 0=some (Qa7 p.rd.toNat,.nil):=by simp [QeN,Qah]
  have e5:Qah (QeN p) 5 0=some (Qa7 p.wr.toNat,.nil):=by simp [QeN,Qah]
  show QhJ (QeN p)=p;unfold QhJ Qcy;rw [e3,e4,e5];simp only [Qao];rw [Qdr _ (by omega),Qdr _ (by omega)]
 ·refine QbL files fun f hff=>?_
  have hb:=h9 f hff;unfold Qce at hb;simp only [decide_eq_true_eq] at hb;obtain ⟨z,b⟩:=f;show Qim (Qa7 (2*z+Qb6 b).toNat)=(z,b);unfold Qim;have:=QdL b;rw [Qdr _ (by simp only at hb;omega),(QjU z b).1,(QjU z b).2]
 ·refine QbL waits fun w hw=>?_
  have hb:=h10 w hw;unfold QbU at hb;rw [Qdp] at hb;simp only [Bool.and_eq_true,decide_eq_true_eq] at hb;unfold Qcf at hb;obtain ⟨pid,kp,kf,ko⟩:=w;simp only at hb
  have at_:=fun k hk hin=>Qli [pid,kp,kf,ko] [] k hk hin
  rw [List.append_nil] at at_;show QhK (wsB [pid,kp,kf,ko])=_;unfold QhK;have a0:=at_ 0 (by simp) (by show 0≤pid∧pid<4294967296;omega);have a1:=at_ 1 (by simp) (by show 0≤kp∧kp<4294967296;omega);have a2:=at_ 2 (by simp) (by show 0≤kf∧kf<4294967296;omega);have a3:=at_ 3 (by simp) (by show 0≤ko∧ko<4294967296;omega);rw [show atB (wsB [pid,kp,kf,ko]) 0 4=pid from a0,show atB (wsB [pid,kp,kf,ko]) 4 4=kp from a1,show atB (wsB [pid,kp,kf,ko]) 8 4=kf from a2,show atB (wsB [pid,kp,kf,ko]) 12 4=ko from a3]
theorem QgI {α:Type} (g:α→List Int) (hg:∀ x,(g x).length=4):∀ l:List α,(l.flatMap g).length=4*l.length
 | []=>rfl
 | x::l=>by rw [List.flatMap_cons,QL,hg,QgI g hg l,List.length_cons];omega
theorem QfG {α:Type} (g:α→List Int) (hg:∀ x,(g x).length=4) (q:List Int):∀ (l:List α) (i:Nat) (hi:i<l.length) (j:Nat),j<4→(l.flatMap g++q).getD (4*i+j) 0=(g l[i]).getD j 0
 | [],i,hi,_,_=>absurd hi (Nat.not_lt_zero i)
 | m::l,0,_,j,hj=>by
  have e:=hg m;rw [List.flatMap_cons,List.append_assoc,Nat.mul_zero,Nat.zero_add,List.getD,List.getElem?_append_left (by omega)];rfl
 | m::l,i+1,hi,j,hj=>by
  have e:=hg m;rw [List.flatMap_cons,List.append_assoc,List.getD,List.getElem?_append_right (by omega),e,show 4*(i+1)+j-4=4*i+j by omega];exact QfG g hg q l i (by simpa using hi) j hj
def wrd (b:List Int):Int:=(((b.getD 0 0).toNat+256*(b.getD 1 0).toNat+65536*(b.getD 2 0).toNat+16777216*(b.getD 3 0).toNat:Nat):Int)
theorem Qpw (zs:List Int) (b:Nat):leW zs b 4=(zs.getD (b+0) 0).toNat+256*(zs.getD (b+1) 0).toNat+65536*(zs.getD (b+2) 0).toNat+16777216*(zs.getD (b+3) 0).toNat:=by
 simp only [leW];omega
theorem QhD {α:Type} (g:α→List Int) (hg:∀ x,(g x).length=4) (l:List α):Qbd (l.flatMap g)=l.map fun x=>wrd (g x):=by
 have hl:=QgI g hg l;unfold Qbd;rw [hl,show (4*l.length+3) / 4=l.length by omega]
 refine List.ext_getElem (by simp [Qc9]) fun i h1 h2=>?_
 simp only [Qc9,QM,List.length_range] at h1;simp only [Qc9,List.getElem_map,List.getElem_range,hl];rw [show min 4 (4*l.length-4*i)=4 by omega,Qpw]
 have k:=fun j hj=>QfG g hg [] l i h1 j hj
 simp only [List.append_nil] at k;rw [k 0 (by decide),k 1 (by decide),k 2 (by decide),k 3 (by decide)];rfl
theorem QjI {α:Type} (g:α→List Int) (hg:∀ x,(g x).length=4) (l:List α) (b:Int) (hb:0≤b):Qbd (l.flatMap g++[b])=(l.map fun x=>wrd (g x))++[b]:=by
 have hl:=QgI g hg l
 have hl2:(l.flatMap g++[b]).length=4*l.length+1:=by rw [QL,hl];rfl
 unfold Qbd;rw [hl2,show (4*l.length+1+3) / 4=l.length+1 by omega]
 refine List.ext_getElem (by simp [Qc9]) fun i h1 h2=>?_
 simp only [Qc9,QM,List.length_range] at h1;simp only [Qc9,List.getElem_map,List.getElem_range,hl2]
 rcases Nat.lt_or_ge i l.length with h | h
 ·rw [show min 4 (4*l.length+1-4*i)=4 by omega,Qpw,List.getElem_append_left (by simpa using h)]
  have k:=fun j hj=>QfG g hg [b] l i h j hj
  rw [k 0 (by decide),k 1 (by decide),k 2 (by decide),k 3 (by decide),List.getElem_map];rfl
 ·obtain rfl:i=l.length:=by omega
  rw [show min 4 (4*l.length+1-4*l.length)=1 by omega,List.getElem_append_right (by simp)];simp only [leW,Nat.add_zero,Nat.pow_zero,Nat.one_mul,Nat.zero_add,QM,Nat.sub_self];rw [List.getD,List.getElem?_append_right (by omega),hl,Nat.sub_self];simp;omega
theorem Qoq (x:Int) (h:0≤x∧x<4294967296):wrd (w4 x)=x:=by
 show (((x % 256).toNat+256*(x / 256 % 256).toNat+65536*(x / 65536 % 256).toNat+16777216*(x / 16777216 % 256).toNat:Nat):Int)=x;omega
theorem Qkj (ws:List Int) (h:∀ z∈ws,0≤z∧z<4294967296):Qbd (wsB ws)=ws:=by
 unfold wsB;rw [QhD w4 (fun _=>rfl)]
 exact QbL ws fun x hx=>Qoq x (h x hx)
theorem Qhn (bs ws:List Int) (n:Nat) (h:Qbd bs=ws) (hl:ws.length=n):QbX bs n=ws:=by
 unfold QbX;rw [h,hl,Nat.sub_self,List.take_of_length_le (by omega)];simp
theorem Qna (c:Cp) (h:c.Ok):Qi3 (cpW c)=c:=by
 obtain ⟨h1,_,h3,h4,h5,h6,_⟩:=h
 have t:∀ j,j<5→(cpW c).getD (8+j) 0=[c.za % 4294967296,c.zb % 4294967296,c.zc % 4294967296,c.zd % 4294967296,c.pc].getD j 0:=fun j hj=>by
  unfold cpW;rw [List.getD,List.getElem?_append_right (by omega),h1,Nat.add_sub_cancel_left];rfl
 have e0:=t 0 (by decide);have e1:=t 1 (by decide);have e2:=t 2 (by decide);have e3:=t 3 (by decide);have e4:=t 4 (by decide);unfold Qi3;rw [show (cpW c).take 8=c.r by unfold cpW;rw [List.take_append_of_le_length (by omega),List.take_of_length_le (by omega)]];rw [show (cpW c).getD 8 0=c.za % 4294967296 from e0,show (cpW c).getD 9 0=c.zb % 4294967296 from e1,show (cpW c).getD 10 0=c.zc % 4294967296 from e2,show (cpW c).getD 11 0=c.zd % 4294967296 from e3,show (cpW c).getD 12 0=c.pc from e4];rw [Qeq _ h3,Qeq _ h4,Qeq _ h5,Qeq _ h6]
theorem Qkh (c:Cp) (h:c.Ok):Qi3 (QbX (cpB c) 13)=c:=by
 rw [Qhn (cpB c) (cpW c) 13 (Qkj _ (Qod h)) (Qlz h)];exact Qna c h
theorem Qn9 (s:Sg) (h:s.Ok):Qoo (QbX (sgB s) 19)=s:=by
 have e:Qbd (sgB s)=(s.pend::s.mask::s.hand)++[Qb6 s.busy]:=by
  unfold sgB wsB;rw [QjI w4 (fun _=>rfl) _ _ (QdL s.busy).1]
  congr 1
  refine QbL _ fun x hx=>Qoq x ?_
  rcases List.mem_cons.1 hx with rfl | hx
  ·exact h.1
  ·rcases List.mem_cons.1 hx with rfl | hx
   ·exact h.2.1
   ·exact h.2.2.2 x hx
 rw [Qhn _ _ 19 e (by simp [h.2.2.1])]
 have hb:(Qb6 s.busy == 1)=s.busy:=by cases s.busy <;> rfl
 have h18:((s.pend::s.mask::s.hand)++[Qb6 s.busy]).getD 18 0=Qb6 s.busy:=by
  rw [List.getD,List.getElem?_append_right (by simp [h.2.2.1])];simp [h.2.2.1]
 unfold Qoo;rw [h18,hb];show Sg.mk s.pend s.mask ((s.hand++[Qb6 s.busy]).take 16) s.busy=s;rw [List.take_append_of_le_length (by rw [h.2.2.1];exact QN _),List.take_of_length_le (by rw [h.2.2.1];exact QN _)]
theorem Qpu (w s c:Bool):0≤Qb6 w+2*Qb6 s+4*Qb6 c∧Qb6 w+2*Qb6 s+4*Qb6 c<8:=by cases w <;> cases s <;> cases c <;> decide
theorem Qn8 (l:List Pg) (h:∀ m∈l,QpH m):(Qbd (pgB l)).map QdP=l:=by
 unfold pgB;rw [QhD QkW (fun _=>rfl),List.map_map]
 refine QbL l fun m hm=>?_
 obtain ⟨pg,f,w,s,c⟩:=m;obtain ⟨g1,g2⟩:=h _ hm;simp only at g1 g2;have hf:=Qpu w s c;have hb:=Qev w s c;show QdP (wrd [pg % 256,f % 256,0,Qb6 w+2*Qb6 s+4*Qb6 c])=_;obtain ⟨F,hF⟩:∃ F,F=Qb6 w+2*Qb6 s+4*Qb6 c:=⟨_,rfl⟩;rw [← hF] at hf hb ⊢
 have e:wrd [pg % 256,f % 256,0,F]=pg+256*f+16777216*F:=by
  show (((pg % 256).toNat+256*(f % 256).toNat+65536*(0:Int).toNat+16777216*F.toNat:Nat):Int)=_;omega
 rw [e];unfold QdP;rw [show (pg+256*f+16777216*F) % 256=pg by omega,show (pg+256*f+16777216*F) / 256 % 256=f by omega,show (pg+256*f+16777216*F) / 16777216 % 2=F % 2 by omega,show (pg+256*f+16777216*F) / 33554432 % 2=F / 2 % 2 by omega,show (pg+256*f+16777216*F) / 67108864 % 2=F / 4 % 2 by omega,hb.1,hb.2.1,hb.2.2]
theorem QkI (W:World) (x:Mem) (s:Sl5) (h:Qb2 W.heap.size W x s) (hf:x.im.Fine) (hm:Qcb x.im=true) :
  Calls Tryz.prog 65 #[.agg (x.cells s).toArray] W fun e W'=>∃ v n,e=.returned v∧QbY 0 W'.heap.size W.heap.size W' v n (Qb1 x.im)∧Below W.heap.size W W':=by
 obtain ⟨X,hX⟩:∃ X,X=(x.cells s).toArray:=⟨_,rfl⟩
 have hXs:X.size=5:=by rw [hX];rfl
 have hi5:(Tryz.prog.info? 29).map (·.size)=some X.size:=by rw [hXs];exact QeX
 have H:=QQ (QA hX (QA h (QA hf hm)));rw [← hX];clear hX h hf hm;go_enter Tryz.func65,Tryz.ntmps65;refine wp_seq_k (fun K aK=>?_);have AK:=QQ aK;clear aK;go_wp2;refine (QG AK) _ _ ?_;clear AK K;refine wp_seq_k (fun K aK=>?_);have AK:=QQ aK;clear aK;obtain ⟨V,hV⟩:∃ V,V=W.alloc (.cells X 29):=⟨_,rfl⟩
 have bV:Below W.heap.size W V:=by rw [hV];exact (QB _ _).alloc (QN _) _
 have e:V.heap[W.heap.size]?=some (.cells X 29):=by rw [hV];exact QW _ _
 have hVl:W.heap.size+1=V.heap.size:=by rw [hV];simp
 rw [← hV];clear hV;have k1:=Qcn 1 1 (by decide) V;go_wp2_with (go_at_call 92;refine Qau ?_);unfold Qag;refine k1.mono ?_;rintro e' w1 ⟨a1,c1,rfl,r1,g1,b1⟩;have e1:=(b1.block _ (by omega)).trans e;have h1s:=b1.size;have bW1:=bV.trans (b1.mono bV.size);have HR:=QQ (QA r1 (QA g1 (QA e1 (QA h1s bW1))));clear k1 e r1 g1 e1 h1s bW1 b1 bV;go_wp2;refine (QG AK) _ _ ?_;clear AK K;obtain ⟨r1,g1,e1,h1s,bW1⟩:=(QG HR);obtain ⟨hX,h,hf,hm⟩:=(QG H);obtain ⟨W2,hW2⟩:∃ W2,W2=w1.alloc (Obj.cells #[.int .i64 1,.slice a1 8 c1,.slice none 0 0] 66):=⟨_,rfl⟩
 have b2:Below w1.heap.size w1 W2:=by rw [hW2];exact (QB _ _).alloc (QN _) _
 have o2:W2.ownsRow (W.heap.size+1) 66 3 (.slice (some ⟨w1.heap.size,0,none⟩) 1 1) 1 [.int .i64 1,.slice a1 8 c1,.slice none 0 0]:=by
  rw [hW2];exact QaI (World.ownsRow_lit (base:=w1.heap.size) (e:=66) (size:=3) w1 #[.int .i64 1,.slice a1 8 c1,.slice none 0 0] 1 (QN _) (by decide) rfl) (by omega) fun _ _=>rfl
 have s2:W2.heap.size=w1.heap.size+1:=by rw [hW2];simp
 rw [← hW2];have inv:QbZ W x s X W.heap.size W2:=⟨hX,rfl,(b2.block _ (by omega)).trans e1,bW1.trans (b2.mono bW1.size),h,hf,hm⟩
 have hl:QbY 0 W2.heap.size (W.heap.size+1) W2 (.slice (some ⟨w1.heap.size,0,none⟩) 1 1) 1 (.cons 1 (Qa7 1) .nil .nil):=by
  refine ⟨QN _,_,o2,Qat.cons8 (by decide) (by decide) (by rw [QaG];decide) ((r1.below b2).mono b2.size) (fun b hb=>?_) Qat.nil,rfl⟩;have h2:=r1.lt b hb;exact ⟨Nat.zero_le _,by omega,fun e=>by injection e with e;have e9:w1.heap.size=b:=e;omega⟩
 clear hW2;exact Qpv W x s X W.heap.size _ _ _ _ _ _ _ _ _ _ _ _ _ _ _ _ _ _ _ _ _ _ _ _ _ _ _ _ _ _ _ _ _ _ _ _ _ _ _ _ _ _ _ _ _ _ _ _ _ _ _ _ _ _ _ _ _ _ _ _ _ _ _ _ _ _ _ _ _ _ _ _ _ _ _ _ _ _ _ _ _ _ _ _ _ _ _ _ _ _ _ _ _ _ _ _ _ _ _ _ _ _ _ _ _ _ _ _ _ _ _ _ _ W2 1 (.cons 1 (Qa7 1) .nil .nil) (by decide) inv hl
theorem QcR.bytes {n:Nat} {W:World}:∀ (f:Forest) (b off:Nat),QcR n W f b off→∀ z∈f.layF,0≤z∧z≤255
 | .nil,b,off,h=>by intro z hz;rw [Forest.layF] at hz;cases hz
 | .cons t bs k r,b,off,h=>by
  obtain ⟨a,len,cap,ka,kl,kc,h1,h2,h3,h4,h5,h6,h7,h8,h9⟩:=h;intro z hz;rw [Forest.layF] at hz
  have hv:∀ z∈(if 128≤t then k.layF else bs),0≤z∧z≤255:=by
   by_cases ht:128≤t
   ·rw [if_pos ht]
    rcases h8 with h8 | ⟨b2,o2,_,_,_,_,g5⟩
    ·have hk:k=.nil:=Forest.len_nil (by omega)
     rw [hk,Forest.layF];intro z hz;cases hz
    ·exact QcR.bytes k b2 o2 g5
   ·rw [if_neg ht];exact h6.1.2
  obtain ⟨v,hv2⟩:∃ v,v=if 128≤t then k.layF else bs:=⟨_,rfl⟩
  rw [← hv2] at hv;simp only [← hv2] at hz
  rcases List.mem_append.1 hz with hz | hz
  ·rcases List.mem_append.1 hz with hz | hz
   ·rcases List.mem_append.1 hz with hz | hz
    ·simp only [List.mem_cons,List.not_mem_nil,or_false] at hz;omega
    ·simp only [List.mem_cons,List.not_mem_nil,or_false] at hz;omega
   ·exact hv z hz
  ·exact QcR.bytes r b (off+3) h9 z hz
theorem SlF.bytes {n:Nat} {W:World} {a:Option Addr} {len cap:Nat} {f:Forest} (h:SlF n W a len cap f):∀ z∈f.layF,0≤z∧z≤255:=by
 obtain ⟨h1,h2 | ⟨b,off,_,_,_,_,g⟩⟩:=h
 ·have hk:f=.nil:=Forest.len_nil (by omega)
  rw [hk,Forest.layF];intro z hz;cases hz
 ·exact QcR.bytes f b off g
theorem QbY.slf {lo hi base:Nat} {W:World} {v:Value} {n:Nat} {f:Forest} (h:QbY lo hi base W v n f):∃ a c,v=.slice a n c∧SlF W.heap.size W a n c f:=by
 obtain ⟨h0,vs,h1,h2,h3⟩:=id h;obtain ⟨a,c,rfl,_⟩:=Qaa h1;exact ⟨a,c,rfl,h.here⟩
theorem Qkp (W:World) (x:Mem) (s:Sl5) (h:Qb2 W.heap.size W x s) (hf:x.im.Fine) (hm:Qcb x.im=true) :
  Calls Tryz.prog 21 #[.agg (x.cells s).toArray] W fun e W'=>Below W.heap.size W W'∧(∀ z∈QeI (Qb1 x.im)++QaE (Qe3 (QeI (Qb1 x.im))),0≤z∧z≤255) ∧
   ∃ v,e=.returned (.tuple #[v,.int .i64 0])∧W'.ownsRow W.heap.size 5 1 v (QeI (Qb1 x.im)++QaE (Qe3 (QeI (Qb1 x.im)))).length ((QeI (Qb1 x.im)++QaE (Qe3 (QeI (Qb1 x.im)))).map (Value.int .u8)):=by
 obtain ⟨I,hI⟩:∃ I,I=(x.cells s).toArray:=⟨_,rfl⟩
 have hIs:I.size=5:=by rw [hI];rfl
 have hi5:(Tryz.prog.info? 29).map (·.size)=some I.size:=by rw [hIs];exact QeX
 have kc:=fun (V:World) (hV:Below W.heap.size W V)=>Qhq x s V ((h.below hV).mono hV.size) hf
 have kf:=fun (V:World) (hV:Below W.heap.size W V)=>QkI V x s ((h.below hV).mono hV.size) hf hm
 rw [hm] at kc;rw [← hI] at kc kf ⊢;obtain ⟨ho1,ho2,ho3⟩:=QhU x.im hf hm;have hcnt:=QoD x.im hf hm;have hlen:=QhR x.im hf hm;rw [← ho1] at hlen;obtain ⟨F,hF⟩:∃ F,F=Qb1 x.im:=⟨_,rfl⟩;rw [← hF] at kf ho1 ho2 hcnt hlen ⊢;clear hI h hf hm ho3 hF;have KC:=QQ kc;have KF:=QQ kf;have HO:=QQ ho1;clear kc kf ho1;go_enter Tryz.func21,Tryz.ntmps21
 go_upto_region 1 with fail
 generalize hV:World.alloc _ _=V
 have bV:Below W.heap.size W V:=by rw [← hV];exact (QB _ _).alloc (QN _) _
 have e:V.heap[W.heap.size]?=some (.cells I 29):=by rw [← hV];exact QW _ _
 clear hV
 go_wp2_with first
  | (refine Qai (by rfl) 29 (.tmp 1) rfl W.heap.size 0 rfl _ I _ e (by rw [List.drop_zero,List.take_of_length_le (by simp)]) _ Tryz.underlying29 rfl hi5 ?_)
  | (go_at_call 10;refine Qau ?_)
 unfold Qag;refine ((QG KC) _ bV).mono ?_;rintro e' w1 ⟨rfl,b1⟩;replace e:=(b1.block _ (by have:=(QI.1 e).1;omega)).trans e;replace bV:=bV.trans (b1.mono bV.size);clear KC b1;simp only [if_true]
 go_wp2_with first
  | (refine Qai (by rfl) 29 (.tmp 1) rfl W.heap.size 0 rfl _ I _ e (by rw [List.drop_zero,List.take_of_length_le (by simp)]) _ Tryz.underlying29 rfl hi5 ?_)
  | (go_at_call 65;refine Qau ?_)
 unfold Qag;refine ((QG KF) _ bV).mono ?_;rintro e' w2 ⟨v2,n2,rfl,S,b2⟩;obtain ⟨a,c,rfl,S2⟩:=S.slf;replace bV:=bV.trans (b2.mono bV.size);have kt:=Qk4 F w2 a n2 c S2 (by omega);rw [ho2] at kt
 have hby:∀ z∈QeI F,0≤z∧z≤255:=by rw [show QeI F=F.layF from HO];exact S2.bytes
 clear KF b2 S S2 e;go_wp2_with (go_at_call 64;refine Qau ?_);unfold Qag;refine kt.mono ?_;rintro e' w3 ⟨v,rfl,o3,b3⟩
 have r3:QaL w3.heap.size w3 v (QeI F):=QbM o3 hby _ _ fun b hb=>⟨rfl,(o3.lt b hb).2⟩
 replace bV:=bV.trans (b3.mono bV.size);obtain ⟨a3,c3,rfl,_⟩:=Qaa o3;have kse:=QnY a3 (QeI F).length c3 (QeI F) w3 r3 (by omega);have hs:=Qb7 _ (QfQ _ hby);obtain ⟨N,hN⟩:∃ N,N=(QeI F).length:=⟨_,rfl⟩
 have hN4:(QeI F++QaE (Qe3 (QeI F))).length=N+4:=by rw [QL,← hN];rfl
 have hbb:∀ z∈QeI F++QaE (Qe3 (QeI F)),0≤z∧z≤255:=fun z hz=>(List.mem_append.1 hz).elim (hby z) (hs z)
 rw [← hN] at kse hlen ⊢;have HN4:=QQ hN4;have HBB:=QQ hbb;clear kt b3 o3 r3 hby hs hN hN4 hbb;dsimp only;go_wp2_with (go_at_call 8;refine Qau ?_);unfold Qag;refine kse.mono ?_;rintro e' w4 ⟨v4,rfl,o4,b4⟩;clear kse;obtain ⟨a4,c4,rfl,_⟩:=Qaa o4;have O4:=QQ (QhV o4 bV.size);clear o4;replace bV:=bV.trans (b4.mono bV.size);go_wp2;go_ret2;exact ⟨bV,HBB,_,rfl,by rw [show (QeI F++QaE (Qe3 (QeI F))).length=N+4 from HN4];exact O4⟩
theorem Qls:Qe4 imB:=by
 intro W x s h hf;unfold imB
 cases hm:Qcb x.im with
 | true =>
  simp only [if_true];refine (Qkp W x s h hf hm).mono ?_;rintro e W' ⟨b,h1,h2⟩;exact ⟨b,h1,h2⟩
 | false =>
  refine (Qlr W (x.cells s).toArray rfl fun V hV=>?_).mono ?_
  ·have k:=Qhq x s V ((h.below hV).mono hV.size) hf
   rw [hm] at k;exact k
  ·rintro e W' ⟨h1,b⟩
   exact ⟨b,h1⟩
def Forest.takeF:Nat→Forest→Forest
 | 0,_=>.nil
 | _+1,.nil=>.nil
 | i+1,.cons t b k r=>.cons t b k (Forest.takeF i r)
theorem QiU:∀ (f:Forest) (i:Nat),f.length≤i→f.takeF i=f
 | .nil,0,_=>rfl
 | .nil,i+1,_=>rfl
 | .cons t b k r,0,h=>by simp [Forest.length] at h
 | .cons t b k r,i+1,h=>by
  rw [Forest.takeF,QiU r i (by rw [Forest.length] at h;omega)]
theorem Fes.nth {n:Nat} {W:World}:∀ (fs:List (Fe × List Int)) (f:Forest),Fes n W fs f→∀ i (h:i<fs.length),∃ kk,f.takeF (i+1)=(f.takeF i).app (.cons fs[i].1.t fs[i].2 kk .nil)∧QaL n W (.slice fs[i].1.a fs[i].1.l fs[i].1.c) fs[i].2∧SlF n W fs[i].1.ka fs[i].1.kl fs[i].1.kc kk∧1+fs[i].2.length+kk.cnt≤f.cnt
 | [],.nil,_=>fun i h=>absurd h (by simp)
 | e::fs,.cons t b k r,h=>fun i hi=>by
  obtain ⟨h1,h2,h3,h4,h5⟩:=h
  cases i with
  | zero =>
   refine ⟨k,?_,by rw [List.getElem_cons_zero,h2];exact h3,h4,by rw [List.getElem_cons_zero,h2];simp only [Forest.cnt];omega⟩;rw [List.getElem_cons_zero,h1,h2];show Forest.cons t b k (Forest.takeF 0 r)=Forest.app .nil _;rfl
  | succ i =>
   obtain ⟨kk,g1,g2,g3,g4⟩:=Fes.nth fs r h5 i (by simpa using hi);refine ⟨kk,?_,by simpa using g2,by simpa using g3,by simp only [List.getElem_cons_succ,Forest.cnt];omega⟩;simp only [List.getElem_cons_succ];show Forest.cons t b k (r.takeF (i+1))=Forest.cons t b k ((r.takeF i).app _);rw [g1]
 | [],.cons _ _ _ _,h=>h.elim
 | _::_,.nil,h=>h.elim
theorem QdI:∀ (f:Forest) (i:Nat),(f.takeF i).cnt≤f.cnt
 | _,0=>Nat.zero_le _
 | .nil,i+1=>QN _
 | .cons t b k r,i+1=>by
  have:=QdI r i;rw [Forest.takeF];simp only [Forest.cnt];omega
theorem Qbk.nth {W:World} {a:Option Addr} {len cap:Nat} {k:Forest} {T:Nat} {x:Mem} {V:World} {s:Sl5} (h:Qbk W a len cap k T x V s) (i:Nat) (hi:i<len) :
  ∃ (b off:Nat) (t:Int) (ba:Option Addr) (bl bc:Nat) (ka:Option Addr) (kl kc:Nat) (bs:List Int) (kk:Forest),a=some ⟨b,off,none⟩∧b<T∧(∀ j v,[Value.int .i64 t,.slice ba bl bc,.slice ka kl kc][j]?=some v→V.cell? ⟨b,off+i*3+j,none⟩=some v) ∧
   Qa4 (k.takeF (i+1))=QcB (Qa4 (k.takeF i)) t bs kk∧QaL T V (.slice ba bl bc) bs∧SlF T V ka kl kc kk∧1+bs.length+kk.cnt≤20000:=by
 obtain ⟨fs,F1,F2,F3⟩:=h.fields.fes;subst F3;obtain ⟨kk,g1,g2,g3,g4⟩:=Fes.nth fs k F1 i hi
 rcases F2 with h0 | ⟨b,off,ha,hb,hc⟩
 ·have:fs.length=0:=by rw [← QM (f:=fun x:Fe × List Int=>x.1),h0];rfl
  omega
 ·refine ⟨b,off,fs[i].1.t,fs[i].1.a,fs[i].1.l,fs[i].1.c,fs[i].1.ka,fs[i].1.kl,fs[i].1.kc,fs[i].2,kk,ha,hb,fun j v hj=>?_,by rw [g1,QkC],g2,g3,by have:=h.cnt;omega⟩
  exact hc i (by simpa using hi) j v (by rw [List.getElem_map];exact hj)
theorem Qbk.small {W:World} {a:Option Addr} {len cap:Nat} {k:Forest} {T:Nat} {x:Mem} {V:World} {s:Sl5} (h:Qbk W a len cap k T x V s):len≤20000∧k.length=len:=by
 obtain ⟨hl,_⟩:=h.fields;have:=Forest.length_le_cnt k;have:=h.cnt;omega
section
attribute [local go_sem] Oper.semAt_some QaB QaJ QaA
theorem QfJ:imZ.all (·.oneCell')=true:=by simp [imZ,Mem.cells,Value.oneCell']
theorem Qf (x:Mem) (s:Sl5):((x.cells s).toArray).all (·.oneCell')=true:=by simp [Mem.cells,Value.oneCell']
theorem QdA {ds:List Nat} (h:ds.Nodup):(ds.map QeE).Nodup:=QgP ds h
theorem Qmf {W:World} {a:Option Addr} {len cap:Nat} {k:Forest} {T:Nat} {x:Mem} {V:World} {s:Sl5} {ds:List Nat} (h:QaZ W a len cap k T x V s ds) {D:Nat} (hD:D∈ds) (hb:Qd3 x s D):False:=by
 rcases hb with hb | hb | hb | hb | hb | ⟨q,hq,hb | hb⟩ | ⟨q,hq,hb⟩
 ·exact h.apart hD h.own.P hb
 ·exact h.apart hD h.own.O hb
 ·exact h.apart hD h.own.B hb
 ·exact h.apart hD h.own.F hb
 ·exact h.apart hD h.own.K hb
 ·exact h.apart hD (h.own.each q hq).1.1 hb
 ·exact h.apart hD (h.own.each q hq).1.2.1 hb
 ·exact h.apart hD (h.own.pipe q hq) hb
def RdQ (B:Im→Option (List Int)) (W:World) (zs:List Int) (X:Im):Exit→Act→World→Prop:=bodyPostM Fence.wide 102 Tryz.prog Tryz.f5 (Qor B W zs X)
theorem Qqd (B:Im→Option (List Int)) (hB:Qe4 B) (W:World) (a0:Option Addr) (len0 cap0:Nat) (zs:List Int) (hz:QaL W.heap.size W (.slice a0 len0 cap0) zs) (a:Option Addr) (len cap:Nat) (k:Forest) (T:Nat) (x:Mem) (hf:x.im.Fine) :
  QcQ (RdQ B W zs x.im) W (.slice a0 len0 cap0) a len cap k T (tl 11 (Tryz.f5.body.getD .skip)) x:=by
 iterate 182 intro
 intro V s ds h;have hch4:Fence.wide.fn 21:=trivial
 have hcI:∀ j v,(x.cells s)[j]?=some v→V.cell? ⟨T,0+j,none⟩=some v:=fun j v hv=>by
  rw [Nat.zero_add,cell_of_row V _ _ _ _ _ h.eT];simpa using hv
 have hat:=h.own.at fun q hq=>(hf.pipes q.1 (List.mem_map.2 ⟨q,hq,rfl⟩)).2
 have kb:=hB V x s hat hf;have HH:=QQ h;have HF:=QQ hf;have HZ:=QQ hz;have hl5:(Tryz.prog.info? 29).map (·.size)=some (x.cells s).length:=QbT;obtain ⟨I,hI⟩:∃ I,I=x.cells s:=⟨_,rfl⟩;rw [← hI] at hcI kb hl5;have HI:=QQ hI;clear h hf hz hI hat
 conv=>arg 4;whnf
 gi_wp2_with first
  | (refine QbC rfl 29 (.tmp 7) rfl T 0 rfl I _ hcI Tryz.underlying29 rfl hl5 ?_)
  | (gi_at_call 21;refine Qau ?_)
 unfold Qag;refine (callsIn_wide.2 kb).mono ?_;rintro e w6 ⟨b6,hw6⟩;have h:=(QG HH);have hT:=h.hT;have lT:=h.lT;have eR:w6.heap[W.heap.size]?=some (.cells imZ 29):=(b6.block _ (by omega)).trans h.eR;have bW6:Below W.heap.size W w6:=h.below.trans (b6.mono (by omega))
 have hds6:∀ D∈ds,T<D∧w6.heap[D]?=some (.deferred (some [])):=fun D hD=>⟨(h.marks D hD).1,(b6.block D (h.markLt hD)).trans (h.marks D hD).2⟩
 have hnd:=h.nodup;have h6:=h.grow b6;have H6:=QQ h6;have eT:w6.heap[T]?=some (.cells (x.cells s).toArray 29):=h6.eT;rw [show x.cells s=I from (QG HI).symm] at eT;clear h h6;have HN:=QQ hnd;have HD:=QQ hds6;have HW:=QQ bW6
 cases hB:B x.im with
 | none =>
  rw [hB] at hw6;subst hw6;have HC:=QQ (show B x.im≠some zs by rw [hB];exact fun h=>by cases h);clear hB kb eT hds6 bW6 hnd b6
  gi_wp2_with ((fail_if_success (unfold Qag));refine QaV (t:=29) rfl ?_)
  unfold Qag;have bW6:=(QG HW);have hds6:=(QG HD);refine QaD rfl 29 (.tmp 2) (.tmp 185) rfl W.heap.size imZ rfl rfl 29 imZ eR QbT rfl QfJ ?_;obtain ⟨V6,hV6⟩:∃ V6,V6=w6.setRow W.heap.size imZ:=⟨_,rfl⟩
  have e6:V6.heap[W.heap.size]?=some (.cells imZ 29):=by rw [hV6];exact setRow_heap _ _ _ _ _ _ eR
  have b6w:Below W.heap.size W V6:=by rw [hV6];exact Qaj bW6 (QN _) _
  have hds:∀ D∈ds,T<D∧V6.heap[D]?=some (.deferred (some [])):=fun D hD=>⟨(hds6 D hD).1,by rw [hV6,setRow_other _ _ _ _ (by have:=(hds6 D hD).1;omega)];exact (hds6 D hD).2⟩
  rw [← hV6];clear hV6 eR bW6 hds6
  gi_wp2
  have hnd:=(QG HN)
  have mkn:∀ b,b≤T→QeE b ∉ ds.map QeE:=fun b hb hm=>by
   obtain ⟨D,hD,e⟩:=List.mem_map.1 hm;have:=(hds D hD).1;have:=Qfj e;omega
  refine QeD (ds.map QeE) V6 ?_ (QdA hnd) fun W' hs=>?_
  ·intro d hd
   obtain ⟨D,hD,rfl⟩:=List.mem_map.1 hd;exact ⟨D,rfl,(hds D hD).2⟩
  ·have e7:W'.heap[W.heap.size]?=some (.cells (imZ) 29):=(hs.block _ (mkn _ (by omega))).trans e6
   refine ⟨_,QaT rfl _ _ _ W.heap.size 29 (imZ) (0,0) _ rfl e7 Tryz.underlying29 (QbT),Mem.none,Sl5.none,_,rfl,b6w.trans (hs.below fun b hb=>mkn b (by omega)),Qb2.nil _ _,.inr ⟨HC,rfl,rfl,rfl⟩⟩
 | some ys =>
  rw [hB] at hw6;obtain ⟨hyb,v,rfl,o6⟩:=hw6;obtain ⟨a6,c6,rfl,_⟩:=Qaa o6
  have r6:QaL w6.heap.size w6 (.slice a6 ys.length c6) ys:=QbM o6 hyb _ _ fun b hb=>⟨rfl,(o6.lt b hb).2⟩
  have rb:QaL W.heap.size w6 (.slice a0 len0 cap0) zs:=(QG HZ).below bW6;have v1':=Qdz (P:=Tryz.prog) r6.1 22 5 9 Tryz.underlying22 Tryz.underlying5 Tryz.underlying9;have v2':=Qdz (P:=Tryz.prog) rb.1 22 5 9 Tryz.underlying22 Tryz.underlying5 Tryz.underlying9;have hzb:=(QG HZ).2;obtain ⟨yl,hyl⟩:∃ yl,yl=ys.length:=⟨_,rfl⟩;rw [← hyl] at v1' ⊢;by_cases hyz:ys=zs
  ·subst hyz
   have HC:=QQ hB;clear hB kb r6 rb o6 hyl hyb hzb hds6 bW6 hnd b6
   have hcJ:∀ j v,I[j]?=some v→w6.cell? ⟨T,0+j,none⟩=some v:=fun j v hv=>by
    rw [Nat.zero_add,cell_of_row w6 _ _ _ _ _ eT];simpa using hv
   clear eT;obtain ⟨st,hst⟩:∃ st,st=strOfNums ys:=⟨_,rfl⟩;rw [← hst] at v1' v2';clear hst
   gi_wp2_with first
    | (refine QbC rfl 29 (.tmp 7) rfl T 0 rfl I _ hcJ Tryz.underlying29 rfl hl5 ?_)
    | ((fail_if_success (unfold Qag));refine QaV (t:=29) rfl ?_)
   unfold Qag;refine QaD rfl 29 (.tmp 2) (.tmp 186) rfl W.heap.size I.toArray rfl rfl 29 imZ eR (by rw [QS,← hl5]) (by rw [QS,show I=x.cells s from HI];rfl) (by rw [show I=x.cells s from HI];exact Qf x s) ?_;obtain ⟨V6,hV6⟩:∃ V6,V6=w6.setRow W.heap.size I.toArray:=⟨_,rfl⟩
   have e6:V6.heap[W.heap.size]?=some (.cells I.toArray 29):=by rw [hV6];exact setRow_heap _ _ _ _ _ _ eR
   have b6w:Below W.heap.size W V6:=by rw [hV6];exact Qaj (QG HW) (QN _) _
   have hoth:∀ b,b≠W.heap.size→V6.heap[b]?=w6.heap[b]?:=fun b hb=>by rw [hV6,setRow_other _ _ _ _ hb]
   have s6:V6.heap.size=w6.heap.size:=by rw [hV6,size_setRow]
   have HO:=QQ (QA hoth s6);rw [← hV6];clear hV6 eR hoth s6 v1' v2' hcJ
   gi_wp2
   obtain ⟨hoth,s6⟩:=(QG HO);have h6:=(QG H6);have hnd:=h6.nodup
   have hds:∀ D∈ds,T<D∧V6.heap[D]?=some (.deferred (some [])):=fun D hD=>⟨(h6.marks D hD).1,(hoth D (by have:=(h6.marks D hD).1;omega)).trans (h6.marks D hD).2⟩
   have mkn:∀ b,b≤T→QeE b ∉ ds.map QeE:=fun b hb hm=>by
    obtain ⟨D,hD,e⟩:=List.mem_map.1 hm;have:=(hds D hD).1;have:=Qfj e;omega
   refine QeD (ds.map QeE) V6 ?_ (QdA hnd) fun W' hs=>?_
   ·intro d hd
    obtain ⟨D,hD,rfl⟩:=List.mem_map.1 hd;exact ⟨D,rfl,(hds D hD).2⟩
   ·have e7:W'.heap[W.heap.size]?=some (.cells (I.toArray) 29):=(hs.block _ (mkn _ (by omega))).trans e6
    refine ⟨_,QaT rfl _ _ _ W.heap.size 29 (I.toArray) (0,0) _ rfl e7 Tryz.underlying29 (by rw [QS];exact hl5),x,s,_,by rw [show I=x.cells s from HI];rfl,b6w.trans (hs.below fun b hb=>mkn b (by omega)),?_,.inl ⟨HC,rfl,rfl⟩⟩
    ·have hk:∀ b,Qd3 x s b→W'.heap[b]?=w6.heap[b]?:=fun b hb=>by
      have hb2:=h6.own.lt b hb;refine (hs.block _ fun hm=>?_).trans (hoth b (by omega));obtain ⟨D,hD,e⟩:=List.mem_map.1 hm;have e:=Qfj e;subst e;exact Qmf h6 hD hb
     exact (h6.own.keep (W':=W') (QN _) hk).at fun q hq=>((QG HF).pipes q.1 (List.mem_map.2 ⟨q,hq,rfl⟩)).2
  ·have HC:=QQ (show B x.im≠some zs by rw [hB];exact fun h=>hyz (by injection h))
   have hne:((strOfNums ys).toList == (strOfNums zs).toList)=false:=by
    rw [beq_eq_false_iff_ne]
    exact fun e=>hyz (Qfp hyb hzb (by rw [ByteArray.toList_eq,ByteArray.toList_eq] at e;exact e))
   obtain ⟨s1,hs1⟩:∃ st,st=strOfNums ys:=⟨_,rfl⟩;obtain ⟨s2,hs2⟩:∃ st,st=strOfNums zs:=⟨_,rfl⟩;rw [← hs1] at v1' hne;rw [← hs2] at v2' hne;clear hB kb r6 rb o6 hyl hyb hzb hyz eT hs1 hs2 hds6 bW6 hnd b6
   gi_wp2_with ((fail_if_success (unfold Qag));refine QaV (t:=29) rfl ?_)
   unfold Qag;have bW6:=(QG HW);have hds6:=(QG HD);refine QaD rfl 29 (.tmp 2) (.tmp 185) rfl W.heap.size imZ rfl rfl 29 imZ eR QbT rfl QfJ ?_;obtain ⟨V6,hV6⟩:∃ V6,V6=w6.setRow W.heap.size imZ:=⟨_,rfl⟩
   have e6:V6.heap[W.heap.size]?=some (.cells imZ 29):=by rw [hV6];exact setRow_heap _ _ _ _ _ _ eR
   have b6w:Below W.heap.size W V6:=by rw [hV6];exact Qaj bW6 (QN _) _
   have hds:∀ D∈ds,T<D∧V6.heap[D]?=some (.deferred (some [])):=fun D hD=>⟨(hds6 D hD).1,by rw [hV6,setRow_other _ _ _ _ (by have:=(hds6 D hD).1;omega)];exact (hds6 D hD).2⟩
   rw [← hV6];clear hV6 eR bW6 hds6
   gi_wp2
   have hnd:=(QG HN)
   have mkn:∀ b,b≤T→QeE b ∉ ds.map QeE:=fun b hb hm=>by
    obtain ⟨D,hD,e⟩:=List.mem_map.1 hm;have:=(hds D hD).1;have:=Qfj e;omega
   refine QeD (ds.map QeE) V6 ?_ (QdA hnd) fun W' hs=>?_
   ·intro d hd
    obtain ⟨D,hD,rfl⟩:=List.mem_map.1 hd;exact ⟨D,rfl,(hds D hD).2⟩
   ·have e7:W'.heap[W.heap.size]?=some (.cells (imZ) 29):=(hs.block _ (mkn _ (by omega))).trans e6
    refine ⟨_,QaT rfl _ _ _ W.heap.size 29 (imZ) (0,0) _ rfl e7 Tryz.underlying29 (QbT),Mem.none,Sl5.none,_,rfl,b6w.trans (hs.below fun b hb=>mkn b (by omega)),Qb2.nil _ _,.inr ⟨HC,rfl,rfl,rfl⟩⟩
end
section
attribute [local go_sem] Oper.semAt_some QaB QaJ QaA
theorem QeY {n:Nat} {W:World} {tag:Int} {fs:List (Fe × List Int)} {f:Forest} (h:Fes n W fs f) {e:List Int × Forest} (he:e∈f.sel tag):e.1.length+1≤f.cnt∧(∀ z∈e.1,0≤z∧z≤255)∧∃ a len cap,SlF n W a len cap e.2:=by
 obtain ⟨h1,h2⟩:=h.hits tag;obtain ⟨i,hi,rfl⟩:=List.getElem_of_mem he
 have hi2:i<(Qak tag fs).length:=by omega
 obtain ⟨g1,g2,g3,g4⟩:=h2 i hi2 hi;have hm:(Qak tag fs)[i]∈fs:=(List.mem_filter.1 (show (Qak tag fs)[i]∈Qak tag fs from List.getElem_mem _)).1;have:=Fes.small fs f h _ hm;rw [g1] at this;exact ⟨this,g3.2,_,_,_,g4⟩
theorem QfC {n:Nat} {W:World} {tag:Int} {fs:List (Fe × List Int)} {f:Forest} (h:Fes n W fs f):(Qao (Qah f tag 0)).length≤f.cnt:=by
 rw [Qgc]
 rcases hs:(f.sel tag).head? with _ | e
 ·simp [Qao]
 ·have:=(QeY h (List.mem_of_mem_head? hs)).1
  show e.1.length≤_;omega
theorem Qcu {tag:Int}:∀ f:Forest,(f.sel tag).length≤f.cnt
 | .nil=>Nat.zero_le _
 | .cons t b k r=>by
  have:=Qcu (tag:=tag) r;rw [Forest.sel];simp only [Forest.cnt]
  split
  ·rw [List.length_cons];omega
  ·omega
theorem QkN {n:Nat} {W:World} {a:Option Addr} {len cap:Nat} {k:Forest} (h:SlF n W a len cap k) (hc:k.cnt≤20000):(Qbu k).Fine:=by
 obtain ⟨fs,F1,_,_⟩:=h.fes;have hok:=QhO (k:=k) (fun tag=>Qc6 F1 tag);have hf:(Qao (Qah k 17 0)).length≤20000:=Nat.le_trans (QfC F1) hc
 have hp:(QeR k).length≤20000:=by
  have h1:=Qj9 F1;have h2:=Qef (Qak 18 fs);have h3:=QfI 18 fs;have h4:=Fes.total fs k F1;rw [h1] at h2;omega
 refine ⟨hok,?_,?_,?_,?_⟩
 ·unfold Qbu;split
  ·show 0≤QcF (Qah k 10 0) % 4294967296∧QcF (Qah k 10 0) % 4294967296<4294967296;omega
  ·show 0≤QcF (Qah k 10 0) % 4294967296∧QcF (Qah k 10 0) % 4294967296<4294967296;omega
 ·unfold Qbu;split
  ·show (0:Int)≤0∧(0:Int)<4294967296;decide
  ·show 0≤QcF (Qah k 16 0) % 4294967296∧QcF (Qah k 16 0) % 4294967296<4294967296;omega
 ·unfold Qbu;split
  ·show ([]:List Int).length≤20000;decide
  ·show ((Qao (Qah k 17 0)).map QbJ).length≤20000;rw [QM];exact hf
 ·unfold Qbu;split
  ·show ([]:List Pg).length≤20000;decide
  ·exact hp
theorem Qkz {n:Nat} {W:World} {a:Option Addr} {len cap:Nat} {f:Forest} (h:SlF n W a len cap f) (hc:f.cnt≤20000):(QcV f).Fine:=by
 obtain ⟨fs,F1,_,_⟩:=h.fes
 have hl:=fun tag=>Nat.le_trans (Qcu (tag:=tag) f) hc
 refine ⟨?_,?_,?_,?_⟩
 ·intro p hp
  obtain ⟨e,he,rfl⟩:=List.mem_map.1 hp;obtain ⟨_,_,_,_,_,h4⟩:=QeY F1 he;exact QkN h4 (Nat.le_trans (Qdd he) hc)
 ·intro p hp
  obtain ⟨e,he,rfl⟩:=List.mem_map.1 hp;obtain ⟨h1,h2,_⟩:=QeY F1 he;exact ⟨by omega,h2⟩
 ·intro p hp
  obtain ⟨e,he,rfl⟩:=List.mem_map.1 hp;obtain ⟨_,_,_,_,_,h4⟩:=QeY F1 he;obtain ⟨fs2,F2,_,_⟩:=h4.fes;exact ⟨Nat.le_trans (QfC F2) (Nat.le_trans (Qdd he) hc),fun z hz=>Qc6 F2 3 z hz⟩
 ·simp only [QcV,QM]
  exact ⟨hl 132,hl 2,hl 131,hl 6,hl 19⟩
theorem QpB (B:Im→Option (List Int)) (hB:Qe4 B) (W:World) (a0:Option Addr) (len0 cap0:Nat) (zs:List Int) (hz:QaL W.heap.size W (.slice a0 len0 cap0) zs) (a:Option Addr) (len cap:Nat) (k:Forest) (T:Nat) (hf:(QcV k).Fine) :
  QcQ (RdQ B W zs (QcV k)) W (.slice a0 len0 cap0) a len cap k T (tl 6 (Tryz.f5.body.getD .skip)) Mem.none:=by
 refine QqT _ _ _ _ _ _ _ _ Mem.none rfl ?_
 refine QqU _ _ _ _ _ _ _ _ _ rfl fun LB hLB=>?_
 refine QqV _ _ _ _ _ _ _ _ _ rfl ?_
 refine QqW _ _ _ _ _ _ _ _ _ rfl fun LP hLP=>?_
 refine Qqc _ _ _ _ _ _ _ _ _ rfl ?_;obtain ⟨x,hx⟩:∃ x:Mem,x=⟨LP,(k.sel 2).map (·.1),LB,(k.sel 6).map (fun e=>Qa3 e.1),(k.sel 19).map (fun e=>Qgn (Qbd e.1))⟩:=⟨_,rfl⟩
 have e:x.im=QcV k:=by rw [hx];unfold Mem.im QcV;simp only [hLP,hLB]
 have hr:=Qqd B hB W a0 len0 cap0 zs hz a len cap k T x (by rw [e];exact hf);rw [e,hx] at hr;exact hr
theorem QkQ (B:Im→Option (List Int)) (hB:Qe4 B) (W:World) (a0:Option Addr) (len0 cap0:Nat) (zs:List Int) (hz:QaL W.heap.size W (.slice a0 len0 cap0) zs) (hsm:zs.length≤20000) (ho:QcW zs) (f:Forest) (hn:Qa9 1 (zs.take (len0-4))=some f) :
  Calls Tryz.prog 5 #[.slice a0 len0 cap0] W (Qor B W zs (QcV f)):=by
 have kc:=fun (V:World) (hV:Below W.heap.size W V)=>QhT a0 len0 cap0 zs V ((hz.below hV).mono hV.size) (by omega)
 have hl:=hz.1.open.1
 have hby:∀ z∈zs.take (len0-4),0≤z∧z≤255:=fun z h=>hz.2 z (List.mem_of_mem_take h)
 have hlt:(zs.take (len0-4)).length=len0-4:=by rw [List.length_take];omega
 obtain ⟨ys,hys⟩:∃ ys,ys=zs.take (len0-4):=⟨_,rfl⟩;rw [← hys] at kc hby hn hlt
 have hyl:ys.length≤20000:=by omega
 have hcf:f.cnt≤20000:=Nat.le_trans (Qet ys.length 1 ys f (QN _) hn) hyl;have KC:=QQ kc;have HZ:=QQ hz;have HO:=QQ ho;have HN:=QQ hn;clear hz kc hys ho hl hn;refine (callsIn_wide (n:=102)).1 ?_;refine callsIn_of_wp_marks Tryz.func5 rfl trivial ?_ rfl;simp only [Tryz.ntmps5,QS,List.length_cons,List.length_nil,Nat.reduceAdd,Nat.reduceSub,Array.replicate_succ,Array.replicate_zero,List.push_toArray,List.append_toArray,List.nil_append,List.cons_append];have hch:Fence.wide.fn 14:=trivial;have hch2:Fence.wide.fn 15:=trivial
 gi_wp2_with (gi_at_call 14;refine Qau ?_)
 unfold Qag;refine (callsIn_wide.2 ((QG KC) _ (by exact (QB _ _).alloc (QN _) _))).mono ?_;obtain ⟨V,hV⟩:∃ V,V=W.alloc (.cells imZ 29):=⟨_,rfl⟩
 have bV:Below W.heap.size W V:=by rw [hV];exact (QB _ _).alloc (QN _) _
 have e:V.heap[W.heap.size]?=some (.cells imZ 29):=by rw [hV];exact QW _ _
 have sV:W.heap.size<V.heap.size:=(QI.1 e).1;clear KC;rintro e' w1 ⟨b1,(⟨_,v,rfl,o1⟩ | ⟨h,_⟩)⟩
 rotate_left
 ·exact absurd (QG HO) h
 rw [show (W.alloc (.cells #[.slice none 0 0,.slice none 0 0,.slice none 0 0,.slice none 0 0,.slice none 0 0] 29))=V from hV.symm] at b1 o1;clear hV;obtain ⟨a1,c1,rfl,_⟩:=Qaa o1
 have r1:QaL w1.heap.size w1 (.slice a1 (len0-4) c1) ys:=QbM (by rw [hlt] at *;exact o1) hby _ _ fun b hb=>⟨rfl,(o1.lt b hb).2⟩
 have kt:=QiS ys w1 a1 (len0-4) c1 r1 (by omega);replace e:=(b1.block _ sV).trans e;replace bV:=bV.trans (b1.mono bV.size);have s1:W.heap.size<w1.heap.size:=(QI.1 e).1;clear b1 sV r1 o1 hby hlt
 gi_wp2_with (gi_at_call 15;refine Qau ?_)
 unfold Qag;refine (callsIn_wide.2 kt).mono ?_;rintro e' w2 ⟨b2,ra,rl,rc,E,rfl,(⟨h,rfl,rfl,rfl,rfl⟩ | ⟨f',hf',rfl,hS⟩)⟩
 ·rw [show Qa9 1 ys=some f from HN] at h;cases h
 obtain rfl:f'=f:=by rw [show Qa9 1 ys=some f from HN] at hf';injection hf' with h;exact h.symm
 replace e:=(b2.block _ s1).trans e;replace bV:=bV.trans (b2.mono bV.size);have s2:=b2.size;have HS:=QQ hS;clear kt b2 hS hf';rename_i K1 K2 aK1 aK2;have AK1:=QQ aK1;clear aK1
 gi_wp2
 refine (QG AK1) _ _ ?_;clear AK1;refine wpIn_seq_k (fun K3 aK=>?_);have AK3:=QQ aK;clear aK
 gi_wp2
 refine (QG AK3) _ _ ?_;clear AK3;refine wpIn_seq_k (fun K4 aK=>?_);have AK4:=QQ aK;clear aK
 gi_wp2
 refine (QG AK4) _ _ ?_;clear AK4;obtain ⟨X1,hX1⟩:∃ X1,X1=w2.alloc (.cells imZ 29):=⟨_,rfl⟩;have lW:W.heap.size<w2.heap.size:=(QI.1 e).1
 have bX:Below w2.heap.size w2 X1:=by rw [hX1];exact (QB _ _).alloc (QN _) _
 have inv:QaZ W ra rl rc f' w2.heap.size Mem.none X1 Sl5.none []:=⟨(QG HS).below bX,hcf,bV.trans (bX.mono bV.size),(bX.block _ lW).trans e,by rw [hX1];exact QW _ _,lW,Qbf.nil _ _,(fun D hD=>(by cases hD)),List.nodup_nil⟩;have hfine:=Qkz (QG HS) hcf;exact (show QcQ (RdQ B W zs (QcV f')) W (.slice a0 len0 cap0) ra rl rc f' w2.heap.size (tl 6 (Tryz.f5.body.getD .skip)) Mem.none from QpB B hB W a0 len0 cap0 zs HZ ra rl rc f' w2.heap.size hfine) _ _ _ _ _ _ _ _ _ _ _ _ _ _ _ _ _ _ _ _ _ _ _ _ _ _ _ _ _ _ _ _ _ _ _ _ _ _ _ _ _ _ _ _ _ _ _ _ _ _ _ _ _ _ _ _ _ _ _ _ _ _ _ _ _ _ _ _ _ _ _ _ _ _ _ _ _ _ _ _ _ _ _ _ _ _ _ _ _ _ _ _ _ _ _ _ _ _ _ _ _ _ _ _ _ _ _ _ _ _ _ _ _ _ _ _ _ _ _ _ _ _ _ _ _ _ _ _ _ _ _ _ _ _ _ _ _ _ _ _ _ _ _ _ _ _ _ _ _ _ _ _ _ _ _ _ _ _ _ _ _ _ _ _ _ _ _ _ _ _ _ _ _ _ _ _ _ _ _ _ _ _ (w2.alloc (.cells imZ 29)) Sl5.none [] (hX1▸inv)
def QhX (B:Im→Option (List Int)) (zs:List Int) (e:Ending) (W W':World):Prop :=
 ∃ (y:Mem) (s:Sl5) (E:Int),e=.returned (.tuple #[.agg (y.cells s).toArray,.int .i64 E])∧Below W.heap.size W W'∧Qb2 W'.heap.size W' y s ∧
  ((∃ f,QcW zs∧Qa9 1 (zs.take (zs.length-4))=some f∧B (QcV f)=some zs∧E=0∧y.im=QcV f) ∨
   (∃ f,QcW zs∧Qa9 1 (zs.take (zs.length-4))=some f∧B (QcV f)≠some zs∧E=240∧y=Mem.none∧s=Sl5.none) ∨
   (QcW zs∧Qa9 1 (zs.take (zs.length-4))=none∧E=220∧y=Mem.none∧s=Sl5.none)∨(¬ QcW zs∧E=230∧y=Mem.none∧s=Sl5.none))
theorem Ql9 (B:Im→Option (List Int)) (hB:Qe4 B) (W:World) (a0:Option Addr) (len0 cap0:Nat) (zs:List Int) (hz:QaL W.heap.size W (.slice a0 len0 cap0) zs) (hsm:zs.length≤20000) :
  Calls Tryz.prog 5 #[.slice a0 len0 cap0] W fun e W'=>QhX B zs e W W':=by
 have hl:=hz.1.open.1;by_cases ho:QcW zs
 ·rcases hn:Qa9 1 (zs.take (len0-4)) with _ | f
  ·refine (QnT W a0 len0 cap0 zs hz (by omega) ho hn).mono ?_
   rintro e W' ⟨rfl,b⟩;exact ⟨Mem.none,Sl5.none,220,rfl,b,Qb2.nil _ _,.inr (.inr (.inl ⟨ho,by rw [hl];exact hn,rfl,rfl,rfl⟩))⟩
  ·refine (QkQ B hB W a0 len0 cap0 zs hz hsm ho f hn).mono ?_
   rintro e W' ⟨y,s,E,rfl,b,h,(⟨h1,h2,h3⟩ | ⟨h1,h2,h3,h4⟩)⟩
   ·exact ⟨y,s,E,rfl,b,h,.inl ⟨f,ho,by rw [hl];exact hn,h1,h2,h3⟩⟩
   ·exact ⟨y,s,E,rfl,b,h,.inr (.inl ⟨f,ho,by rw [hl];exact hn,h1,h2,h3,h4⟩)⟩
 ·refine (QnS W a0 len0 cap0 zs hz (by omega) ho).mono ?_
  rintro e W' ⟨rfl,b⟩;exact ⟨Mem.none,Sl5.none,230,rfl,b,Qb2.nil _ _,.inr (.inr (.inr ⟨ho,rfl,rfl,rfl⟩))⟩
end
end Go.Proofs.YtejcandhijdnhaaGreat
