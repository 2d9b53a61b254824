/- Own texts of this seat, one behind the other, without needless spaces (part 6 of 26). -/
import Derived.Test.YtejcandhijdnhaaGreatMR01
import Derived.Test.YtejcandhijdnhaaGreatMR02
import Derived.Test.YtejcandhijdnhaaGreatMR03
import Derived.Test.YtejcandhijdnhaaGreatMR04
import Derived.Test.YtejcandhijdnhaaGreatMR05
import Derived.Deep.Onto
import Derived.Deep.Cut
import Derived.Deep.CutRange
import Derived.Deep.CutBlock
import Derived.Maps.AppendAt
import Derived.OwnWalk
import Derived.Deep.RegionHeld3
import Derived.Deep.AppendLies
import Derived.WalkKit
import Derived.Test.YtejcandhijdnhaaGreatRows
import Derived.ProofKit
import Derived.Deep.QuietTactic
import Derived.BigQuiet
import Derived.Lib.Hide
import Derived.Below
import Derived.RangeFuncBox
import Derived.WalkSpells
import Derived.WalkLawsBesides
import Derived.Laws.NewBlocks
import Derived.RangeFuncLeaves
import Derived.Shelf.Abstract
import Derived.OwnWalkIn
import Derived.TacticsInMore
import Derived.LoopNIn
import Derived.LoopIn
import Derived.BigFrameIn
import Derived.BigRegionIn
namespace Go.Proofs.YtejcandhijdnhaaGreat
open Go Go.RowKit
set_option linter.unusedVariables false
set_option linter.unusedSimpArgs false
set_option linter.unnecessarySimpa false
set_option maxRecDepth 100000
set_option maxHeartbeats 16000000
section
attribute [local go_sem] Oper.semAt_some
def Qc9 (bs:List Int) (k:Nat):List Int:=(List.range k).map fun i=>((leW bs (4*i) (min 4 (bs.length-4*i)):Nat):Int)
def Qbd (bs:List Int):List Int:=Qc9 bs ((bs.length+3) / 4)
theorem QjF (bs:List Int) (k:Nat):Qc9 bs (k+1)=Qc9 bs k++[((leW bs (4*k) (min 4 (bs.length-4*k)):Nat):Int)]:=by simp [Qc9,List.range_succ]
theorem QdV (bs:List Int) (k:Nat):(Qc9 bs k).length=k:=by simp [Qc9]
def Qcd (tag:Int) (fs:List (Fe × List Int)) (j:Nat):List (Fe × List Int):=(fs.take j).filter (fun x=>x.1.t == tag)
def Qak (tag:Int) (fs:List (Fe × List Int)):List (Fe × List Int):=fs.filter (fun x=>x.1.t == tag)
theorem Qjl (tag:Int) (fs:List (Fe × List Int)):Qcd tag fs fs.length=Qak tag fs:=by unfold Qcd Qak;rw [List.take_of_length_le (QN _)]
theorem QiA (tag:Int) (fs:List (Fe × List Int)) (j:Nat) (h:j<fs.length):Qcd tag fs (j+1)=Qcd tag fs j++(if fs[j].1.t=tag then [fs[j]] else []):=by
 unfold Qcd;rw [List.take_succ_eq_append_getElem h,List.filter_append]
 by_cases e:fs[j].1.t=tag <;> simp [e]
theorem QkM (tag:Int) (fs:List (Fe × List Int)) (j:Nat) (h:j<fs.length) (ht:fs[j].1.t=tag):∃ hl:(Qcd tag fs j).length<(Qak tag fs).length,(Qak tag fs)[(Qcd tag fs j).length]=fs[j]:=by
 have e:Qak tag fs=Qcd tag fs j++([fs[j]]++(fs.drop (j+1)).filter (fun x=>x.1.t == tag)):=by
  unfold Qak Qcd
  conv=>lhs;rw [← List.take_append_drop j fs]
  rw [List.filter_append,List.drop_eq_getElem_cons h,List.filter_cons_of_pos (by simpa using ht)];rfl
 have hl:(Qcd tag fs j).length<(Qak tag fs).length:=by rw [e];simp
 refine ⟨hl,?_⟩
 have:(Qak tag fs)[(Qcd tag fs j).length]?=some fs[j]:=by
  rw [e,List.getElem?_append_right (QN _),Nat.sub_self];rfl
 rw [List.getElem?_eq_getElem hl] at this;injection this
def Qo (W:World) (e:Fe × List Int) (args:Array Value) (G:Nat→Prop):Prop :=
 ∃ v,args=#[.agg e.1.cells.toArray,v]∧W.ownsRow 0 40 1 v ((e.2.length+3) / 4) ((Qbd e.2).map (Value.int .u32))∧G=fun b=>v.ownBlock=some b
theorem Qo.keep (W W':World) (x:Fe × List Int) (args:Array Value) (G:Nat→Prop) (h:Qo W x args G) (hs:W.heap.size≤W'.heap.size) (hb:∀ b,G b→W'.heap[b]?=W.heap[b]?):Qo W' x args G:=by
 obtain ⟨v,e1,e2,rfl⟩:=h;exact ⟨v,e1,Qac e2 hb,rfl⟩
theorem Qjh (B1 B2:Nat) (a:Option Addr) (cap:Nat) (tag:Int) (fs:List (Fe × List Int)) (w:World) (h1:B1<w.heap.size) (h2:B2<w.heap.size) (c1:w.cell? ⟨B1,0,none⟩=some (.slice a fs.length cap)) (c2:w.cell? ⟨B2,0,none⟩=some (.int .i64 tag))
  (hf:Qf6 w w.heap.size a (fs.map (·.1))) (hby:∀ e∈fs,QaL w.heap.size w (.slice e.1.a e.1.l e.1.c) e.2) (hsm:fs.length≤1000000) (hbs:∀ e∈fs,e.2.length≤1048576) :
  Qpc Tryz.prog 57 #[.pointer (some ⟨B1,0,none⟩),.pointer (some ⟨B2,0,none⟩)] Qo (fun b=>b=B1∨b=B2∨QaO (.slice a fs.length cap) b∨∃ e∈fs,QaO (.slice e.1.a e.1.l e.1.c) b) (Qak tag fs) w:=by
 intro l J Jx S0 W hW hJ hJx hlt hX hY h0;have C1:W.cell? ⟨B1,0,none⟩=some (.slice a fs.length cap):=(hW.cell (p:=⟨B1,0,none⟩) h1).trans c1;have C2:W.cell? ⟨B2,0,none⟩=some (.int .i64 tag):=(hW.cell (p:=⟨B2,0,none⟩) h2).trans c2;have hWs:=hW.size;have x1:¬ S0 B1:=hX _ (.inl rfl);have x2:¬ S0 B2:=hX _ (.inr (.inl rfl));refine (callsIn_wide (n:=101)).1 ?_;refine callsIn_of_wp_marks Tryz.func57 rfl trivial ?_ rfl;simp only [Tryz.ntmps57,QS,List.length_cons,List.length_nil,Nat.reduceAdd,Nat.reduceSub,Array.replicate_succ,Array.replicate_zero,List.push_toArray,List.append_toArray,List.nil_append,List.cons_append];refine Qel ?_
 gi_wp2
 refine wpIn_label ?_
 gi_wp2
 refine wpIn_loop (fun a' w'=>∃ (u5 u6 u7 u8 u9 u10 u13 u14 u15 u16 u17 u18 u19 u20 u21 u22 u23 u24 u25 u26 u27 u28 u29 u30 u31 u32 u33 u34 u35 u36 u37 u38 u39 u40 u41 u42 u43 u44 u45 u46 u47 u48 u49:Value) (dd:List Deferred),(∃ (j:Nat) (S:Nat→Prop),u13=.int .i64 (j:Int)∧j≤fs.length∧J (Qcd tag fs j).length S w'∧Wr S0 S W w'∧QeS W.heap.size S w' dd)∧a' = { tmps:=#[.func (.yield l) #[] #[],.pointer (some ⟨B1,0,none⟩),.pointer (some ⟨B2,0,none⟩),undef,undef,u5,u6,u7,u8,u9,u10,.slice a fs.length cap,.int .i64 (fs.length:Int),u13,u14,u15,u16,u17,u18,u19,u20,u21,u22,u23,u24,u25,u26,u27,u28,u29,u30,u31,u32,u33,u34,u35,u36,u37,u38,u39,u40,u41,u42,u43,u44,u45,u46,u47,u48,u49],defers:=dd })
  (fun a' _=>fs.length-(intOf (a'.tmps.getD 13 undef)).toNat) ?_ ?_
 ·refine ⟨_,_,_,_,_,_,_,_,_,_,_,_,_,_,_,_,_,_,_,_,_,_,_,_,_,_,_,_,_,_,_,_,_,_,_,_,_,_,_,_,_,_,_,[],?_,rfl⟩
  exact ⟨0,S0,rfl,Nat.zero_le _,h0,Wr.refl _ _,trivial⟩
 ·rintro _ wr ⟨u5,u6,u7,u8,u9,u10,u13,u14,u15,u16,u17,u18,u19,u20,u21,u22,u23,u24,u25,u26,u27,u28,u29,u30,u31,u32,u33,u34,u35,u36,u37,u38,u39,u40,u41,u42,u43,u44,u45,u46,u47,u48,u49,dd,⟨j,S,rfl,hj,hJs,hw,hmk⟩,rfl⟩
  by_cases hlj:j<fs.length
  ·have t1:decide ((j:Int)<((fs.length:Nat):Int))=true:=by simp;omega
   have hws:=hw.size
   obtain ⟨fb,fo,rfl,hfb,hfc⟩:∃ b off,a=some ⟨b,off,none⟩∧b<w.heap.size∧∀ i (h:i<fs.length),∀ j v,(fs[i].1).cells[j]?=some v→w.cell? ⟨b,off+i*3+j,none⟩=some v:=by
    rcases hf with h | ⟨b,off,e1,e2,e3⟩
    ·have:=List.map_eq_nil_iff.1 h;rw [this] at hlj;exact absurd hlj (by simp)
    ·exact ⟨b,off,e1,e2,fun i h j v hv=>e3 i (by simpa using h) j v (by simpa using hv)⟩
   have xf:¬ S0 fb:=hX _ (.inr (.inr (.inl ⟨by omega,rfl⟩)))
   have hcs:∀ q v,(fs[j].1).cells[q]?=some v→wr.cell? ⟨fb,fo+j*3+q,none⟩=some v:=fun q v hq =>
    QaF (p:=⟨fb,fo+j*3+q,none⟩) ((hw.block fb (by omega) xf).trans (hW.block fb hfb)) (hfc j hlj q v hq)
   have hc2:wr.cell? ⟨B2,0,none⟩=some (.int .i64 tag):=QaF (hw.block B2 (by omega) x2) C2;have hmj:fs[j]∈fs:=List.getElem_mem hlj
   have hrj:QaL wr.heap.size wr (.slice (fs[j].1).a (fs[j].1).l (fs[j].1).c) fs[j].2∧∀ b,QaO (.slice (fs[j].1).a (fs[j].1).l (fs[j].1).c) b→¬ S b∧b<W.heap.size:=by
    have h20:=hby _ hmj;refine ⟨(h20.same fun b hb=>(hw.block b (by have:=h20.lt b hb;omega) (hX _ (.inr (.inr (.inr ⟨_,hmj,hb⟩))))).trans (hW.block b (h20.lt b hb))).mono (by omega),fun b hb=>?_⟩;have h21:=h20.lt b hb;exact ⟨fun h=>(hw.new b h).elim (hX _ (.inr (.inr (.inr ⟨_,hmj,hb⟩)))) (fun h=>by omega),by omega⟩
   have hbl:=hbs _ hmj;obtain ⟨X,hX'⟩:∃ X,X=fs[j]:=⟨_,rfl⟩;have htk:=QiA tag fs j hlj
   have hat:=fun hn=>QkM tag fs j hlj hn
   rw [← hX'] at hcs htk hat hrj hbl;obtain ⟨⟨xt,xa,xl,xc,xka,xkl,xkc⟩,bs⟩:=X;dsimp only at hcs hrj hbl;obtain ⟨Cs,hCs⟩:∃ Cs:List Value,Cs=[.int .i64 xt,.slice xa xl xc,.slice xka xkl xkc]:=⟨_,rfl⟩;rw [show Fe.cells ⟨xt,xa,xl,xc,xka,xkl,xkc⟩=Cs from hCs.symm] at hcs;obtain ⟨hrj,hrn⟩:=hrj
   have hC3:Cs.length=3:=by rw [hCs];rfl
   have hC1:Cs.toArray.all (·.oneCell')=true:=by rw [hCs];simp [Value.oneCell']
   have hCz:Cs.toArray.size=3:=by rw [hCs];rfl
   have HCs:=QQ hCs;clear hCs;have HC:=QQ hcs;clear hX' hcs hmj
   gi_wp2_with ((fail_if_success (unfold Qag));refine Qd5 (t:=66) rfl ?_)
   unfold Qag;refine QbC rfl 66 (.tmp 15) rfl fb (fo+j*3) rfl Cs _ HC Tryz.underlying66 rfl (by rw [hC3];exact QbO) ?_
   gi_wp2_with ((fail_if_success (unfold Qag));refine QaV (t:=66) rfl ?_)
   unfold Qag;refine QaD rfl 66 (.tmp 5) (.tmp 16) rfl wr.heap.size Cs.toArray rfl rfl 66 zT (QW _ _) (by rw [hCz];exact QbO) (by rw [hCz];rfl) hC1 ?_;rw [World.setRow_alloc_new];obtain ⟨O,hO⟩:∃ O,O=Obj.cells Cs.toArray 66:=⟨_,rfl⟩;obtain ⟨V,hV⟩:∃ V,V=wr.alloc O:=⟨_,rfl⟩
   have sS:QaM (fun b=>b<wr.heap.size) wr V:=by rw [hV];exact ⟨rfl,rfl,rfl,by simp,fun b hb=>Below.heap_alloc _ _ _ hb⟩
   have hSl:∀ b,S b→b<wr.heap.size:=fun b h=>hlt _ _ _ hJs b h
   have hJz:=hJ _ _ _ V hJs (sS.mono fun b hb=>hb.elim (fun h=>by omega) (hSl b))
   have hwz:Wr S0 S W V:=by rw [hV];exact hw.alloc O
   have hmz:QeS W.heap.size S V dd:=hmk.keep dd fun D _ _ q2 q3=>⟨q2,sS.block D q3⟩
   have e5:V.heap[wr.heap.size]?=some O:=by rw [hV];exact QW _ _
   have sz:V.heap.size=wr.heap.size+1:=by rw [hV];simp
   rw [hO] at e5
   have k0:V.cell? ⟨wr.heap.size,0,none⟩=some (.int .i64 xt):=by rw [cell_of_row V _ 0 _ _ _ e5,show Cs=_ from HCs];rfl
   have hc2:V.cell? ⟨B2,0,none⟩=some (.int .i64 tag):=QaF (sS.block B2 (by show B2<_;omega)) hc2;have sSb:∀ b,b<wr.heap.size→V.heap[b]?=wr.heap[b]?:=sS.block;rw [← hO,← hV]
   have n5:¬ S wr.heap.size:=fun h=>by have:=hSl _ h;omega
   obtain ⟨Z,hZ⟩:∃ Z,Z=wr.heap.size:=⟨_,rfl⟩;rw [← hZ] at e5 k0 n5 sz hws ⊢;rw [← hZ] at sSb hrj;clear hO hV hJs hw hmk HC sS hSl hZ;by_cases hn:xt=tag
   rotate_left
   ·have t2:(xt != tag)=true:=by simpa using hn
    rw [if_neg (show ¬ (Fe.t ⟨xt,xa,xl,xc,xka,xkl,xkc⟩=tag) from hn),List.append_nil] at htk;have HT:=QQ htk;clear hn htk hat
    gi_wp2
    refine ⟨⟨_,_,_,_,_,_,_,_,_,_,_,_,_,_,_,_,_,_,_,_,_,_,_,_,_,_,_,_,_,_,_,_,_,_,_,_,_,_,_,_,_,_,_,dd,⟨j+1,S,rfl,by omega,?_,hwz,hmz⟩,rfl⟩,?_⟩
    ·rw [show Qcd tag fs (j+1)=Qcd tag fs j from HT];exact hJz
    ·simp [intOf];omega
   ·have t2:(xt != tag)=false:=by simpa using hn
    rw [if_pos (show Fe.t ⟨xt,xa,xl,xc,xka,xkl,xkc⟩=tag from hn)] at htk;obtain ⟨g1,g2⟩:=hat hn
    have hlen:(Qcd tag fs (j+1)).length=(Qcd tag fs j).length+1:=by rw [htk];simp
    obtain ⟨c,hc⟩:∃ c,c=(Qcd tag fs j).length:=⟨_,rfl⟩;rw [← hc] at hJz hlen
    have hY2:=fun (S:Nat→Prop) (W1:World) (args:Array Value) (G:Nat→Prop) (h:J c S W1)=>hY _ g1 S W1 args G (by rw [← hc];exact h)
    rw [g2,← hc] at hY2
    have hc3:c+1≤(Qak tag fs).length:=by rw [hc];exact g1
    have HL:=QQ hlen
    have k1:V.cell? ⟨Z,1,none⟩=some (.slice xa xl xc):=by rw [cell_of_row V _ 1 _ _ _ e5,show Cs=_ from HCs];rfl
    have hrV:QaL V.heap.size V (.slice xa xl xc) bs:=(hrj.same fun b hb=>sSb b (hrj.lt b hb)).mono (by omega);have hxl:bs.length=xl:=hrj.1.open.1;clear g2 g1 htk hlen hat hn hc hrj sSb;have hch:Fence.wide.fn 58:=trivial
    gi_wp2_with (gi_at_call 58;refine (QjP Fence.wide _ trivial rfl _ _ _ _).mono ?_;rintro e w' ⟨rfl,rfl⟩)
    clear hch;obtain ⟨W3,hW3⟩:∃ W3,W3=((V.alloc (Obj.cells #[.slice none 0 0] 78)).alloc (Obj.cells #[.slice xa xl xc] 22)).alloc (Obj.cells #[.int .i64 4] 3):=⟨_,rfl⟩
    have s3:W3.heap.size=Z+4:=by rw [hW3];simp;omega
    have b3:Below V.heap.size V W3:=by rw [hW3];exact (((QB _ _).alloc (QN _) _).alloc (by simp) _).alloc (by simp;omega) _
    have f6:W3.heap[Z+1]?=some (.cells #[.slice none 0 0] 78):=by
     rw [hW3,← sz];exact ((((QB _ _).alloc (QN _) _).alloc (by simp) _:Below _ (V.alloc (Obj.cells #[.slice none 0 0] 78)) _).block V.heap.size (by simp)).trans (QW _ _)
    have cB:W3.cell? ⟨Z+1+1,0,none⟩=some (.slice xa xl xc):=by
     rw [hW3];refine (((QB _ _).alloc (QN _) _).cell (p:=⟨Z+1+1,0,none⟩) (by simp;omega)).trans ?_;have:=World.cell?_alloc_mark (V.alloc (.cells #[.slice none 0 0] 78)) #[.slice xa xl xc] 22 (0,0) 0;simpa [sz] using this
    have cN:W3.cell? ⟨Z+1+1+1,0,none⟩=some (.int .i64 4):=by
     rw [hW3];have:=World.cell?_alloc_mark ((V.alloc (.cells #[.slice none 0 0] 78)).alloc (.cells #[.slice xa xl xc] 22)) #[.int .i64 4] 3 (0,0) 0;simpa [sz] using this
    rw [← hW3];clear hW3
    have hSl:∀ b,S b→b<V.heap.size:=fun b h=>hlt _ _ _ hJz b h
    have hr3:QaL W3.heap.size W3 (.slice xa xl xc) bs:=(hrV.same fun b hb=>b3.block b (hrV.lt b hb)).mono b3.size
    have hrl3:∀ b,QaO (.slice xa xl xc) b→b<W.heap.size:=fun b hb=>(hrn b hb).2
    obtain ⟨i0,hi,hz0,hz1,hz2⟩:=info_parts QhP
    refine Qeg (gf:=87) rfl (enters_of Tryz.func87 (by kernel_rfl) rfl)
     (Qgx (Z+1+1) (Z+1+1+1) _ bs W3 (by omega) (by omega) cB cN hr3 (by omega)) (fun _=>rfl)
     (fun k S' A=>∃ v,S'=(fun b=>S b∨b=Z+1∨v.ownBlock=some b)∧Boxed A (Z+1) 78 v∧A.ownsRow (Z+1) 40 1 v k ((Qc9 bs k).map (Value.int .u32))∧QaM (fun b=>b<W3.heap.size∧b≠Z+1) W3 A∧(∀ b,v.ownBlock=some b→W3.heap.size≤b))
     (fun _ _ _ _=>False) (fun b=>S b∨b=Z+1) ?hX ?hI ?hIx ?hlt ?h0
     (fun k=>{ tmps:=#[.func (.yield l) #[] #[],.pointer (some ⟨B1,0,none⟩),.pointer (some ⟨B2,0,none⟩),undef,undef,.pointer (some ⟨Z,0,none⟩),.pointer (some ⟨Z+1,0,none⟩),QhG (.slice xa xl xc) k,u8,u9,u10,.slice (some ⟨fb,fo,none⟩) fs.length cap,.int .i64 (fs.length:Int),.int .i64 (j:Int),.bool true,.pointer (some ⟨fb,fo+j*3,none⟩),.agg Cs.toArray,.pointer (some ⟨Z,0,none⟩),.int .i64 xt,.int .i64 tag,.bool false,.pointer (some ⟨Z,1,none⟩),.slice xa xl xc,.func (.func 87) #[] #[.pointer (some ⟨Z+1+1,0,none⟩),.pointer (some ⟨Z+1+1+1,0,none⟩)],QhG (.slice xa xl xc) k,u25,u26,u27,u28,u29,u30,u31,u32,u33,u34,u35,u36,u37,u38,u39,u40,u41,u42,u43,u44,u45,u46,u47,u48,u49],defers:=[] }) ?assign ?body ?done ?stop
    case hX =>
     rintro b (rfl | rfl | hb)
     ·exact ⟨by omega,fun h=>h.elim (fun h=>by have:=hSl _ h;omega) (fun h=>by omega)⟩
     ·exact ⟨by omega,fun h=>h.elim (fun h=>by have:=hSl _ h;omega) (fun h=>by omega)⟩
     ·have h20:=hrn b hb
      exact ⟨by omega,fun h=>h.elim h20.1 (fun h=>by omega)⟩
    case hI =>
     rintro k S' A A' ⟨v,rfl,q1,q2,q3,q4⟩ hs;refine ⟨v,rfl,(hs.block _ (.inr (.inr (.inl rfl)))).trans q1,Qac q2 fun b hb=>hs.block b (.inr (.inr (.inr hb))),q3.trans (hs.mono fun b hb=>.inl hb.1),q4⟩
    case hIx =>
     rintro c k S A A' hf _;exact hf
    case hlt =>
     rintro k S' A ⟨v,rfl,q1,q2,q3,q4⟩ b (hb | rfl | hb)
     ·have:=q3.size
      have:=hSl b hb;omega
     ·exact q1.lt
     ·exact (q2.lt b hb).2
    case h0 =>
     refine ⟨.slice none 0 0,?_,f6,World.ownsRow_nil _ _ _ _,QaM.refl _ _,fun b hb=>by simp [Value.ownBlock] at hb⟩
     funext b;simp [Value.ownBlock]
    case assign =>
     intro l' k A K hK
     gi_wp2
     exact hK
    case stop =>
     rintro D c' k S' A hD hS hk hf;exact hf.elim
    case body =>
     rintro l' k hk S' A ⟨v,rfl,q1,q2,q3,q4⟩;rw [show (List.range ((bs.length+3) / 4))[k]=k from by simp]
     have hN:k<(bs.length+3) / 4:=by simpa using hk
     have hz:=hr3.2;have q3s:=q3.size
     rcases hr3.1 with ⟨a',cp',h,rfl⟩ | ⟨rb,ro,cp,h,hrb,hle,hcap,hrc⟩
     ·simp at hN
     injection h with h20 h22 h21
     clear h22;subst h20;subst h21;have hrb2:=(hrn rb ⟨by omega,rfl⟩).2
     have hcA:∀ j,j<bs.length→A.cell? ⟨rb,ro+j,none⟩=some (.int .u8 (bs.getD j 0)):=fun j hj2=>QaF (p:=⟨rb,ro+j,none⟩) (q3.block rb ⟨by omega,by omega⟩) (hrc j hj2)
     have q1c:=q1.cell;have q1f:=q1.frozen;have q1l:=q1.lt;simp only [QhG,Addr.add_lit];obtain ⟨m,hm⟩:∃ m,m=min 4 (xl-4*k):=⟨_,rfl⟩;rw [← hm];have hwk:=QjF bs k;rw [hxl,← hm] at hwk
     have m1:4*k+m≤bs.length:=by omega
     have m2:m≤4:=by omega
     have m4:1≤m:=by omega
     have hkl:k<140737488350000:=by omega
     have HW:=QQ hwk;have HQ:=QQ q4;clear hm hwk hr3 hrn hrV e5 cB cN f6 hrc q4 hY hY2 hX hfc hf hby hbs h0 hJ hJx hlt hmz hwz hJz C1 C2 c1 c2 hc2 k0 k1 hrl3 b3 x1 x2 xf hC1 hCz hC3 t1 t2
     gi_wp2
     gi_loopw [8,27] (fun acc i wr=>∃ j:Nat,j≤m∧i=.int .i64 j∧acc=.int .u32 (leW bs (4*k) j)∧wr=A) (fun _ i _=>m-(intOf i).toNat)
     case atStart=>exact ⟨0,Nat.zero_le _,rfl,rfl,rfl⟩
     case round =>
      obtain ⟨jj,hjj,rfl,rfl,rfl⟩:=hrel;by_cases hlt2:jj<m
      ·have hcj:=hcA (4*k+jj) (by omega)
       rw [← Nat.add_assoc] at hcj
       obtain ⟨C,hC,hC2⟩:∃ C:Nat,bs.getD (4*k+jj) 0=C∧C≤255:=by
        have h:=hz (bs[4*k+jj]'(by omega)) (List.getElem_mem _);exact ⟨(bs[4*k+jj]'(by omega)).toNat,by simp [List.getD,List.getElem?_eq_getElem (show 4*k+jj<bs.length by omega)];omega,by omega⟩
       rw [hC] at hcj
       have h8:8*(jj:Int)≤24:=by omega
       have hl:=Qhu bs hz (4*k) jj;have hC3:=QQ hC;clear hC
       gi_wp2
       refine ⟨⟨jj+1,by omega,by simp,QmU ?_,trivial⟩,by simp [intOf];omega⟩;rw [Qml _ _ jj (by omega) hl hC2];have hC:bs.getD (4*k+jj) 0=C:=hC3;simp only [leW,hC,Int.toNat_natCast]
      ·obtain rfl:jj=m:=by omega
       obtain ⟨x,hx⟩:∃ x,x=leW bs (4*k) jj:=⟨_,rfl⟩;rw [← hx];have HX:=QQ hx;have HN:=QQ (cell_one_new wr (.int .u32 x) 40);have hSl2:=hSl;clear hx hcA
       gi_wp2_with (gi_at_builtin;refine Qau ?_)
       unfold Qag;refine wpListIn_append_own_at _ rfl _ _ 78 rfl (Z+1) 40 i0 (.int .u32 0) 1 4 Tryz.underlying78 hi hz0 hz1 hz2 rfl (by decide) v k _ rfl (q2.alloc _) ⟨wr.heap.size,0,none⟩ 1 1 [.int .u32 x] rfl rfl HN (by simp [Value.oneCell']) (by simp only [maxLen];omega) (by omega) (by rw [World.size_alloc];omega) ?_;intro v' w1 hown' hgrow hnil hv;obtain ⟨g',cap',rfl⟩:=ownsRow_succ hown';obtain ⟨hv1,hv2,hr2,hk2,hb2⟩:=q1.appended (by decide) q2 (by omega) (QN _) hown' hgrow;have hc1:=hv1.cell;have hf1:=hv1.frozen;have HZ:=QQ (QA hv2 (QA hr2 (QA hgrow hv)));clear hv2 hr2 hgrow hv hnil hown' hk2 hb2 hv1 q1c q1f HN
       gi_wp2
       obtain ⟨hv2,hr2,hgrow,hv⟩:=(QG HZ);have hx:x=leW bs (4*k) jj:=HX;have q4:∀ b,v.ownBlock=some b→W3.heap.size≤b:=HQ
       have hgo:∀ b,(Value.slice (some ⟨g',0,none⟩) (k+1) cap').ownBlock=some b→v.ownBlock=some b∨wr.heap.size+1≤b:=fun b hb=>by
        rcases hv with hv | hv
        ·exact .inl (by rw [← hv];exact hb)
        ·rw [hv,World.size_alloc] at hb
         injection hb with hb
         exact .inr (by omega)
       refine ⟨fun b=>S b∨b=Z+1∨(Value.slice (some ⟨g',0,none⟩) (k+1) cap').ownBlock=some b,⟨_,rfl,hv2,?_,?_,?_⟩,?_⟩
       ·rw [show Qc9 bs (k+1)=_ from HW,List.map_append,← hx];exact hr2
       ·have hs1:QaM (fun b=>b<W3.heap.size∧b≠Z+1) wr w1:=⟨hgrow.os,hgrow.tape,hgrow.output,by have:=hgrow.size;rw [World.size_alloc] at this;omega,fun b hb=>(hgrow.block b (by rw [World.size_alloc];omega) (fun e=>by have:=q4 b e.symm;omega)).trans (Below.heap_alloc _ _ _ (by omega))⟩
        refine (q3.trans hs1).trans ⟨rfl,rfl,rfl,by show _≤(w1.heap.modify _ _).size;rw [Array.size_modify];exact QN _,fun b hb=>Below.heap_setCell _ _ _ _ hb.2⟩
       ·intro b hb
        rcases hgo b hb with h | h
        ·exact q4 b h
        ·omega
       ·refine ((((Wr.refl (fun b=>S b∨b=Z+1∨v.ownBlock=some b) wr).alloc (.cells #[.int .u32 x] 40)).grown hgrow (fun b hb=>.inl (.inr (.inr hb)))).setCell (p:=⟨Z+1,0,none⟩) (.inl (.inr (.inl rfl))) _).to ?_
        rintro b (hb | rfl | hb)
        ·exact .inl (.inl hb)
        ·exact .inl (.inr (.inl rfl))
        ·rcases hgo b hb with h | h
         ·exact .inl (.inr (.inr h))
         ·exact .inr (by omega)
    case done =>
     rintro D S' A hD hS ⟨v,rfl,q1,q2,q3,q4⟩ hK
     try dsimp only
     rw [List.length_range] at q2;have q3s:=q3.size
     have nG:∀ b,v.ownBlock=some b→¬ S b:=fun b hb h=>by have:=hSl b h;have:=q4 b hb;omega
     have keep:∀ b,b<V.heap.size→A.heap[b]?=V.heap[b]?:=fun b hb=>(q3.block b ⟨by omega,by omega⟩).trans (b3.block b hb)
     have hJA:J c S A:=hJ _ _ _ A hJz ⟨q3.os.trans b3.os,q3.tape.trans b3.tape,q3.output.trans b3.output,Nat.le_trans b3.size q3.size,fun b hb=>keep b (hb.elim (fun h=>by omega) (hSl b))⟩;have wA:Wr S0 (fun b=>S b∨v.ownBlock=some b) W A:=(hwz.trans (⟨q3.os.trans b3.os,q3.tape.trans b3.tape,q3.output.trans b3.output,Nat.le_trans b3.size q3.size,fun b hb _=>keep b hb,fun b h=>h.elim .inl (fun h=>.inr (by have:=q4 b h;omega))⟩:Wr S (fun b=>S b∨v.ownBlock=some b) V A));have e5A:A.heap[Z]?=some (.cells Cs.toArray 66):=(keep Z (by omega)).trans e5
     have gD:∀ b,v.ownBlock=some b→∀ o,A.heap[b]?=some (.deferred o)→False:=fun b hb o ho=>by
      rcases q2.2 with ⟨h,_⟩ | ⟨g,cp,cur,h,_,h21,_⟩
      ·rw [h] at hb;simp [Value.ownBlock] at hb
      ·rw [h] at hb;simp [Value.ownBlock] at hb;subst hb;rw [h21] at ho;cases ho
     have mA:QeS W.heap.size (fun b=>S b∨v.ownBlock=some b) A (QeE D::dd):=by
      refine ⟨⟨D,rfl,by omega,fun h=>h.elim (fun h=>hS (.inl h)) (fun h=>hS (.inr (.inr h))),hK,fun h=>?_⟩,hmz.keep dd fun D2 hm2 _ q5 q6=>⟨fun h=>h.elim q5 fun h=>by have:=q4 _ h;omega,keep D2 q6⟩⟩;have:=QeS.lt dd hmz h;omega
     have z0:A.cell? ⟨Z,0,none⟩=some (.int .i64 xt):=by rw [cell_of_row A _ 0 _ _ _ e5A,show Cs=_ from HCs];rfl
     have z1:A.cell? ⟨Z,1,none⟩=some (.slice xa xl xc):=by rw [cell_of_row A _ 1 _ _ _ e5A,show Cs=_ from HCs];rfl
     have z2:A.cell? ⟨Z,2,none⟩=some (.slice xka xkl xkc):=by rw [cell_of_row A _ 2 _ _ _ e5A,show Cs=_ from HCs];rfl
     have z6:=q1.cell;have hE:Qo A (⟨xt,xa,xl,xc,xka,xkl,xkc⟩,bs) #[.agg #[.int .i64 xt,.slice xa xl xc,.slice xka xkl xkc],v] (fun b=>v.ownBlock=some b):=⟨v,rfl,World.ownsRow.mono q2 (Nat.zero_le _),rfl⟩;obtain ⟨fn,tmps,assign,body,hy,hR⟩:=hY2 S A _ _ hJA hE (fun b hb=>⟨by have:=q4 b hb;omega,(q2.lt b hb).2,nG b hb⟩);have hDA:=(QI.1 hK).1;clear e5 k0 k1 hc2 e5A hJz hwz hmz cB cN f6 hJA hY2 b3 q1 q2 q3 hE keep hrV hr3 hrn gD
     gi_wp2
     refine hR.mono ?_;rintro e W4 (⟨rfl,S4,hJ4,hw4⟩ | ⟨rfl,S4,hJx4,hw4⟩)
     ·have w4:=wA.trans hw4
      have m4:QeS W.heap.size S4 W4 (QeE D::dd):=mA.keep _ fun D2 q q1 q2 q3=>⟨fun h=>(hw4.new _ h).elim q2 (fun h=>by omega),hw4.block D2 q3 q2⟩
      clear hy hR z0 z1 z2 z6
      gi_wp2
      refine ⟨⟨_,_,_,_,_,_,_,_,_,_,_,_,_,_,_,_,_,_,_,_,_,_,_,_,_,_,_,_,_,_,_,_,_,_,_,_,_,_,_,_,_,_,_,QeE D::dd,⟨j+1,S4,rfl,by omega,?_,w4,m4⟩,rfl⟩,?_⟩
      ·rw [show (Qcd tag fs (j+1)).length=c+1 from HL];exact hJ4
      ·simp [intOf];omega
     ·have m4:QeS W.heap.size S4 W4 (QeE D::dd):=mA.keep _ fun D2 q q1 q2 q3=>⟨fun h=>(hw4.new _ h).elim q2 (fun h=>by omega),hw4.block D2 q3 q2⟩
      clear hy hR z0 z1 z2 z6
      gi_wp2
      simp only [Exit.noGoto]
      refine Qec (B:=W.heap.size) (S:=S4) (fun W5 hR=>⟨_,results_none rfl _ _ _,hR W5 (QaM.refl _ _)⟩) (QeE D::dd) W4 m4 fun W5 h=>?_
      exact ⟨⟨_,rfl⟩,.inr ⟨c+1,S4,hc3,hJx _ _ _ _ hJx4 h⟩⟩
  ·have t1:decide ((j:Int)<((fs.length:Nat):Int))=false:=by simp;omega
   obtain rfl:j=fs.length:=by omega
   gi_wp2
   simp only [Exit.noGoto]
   refine Qec (B:=W.heap.size) (S:=S) (fun W5 hR=>⟨_,results_none rfl _ _ _,hR W5 (QaM.refl _ _)⟩) dd wr hmk fun W5 h=>?_
   exact ⟨⟨_,rfl⟩,.inl ⟨S,by rw [← Qjl];exact hJ _ _ _ _ hJs h⟩⟩
end


section
attribute [local go_sem] QaB QaJ QaA
theorem QaT {fn:Func} {p u:Tmp} {ty:TypeId} (h:fn.results=#[.cell p ty,.tmp u]) (tmps:Array Value) (P:Program) (w:World) (g:Nat) (t:TypeId) (cs:Array Value) (fr:Nat × Nat) (d:Array Field)
  (hp:tmps.getD p undef=.pointer (some ⟨g,0,none⟩)) (hg:w.heap[g]?=some (.cells cs t fr))
  (hu:P.underlying ty=some (.struct d)) (hi:(P.info? ty).map (·.size)=some cs.size) :
  (results fn tmps).run P w=.ok (.tuple #[.agg cs,tmps.getD u undef]) w:=by
 have hp':tmps[p]?.getD undef=.pointer (some ⟨g,0,none⟩):=by simpa using hp
 simp [results,h,hp',asAddr,run_loadVar_row w g t ty cs fr (.struct d) hg hu rfl hi]
def Qah:Forest→Int→Int→Option (List Int × Forest)
 | .nil,_,_=>none
 | .cons t b k r,tag,n=>if t=tag then (if n=0 then some (b,k) else Qah r tag (n-1)) else Qah r tag n
structure Fld (W:World) (t:Int) (bs:List Int) (k:Forest) (a:Option Addr) (len cap:Nat) (ka:Option Addr) (kl kc:Nat):Prop where
 row:QaL W.heap.size W (.slice a len cap) bs
 kids:SlF W.heap.size W ka kl kc k
 t1:-9223372036854775808≤t
 t2:t≤9223372036854775807
 small:1+bs.length+k.cnt≤20000
def QcD (W:World) (r:Option (List Int × Forest)) (tag:Int) (e:Ending) (W':World):Prop :=
 Below W.heap.size W W'∧match r with
 | none=>e=.returned (.tuple #[.agg #[.int .i64 0,.slice none 0 0,.slice none 0 0],.bool false])
 | some (bs,k)=>∃ (a:Option Addr) (len cap:Nat) (ka:Option Addr) (kl kc:Nat),e=.returned (.tuple #[.agg #[.int .i64 tag,.slice a len cap,.slice ka kl kc],.bool true])∧Fld W' tag bs k a len cap ka kl kc
theorem QhL (f:Forest) (W:World) (n:Nat) (hn:n≤W.heap.size) (a:Option Addr) (len cap:Nat) (h:SlF n W a len cap f) (hcnt:f.cnt≤20000) (tag nth:Int) (hn2:nth≤9223372036854775807) (hn3:-9223372036854775808≤nth) :
  Calls Tryz.prog 17 #[.slice a len cap,.int .i64 tag,.int .i64 nth] W (QcD W (Qah f tag nth) tag):=by
 have hs:=h.small;obtain ⟨hl,hc⟩:=h;have hlc:=Forest.length_le_cnt f
 have bn:∀ V,Below W.heap.size W V→Below n W V:=fun V h=>⟨h.os,h.tape,h.output,h.size,fun q hq=>h.block q (by omega)⟩
 go_enter Tryz.func17,Tryz.ntmps17;obtain ⟨Z,hZ⟩:∃ Z,Z=W.alloc (.cells #[.int .i64 0,.slice none 0 0,.slice none 0 0] 66):=⟨_,rfl⟩
 have bZ:Below W.heap.size W Z:=by rw [hZ];exact (QB _ W).alloc (QN _) _
 have pZ:Z.heap[W.heap.size]?=some (.cells zT 66):=by rw [hZ];exact QW W _
 have sZ:W.heap.size+1≤Z.heap.size:=by rw [hZ];simp
 go_wp2;rw [← hZ];go_loopw [2,12] (fun m i wr=>∃ (k:Nat) (F:Forest) (N M:Int),m=.int .i64 M∧Hid ((M=N∨M=N+18446744073709551616)∧-9223372036854775808-(k:Int)≤N∧N≤9223372036854775807∧-9223372036854775808≤M∧M≤9223372036854775807)∧i=.int .i64 (k:Int)∧k+F.length=len∧F.cnt≤20000∧Hid (Qah F tag N=Qah f tag nth)∧(∀ q off,a=some ⟨q,off,none⟩→0<len→q<n∧len≤cap∧cap≤maxLen∧QcR n W F q (off+k*3))∧(0<len→∃ q off,a=some ⟨q,off,none⟩)∧wr.heap[W.heap.size]?=some (.cells zT 66)∧W.heap.size+1≤wr.heap.size∧Below W.heap.size W wr) (fun _ i _=>len-(intOf i).toNat)
 case atStart =>
  refine ⟨0,f,nth,nth,rfl,⟨.inl rfl,by omega,by omega,by omega,by omega⟩,rfl,by omega,hcnt,rfl,fun q off ha hl=>?_,fun hl=>?_,pZ,sZ,bZ⟩
  ·rcases hc with h0 | ⟨b',off',ha',hb',hc1,hc2,hrow⟩
   ·omega
   ·rw [ha] at ha';injection ha' with ha';injection ha' with e1 e2;subst e1 e2
    exact ⟨hb',hc1,hc2,by simpa using hrow⟩
  ·rcases hc with h0 | ⟨b',off',ha',_⟩
   ·omega
   ·exact ⟨b',off',ha'⟩
 case round =>
  clear pZ sZ bZ hZ hc;obtain ⟨k,F,N,M,rfl,hNM,rfl,hkF,hcF,hV,hrF,hha,hp,hps,hb0⟩:=hrel;by_cases hlt:k<len
  rotate_left
  ·have t1:decide ((k:Int)<(len:Int))=false:=by simp;omega
   have hF:F=.nil:=by
    cases F with
    | nil=>rfl
    | cons t bs k2 r=>simp [Forest.length] at hkF;omega
   subst hF;have hnone:Qah f tag nth=none:=(show Qah .nil tag N=Qah f tag nth from hV).symm;have HN:=QQ hnone;have e9:(wr.setRow W.heap.size zT).heap[W.heap.size]?=some (.cells zT 66):=setRow_heap _ _ _ _ _ _ hp;have b9:=Qaj hb0 (QN _) zT;clear hnone hV hrF hha hb0;go_wp2_with ((fail_if_success (unfold Qag));refine Qan (t:=66) rfl ?_);unfold Qag;refine Qab rfl 66 (.tmp 6) (.tmp 27) rfl W.heap.size zT rfl rfl 66 zT hp QbO rfl (QaS ..) ?_;go_wp2_with fail;refine bodyPost_ret (QaT rfl _ _ _ W.heap.size 66 zT (0,0) _ rfl e9 Tryz.underlying66 QbO) rfl ?_;unfold QcD;rw [show Qah f tag nth=none from HN];exact ⟨b9,rfl⟩
  have t1:decide ((k:Int)<(len:Int))=true:=by simp;omega
  obtain ⟨q,off,rfl⟩:=hha (by omega);obtain ⟨hqn,hc1,hc2,hrow⟩:=hrF q off rfl (by omega);simp only [maxLen] at hc2;have hrow':QcR n wr F q (off+k*3):=QcR.below (bn _ hb0) F q _ hqn hrow;obtain ⟨t',bs',k',r,a1,l1,c1,ka1,kl1,kc1,rfl,q0,q1,q2,hr1,hr2,hrb,hrk,hrr⟩:=hrow'.open (by omega)
  have hNext:=QQ (fun (q':Nat) (off':Nat) (ha:some (Addr.mk q off none)=some ⟨q',off',none⟩) (_:0<len)=>(by
   injection ha with ha;injection ha with e1 e2 _
   subst e1 e2;have hc:=hrow;obtain ⟨_,_,_,_,_,_,_,_,_,_,_,_,_,_,hc'⟩:=hc;refine ⟨hqn,hc1,by simp only [maxLen];omega,?_⟩;rw [show off+(k+1)*3=off+k*3+3 by omega]
   exact hc':q'<n∧len≤cap∧cap≤maxLen∧QcR n W r q' (off'+(k+1)*3)))
  have hHA:=QQ (fun (_:0<len)=>(⟨q,off,rfl⟩:∃ q' off',some (Addr.mk q off none)=some ⟨q',off',none⟩))
  have hcF2:r.cnt≤20000∧1+bs'.length+k'.cnt≤20000:=by simp only [Forest.cnt] at hcF;omega
  have hkr:k+1+r.length=len:=by simp only [Forest.length] at hkF;omega
  clear hrF hha hrow hrow' hrr hcF hkF;go_wp2_with ((fail_if_success (unfold Qag));refine Qan (t:=66) rfl ?_);unfold Qag;refine Qab rfl 66 (.tmp 9) (.tmp 15) rfl wr.heap.size #[.int .i64 t',.slice a1 l1 c1,.slice ka1 kl1 kc1] rfl rfl 66 zT (QW _ _) QbO rfl (QaS ..) ?_;rw [World.setRow_alloc_new];obtain ⟨V4,hV4⟩:∃ V4,V4=wr.alloc (.cells #[.int .i64 t',.slice a1 l1 c1,.slice ka1 kl1 kc1] 66):=⟨_,rfl⟩
  have x4:V4.heap[wr.heap.size]?=some (.cells #[.int .i64 t',.slice a1 l1 c1,.slice ka1 kl1 kc1] 66):=by rw [hV4];exact QW _ _
  have b4:Below wr.heap.size wr V4:=by rw [hV4];exact (QB _ _).alloc (QN _) _
  have y0:V4.cell? ⟨wr.heap.size,0,none⟩=some (.int .i64 t'):=by rw [cell_of_row V4 _ 0 _ _ _ x4];rfl
  have y1:V4.cell? ⟨wr.heap.size,1,none⟩=some (.slice a1 l1 c1):=by rw [cell_of_row V4 _ 1 _ _ _ x4];rfl
  have y2:V4.cell? ⟨wr.heap.size,2,none⟩=some (.slice ka1 kl1 kc1):=by rw [cell_of_row V4 _ 2 _ _ _ x4];rfl
  rw [← hV4];have hb4:=hb0.trans (b4.mono (by omega));have p4:=(b4.block W.heap.size (by omega)).trans hp
  have s4:W.heap.size+1≤V4.heap.size:=by have:=b4.size;omega
  have hrb4:QaL n V4 (.slice a1 l1 c1) bs':=hrb.1.below ⟨b4.os,b4.tape,b4.output,b4.size,fun x hx=>b4.block x (by omega)⟩;have hrk4:SlF n V4 ka1 kl1 kc1 k':=hrk.below ⟨b4.os,b4.tape,b4.output,b4.size,fun x hx=>b4.block x (by omega)⟩;clear hV4 x4 b4 q0 q1 q2 hrb hrk hp hb0;by_cases htt:t'=tag
  rotate_left
  ·have t2:(t' != tag)=true:=by simpa using htt
   have hV':Qah r tag N=Qah f tag nth:=by
    rw [← (show Qah (.cons t' bs' k' r) tag N=Qah f tag nth from hV),Qah,if_neg htt]
   have HV':=QQ hV';have hNM':Hid ((M=N∨M=N+18446744073709551616)∧-9223372036854775808-((k+1:Nat):Int)≤N∧N≤9223372036854775807∧-9223372036854775808≤M∧M≤9223372036854775807):=⟨hNM.1,by have:=hNM.2.1;omega,hNM.2.2⟩;clear htt hV' hV hrb4 hrk4;go_wp2_with fail;go_roundw
   case rel=>exact ⟨k+1,r,N,M,rfl,hNM',by go_num,hkr,hcF2.1,HV',hNext,hHA,p4,s4,hb4⟩
   case measure=>simp [intOf];omega
  subst htt
  have t2:(t' != t')=false:=by simp
  by_cases hN0:N=0
  rotate_left
  ·have hMz:M≠0:=by
    obtain ⟨h1,h2,h3,h4,h5⟩:=(show _∧_∧_∧_∧_ from hNM);omega
   have t3:(M == 0)=false:=by simpa using hMz
   have hV':Qah r t' (N-1)=Qah f t' nth:=by
    rw [← (show Qah (.cons t' bs' k' r) t' N=Qah f t' nth from hV),Qah,if_pos rfl,if_neg hN0]
   have HV':=QQ hV'
   have hw:∃ M',IntKind.i64.wrap (M-1)=M'∧Hid ((M'=N-1∨M'=N-1+18446744073709551616)∧-9223372036854775808-((k+1:Nat):Int)≤N-1∧N-1≤9223372036854775807∧-9223372036854775808≤M'∧M'≤9223372036854775807):=by
    obtain ⟨h1,h2,h3,h4,h5⟩:=(show _∧_∧_∧_∧_ from hNM);by_cases hm:M = -9223372036854775808
    ·refine ⟨9223372036854775807,by rw [hm];decide,?_,by omega,by omega,by omega,by omega⟩
     omega
    ·exact ⟨M-1,by rw [IntKind.wrap_i64];omega,by omega,by omega,by omega,by omega,by omega⟩
   obtain ⟨M',hM',HM'⟩:=hw;have HMM:=QQ hM';clear hN0 hMz hV' hV hrb4 hrk4 hNM hM';go_wp2_with fail;go_roundw
   case rel=>exact ⟨k+1,r,N-1,M',by rw [← show IntKind.i64.wrap (M-1)=M' from HMM,IntKind.wrap_i64];unfold wrap64;rfl,HM',by go_num,hkr,hcF2.1,HV',hNext,hHA,p4,s4,hb4⟩
   case measure=>simp [intOf];omega
  subst hN0
  obtain rfl:M=0:=by
   obtain ⟨h1,h2,h3,h4,h5⟩:=(show _∧_∧_∧_∧_ from hNM);omega
  have hsome:Qah f t' nth=some (bs',k'):=by
   rw [← (show Qah (.cons t' bs' k' r) t' 0=Qah f t' nth from hV),Qah,if_pos rfl,if_pos rfl]
  have HN:=QQ hsome;have k1:=Qn4 k' V4 n t' a1 l1 c1 bs' ka1 kl1 kc1 (by omega) hr1 hr2 hrb4 hrk4 hcF2.2;have K1:=QQ k1;have hcs:=hcF2.2;clear hsome hV hNM k1 hrb4 hrk4 hNext hHA hcF2;go_wp2_with (go_at_call 59;refine Qau ?_);unfold Qag;refine Calls.mono K1 ?_;rintro e w5 ⟨a5,l5,c5,ka5,kl5,kc5,rfl,_,r5,b5⟩;have p5:=(b5.block W.heap.size (by omega)).trans p4;have e9:(w5.setRow W.heap.size #[.int .i64 t',.slice a5 l5 c5,.slice ka5 kl5 kc5]).heap[W.heap.size]?=some (.cells #[.int .i64 t',.slice a5 l5 c5,.slice ka5 kl5 kc5] 66):=setRow_heap _ _ _ _ _ _ p5;have b9:=Qaj (hb4.trans (b5.mono (by omega))) (QN _) #[.int .i64 t',.slice a5 l5 c5,.slice ka5 kl5 kc5];obtain ⟨W9,hW9⟩:∃ W9,W9=w5.setRow W.heap.size #[.int .i64 t',.slice a5 l5 c5,.slice ka5 kl5 kc5]:=⟨_,rfl⟩
  have hP:Fld W9 t' bs' k' a5 l5 c5 ka5 kl5 kc5:=by
   have h9:∀ x,x≠W.heap.size→W9.heap[x]?=w5.heap[x]?:=fun x hx=>by rw [hW9];exact setRow_other _ _ _ _ hx
   have s9:W9.heap.size=w5.heap.size:=by rw [hW9];exact size_setRow _ _ _
   obtain ⟨z1,z2⟩:=r5 W9 W9.heap.size (fun x hx=>h9 x (by omega)) (fun x hx=>by omega);exact ⟨z1,z2,hr1,hr2,hcs⟩
  rw [← hW9] at e9 b9;have HW9:=QQ hW9;clear K1 y0 y1 y2 p4 b5 r5 hb4 hW9;go_wp2_with ((fail_if_success (unfold Qag));refine Qan (t:=66) rfl ?_);unfold Qag;refine Qab rfl 66 (.tmp 6) (.tmp 23) rfl W.heap.size #[.int .i64 t',.slice a5 l5 c5,.slice ka5 kl5 kc5] rfl rfl 66 zT p5 QbO rfl (QaS ..) ?_;rw [show w5.setRow W.heap.size #[.int .i64 t',.slice a5 l5 c5,.slice ka5 kl5 kc5]=W9 from (QG HW9).symm];clear HW9 p5;go_wp2_with fail;refine bodyPost_ret (QaT rfl _ _ _ W.heap.size 66 #[.int .i64 t',.slice a5 l5 c5,.slice ka5 kl5 kc5] (0,0) _ rfl e9 Tryz.underlying66 QbO) rfl ?_;unfold QcD;rw [show Qah f t' nth=some (bs',k') from HN];exact ⟨b9,_,_,_,_,_,_,rfl,hP⟩
end
section
attribute [local go_sem] QaB QaJ QaA

end
section
attribute [local go_sem] QaB QaJ QaA
theorem QmA (f:Forest) (W:World) (n:Nat) (hn:n≤W.heap.size) (a:Option Addr) (len cap:Nat) (h:SlF n W a len cap f) (hcnt:f.cnt≤20000) (tag nth:Int) :
  Calls Tryz.prog 24 #[.slice a len cap,.int .i64 tag,.int .i64 nth] W (QcD W (Qah f tag nth) tag):=by
 have hs:=h.small;obtain ⟨hl,hc⟩:=h;have hlc:=Forest.length_le_cnt f
 have bn:∀ V,Below W.heap.size W V→Below n W V:=fun V h=>⟨h.os,h.tape,h.output,h.size,fun q hq=>h.block q (by omega)⟩
 go_enter Tryz.func24,Tryz.ntmps24;obtain ⟨Z,hZ⟩:∃ Z,Z=W.alloc (.cells #[.int .i64 0,.slice none 0 0,.slice none 0 0] 66):=⟨_,rfl⟩
 have bZ:Below W.heap.size W Z:=by rw [hZ];exact (QB _ W).alloc (QN _) _
 have pZ:Z.heap[W.heap.size]?=some (.cells zT 66):=by rw [hZ];exact QW W _
 have sZ:W.heap.size+1≤Z.heap.size:=by rw [hZ];simp
 go_wp2;rw [← hZ];go_loopw [8,9] (fun m i wr=>∃ (k c:Nat) (F:Forest),m=.int .i64 (c:Int)∧c≤k∧i=.int .i64 (k:Int)∧k+F.length=len∧F.cnt≤20000∧Hid (Qah F tag (nth-c)=Qah f tag nth)∧(∀ q off,a=some ⟨q,off,none⟩→0<len→q<n∧len≤cap∧cap≤maxLen∧QcR n W F q (off+k*3))∧(0<len→∃ q off,a=some ⟨q,off,none⟩)∧wr.heap[W.heap.size]?=some (.cells zT 66)∧W.heap.size+1≤wr.heap.size∧Below W.heap.size W wr) (fun _ i _=>len-(intOf i).toNat)
 case atStart =>
  refine ⟨0,0,f,rfl,QN _,rfl,by omega,hcnt,by simp [Hid],fun q off ha hl=>?_,fun hl=>?_,pZ,sZ,bZ⟩
  ·rcases hc with h0 | ⟨b',off',ha',hb',hc1,hc2,hrow⟩
   ·omega
   ·rw [ha] at ha';injection ha' with ha';injection ha' with e1 e2;subst e1 e2
    exact ⟨hb',hc1,hc2,by simpa using hrow⟩
  ·rcases hc with h0 | ⟨b',off',ha',_⟩
   ·omega
   ·exact ⟨b',off',ha'⟩
 case round =>
  clear pZ sZ bZ hZ hc;obtain ⟨k,c,F,rfl,hck,rfl,hkF,hcF,hV,hrF,hha,hp,hps,hb0⟩:=hrel;by_cases hlt:k<len
  rotate_left
  ·have t1:decide ((k:Int)<(len:Int))=false:=by simp;omega
   have hF:F=.nil:=by
    cases F with
    | nil=>rfl
    | cons t bs k2 r=>simp [Forest.length] at hkF;omega
   subst hF;have hnone:Qah f tag nth=none:=(show Qah .nil tag (nth-c)=Qah f tag nth from hV).symm;have HN:=QQ hnone;have e9:(wr.setRow W.heap.size zT).heap[W.heap.size]?=some (.cells zT 66):=setRow_heap _ _ _ _ _ _ hp;have b9:=Qaj hb0 (QN _) zT;clear hnone hV hrF hha hb0;go_wp2_with ((fail_if_success (unfold Qag));refine Qan (t:=66) rfl ?_);unfold Qag;refine Qab rfl 66 (.tmp 6) (.tmp 32) rfl W.heap.size zT rfl rfl 66 zT hp QbO rfl (QaS ..) ?_;go_wp2_with fail;refine bodyPost_ret (QaT rfl _ _ _ W.heap.size 66 zT (0,0) _ rfl e9 Tryz.underlying66 QbO) rfl ?_;unfold QcD;rw [show Qah f tag nth=none from HN];exact ⟨b9,rfl⟩
  have t1:decide ((k:Int)<(len:Int))=true:=by simp;omega
  obtain ⟨q,off,rfl⟩:=hha (by omega);obtain ⟨hqn,hc1,hc2,hrow⟩:=hrF q off rfl (by omega);simp only [maxLen] at hc2;have hrow':QcR n wr F q (off+k*3):=QcR.below (bn _ hb0) F q _ hqn hrow;obtain ⟨t',bs',k',r,a1,l1,c1,ka1,kl1,kc1,rfl,q0,q1,q2,hr1,hr2,hrb,hrk,hrr⟩:=hrow'.open (by omega)
  have hNext:=QQ (fun (q':Nat) (off':Nat) (ha:some (Addr.mk q off none)=some ⟨q',off',none⟩) (_:0<len)=>(by
   injection ha with ha;injection ha with e1 e2 _
   subst e1 e2;have hc:=hrow;obtain ⟨_,_,_,_,_,_,_,_,_,_,_,_,_,_,hc'⟩:=hc;refine ⟨hqn,hc1,by simp only [maxLen];omega,?_⟩;rw [show off+(k+1)*3=off+k*3+3 by omega]
   exact hc':q'<n∧len≤cap∧cap≤maxLen∧QcR n W r q' (off'+(k+1)*3)))
  have hHA:=QQ (fun (_:0<len)=>(⟨q,off,rfl⟩:∃ q' off',some (Addr.mk q off none)=some ⟨q',off',none⟩))
  have hcF2:r.cnt≤20000∧1+bs'.length+k'.cnt≤20000:=by simp only [Forest.cnt] at hcF;omega
  have hkr:k+1+r.length=len:=by simp only [Forest.length] at hkF;omega
  clear hrF hha hrow hrow' hrr hcF hkF;by_cases htt:t'=tag
  rotate_left
  ·have t2:(t' == tag)=false:=by simpa using htt
   have hV':Qah r tag (nth-c)=Qah f tag nth:=by
    rw [← (show Qah (.cons t' bs' k' r) tag (nth-c)=Qah f tag nth from hV),Qah,if_neg htt]
   have HV':=QQ hV';clear htt hV' hV hrb hrk;go_wp2_with fail;go_roundw
   case rel=>exact ⟨k+1,c,r,rfl,by omega,by go_num,hkr,hcF2.1,HV',hNext,hHA,hp,hps,hb0⟩
   case measure=>simp [intOf];omega
  subst htt
  have t2:(t' == t')=true:=by simp
  by_cases hN0:(c:Int)=nth
  rotate_left
  ·have t3:((c:Int) == nth)=false:=by simpa using hN0
   have hV':Qah r t' (nth-((c+1:Nat):Int))=Qah f t' nth:=by
    rw [← (show Qah (.cons t' bs' k' r) t' (nth-c)=Qah f t' nth from hV),Qah,if_pos rfl,if_neg (by omega)]
    congr 1;omega
   have HV':=QQ hV';clear hN0 hV' hV hrb hrk;go_wp2_with fail;go_roundw
   case rel=>exact ⟨k+1,c+1,r,by go_num,by omega,by go_num,hkr,hcF2.1,HV',hNext,hHA,hp,hps,hb0⟩
   case measure=>simp [intOf];omega
  subst hN0
  have hsome:Qah f t' (c:Int)=some (bs',k'):=by
   rw [← (show Qah (.cons t' bs' k' r) t' ((c:Int)-c)=Qah f t' (c:Int) from hV),Qah,if_pos rfl,if_pos (by omega)]
  have HN:=QQ hsome
  have t3:((c:Int) == (c:Int))=true:=by simp
  have hcs:=hcF2.2;have e9:(wr.setRow W.heap.size #[.int .i64 t',.slice a1 l1 c1,.slice ka1 kl1 kc1]).heap[W.heap.size]?=some (.cells #[.int .i64 t',.slice a1 l1 c1,.slice ka1 kl1 kc1] 66):=setRow_heap _ _ _ _ _ _ hp;have b9:=Qaj hb0 (QN _) #[.int .i64 t',.slice a1 l1 c1,.slice ka1 kl1 kc1];obtain ⟨W9,hW9⟩:∃ W9,W9=wr.setRow W.heap.size #[.int .i64 t',.slice a1 l1 c1,.slice ka1 kl1 kc1]:=⟨_,rfl⟩
  have hP:Fld W9 t' bs' k' a1 l1 c1 ka1 kl1 kc1:=by
   have h9:Below n wr W9:=by
    rw [hW9];exact ⟨rfl,rfl,rfl,by rw [size_setRow];exact QN _,fun b hb=>setRow_other _ _ _ _ (by omega)⟩
   have s9:n≤W9.heap.size:=by rw [hW9,size_setRow];omega
   exact ⟨(hrb.1.below h9).mono s9,(hrk.below h9).mono s9,hr1,hr2,hcs⟩
  rw [← hW9] at e9 b9;have HW9:=QQ hW9;clear hsome hV hrb hrk hNext hHA hcF2 hb0 hW9;go_wp2_with ((fail_if_success (unfold Qag));refine Qan (t:=66) rfl ?_);unfold Qag;refine Qab rfl 66 (.tmp 6) (.tmp 29) rfl W.heap.size #[.int .i64 t',.slice a1 l1 c1,.slice ka1 kl1 kc1] rfl rfl 66 zT hp QbO rfl (QaS ..) ?_;rw [show wr.setRow W.heap.size #[.int .i64 t',.slice a1 l1 c1,.slice ka1 kl1 kc1]=W9 from (QG HW9).symm];clear HW9 hp;go_wp2_with fail;refine bodyPost_ret (QaT rfl _ _ _ W.heap.size 66 #[.int .i64 t',.slice a1 l1 c1,.slice ka1 kl1 kc1] (0,0) _ rfl e9 Tryz.underlying66 QbO) rfl ?_;unfold QcD;rw [show Qah f t' (c:Int)=some (bs',k') from HN];exact ⟨b9,_,_,_,_,_,_,rfl,hP⟩
end
section
attribute [local go_sem] QaB QaJ QaA
theorem Qfp {xs ys:List Int} (hx:∀ z∈xs,0≤z∧z≤255) (hy:∀ z∈ys,0≤z∧z≤255) (h1:(strOfNums xs).data.toList=(strOfNums ys).data.toList):xs=ys:=by
 simp only [strOfNums_data] at h1
 induction xs generalizing ys with
 | nil =>
  cases ys with
  | nil=>rfl
  | cons y ys=>simp at h1
 | cons x xs ih =>
  cases ys with
  | nil=>simp at h1
  | cons y ys =>
   simp only [List.map_cons,List.cons.injEq] at h1;have e:=ih (fun z hz=>hx z (List.mem_cons_of_mem _ hz)) (fun z hz=>hy z (List.mem_cons_of_mem _ hz)) h1.2;have:=congrArg UInt8.toNat h1.1;have a1:=hx x (List.mem_cons_self ..);have a2:=hy y (List.mem_cons_self ..);simp at this;rw [e]
   congr 1
   omega
end
theorem Qi9 {w w1:World} (hb:Below w.heap.size w w1) (x:Nat):Below w.heap.size w ((w1.alloc (Qd7 x)).alloc (Qd7 x)) :=
 (hb.alloc hb.size _).alloc (by have:=hb.size;simp;omega) _
def Qd6 (zs:List Int):List Int:=(zs.map fun z=>QaE z.toNat).flatten
theorem Qig (zs:List Int) (z:Int):Qd6 (zs++[z])=Qd6 zs++QaE z.toNat:=by simp [Qd6]
theorem Qhc (zs:List Int) (k:Nat) (h:k<zs.length):zs.take (k+1)=zs.take k++[zs.getD k 0]:=by
 rw [Qba _ _ h];simp
theorem Qkq (W:World) (x:Nat) (e:TypeId):∀ j u,((QaE x).map (Value.int .u8))[j]?=some u→(W.alloc (.cells #[.int .u8 ((x:Int) % 256),.int .u8 ((x:Int) / 256 % 256),.int .u8 ((x:Int) / 65536 % 256),.int .u8 ((x:Int) / 16777216)] e)).cell? ((⟨W.heap.size,0,none⟩:Addr).add j)=some u:=by
 intro j u hj;rw [Addr.add_lit];rw [Nat.zero_add,World.cell?_alloc_mark]
 match j,hj with
 | 0,h=>exact h
 | 1,h=>exact h
 | 2,h=>exact h
 | 3,h=>exact h
 | j+4,h=>simp [QaE] at h
theorem Qlt (x:Nat):∀ u∈(QaE x).map (Value.int .u8),u.oneCell'=true:=by
 intro u h;simp [QaE] at h;rcases h with rfl | rfl | rfl | rfl <;> rfl
theorem Qov (a:Option Addr) (len cap:Nat) (zs:List Int) (w:World) (hr:Qdb .u32 w.heap.size w (.slice a len cap) zs) (hz:∀ z∈zs,0≤z∧z<4294967296) (hsm:zs.length≤1000000000000) :
  Calls Tryz.prog 112 #[.slice a len cap] w fun e w'=>∃ v,e=.returned v∧Below w.heap.size w w'∧w'.ownsRow w.heap.size 5 1 v (4*len) ((Qd6 zs).map (Value.int .u8)):=by
 obtain ⟨i0,hi,hz0,hz1,hz2⟩:=info_parts QbB;obtain ⟨hlen,b,off,hopen,hc⟩:=hr.open;subst hlen;go_enter Tryz.func112,Tryz.ntmps112;go_wp2;go_loopw [3,8] (fun v i wr=>∃ k:Nat,k≤zs.length∧i=.int .i64 k∧Below w.heap.size w wr∧wr.ownsRow w.heap.size 5 1 v (4*k) ((Qd6 (zs.take k)).map (Value.int .u8))) (fun _ i _=>zs.length-(intOf i).toNat)
 case atStart=>exact ⟨0,Nat.zero_le _,rfl,QB _ _,by simpa [Qd6] using World.ownsRow_nil w w.heap.size 5 1⟩
 case round =>
  obtain ⟨k,hk,rfl,hb,hown⟩:=hrel;by_cases hlt:k<zs.length
  ·obtain ⟨rfl,hbn,_,_⟩:=hopen (by omega)
   have hck:wr.cell? ⟨b,off+k,none⟩=some (.int .u32 (zs.getD k 0)):=(hb.cell (p:=⟨b,off+k,none⟩) hbn).trans (hc k hlt);obtain ⟨hx0,hx1⟩:=hz _ (List.getElem_mem hlt);rw [← Qba _ _ hlt] at hx0 hx1;obtain ⟨x,hx⟩:∃ x:Nat,zs.getD k 0=x:=⟨_,(Int.toNat_of_nonneg hx0).symm⟩;rw [hx] at hck;have HX:=QQ hx
   have hxl:x<4294967296:=by omega
   have hs:=hb.size;have HC:=QQ hc;clear hx hx0 hx1 hc;have hn:=QQ (Qkq (wr.alloc (Qd7 x)) x 138);rw [World.size_alloc] at hn;have hb2:=Qi9 hb x
   go_wp2_with (first
    | (go_at_call 31;refine (Qe9 x _ (by omega)).mono ?_;rintro e w1 ⟨rfl,rfl⟩)
    | (at_builtin;refine Qau ?_))
   unfold Qag;refine wpList_append_own _ rfl _ _ 22 rfl w.heap.size 5 i0 (.int .u8 0) 1 1 Tryz.underlying22 hi hz0 hz1 hz2 rfl (by decide) _ (4*k) _ (by rfl) ((hown.alloc _).alloc _) ⟨wr.heap.size+1,0,none⟩ 4 4 ((QaE x).map (Value.int .u8)) (by rfl) rfl hn (Qlt x) (by simp only [maxLen];omega) (by omega) (by simp;omega) ?_;intro v' w1 hown' hgrow hnil;have hb3:=hb2.grown hgrow (by simp;omega) (fun g hg=>(hown.lt g hg).1);clear hn hb2;go_wp2;go_roundw
   case rel =>
    refine ⟨k+1,by omega,by go_num,hb3,?_⟩;rw [Qhc _ _ hlt,Qig,List.map_append,show zs.getD k 0=(x:Int) from HX];exact hown'
   case measure=>simp [intOf];omega
  ·obtain rfl:k=zs.length:=by omega
   go_wp2;go_ret;rw [List.take_length] at hown;exact ⟨_,rfl,hb,hown⟩
def Qa7 (n:Nat):List Int:=QaE (n % 4294967296)++QaE (n / 4294967296)
theorem QaG (n:Nat):(Qa7 n).length=8:=rfl
theorem QhF (x:Nat) (hx:x<4294967296):∀ z∈QaE x,0≤z∧z≤255:=by
 intro z hz;simp only [QaE,List.mem_cons,List.not_mem_nil,or_false] at hz
 rcases hz with rfl | rfl | rfl | rfl <;> omega
theorem Qbr (n:Nat) (hn:n<18446744073709551616):∀ z∈Qa7 n,0≤z∧z≤255:=by
 intro z hz
 rcases List.mem_append.1 hz with h | h
 ·exact QhF _ (by omega) z h
 ·exact QhF _ (by omega) z h
theorem QnK (n:Nat):Qd6 [((n % 4294967296:Nat):Int),((n / 4294967296:Nat):Int)]=Qa7 n:=by
 simp only [Qd6,Qa7,List.map_cons,List.map_nil,List.flatten_cons,List.flatten_nil,List.append_nil,Int.toNat_natCast]
section
attribute [local go_sem] QaB QaJ QaA
def Qek:List Int→Int
 | []=>0
 | b::r=>b+256*Qek r
def Qgr (W:World) (t:Int) (bs:List Int) (e:Ending) (W':World):Prop :=
 Below W.heap.size W W'∧e=.returned (.tuple #[.int .u64 (if t<128∧bs.length=8 then Qek bs else 0),.bool (decide (t<128∧bs.length=8))])
theorem QnO (X Y:Nat) (hX:X<4294967296) (hY:Y<4294967296):bits .or .u64 (IntKind.u64.wrap (X:Int)) (IntKind.u64.wrap (IntKind.u64.wrap (Y:Int)*4294967296))=((X+4294967296*Y:Nat):Int):=by
 rw [Qby X (by omega),Qby Y (by omega),show (Y:Int)*4294967296=((4294967296*Y:Nat):Int) by omega,Qby _ (by omega),Qol _ _ (by omega) (by omega)];have:=Nat.two_pow_add_eq_or_of_lt (i:=32) (b:=X) (by omega) Y;rw [Nat.or_comm,show (4294967296:Nat)=2 ^ 32 by decide,← this]
 congr 1
 omega
theorem Qk6 (bs:List Int) (h8:bs.length=8) (hb:∀ z∈bs,0≤z∧z≤255):Qek bs=((leW bs 0 4+4294967296*leW bs 4 4:Nat):Int):=by
 match bs,h8 with
 | [b0,b1,b2,b3,b4,b5,b6,b7],_ =>
  simp only [List.mem_cons,List.not_mem_nil,or_false,forall_eq_or_imp,forall_eq] at hb;obtain ⟨h0,h1,h2,h3,h4,h5,h6,h7⟩:=hb;simp [Qek,leW];omega
theorem Qfs (W:World) (n:Nat) (hn:n≤W.heap.size) (t:Int) (a:Option Addr) (len cap:Nat) (bs:List Int) (ka:Option Addr) (kl kc:Nat) (hb:QaL n W (.slice a len cap) bs) (hbl:bs.length≤140737488350000) :
  Calls Tryz.prog 18 #[.agg #[.int .i64 t,.slice a len cap,.slice ka kl kc]] W (Qgr W t bs):=by
 have hl:=hb.1.open.1;obtain ⟨V,hV⟩:∃ V,V=W.alloc (.cells #[.int .i64 t,.slice a len cap,.slice ka kl kc] 66):=⟨_,rfl⟩
 have bV:Below W.heap.size W V:=by rw [hV];exact (QB _ W).alloc (QN _) _
 have xV:V.heap[W.heap.size]?=some (.cells #[.int .i64 t,.slice a len cap,.slice ka kl kc] 66):=by rw [hV];exact QW W _
 have y0:V.cell? ⟨W.heap.size,0,none⟩=some (.int .i64 t):=by rw [cell_of_row V _ 0 _ _ _ xV];rfl
 have y1:V.cell? ⟨W.heap.size,1,none⟩=some (.slice a len cap):=by rw [cell_of_row V _ 1 _ _ _ xV];rfl
 have rV:QaL V.heap.size V (.slice a len cap) bs:=(hb.below ⟨bV.os,bV.tape,bV.output,bV.size,fun q hq=>bV.block q (by omega)⟩).mono (by have:=bV.size;omega);go_enter Tryz.func18,Tryz.ntmps18;by_cases ht:t<128
 rotate_left
 ·have t1:decide (t ≥ 128)=true:=decide_eq_true (by omega)
  have HF:=QQ (show ¬ (t<128∧bs.length=8) from fun h=>by omega);clear ht;go_wp2_with fail;rw [← hV];go_ret2;exact ⟨bV,by rw [if_neg HF,decide_eq_false HF];rfl⟩
 have t1:decide (t ≥ 128)=false:=decide_eq_false (by omega);by_cases h8:bs.length=8
 rotate_left
 ·have t2:((len:Int) != 8)=true:=by simp;omega
  have HF:=QQ (show ¬ (t<128∧bs.length=8) from fun h=>h8 h.2);clear h8;rw [hV] at y0 y1;go_wp2_with fail;rw [← hV];go_ret2;exact ⟨bV,by rw [if_neg HF,decide_eq_false HF];rfl⟩
 obtain rfl:len=8:=by omega
 have K:=QQ (Qki 0 a 8 cap bs V rV (by omega));have H8:=QQ h8;clear h8 hl;rw [hV] at y0 y1;go_wp2_with (go_at_call 60;refine Qau ?_);unfold Qag;rw [← hV];clear hV y0 y1 xV;refine Calls.mono K ?_;rintro e w3 ⟨b3,⟨_,v3,rfl,o3,_⟩ | ⟨h4,_⟩⟩
 rotate_left
 ·exact absurd (show bs.length % 4=0 by rw [show bs.length=8 from H8]) h4
 rw [show bs.length=8 from H8,show 8 / 4=2 from rfl] at o3;have B3:=bV.trans (b3.mono bV.size);obtain ⟨a3,c3,rfl,hva⟩:=Qaa o3
 rcases hva with h0 | ⟨g3,rfl,_⟩
 ·omega
 have hcap:2≤c3∧c3≤maxLen:=by
  rcases o3.2 with ⟨h1,_⟩ | ⟨g,cp,cur,h1,_,_,h5,h6,_⟩
  ·cases h1
  ·injection h1 with _ _ h1;subst h1;exact ⟨h5,h6⟩
 obtain ⟨hc1,hc2⟩:=hcap;simp only [maxLen] at hc2
 have c0:w3.cell? ⟨g3,0,none⟩=some (.int .u32 (leW bs 0 4:Nat)):=by rw [o3.cellAt 0 (by omega)];rfl
 have c1:w3.cell? ⟨g3,1,none⟩=some (.int .u32 (leW bs 4 4:Nat)):=by rw [o3.cellAt 1 (by omega)];rfl
 obtain ⟨X,hX⟩:∃ X:Nat,X=leW bs 0 4:=⟨_,rfl⟩;obtain ⟨Y,hY⟩:∃ Y:Nat,Y=leW bs 4 4:=⟨_,rfl⟩;rw [← hX] at c0;rw [← hY] at c1
 have hXl:X<4294967296:=by rw [hX];exact Qhu bs hb.2 0 4
 have hYl:Y<4294967296:=by rw [hY];exact Qhu bs hb.2 4 4
 have hval:=Qk6 bs H8 hb.2;rw [← hX,← hY] at hval;have HV:=QQ hval;have HOR:=QQ (QnO X Y hXl hYl);have HT:=QQ ht;clear hX hY o3 K rV b3 hval ht hXl hYl;go_wp2_with fail;go_region;go_wp2_with fail;go_ret2;refine ⟨⟨B3.os,B3.tape,B3.output,B3.size,B3.block⟩,?_⟩;rw [if_pos ⟨HT,H8⟩,decide_eq_true ⟨HT,H8⟩,show Qek bs=_ from HV,← show bits .or .u64 (IntKind.u64.wrap (X:Int)) (IntKind.u64.wrap (IntKind.u64.wrap (Y:Int)*4294967296))=((X+4294967296*Y:Nat):Int) from HOR];rfl
end
section
attribute [local go_sem] QaB QaJ QaA
def fB (r:Option (List Int × Forest)):List Int:=match r with | none=>[] | some (b,_)=>b

end
section
attribute [local go_sem] QaB QaJ QaA
def Qob (tag:Int) (n:Nat) (W:World) (e:Ending) (W':World):Prop :=
 ∃ (a:Option Addr) (c:Nat),e=.returned (.agg #[.int .i64 tag,.slice a 8 c,.slice none 0 0])∧QaL W'.heap.size W' (.slice a 8 c) (Qa7 n)∧(∀ b,QaO (.slice a 8 c) b→W.heap.size<b)∧Below W.heap.size W W'
theorem QeF (tag:Int) (n:Nat) (hn:n<18446744073709551616) (W:World) :
  Calls Tryz.prog 93 #[.int .i64 tag,.int .u64 (n:Int)] W (Qob tag n W):=by
 go_enter Tryz.func93,Tryz.ntmps93;go_wp2_with (go_at_call 112;refine Qau ?_);unfold Qag;obtain ⟨Z,hZ⟩:∃ Z,Z=W.alloc (.cells #[.int .i64 0,.slice none 0 0,.slice none 0 0] 66):=⟨_,rfl⟩
 have pZ:Z.heap[W.heap.size]?=some (.cells zT 66):=by rw [hZ];exact QW W _
 have bZ:Below W.heap.size W Z:=by rw [hZ];exact (QB _ W).alloc (QN _) _
 have sZ:Z.heap.size=W.heap.size+1:=by rw [hZ];simp
 rw [← hZ];obtain ⟨V,hV⟩:∃ V,V=Z.alloc (.cells #[.int .u32 ((n:Int) % 4294967296),.int .u32 ((n:Int) / 4294967296)] 40):=⟨_,rfl⟩
 have bV:Below Z.heap.size Z V:=by rw [hV];exact (QB _ _).alloc (QN _) _
 have rV:Qdb .u32 V.heap.size V (.slice (some ⟨W.heap.size+1,0,none⟩) 2 2) [((n % 4294967296:Nat):Int),((n / 4294967296:Nat):Int)]:=by
  refine .inr ⟨W.heap.size+1,0,2,rfl,by rw [hV];simp;omega,QN 2,by decide,fun j hj=>?_⟩;rw [hV,← sZ,Nat.zero_add,World.cell?_alloc_mark];simp at hj
  match j,hj with
  | 0,_=>rfl
  | 1,_=>rfl
 rw [← hV]
 have sV:W.heap.size<V.heap.size:=by have:=bV.size;omega
 have pV:=(bV.block W.heap.size (by omega)).trans pZ;have bWV:Below W.heap.size W V:=bZ.trans (bV.mono (by omega));clear hV hZ pZ bV bZ sZ;refine (Qov _ 2 2 _ V rV (by intro z hz;simp at hz;rcases hz with rfl | rfl <;> omega) (by simp)).mono ?_;rintro e w3 ⟨v,rfl,b3,o3⟩;rw [QnK] at o3;obtain ⟨a3,c3,rfl,_⟩:=Qaa o3;have p3:=(b3.block W.heap.size sV).trans pV;have B3:=bWV.trans (b3.mono bWV.size);have e9:(w3.setRow W.heap.size #[.int .i64 tag,.slice a3 8 c3,.slice none 0 0]).heap[W.heap.size]?=some (.cells #[.int .i64 tag,.slice a3 8 c3,.slice none 0 0] 66):=setRow_heap _ _ _ _ _ _ p3;have b9:=Qaj B3 (QN _) #[.int .i64 tag,.slice a3 8 c3,.slice none 0 0]
 have hP:QaL (w3.setRow W.heap.size #[.int .i64 tag,.slice a3 8 c3,.slice none 0 0]).heap.size (w3.setRow W.heap.size #[.int .i64 tag,.slice a3 8 c3,.slice none 0 0]) (.slice a3 8 c3) (Qa7 n) :=
  QbM (v:=.slice a3 8 c3) (n:=8) o3 (Qbr n hn) _ _ fun b hb=>⟨setRow_other _ _ _ _ (by have:=(o3.lt b hb).1;omega),by rw [size_setRow];exact (o3.lt b hb).2⟩
 have hG:∀ b,QaO (.slice a3 8 c3) b→W.heap.size<b:=fun b hb=>by
  cases a3 with
  | none=>exact hb.elim
  | some q=>have h2:=(o3.lt q.block rfl).1;have h3:b=q.block:=hb.2;omega
 clear b3 o3 rV bWV pV B3;go_wp2_with ((fail_if_success (unfold Qag));refine Qan (t:=66) rfl ?_);unfold Qag;refine Qab rfl 66 (.tmp 4) (.tmp 13) rfl W.heap.size #[.int .i64 tag,.slice a3 8 c3,.slice none 0 0] rfl rfl 66 zT p3 QbO rfl (QaS ..) ?_;go_wp2_with fail;refine bodyPost_ret (results_cell_row rfl _ _ W.heap.size 66 #[.int .i64 tag,.slice a3 8 c3,.slice none 0 0] (0,0) _ rfl e9 Tryz.underlying66 rfl QbO) rfl ?_;exact ⟨a3,c3,rfl,hP,hG,b9⟩
theorem Qcn (tag:Int) (n:Nat) (hn:n<9223372036854775808) (W:World) :
  Calls Tryz.prog 92 #[.int .i64 tag,.int .i64 (n:Int)] W (Qob tag n W):=by
 have hw:IntKind.u64.wrap (n:Int)=(n:Int):=Qby n (by omega)
 have kn:=fun (V:World)=>QeF tag n (by omega) V
 go_enter Tryz.func92,Tryz.ntmps92
 go_upto_region 1 with fail
 obtain ⟨V,hV⟩:∃ V,V=W.alloc (.cells #[.int .i64 0,.slice none 0 0,.slice none 0 0] 66):=⟨_,rfl⟩
 have bV:Below W.heap.size W V:=by rw [hV];exact (QB _ _).alloc (QN _) _
 have e:V.heap[W.heap.size]?=some (.cells zT 66):=by rw [hV];exact QW _ _
 have hVl:W.heap.size<V.heap.size:=(QI.1 e).1;rw [← hV];clear hV;have k:=kn V;clear kn;go_wp2_with (go_at_call 93;refine Qau ?_);unfold Qag;refine k.mono ?_;rintro e' w2 ⟨a,c,rfl,hr,hG,b2⟩;have e2:=(b2.block W.heap.size hVl).trans e;go_wp2_with ((fail_if_success (unfold Qag));refine Qan (t:=66) rfl ?_);unfold Qag;refine Qab rfl 66 (.tmp 4) (.tmp 8) rfl W.heap.size #[.int .i64 tag,.slice a 8 c,.slice none 0 0] rfl rfl 66 zT e2 QbO rfl (QaS ..) ?_;obtain ⟨W9,hW9⟩:∃ W9,W9=w2.setRow W.heap.size #[.int .i64 tag,.slice a 8 c,.slice none 0 0]:=⟨_,rfl⟩
 have e9:W9.heap[W.heap.size]?=some (.cells #[.int .i64 tag,.slice a 8 c,.slice none 0 0] 66):=by rw [hW9];exact setRow_heap _ _ _ _ _ _ e2
 have k9:∀ b,b≠W.heap.size→W9.heap[b]?=w2.heap[b]?:=fun b hb=>by rw [hW9];exact setRow_other _ _ _ _ hb
 have s9:W9.heap.size=w2.heap.size:=by rw [hW9];exact size_setRow _ _ _
 have b9:Below W.heap.size W W9:=by rw [hW9];exact Qaj (bV.trans (b2.mono bV.size)) (QN _) _
 rw [← hW9];clear hW9;go_wp2
 have hne:∀ b,QaO (.slice a 8 c) b→b≠W.heap.size:=fun b hb h=>by
  rcases hr.1 with ⟨_,_,h',_⟩ | ⟨b',off,cap,h',_,_,_,hc⟩
  ·injection h' with _ h' _;cases h'
  ·injection h' with h1 h2 h3
   subst h1;have hb2:b=b':=hb.2;have h7:=hc 7 (by rw [QaG];decide);rw [← hb2,h,cell_of_row w2 _ (off+7) _ _ _ e2,Array.getElem?_eq_none (by show 3≤_;omega)] at h7
   cases h7
 refine bodyPost_ret (results_cell_row rfl _ _ W.heap.size 66 #[.int .i64 tag,.slice a 8 c,.slice none 0 0] (0,0) _ rfl e9 Tryz.underlying66 rfl QbO) rfl ?_;exact ⟨a,c,rfl,(hr.same fun b hb=>k9 b (hne b hb)).mono (by omega),fun b hb=>by have:=hG b hb;omega,b9⟩
end
section
attribute [local go_sem] QaB QaJ QaA
def QdQ:Array Value:=#[.int .i64 0,.int .i64 0,.int .i64 0,.int .u32 0,.int .u32 0,.int .u32 0,.int .u32 0,.int .u32 0,.int .u32 0,.int .u32 0,.int .u32 0,.int .u32 0,.complex .f64 0 0,.complex .f64 0 0,.int .u32 0,.int .u32 0,.int .u32 0,.int .u32 0,.int .u32 0,.int .u32 0,.int .u32 0,.int .u32 0,.int .u32 0,.complex .f64 0 0,.complex .f64 0 0,.int .u32 0,.int .u32 0,.int .u32 0,.int .u32 0,.int .u32 0,.int .u32 0,.int .u32 0,.int .u32 0,.int .u32 0,.int .u32 0,.int .u32 0,.int .u32 0,.int .u32 0,.int .u32 0,.int .u32 0,.int .u32 0,.int .u32 0,.int .u32 0,.int .u32 0,.bool false,.int .i64 0,.int .i64 0,.int .i64 0,.int .i64 0,.int .i64 0,.int .u32 0,.slice none 0 0,.int .u32 0,.int .i64 0,.slice none 0 0]
end
def Qfb:Nat:=0xedb88320
def QqQ:Nat:=2 ^ 31
def QgS:Nat:=2 ^ 32-1
def Qky (n:Nat):Nat:=n / 2 ^^^ (if n % 2=1 then Qfb else 0)
def Qbh:Nat→Nat→Nat
 | 0,n=>n
 | k+1,n=>Qbh k (Qky n)
theorem QlF:Qky 0=0:=by decide
theorem Qnh (a b:Nat):Qky (a ^^^ b)=Qky a ^^^ Qky b:=by
 have h1:(a ^^^ b) / 2=a / 2 ^^^ b / 2:=Nat.xor_div_two
 have hd:∀ x y:Nat,x ^^^ y ^^^ Qfb=x ^^^ (y ^^^ Qfb):=fun x y=>Nat.xor_assoc ..
 unfold Qky;rw [h1]
 by_cases ha:a % 2=1 <;> by_cases hb:b % 2=1
 ·have:¬ (a ^^^ b) % 2=1:=by simp [ha,hb]
  rw [if_pos ha,if_pos hb,if_neg this,Nat.xor_zero,← hd,Nat.xor_assoc (a / 2),Nat.xor_comm Qfb,← Nat.xor_assoc,Nat.xor_assoc,Nat.xor_self,Nat.xor_zero]
 ·have:(a ^^^ b) % 2=1:=by simp [ha,hb]
  rw [if_pos ha,if_neg hb,if_pos this,Nat.xor_zero,Nat.xor_assoc,Nat.xor_comm (b / 2),← Nat.xor_assoc]
 ·have:(a ^^^ b) % 2=1:=by simp [ha,hb]
  rw [if_neg ha,if_pos hb,if_pos this,Nat.xor_zero,Nat.xor_assoc]
 ·have:¬ (a ^^^ b) % 2=1:=by simp [ha,hb]
  rw [if_neg ha,if_neg hb,if_neg this,Nat.xor_zero,Nat.xor_zero,Nat.xor_zero]
theorem QlE {n:Nat} (h:n<4294967296):Qky n<4294967296:=by
 unfold Qky;exact Nat.xor_lt_two_pow (n:=32) (by omega) (by split <;> decide)
theorem QlD (n:Nat):Qky (2*n)=n:=by
 unfold Qky;rw [Nat.mul_mod_right,if_neg (by decide),Nat.xor_zero,Nat.mul_div_cancel_left _ (by decide)]
theorem Qgb (k:Nat):∀ {n:Nat},n<4294967296→Qbh k n<4294967296:=by
 induction k with
 | zero=>intro n h;exact h
 | succ k ih=>intro n h;exact ih (QlE h)
theorem Qdo (k:Nat):Qbh k 0=0:=by
 induction k with
 | zero=>rfl
 | succ k ih=>rw [Qbh,QlF,ih]
theorem QdD (k:Nat):∀ a b:Nat,Qbh k (a ^^^ b)=Qbh k a ^^^ Qbh k b:=by
 induction k with
 | zero=>intro a b;rfl
 | succ k ih=>intro a b;rw [Qbh,Qnh,ih];rfl
theorem Qe (j:Nat):∀ k n:Nat,Qbh (j+k) n=Qbh k (Qbh j n):=by
 induction j with
 | zero=>intro k n;rw [Nat.zero_add];rfl
 | succ j ih=>intro k n;rw [Nat.succ_add,Qbh,ih];rfl
theorem Qeu (k:Nat):∀ n:Nat,Qbh k (2 ^ k*n)=n:=by
 induction k with
 | zero=>intro n;rw [Nat.pow_zero,Nat.one_mul];rfl
 | succ k ih=>intro n;rw [Qbh,Nat.pow_succ,Nat.mul_comm (2 ^ k) 2,Nat.mul_assoc,QlD,ih]
theorem QlG (k i:Nat) (h:k≤i):Qbh k (2 ^ i)=2 ^ (i-k):=by
 have:2 ^ i=2 ^ k*2 ^ (i-k):=by rw [← Nat.pow_add];congr 1;omega
 rw [this,Qeu]
def Qne (s:Nat):List Nat→Nat
 | []=>s
 | c::r=>Qne (Qbh 8 (s ^^^ c)) r
theorem QlB (b:List Nat) (hb:∀ x∈b,x<256):∀ s,s<4294967296→Qne s b<4294967296:=by
 induction b with
 | nil=>intro s h;exact h
 | cons x r ih =>
  intro s h;have hx:=hb x (List.mem_cons_self ..);exact ih (fun y hy=>hb y (List.mem_cons_of_mem _ hy)) _ (Qgb 8 (Nat.xor_lt_two_pow (n:=32) h (by omega)))
def Qhb (n:Nat) (b:List Nat):Nat:=Qne (n ^^^ QgS) b ^^^ QgS
theorem Qmj {n:Nat} (h:n<4294967296):n ^^^ QgS<4294967296:=Nat.xor_lt_two_pow (n:=32) h (by decide)
theorem QnH {n:Nat} (h:n<4294967296) (b:List Nat) (hb:∀ x∈b,x<256):Qhb n b<4294967296:=Qmj (QlB b hb _ (Qmj h))
def Qq5 (b:List Nat):Nat:=Qhb 0 b
theorem Qnj (s h:Nat) (hh:h<16):s / 16 ^^^ Qbh 4 ((s ^^^ h) % 16)=Qbh 4 (s ^^^ h):=by
 have h1:(s ^^^ h) / 16=s / 16:=by
  have h0:=Nat.xor_div_two_pow (a:=s) (b:=h) (n:=4);rw [show h / 2 ^ 4=0 by omega,Nat.xor_zero] at h0;exact h0
 have h2:s ^^^ h=2 ^ 4*(s / 16) ^^^ (s ^^^ h) % 16:=by
  refine Nat.eq_of_testBit_eq fun i=>?_
  have e:(s ^^^ h) % 16=(s ^^^ h) % 2 ^ 4:=rfl;rw [e,Nat.testBit_xor (2 ^ 4*(s / 16)),Nat.testBit_mod_two_pow,← h1,Nat.testBit_two_pow_mul];by_cases hi:i<4
  ·have:¬ 4≤i:=by omega
   simp [hi,this]
  ·have h4:4≤i:=by omega
   rw [show (s ^^^ h) / 16=(s ^^^ h) / 2 ^ 4 from rfl,Nat.testBit_div_two_pow,show i-4+4=i by omega];simp [hi,h4]
 conv=>rhs;rw [h2,QdD,Qeu]
theorem Qni (s c:Nat):Qbh 4 (Qbh 4 (s ^^^ c % 16) ^^^ c / 16)=Qbh 8 (s ^^^ c):=by
 have h2:c=c % 16 ^^^ 2 ^ 4*(c / 16):=by
  refine Nat.eq_of_testBit_eq fun i=>?_
  have e:c % 16=c % 2 ^ 4:=rfl;rw [Nat.testBit_xor,e,Nat.testBit_mod_two_pow,Nat.testBit_two_pow_mul];by_cases hi:i<4
  ·have:¬ 4≤i:=by omega
   simp [hi,this]
  ·have h4:4≤i:=by omega
   rw [show c / 16=c / 2 ^ 4 from rfl,Nat.testBit_div_two_pow,show i-4+4=i by omega];simp [hi,h4]
 have h3:Qbh 8 (s ^^^ c)=Qbh 4 (Qbh 4 (s ^^^ c)):=Qe 4 4 _;rw [h3]
 congr 1
 conv=>rhs;rw [h2,← Nat.xor_assoc,QdD 4 (s ^^^ c % 16),Qeu]
theorem Qng (m:Nat) (h:m<4294967296):bits .xor .u32 ((m:Int) / 2) (bits .and .u32 3988292384 (-bits .and .u32 (m:Int) 1 % 4294967296))=((Qky m:Nat):Int):=by
 have h2:(m:Int) / 2=((m / 2:Nat):Int):=by omega
 rw [Qg,h2];unfold Qky;by_cases h1:m % 2=1
 ·have e:(-((m:Int) % 2)) % 4294967296=((2 ^ 32-1:Nat):Int):=by omega
  rw [e,Qdq _ 32 (by decide),if_pos h1];exact QfX (m / 2) Qfb (by omega) (by decide)
 ·have e:(-((m:Int) % 2)) % 4294967296=((2 ^ 0-1:Nat):Int):=by omega
  rw [e,Qdq _ 0 (by decide),if_neg h1];exact QfX (m / 2) 0 (by omega) (by decide)
theorem QmO (n k:Nat) (w:World) (hn:n<4294967296) (hk:k≤64) :
  Calls Tryz.prog 123 #[.int .u32 n,.int .i64 k] w fun e w'=>e=.returned (.int .u32 (Qbh k n))∧w=w':=by
 go_enter Tryz.func123,Tryz.ntmps123;go_wp2;go_loopw [0,6] (fun x i wr=>∃ (j m:Nat),x=.int .u32 m∧i=.int .i64 j∧j≤k∧m<4294967296∧Qbh (k-j) m=Qbh k n∧w=wr) (fun _ i _=>k-(intOf i).toNat)
 case atStart=>exact ⟨0,n,rfl,rfl,by omega,hn,rfl,rfl⟩
 case round =>
  obtain ⟨j,m,rfl,rfl,hj,hm,he,rfl⟩:=hrel;by_cases hlt:j<k
  ·have t1:decide ((j:Int)<(k:Int))=true:=by simp;omega
   go_wp2;go_roundw
   case rel =>
    refine ⟨j+1,Qky m,by rw [Qng m hm],rfl,by omega,QlE hm,?_,trivial⟩;rw [← he,show k-j=(k-(j+1))+1 by omega];rfl
   case measure=>simp [intOf];omega
  ·have t1:decide ((j:Int)<(k:Int))=false:=by simp;omega
   go_wp2;go_ret
   obtain rfl:j=k:=by omega
   rw [Nat.sub_self] at he;exact ⟨by rw [← he];rfl,rfl⟩
theorem Qo8 {k:IntKind} {a b:Int} (h:a=b):Value.int k a=.int k b:=by rw [h]
def Qh (k:Nat):Array Value:=((List.range 16).map fun i=>Value.int .u32 ((if i<k then Qbh 4 i else 0:Nat):Int)).toArray
theorem Qg4 (k:Nat):(Qh k).size=16:=by simp [Qh]
theorem Qh4 (k i:Nat) (h:i<16):(Qh k)[i]?=some (.int .u32 ((if i<k then Qbh 4 i else 0:Nat):Int)):=by
 simp [Qh,h]
theorem QiT:Qh 0=#[.int .u32 0,.int .u32 0,.int .u32 0,.int .u32 0,.int .u32 0,.int .u32 0,.int .u32 0,.int .u32 0,.int .u32 0,.int .u32 0,.int .u32 0,.int .u32 0,.int .u32 0,.int .u32 0,.int .u32 0,.int .u32 0]:=by kernel_rfl
theorem Qgk:Qh 16=#[.int .u32 (Qbh 4 0:Nat),.int .u32 (Qbh 4 1:Nat),.int .u32 (Qbh 4 2:Nat),.int .u32 (Qbh 4 3:Nat),.int .u32 (Qbh 4 4:Nat),.int .u32 (Qbh 4 5:Nat),.int .u32 (Qbh 4 6:Nat),.int .u32 (Qbh 4 7:Nat),.int .u32 (Qbh 4 8:Nat),.int .u32 (Qbh 4 9:Nat),.int .u32 (Qbh 4 10:Nat),.int .u32 (Qbh 4 11:Nat),.int .u32 (Qbh 4 12:Nat),.int .u32 (Qbh 4 13:Nat),.int .u32 (Qbh 4 14:Nat),.int .u32 (Qbh 4 15:Nat)]:=by kernel_rfl
theorem Qn3 (k:Nat) (h:k<16):(Qh k).setIfInBounds k (.int .u32 (Qbh 4 k:Nat))=Qh (k+1):=by
 apply Array.ext_getElem?;intro i;rw [Array.getElem?_setIfInBounds];by_cases hi:i<16
 ·rw [Qh4 _ i hi,Qh4 _ i hi,Qg4]
  by_cases hk:k=i
  ·subst hk;simp [h]
  ·by_cases h2:i<k
   ·have h3:i<k+1:=by omega
    simp [hk,h2,h3]
   ·have h3:¬ i<k+1:=by omega
    simp [hk,h2,h3]
 ·have e1:(Qh k)[i]?=none:=Array.getElem?_eq_none (by rw [Qg4];omega)
  have e2:(Qh (k+1))[i]?=none:=Array.getElem?_eq_none (by rw [Qg4];omega)
  have hk:¬ k=i:=by omega
  simp [hk,e1,e2]
theorem QmN (w:World) :
  Calls Tryz.prog 103 #[] w fun e w'=>e=.returned (.agg (Qh 16))∧Below w.heap.size w w':=by
 go_enter Tryz.func103,Tryz.ntmps103;go_wp2;rw [← QiT];go_loopw [2,3] (fun u i wr=>∃ k:Nat,k≤16∧i=.int .i64 k∧wr=(w.alloc (.cells (Qh 0) 46)).alloc (.cells (Qh k) 46)) (fun _ i _=>16-(intOf i).toNat)
 case atStart=>exact ⟨0,by omega,rfl,rfl⟩
 case round =>
  obtain ⟨k,hk,rfl,rfl⟩:=hrel;by_cases hlt:k<16
  ·have t1:decide ((k:Int)<16)=true:=by simp;omega
   have hg:(Qh k)[k]?=some (.int .u32 0):=by rw [Qh4 k k hlt];simp
   have hw:(k:Int) % 4294967296=k:=by omega
   go_wp2_with (go_at_call 123;refine (QmO k 4 _ (by omega) (by decide)).mono ?_;rintro e w' ⟨rfl,rfl⟩);go_roundw
   case rel=>exact ⟨k+1,by omega,rfl,by rw [Qn3 k hlt]⟩
   case measure=>simp [intOf];omega
  ·have t1:decide ((k:Int)<16)=false:=by simp;omega
   obtain rfl:k=16:=by omega
   rw [Qgk,QiT];go_wp2;refine bodyPost_ret (v:=.agg (Qh 16)) ?_ rfl ⟨rfl,?_⟩
   ·rw [Qgk];simp [results,Tryz.results103,go_sem]
   ·exact ((QB _ w).alloc (QN _) _).alloc (by simp) _
section
attribute [local go_sem] Oper.semAt_some
theorem Qm1:∀ f:FuncId,none=some f→Fence.wide.fn f:=fun f h=>by cases h
def Qcc (zs:List Int):List Nat:=zs.flatMap fun z=>[z.toNat % 16,z.toNat / 16]
theorem Qha (zs:List Int):(Qcc zs).length=2*zs.length:=by
 induction zs with
 | nil=>rfl
 | cons z r ih=>simp only [Qcc,List.flatMap_cons,QL,List.length_cons,List.length_nil] at ih ⊢;omega
theorem QkK (zs:List Int):∀ k (h:k<zs.length),(Qcc zs)[2*k]?=some (zs[k].toNat % 16)∧(Qcc zs)[2*k+1]?=some (zs[k].toNat / 16):=by
 induction zs with
 | nil=>intro k h;simp at h
 | cons z r ih =>
  intro k h;have e:Qcc (z::r)=[z.toNat % 16,z.toNat / 16]++Qcc r:=rfl;rw [e]
  cases k with
  | zero=>exact ⟨rfl,rfl⟩
  | succ k =>
   have:=ih k (by simpa using h);rw [List.getElem?_append_right (by simp;omega),List.getElem?_append_right (by simp;omega)];simp only [List.length_cons,List.length_nil,List.getElem_cons_succ];rw [show 2*(k+1)-(0+1+1)=2*k by omega,show 2*(k+1)+1-(0+1+1)=2*k+1 by omega];exact this
theorem Ql0 (F:Fence) (n:Nat) (hF:F.fn 104) (hro:F.round=none) (a:Option Addr) (len cap:Nat) (w:World) :
  CallsIn F n Tryz.prog 104 #[.slice a len cap] w fun e w' =>
   e=.returned (.func (.func 124) #[] #[.pointer (some ⟨w.heap.size,0,none⟩)])∧w'=w.alloc (.cells #[.slice a len cap] 22):=by
 refine callsIn_of_wp Tryz.func104 rfl hF ?_ hro;simp only [Tryz.ntmps104,QS,List.length_cons,List.length_nil,Nat.reduceAdd,Nat.reduceSub,Array.replicate_succ,Array.replicate_zero,List.push_toArray,List.append_toArray,List.nil_append,List.cons_append]
 gi_wp2
 go_ret;exact ⟨rfl,rfl⟩
theorem Qiz (B1:Nat) (sv:Value) (zs:List Int) (w:World) (h1:B1<w.heap.size) (c1:w.cell? ⟨B1,0,none⟩=some sv) (hr:QaL w.heap.size w sv zs) (hsm:zs.length≤140737488351232) :
  Qp Tryz.prog 124 #[.pointer (some ⟨B1,0,none⟩)] (fun h:Nat=>#[.int .u32 (h:Int)]) (fun b=>b=B1∨QaO sv b) (Qcc zs) w:=by
 intro l J Jx S0 W hW hJ hJx hlt hX hY h0;have C1:W.cell? ⟨B1,0,none⟩=some sv:=(hW.cell (p:=⟨B1,0,none⟩) h1).trans c1;have hWs:=hW.size;have hN:=Qha zs;obtain ⟨a,cap,rfl⟩:=hr.slice
 have hrW:QaL w.heap.size W (.slice a zs.length cap) zs:=hr.same fun b hb=>hW.block b (hr.lt b hb)
 have x1:¬ S0 B1:=hX _ (.inl rfl);refine (callsIn_wide (n:=101)).1 ?_;refine callsIn_of_wp Tryz.func124 rfl trivial ?_ rfl;simp only [Tryz.ntmps124,QS,List.length_cons,List.length_nil,Nat.reduceAdd,Nat.reduceSub,Array.replicate_succ,Array.replicate_zero,List.push_toArray,List.append_toArray,List.nil_append,List.cons_append];refine Qel ?_
 gi_wp2
 refine wpIn_label ?_
 gi_wp2
 gi_loopw [4,7] (fun _ i wr=>∃ (k:Nat) (S:Nat→Prop),i=.int .i64 (k:Int)∧k≤zs.length∧J (2*k) S wr∧Wr S0 S W wr) (fun _ i _=>zs.length-(intOf i).toNat)
 case atStart=>exact ⟨0,S0,rfl,Nat.zero_le _,h0,Wr.refl _ _⟩
 case round =>
  obtain ⟨k,S,rfl,hk,hJs,hw⟩:=hrel;by_cases hlt:k<zs.length
  ·have t1:decide ((k:Int)<((zs.length:Nat):Int))=true:=by simp;omega
   obtain ⟨hz,b,off,hO,hc⟩:=hrW.1.open;obtain ⟨rfl,hb,hle,hcap⟩:=hO (by omega);clear hO;have hck:wr.cell? ⟨b,off+k,none⟩=some (.int .u8 (zs.getD k 0)):=QaF (p:=⟨b,off+k,none⟩) (hw.block _ (by show b<_;omega) (hX _ (.inr (by exact ⟨(by omega:0<zs.length),rfl⟩)))) (hc k hlt)
   obtain ⟨c,hc0,hc1⟩:∃ c:Nat,zs[k]=(c:Int)∧c≤255:=by
    have h:=hr.2 _ (List.getElem_mem hlt);exact ⟨zs[k].toNat,by omega,by omega⟩
   rw [Qba zs k hlt,hc0] at hck;obtain ⟨g1,g2⟩:=QkK zs k hlt;rw [hc0,Int.toNat_natCast] at g1 g2;obtain ⟨e1,g1⟩:=List.getElem?_eq_some_iff.1 g1;obtain ⟨e2,g2⟩:=List.getElem?_eq_some_iff.1 g2
   have hY2:=fun S W1 hj=>hY (2*k+1) e2 S W1 hj
   obtain ⟨fn,tmps,assign,body,hy,hR⟩:=hY (2*k) e1 S wr hJs;rw [g1,show ((c % 16:Nat):Int)=(c:Int) % 16 by omega] at hy;rw [g2,show ((c / 16:Nat):Int)=(c:Int) / 16 by omega] at hY2;clear hc
   gi_wp2
   refine hR.mono ?_;rintro e W3 (⟨rfl,S',hJ3,hw3⟩ | ⟨rfl,S',hJx3,hw3⟩)
   ·obtain ⟨fn2,tmps2,assign2,body2,hy2,hR2⟩:=hY2 S' W3 hJ3
    clear hy hR hY2
    gi_wp2
    refine hR2.mono ?_;rintro e W4 (⟨rfl,S'',hJ4,hw4⟩ | ⟨rfl,S'',hJx4,hw4⟩)
    ·have hw':=(hw.trans hw3).trans hw4
     clear hy2 hR2
     gi_wp2
     go_roundw
     case rel=>exact ⟨k+1,S'',rfl,by omega,hJ4,hw'⟩
     case measure=>simp [intOf];omega
    ·clear hy2 hR2
     gi_wp2
     simp only [Exit.noGoto];go_end0;exact ⟨⟨_,rfl⟩,.inr ⟨2*k+1+1,S'',by omega,hJx4⟩⟩
   ·clear hy hR hY2
    gi_wp2
    with_reducible refine QA Qm1 ?_
    gi_wp2
    simp only [Exit.noGoto];go_end0;exact ⟨⟨_,rfl⟩,.inr ⟨2*k+1,S',by omega,hJx3⟩⟩
  ·have t1:decide ((k:Int)<((zs.length:Nat):Int))=false:=by simp;omega
   obtain rfl:k=zs.length:=by omega
   gi_wp2
   simp only [Exit.noGoto];go_end0;exact ⟨⟨_,rfl⟩,.inl ⟨S,by rw [hN];exact hJs⟩⟩
end
end Go.Proofs.YtejcandhijdnhaaGreat
