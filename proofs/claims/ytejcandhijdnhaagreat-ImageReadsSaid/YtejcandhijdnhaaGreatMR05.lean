/- Own texts of this seat, one behind the other, without needless spaces (part 5 of 26). -/
import Derived.Test.YtejcandhijdnhaaGreatMR01
import Derived.Test.YtejcandhijdnhaaGreatMR02
import Derived.Test.YtejcandhijdnhaaGreatMR04
import Derived.Deep.WholeRow
import Derived.BigFrameIn
import Derived.BigRegionIn
import Derived.Lib.Walk
import Derived.LoopIn
import Derived.LoopNIn
import Derived.Maps.OwnIn
import Derived.OwnWalkIn
import Derived.RangeFuncBox
import Derived.RangeFuncLeaves
import Derived.TacticsInMore
namespace Go.Proofs.YtejcandhijdnhaaGreat
open Go Go.RowKit
set_option linter.unusedVariables false
set_option linter.unusedSimpArgs false
set_option linter.unnecessarySimpa false
set_option maxRecDepth 100000
set_option maxHeartbeats 16000000
section
attribute [local go_sem] Oper.semAt_some QaB QaJ QaA
theorem QlV (F:Fence) (n:Nat) (hF:F.fn 86) (hro:F.round=none) (a:Option Addr) (len cap:Nat) (w:World) :
  CallsIn F n Tryz.prog 86 #[.slice a len cap] w fun e w' =>
   e=.returned (.func (.func 108) #[] #[.pointer (some ⟨w.heap.size,0,none⟩)])∧w'=w.alloc (.cells #[.slice a len cap] 22):=by
 refine callsIn_of_wp Tryz.func86 rfl hF ?_ hro;simp only [Tryz.ntmps86,QS,List.length_cons,List.length_nil,Nat.reduceAdd,Nat.reduceSub,Array.replicate_succ,Array.replicate_zero,List.push_toArray,List.append_toArray,List.nil_append,List.cons_append]
 gi_wp2
 go_ret;exact ⟨rfl,rfl⟩
theorem Qh3 (w:World) (p:Addr) (v:Value):(w.setCell p v).heap.size=w.heap.size:=by
 show (w.heap.modify _ _).size=_;rw [Array.size_modify]
def Qqi (B base g N c7:Nat) (ys:List Value) (Sg:Nat→Prop) (w7:World) (v1 v2:Value) (w2:World):Prop :=
 v1=undef∧v2=undef∧Boxed w2 B 59 (.slice (some ⟨g,0,none⟩) (N+1) c7)∧w2.ownsRow base 66 3 (.slice (some ⟨g,0,none⟩) (N+1) c7) (N+1) ys∧Wr Sg Sg w7 w2
theorem Qnw:(Tryz.prog.info? 59).map (·.size)=some 1:=by kernel_rfl
theorem QeK {p:Prop} (h:∃ b,some undef=some (Value.bool b)):p:=by
 obtain ⟨b,h⟩:=h
 cases h
theorem Qm {n:Nat} {bs:List Int} {A:Nat} {a:Option Addr} {cap:Nat} (hn:bs.length≤A+n) (h:Qch n bs A a cap=[]):bs.length≤A:=by
 by_cases h1:bs.length≤A
 ·exact h1
 ·by_cases hb:bs.length<A+5∨bs.getD A 0=0∨bs.length<A+5+Qbw bs A
  ·rw [Qfe hn h1 hb] at h;cases h
  ·cases n with
   | zero=>omega
   | succ n=>rw [QfL h1 hb] at h;cases h
def Qi5 (m:Nat):Prop:=∀ (d:Nat) (bs:List Int) (W:World) (a:Option Addr) (len cap:Nat),bs.length≤m→(d≤8∨d=9∧bs=[])→bs.length≤1048576→QaL W.heap.size W (.slice a len cap) bs →
 Calls Tryz.prog 56 #[.slice a len cap,.int .i64 d] W (QjJ 0 d bs W)
theorem Qmx (m:Nat) (ih:∀ m',m'<m→Qi5 m'):Qi5 m:=by
 intro d bs W a len cap hm hd hbl hr;obtain ⟨i0,hi,hz0,hz1,hz2⟩:=info_parts Qc1;have hlen:=hr.1.open.1;refine (callsIn_wide (n:=102)).1 ?_;refine callsIn_of_wp_marks Tryz.func56 rfl trivial ?_ rfl;simp only [Tryz.ntmps56,QS,List.length_cons,List.length_nil,Nat.reduceAdd,Nat.reduceSub,Array.replicate_succ,Array.replicate_zero,List.push_toArray,List.append_toArray,List.nil_append,List.cons_append];have hch:Fence.wide.fn 86:=trivial
 gi_wp2
 refine Qel ?_
 gi_wp2
 refine wpIn_label ?_
 gi_wp2_with (gi_at_call 86;refine (QlV Fence.wide _ trivial rfl _ _ _ _).mono ?_;rintro e w' ⟨rfl,rfl⟩)
 obtain ⟨W3,hW3⟩:∃ W3,W3=(((W.alloc (.cells #[.int .i64 d] 3)).alloc (.cells #[.slice none 0 0] 59)).alloc (.cells #[.bool true] 4)).alloc (.cells #[.slice a len cap] 22):=⟨_,rfl⟩
 have sz:W3.heap.size=W.heap.size+4:=by rw [hW3];simp
 have bW:Below W.heap.size W W3:=by rw [hW3];exact ((((QB _ W).alloc (QN _) _).alloc (by simp) _).alloc (by simp;omega) _).alloc (by simp;omega) _
 have bD:Boxed W3 W.heap.size 3 (.int .i64 d):=by rw [hW3];exact (((Boxed.new W _ _).alloc _).alloc _).alloc _
 have bO:Boxed W3 (W.heap.size+1) 59 (.slice none 0 0):=by
  rw [hW3];have:=Boxed.new (W.alloc (.cells #[.int .i64 d] 3)) 59 (.slice none 0 0);rw [World.size_alloc] at this;exact (this.alloc _).alloc _
 have bF:Boxed W3 (W.heap.size+1+1) 4 (.bool true):=by
  rw [hW3];have:=Boxed.new ((W.alloc (.cells #[.int .i64 d] 3)).alloc (.cells #[.slice none 0 0] 59)) 4 (.bool true);rw [World.size_alloc,World.size_alloc] at this;exact this.alloc _
 have bB:Boxed W3 (W.heap.size+1+1+1) 22 (.slice a len cap):=by
  rw [hW3];have:=Boxed.new (((W.alloc (.cells #[.int .i64 d] 3)).alloc (.cells #[.slice none 0 0] 59)).alloc (.cells #[.bool true] 4)) 22 (.slice a len cap);rw [World.size_alloc,World.size_alloc,World.size_alloc] at this;exact this
 rw [← hW3];have hrl:=hr.lt;have hr3:QaL W3.heap.size W3 (.slice a len cap) bs:=(hr.same fun b hb=>bW.block b (hr.lt b hb)).mono (by omega);clear hW3 hch;obtain ⟨xs,hxs⟩:∃ xs,xs=Qch bs.length bs 0 a cap:=⟨_,rfl⟩;have hit:=Qis (W.heap.size+1+1+1) a len cap bs W3 bB hr3 (fun h=>by have:=hrl _ h;omega) hbl;rw [← hxs] at hit
 refine QkY (gf:=108) rfl (enters_of Tryz.func108 (by kernel_rfl) rfl) hit (fun _=>rfl)
  (fun k S A=>∃ (v:Value) (Ap m fuel N:Nat) (a':Option Addr) (cap':Nat) (P:Forest) (vs:List Value) (S1:Nat→Prop),S=(fun b=>b=W.heap.size+1∨b=W.heap.size+1+1∨v.ownBlock=some b∨S1 b)∧Ap+m=len∧m≤fuel∧Hid (xs.drop k=Qch fuel bs Ap a' cap')∧Hid (Rd d bs Ap P)∧QaL W.heap.size W (.slice a' m cap') (bs.drop Ap)∧N*5≤Ap∧P.length=N ∧
   Boxed A (W.heap.size+1) 59 v∧Boxed A (W.heap.size+1+1) 4 (.bool true)∧A.ownsRow (W.heap.size+4) 66 3 v N vs∧Qat S1 A P vs∧(∀ x,S1 x→W.heap.size+4≤x∧x<A.heap.size∧v.ownBlock≠some x)∧Boxed A W.heap.size 3 (.int .i64 d)∧Below W.heap.size W A)
  (fun c k S A=>∃ (ra:Option Addr) (rl rc:Nat),c=.exit 0∧S=(fun b=>b=W.heap.size+1∨b=W.heap.size+1+1)∧Boxed A (W.heap.size+1) 59 (.slice ra rl rc)∧Boxed A (W.heap.size+1+1) 4 (.bool false)∧Hid (Qa9 d bs=none)∧Below W.heap.size W A)
  (fun b=>b=W.heap.size+1∨b=W.heap.size+1+1) ?hX ?hYw ?hI ?hIx ?hlt ?h0
  (fun x=>{ tmps:=#[.slice a len cap,.int .i64 d,undef,.pointer (some ⟨W.heap.size,0,none⟩),.slice none 0 0,.bool false,.pointer (some ⟨W.heap.size+1,0,none⟩),.pointer (some ⟨W.heap.size+1+1,0,none⟩),.int .i64 x.1,x.2,undef,.slice a len cap,
   .func (.func 108) #[] #[.pointer (some ⟨W.heap.size+1+1+1,0,none⟩)],.int .i64 x.1,x.2,undef,undef,undef,undef,undef,undef,undef,undef,undef,undef,undef,undef,undef,undef,undef,undef,undef,undef,undef,undef,undef,undef,undef,undef,undef,undef,undef,undef,undef,undef,undef,undef,undef,undef,undef,undef,undef,undef,undef,undef,undef,undef],defers:=[] }) ?assign ?body ?done ?stop
 case hX =>
  rintro b (rfl | hb)
  ·exact ⟨by omega,fun h=>by omega⟩
  ·have:=hrl b hb
   exact ⟨by omega,fun h=>by omega⟩
 case hYw=>rintro b rfl;omega
 case hI =>
  rintro k S A A' ⟨v,Ap,m,fuel,N,a',cap',P,vs,S1,rfl,h1,h2,h3,h4,h5,h6,h7,h8,h9,h10,h11,h12,h13,h14⟩ hs;have hz:=hs.size
  exact ⟨v,Ap,m,fuel,N,a',cap',P,vs,S1,rfl,h1,h2,h3,h4,h5,h6,h7,(hs.block _ (.inr (.inl rfl))).trans h8,(hs.block _ (.inr (.inr (.inl rfl)))).trans h9,Qac h10 (fun b hb=>hs.block b (.inr (.inr (.inr (.inl hb))))),h11.keep (fun x hx=>hs.block x (.inr (.inr (.inr (.inr hx))))),
   fun x hx=>⟨(h12 x hx).1,by have:=(h12 x hx).2.1;omega,(h12 x hx).2.2⟩,(hs.block _ (.inl ⟨by omega,by omega⟩)).trans h13,h14.trans (hs.below (fun b hb=>.inl ⟨by omega,by omega⟩))⟩
 case hIx =>
  rintro c k S A A' ⟨ra,rl,rc,h1,rfl,h2,h3,h4,h5⟩ hs;exact ⟨ra,rl,rc,h1,rfl,(hs.block _ (.inr (.inl rfl))).trans h2,(hs.block _ (.inr (.inr rfl))).trans h3,h4,h5.trans (hs.below (fun b hb=>.inl ⟨by omega,by omega⟩))⟩
 case hlt =>
  rintro k S A ⟨v,Ap,m,fuel,N,a',cap',P,vs,S1,rfl,h1,h2,h3,h4,h5,h6,h7,h8,h9,h10,h11,h12,h13,h14⟩ b (rfl | rfl | hb | hb)
  ·exact h8.lt
  ·exact h9.lt
  ·exact (h10.lt b hb).2
  ·exact (h12 b hb).2.1
 case h0 =>
  refine ⟨.slice none 0 0,0,len,bs.length,0,a,cap,.nil,[],fun _=>False,?_,Nat.zero_add _,by omega,by rw [hxs];rfl,Rd.start d bs,by rw [List.drop_zero];exact hr,QN _,rfl,bO,bF,World.ownsRow_nil _ _ _ _,Qat.nil,fun x h=>h.elim,bD,bW⟩
  funext b;simp [Value.ownBlock]
 case assign =>
  intro l' x A K hK;dsimp only [Qpp]
  gi_wp2
  exact hK
 case body =>
  rintro l' k hk S A ⟨v,Ap,m,fuel,N,a',cap',P,vs,S1,rfl,h1,h2,h3,h4,h5,h6,h7,h8,h9,h10,h11,h12,h13,h14⟩;have hby:=hr.2;have hdk:=List.drop_eq_getElem_cons hk
  have hm0:¬ bs.length≤Ap:=fun h=>by
   have h20:=(show xs.drop k=Qch fuel bs Ap a' cap' from h3);rw [QiI h,hdk] at h20
   cases h20
  have hcD:=h13.cell;have c1:=h8.cell;have c2:=h9.cell
  have hd8:d≤8:=by
   rcases hd with h | ⟨_,h⟩
   ·exact h
   ·rw [h] at hm0;simp at hm0
  obtain ⟨va,vc,rfl,hva⟩:=Qaa h10;obtain ⟨V0,hV0⟩:∃ V0,V0=A.heap.size:=⟨_,rfl⟩;by_cases hbad:bs.length<Ap+5∨bs.getD Ap 0=0∨bs.length<Ap+5+Qbw bs Ap
  ·have hxk:xs[k]=(0,.slice none 0 0):=by
    have h20:=(show xs.drop k=Qch fuel bs Ap a' cap' from h3);rw [Qfe (by omega) hm0 hbad,hdk] at h20;injection h20
   have hno:Qa9 d bs=none:=by
    by_cases h5:bs.length<Ap+5
    ·exact Rd.short (show Rd d bs Ap P from h4) (by omega) h5
    ·exact Rd.bad (show Rd d bs Ap P from h4) (by omega) (.inr (by omega))
   rw [hxk];have HNO:=QQ hno;have H:=QQ (QA h8 (QA h9 h14));clear hbad hxk hno h3 h4 h5 hdk h10 h11 h12 ih hit hm0 h8 h9 h14;dsimp only
   gi_wp2_with ((fail_if_success (unfold Qag));refine QaV (t:=66) rfl ?_)
   unfold Qag;refine QaD rfl 66 (.tmp 10) (.tmp 16) rfl A.heap.size #[.int .i64 0,.slice none 0 0,.slice none 0 0] rfl rfl 66 zT (QW _ _) QbO rfl (QaS ..) ?_;rw [World.setRow_alloc_new];obtain ⟨V4,hV4⟩:∃ V4,V4=A.alloc (.cells #[.int .i64 0,.slice none 0 0,.slice none 0 0] 66):=⟨_,rfl⟩
   have b4:Below A.heap.size A V4:=by rw [hV4];exact (QB _ _).alloc (QN _) _
   obtain ⟨h8,h9,h14⟩:=(QG H);have g8:Boxed V4 (W.heap.size+1) 59 (.slice va N vc):=(b4.block _ h8.lt).trans h8;have g9:Boxed V4 (W.heap.size+1+1) 4 (.bool true):=(b4.block _ h9.lt).trans h9;have q9:=g9.cell;have f9:=g9.frozen;have q10:=(g9.set (.bool false)).cell;rw [← hV4];clear hV4
   gi_wp2
   try (any_goals (exact QeK ⟨_,by assumption⟩))
   have hlA:=h9.lt;refine ⟨fun b=>b=W.heap.size+1∨b=W.heap.size+1+1,⟨va,N,vc,rfl,rfl,(Below.heap_setCell _ _ _ _ (by show W.heap.size+1≠W.heap.size+1+1;omega)).trans g8,g9.set _,HNO,(h14.trans (b4.mono h14.size)).setCell (p:=⟨W.heap.size+1+1,0,none⟩) (by show W.heap.size≤W.heap.size+1+1;omega) _⟩,?_⟩
   exact ((Wr.of_below (S:=fun b=>b=W.heap.size+1∨b=W.heap.size+1+1∨(Value.slice va N vc).ownBlock=some b∨S1 b) b4).setCell (p:=⟨W.heap.size+1+1,0,none⟩) (.inl (.inr (.inl rfl))) _).to fun b hb=>hb.elim (fun h=>.inl (.inl h)) (fun h=>.inl (.inr (.inl h)))
  obtain ⟨fu,rfl⟩:∃ f,fuel=f+1:=⟨fuel-1,by omega⟩;obtain ⟨x0,hx0⟩:∃ x,x=bs.getD Ap 0:=⟨_,rfl⟩;obtain ⟨L,hL⟩:∃ L,L=Qbw bs Ap:=⟨_,rfl⟩;have hx1:=(show xs.drop k=Qch (fu+1) bs Ap a' cap' from h3).trans (QfL hm0 hbad);rw [← hx0,← hL] at hx1;rw [hdk] at hx1
  injection hx1 with hxk hx3
  have n2:5+L≤m:=by omega
  have hz0':0≤x0∧x0≤255:=by rw [hx0,Qba _ _ (by omega)];exact hby _ (List.getElem_mem _)
  have hx00:x0≠0:=by omega
  have s0:(x0 == 0)=false:=by simp [hx00]
  have hvl:(QcI bs Ap).length=L:=by rw [Qf5 _ _ (by omega)];exact hL.symm
  obtain ⟨q5,hq5⟩:∃ q,sliced a' 5 (5+L) cap' 1=.slice q L (cap' - 5):=by
   refine ⟨adr (sliced a' 5 (5+L) cap' 1),?_⟩;have h20:sliced a' 5 (5+L) cap' 1=.slice (adr (sliced a' 5 (5+L) cap' 1)) (5+L-5) (cap' - 5):=rfl;rw [show 5+L-5=L by omega] at h20;exact h20
  obtain ⟨q6,hq6⟩:∃ q,sliced a' (5+L) (bs.length-Ap) cap' 1=.slice q (m-(5+L)) (cap' - (5+L)):=by
   rw [show bs.length-Ap=m by omega];exact ⟨_,rfl⟩
  have hsv:=(h5.sub 5 (5+L) (by omega) n2).1;rw [hq5,show 5+L-5=L by omega,List.drop_drop,hL,show (bs.drop (Ap+5)).take (Qbw bs Ap)=QcI bs Ap from rfl,← hL] at hsv;have hsn:=(h5.sub (5+L) m n2 (QN _)).1;rw [show m=bs.length-Ap by omega,hq6,show m-(5+L)=m-(5+L) from rfl,List.drop_drop,← Nat.add_assoc,List.take_of_length_le (by rw [List.length_drop];omega)] at hsn;rw [hq5] at hxk;rw [hq6] at hx3;rw [hxk];have hnx:=QQ (show xs.drop (k+1)=Qch fu bs (Ap+5+L) q6 (cap' - (5+L)) from hx3);have HX0:=QQ hx0;have HL:=QQ hL;obtain ⟨c5,hc5⟩:∃ c5,c5=cap' - 5:=⟨_,rfl⟩;rw [← hc5] at hsv ⊢
  have h35:Ap+5+Qbw bs Ap≤bs.length:=by rw [← hL];omega
  clear hc5 hxk hx3 hq5 hq6 hdk h3 hm0 hx0 hL hbad;by_cases ht:128≤x0
  ·have t2:decide ((128:Int)≤x0)=true:=by simp;omega
   by_cases h88:8≤d∧0<L
   ·have t3:decide ((8:Int)≤(d:Int))=true:=by simp;omega
    have t4:decide ((0:Int)<(L:Int))=true:=by simp;omega
    have hno:Qa9 d bs=none:=(show Rd d bs Ap P from h4).kidsNone (by omega) (by rw [← (QG HX0)];exact ht) (by
     cases hk9:Qa9 (d+1) (QcI bs Ap) with
     | none=>rfl
     | some f9 =>
      have h20:=(Qmv (by omega) hk9).1;rw [h20] at hvl;simp at hvl
      omega)
    have HNO:=QQ hno;have H:=QQ (QA h8 (QA h9 h14));clear hno h4 h5 h10 h11 h12 ih hit h8 h9 h14 hsv hsn hnx;dsimp only
    gi_wp2_with first
     | ((fail_if_success (unfold Qag));refine QaV (t:=66) rfl ?_)
    unfold Qag;refine QaD rfl 66 (.tmp 10) (.tmp 16) rfl A.heap.size #[.int .i64 x0,.slice none 0 0,.slice none 0 0] rfl rfl 66 zT (QW _ _) QbO rfl (QaS ..) ?_;rw [World.setRow_alloc_new];obtain ⟨V4,hV4⟩:∃ V4,V4=A.alloc (.cells #[.int .i64 x0,.slice none 0 0,.slice none 0 0] 66):=⟨_,rfl⟩
    have b4:Below A.heap.size A V4:=by rw [hV4];exact (QB _ _).alloc (QN _) _
    have x4:V4.heap[A.heap.size]?=some (.cells #[.int .i64 x0,.slice none 0 0,.slice none 0 0] 66):=by rw [hV4];exact QW _ _
    have s4h:V4.heap.size=A.heap.size+1:=by rw [hV4];simp
    rw [← hV4];clear hV4;obtain ⟨h8,h9,h14⟩:=(QG H);have g8:Boxed V4 (W.heap.size+1) 59 (.slice va N vc):=(b4.block _ h8.lt).trans h8;have g9:Boxed V4 (W.heap.size+1+1) 4 (.bool true):=(b4.block _ h9.lt).trans h9;have g13:Boxed V4 W.heap.size 3 (.int .i64 d):=(b4.block _ h13.lt).trans h13;have q9:=g9.cell;have f9:=g9.frozen;have q10:=(g9.set (.bool false)).cell;have q13:=g13.cell;clear x4
    gi_wp2
    try (any_goals (exact QeK ⟨_,by assumption⟩))
    refine ⟨fun b=>b=W.heap.size+1∨b=W.heap.size+1+1,⟨va,N,vc,rfl,rfl,(Below.heap_setCell _ _ _ _ (by show W.heap.size+1≠W.heap.size+1+1;omega)).trans g8,g9.set _,HNO,(h14.trans (b4.mono h14.size)).setCell (p:=⟨W.heap.size+1+1,0,none⟩) (by show W.heap.size≤W.heap.size+1+1;omega) _⟩,?_⟩
    exact ((Wr.of_below (S:=fun b=>b=W.heap.size+1∨b=W.heap.size+1+1∨(Value.slice va N vc).ownBlock=some b∨S1 b) b4).setCell (p:=⟨W.heap.size+1+1,0,none⟩) (.inl (.inr (.inl rfl))) _).to fun b hb=>hb.elim (fun h=>.inl (.inl h)) (fun h=>.inl (.inr (.inl h)))
   have hcs:d<8∨(d=8∧L=0):=by omega
   have t3s:∃ b3,decide ((8:Int)≤(d:Int))=b3∧(b3=true→decide ((0:Int)<(L:Int))=false∧decide (0<L)=false∧¬ 0<L):=⟨_,rfl,fun h3=>by
    have:=of_decide_eq_true h3
    exact ⟨by simp;omega,by simp;omega,by omega⟩⟩
   obtain ⟨b3,t3,t456⟩:=t3s
   have hdn:d+1≤8∨d+1=9∧QcI bs Ap=[]:=by
    rcases hcs with hd7 | ⟨hd7,hL0⟩
    ·exact .inl (by omega)
    ·exact .inr ⟨by omega,List.eq_nil_of_length_eq_zero (by omega)⟩
   clear hcs h88
   cases b3
   all_goals
    first
    | (obtain ⟨t4,t5,t6⟩:=t456 rfl;clear t456)
    | clear t456
    have hch:Fence.wide.fn 56:=trivial;have IH:=QQ (ih (QcI bs Ap).length (by omega) (d+1) (QcI bs Ap));have H:=QQ (QA h8 (QA h9 (QA h14 (QA h10 (QA h11 (QA h12 h13))))));have HR4:=QQ h4;have hAl:=h8.lt;have hA9:=h9.lt;have hAs:=h14.size;clear ih hit h4 h5 h8 h9 h10 h11 h12 h13 h14;dsimp only
    gi_wp2_with first
     | ((fail_if_success (unfold Qag));refine QaV (t:=66) rfl ?_)
    unfold Qag;refine QaD rfl 66 (.tmp 10) (.tmp 16) rfl A.heap.size #[.int .i64 x0,.slice none 0 0,.slice none 0 0] rfl rfl 66 zT (QW _ _) QbO rfl (QaS ..) ?_;rw [World.setRow_alloc_new];obtain ⟨V4,hV4⟩:∃ V4,V4=A.alloc (.cells #[.int .i64 x0,.slice none 0 0,.slice none 0 0] 66):=⟨_,rfl⟩
    have b4:Below A.heap.size A V4:=by rw [hV4];exact (QB _ _).alloc (QN _) _
    have x4:V4.heap[A.heap.size]?=some (.cells #[.int .i64 x0,.slice none 0 0,.slice none 0 0] 66):=by rw [hV4];exact QW _ _
    have s4h:V4.heap.size=A.heap.size+1:=by rw [hV4];simp
    rw [← hV4];clear hV4;obtain ⟨h8,h9,h14,h10,h11,h12,h13⟩:=(QG H);have g8:Boxed V4 (W.heap.size+1) 59 (.slice va N vc):=(b4.block _ h8.lt).trans h8;have g9:Boxed V4 (W.heap.size+1+1) 4 (.bool true):=(b4.block _ h9.lt).trans h9;have g13:Boxed V4 W.heap.size 3 (.int .i64 d):=(b4.block _ h13.lt).trans h13;have q13:=g13.cell
    have hsv4:QaL V4.heap.size V4 (.slice q5 L c5) (QcI bs Ap):=hsv.to fun b hb=>⟨(b4.block b (by omega)).trans (h14.block b hb),by omega⟩
    have kc:Calls Tryz.prog 56 #[.slice q5 L c5,.int .i64 ((d:Int)+1)] V4 (QjJ 0 (d+1) (QcI bs Ap) V4):=(QG IH) V4 q5 L c5 (QN _) hdn (by omega) hsv4;have KC:=QQ kc;have X4:=QQ x4;clear kc IH h8 h9 h10 h11 h12 h13 h14 x4 hsv4
    gi_wp2_with first
     | (gi_at_call 56;refine Qau ?_)
    try (any_goals (exact QeK ⟨_,by assumption⟩))
    unfold Qag;refine (Qd8 l' _ KC).mono ?_;rintro e w5 ⟨b5,ra,rl,rc,ok,rfl,hno5,hs5⟩
    try dsimp only
    have hb45:=b5.size;have e5:w5.heap[A.heap.size]?=some (.cells #[.int .i64 x0,.slice none 0 0,.slice none 0 0] 66):=(b5.block A.heap.size (by omega)).trans X4
    have cc5:w5.cell? ⟨A.heap.size,2,none⟩=some (.slice none 0 0):=by rw [cell_of_row w5 _ 2 _ _ _ e5];rfl
    have ff5:=frozen_of_row w5 A.heap.size 2 _ _ e5;have k58:Boxed (w5.setCell ⟨A.heap.size,2,none⟩ (.slice ra rl rc)) (W.heap.size+1) 59 (.slice va N vc):=(Below.heap_setCell _ _ _ _ (by show W.heap.size+1≠A.heap.size;omega)).trans ((b5.block _ g8.lt).trans g8);have k59:Boxed (w5.setCell ⟨A.heap.size,2,none⟩ (.slice ra rl rc)) (W.heap.size+1+1) 4 (.bool true):=(Below.heap_setCell _ _ _ _ (by show W.heap.size+1+1≠A.heap.size;omega)).trans ((b5.block _ g9.lt).trans g9);have k53:Boxed (w5.setCell ⟨A.heap.size,2,none⟩ (.slice ra rl rc)) W.heap.size 3 (.int .i64 d):=(Below.heap_setCell _ _ _ _ (by show W.heap.size≠A.heap.size;omega)).trans ((b5.block _ g13.lt).trans g13);have q9:=k59.cell;have f9:=k59.frozen;have q10:=(k59.set (.bool ok)).cell;have G58:=QQ ((Below.heap_setCell _ ⟨W.heap.size+1+1,0,none⟩ (.bool ok) _ (by show W.heap.size+1≠W.heap.size+1+1;omega)).trans k58)
    have s55:w5.heap.size=((w5.setCell ⟨A.heap.size,2,none⟩ (.slice ra rl rc)).setCell ⟨W.heap.size+1+1,0,none⟩ (.bool ok)).heap.size:=by
     rw [Qh3,Qh3]
    have hbA:Below A.heap.size A w5:=b4.trans (b5.mono (by omega));have E5:=QQ e5;have B5:=QQ b5;clear KC b5 e5 g8 g9 g13 X4 q13 hch
    cases ok with
    | false =>
     have hno:=QQ (hno5 rfl);clear hno5 hs5
     gi_wp2
     obtain ⟨h8,h9,h14,h10,h11,h12,h13⟩:=(QG H);have wA5:Wr (fun b=>b=W.heap.size+1∨b=W.heap.size+1+1∨(Value.slice va N vc).ownBlock=some b∨S1 b) (fun b=>b=W.heap.size+1∨b=W.heap.size+1+1∨(Value.slice va N vc).ownBlock=some b∨S1 b) A w5:=Wr.of_below hbA;refine ⟨fun b=>b=W.heap.size+1∨b=W.heap.size+1+1,⟨va,N,vc,rfl,rfl,G58,k59.set _,?_,?_⟩,?_⟩
     ·exact (QG HR4).kidsNone (by omega) (by rw [← (QG HX0)];exact ht) hno
     ·exact ((h14.trans (hbA.mono h14.size)).setCell (p:=⟨A.heap.size,2,none⟩) (by show W.heap.size≤A.heap.size;omega) _).setCell (p:=⟨W.heap.size+1+1,0,none⟩) (by show W.heap.size≤W.heap.size+1+1;omega) _
     ·exact ((wA5.setCell (p:=⟨A.heap.size,2,none⟩) (.inr (QN _)) _).setCell (p:=⟨W.heap.size+1+1,0,none⟩) (.inl (.inr (.inl rfl))) _).to fun b hb=>hb.elim (fun h=>.inl (.inl h)) (fun h=>.inl (.inr (.inl h)))
    | true =>
     obtain ⟨f,hf,hS5⟩:=hs5 rfl;have HF:=QQ hf;have HS5:=QQ hS5;clear hno5 hs5 hf hS5
     gi_wp2
     obtain ⟨Z,hZ⟩:∃ Z,Z=(w5.setCell ⟨A.heap.size,2,none⟩ (.slice ra rl rc)).setCell ⟨W.heap.size+1+1,0,none⟩ (.bool true):=⟨_,rfl⟩
     have kZ:∀ b,b≠A.heap.size→b≠W.heap.size+1+1→Z.heap[b]?=w5.heap[b]?:=fun b h1 h2=>by rw [hZ];exact (Below.heap_setCell _ _ _ _ h2).trans (Below.heap_setCell _ _ _ _ h1)
     have sZ:Z.heap.size=w5.heap.size:=by rw [hZ];exact s55.symm
     have eZ:Z.heap[A.heap.size]?=some (.cells #[.int .i64 x0,.slice none 0 0,.slice ra rl rc] 66):=by rw [hZ];exact (Below.heap_setCell _ _ _ _ (by show A.heap.size≠W.heap.size+1+1;omega)).trans (heap_setCell_same _ _ _ _ _ _ (QG E5))
     have g8:Boxed Z (W.heap.size+1) 59 (.slice va N vc):=by rw [hZ];exact G58
     have g9:Boxed Z (W.heap.size+1+1) 4 (.bool true):=by rw [hZ];exact k59.set _
     have oZ:Z.os=A.os∧Z.tape=A.tape∧Z.output=A.output:=by rw [hZ];exact ⟨hbA.os,hbA.tape,hbA.output⟩
     rw [← hZ];clear hZ;obtain ⟨h8,h9,h14,h10,h11,h12,h13⟩:=(QG H);have g13:Boxed Z W.heap.size 3 (.int .i64 d):=(kZ _ (by omega) (by omega)).trans ((hbA.block _ h13.lt).trans h13)
     have zA:∀ b,b<A.heap.size→b≠W.heap.size+1+1→Z.heap[b]?=A.heap[b]?:=fun b h1 h2=>(kZ b (by omega) h2).trans (hbA.block b h1)
     have own0:Z.ownsRow (W.heap.size+4) 66 3 (.slice va N vc) N vs:=Qac h10 fun b hb=>zA b (h10.lt b hb).2 (by have:=(h10.lt b hb).1;omega)
     have relP:Qat S1 Z P vs:=h11.keep fun x hx=>zA x (h12 x hx).2.1 (by have:=(h12 x hx).1;omega)
     have bZ:Below W.heap.size W Z:=⟨oZ.1.trans h14.os,oZ.2.1.trans h14.tape,oZ.2.2.trans h14.output,by omega,fun b hb=>(zA b (by omega) (by omega)).trans (h14.block b hb)⟩;have wZ:Wr (fun b=>b=W.heap.size+1∨b=W.heap.size+1+1∨(Value.slice va N vc).ownBlock=some b∨S1 b) (fun b=>b=W.heap.size+1∨b=W.heap.size+1+1∨(Value.slice va N vc).ownBlock=some b∨S1 b) A Z:=⟨oZ.1,oZ.2.1,oZ.2.2,by omega,fun b hb hs=>zA b hb (fun e=>hs (.inr (.inl e))),fun b h=>.inl h⟩
     have rel1:Qat (fun x=>V4.heap.size≤x∧x<w5.heap.size) Z (.cons x0 [] f .nil) [.int .i64 x0,.slice none 0 0,.slice ra rl rc]:=by
      refine Qat.one (by omega) (by omega) (by simp) (fun W' n' h1 h2=>⟨.inl ⟨_,_,rfl,rfl⟩,by simp⟩) (fun W' n' h1 h2=>?_)
      exact (QG HS5) W' n' fun x hx=>⟨(h1 x (by omega)).trans (kZ x (by omega) (by omega)),h2 x (by omega)⟩
     have hrd:=QQ ((QG HR4).kids h35 hd8 (by rw [← (QG HX0)];exact ht) (k:=f) HF);rw [← (QG HX0),← (QG HL)] at hrd
     have hT:∀ x,(V4.heap.size≤x∧x<w5.heap.size)→A.heap.size<x∧x<Z.heap.size:=fun x hx=>by omega
     obtain ⟨T,hTd⟩:∃ T:Nat→Prop,T=fun x=>V4.heap.size≤x∧x<w5.heap.size:=⟨_,rfl⟩
     rw [← hTd] at rel1
     replace hT:∀ x,T x→A.heap.size<x∧x<Z.heap.size:=by rw [hTd];exact hT
     obtain ⟨fl,hfl⟩:∃ fl,fl=Forest.cons x0 [] f .nil:=⟨_,rfl⟩
     have hf1:fl.length=1:=by rw [hfl];rfl
     rw [← hfl] at rel1 hrd;obtain ⟨ya,yl,yc,ka,kl,kc,hks⟩:∃ ya yl yc ka kl kc,(ya=none∧yl=0∧yc=0)∧(ka=ra∧kl=rl∧kc=rc):=⟨none,0,0,ra,rl,rc,⟨rfl,rfl,rfl⟩,rfl,rfl,rfl⟩;rw [show (Value.slice none 0 0)=.slice ya yl yc by rw [hks.1.1,hks.1.2.1,hks.1.2.2],show (Value.slice ra rl rc)=.slice ka kl kc by rw [hks.2.1,hks.2.2.1,hks.2.2.2]] at rel1 eZ
     have hsZ:A.heap.size+1≤Z.heap.size:=by omega
     clear kZ sZ oZ hTd hfl hks zA cc5 ff5 k58 k59 k53 q9 f9 q10 G58 s55 hbA E5 B5 HF HS5 b4 s4h H hb45
     have hNN:N≤1048576:=by omega
     have hAo:=fun x hx=>(h10.lt x hx).2
     obtain ⟨Sg,hSg⟩:∃ Sg:Nat→Prop,Sg=fun b=>(Value.slice va N vc).ownBlock=some b∨b=W.heap.size+1∨b=Z.heap.size+1:=⟨_,rfl⟩
     have z0:Z.cell? ⟨A.heap.size,0,none⟩=some (.int .i64 x0):=by rw [cell_of_row Z _ 0 _ _ _ eZ];rfl
     have z1:Z.cell? ⟨A.heap.size,1,none⟩=some (.slice ya yl yc):=by rw [cell_of_row Z _ 1 _ _ _ eZ];rfl
     have z2:Z.cell? ⟨A.heap.size,2,none⟩=some (.slice ka kl kc):=by rw [cell_of_row Z _ 2 _ _ _ eZ];rfl
     have z3:=g8.cell;have g8l:=g8.lt
     have HZX:=QQ (show ∀ W',Qaz Z.drew W'→W'.cell? ⟨W.heap.size+1,0,none⟩=some (.slice va N vc)∧W'.cell? ⟨A.heap.size,0,none⟩=some (.int .i64 x0)∧W'.cell? ⟨A.heap.size,1,none⟩=some (.slice ya yl yc)∧W'.cell? ⟨A.heap.size,2,none⟩=some (.slice ka kl kc) from fun W' hW=>by
      have hW2:=QbE hW
      exact ⟨(hW2.cell (p:=⟨W.heap.size+1,0,none⟩) g8l).trans z3,(hW2.cell (p:=⟨A.heap.size,0,none⟩) (by show A.heap.size<Z.heap.size;omega)).trans z0,(hW2.cell (p:=⟨A.heap.size,1,none⟩) (by show A.heap.size<Z.heap.size;omega)).trans z1,(hW2.cell (p:=⟨A.heap.size,2,none⟩) (by show A.heap.size<Z.heap.size;omega)).trans z2⟩)
     have HG:=QQ (QA g8 (QA g9 (QA g13 (QA own0 (QA relP (QA rel1 (QA bZ wZ)))))));have H12:=QQ h12;have HT:=QQ hT;have HSG:=QQ hSg;clear z0 z1 z2 z3 g8 g9 g13 own0 relP rel1 bZ wZ h12 hT eZ h8 h9 h14 h10 h11 h13 hSg;refine Qcw Qaz (Qa Sg) 4 4 (by kernel_rfl) rfl (by kernel_rfl) ?_;refine QbI [0,1,2] (by kernel_rfl) (by kernel_rfl) ?_
     iterate 3
      first
      | (refine Qcr (Qaz.pre) rfl (by rfl) (v:=?_) (fun W hW=>?_) (fun K hK=>?_);rotate_left;· (obtain ⟨q0,q1,q2,q3⟩:=(QG HZX) W hW;go_simp;first | done | rfl))
      | refine Qb0 (Qaz.pre) rfl (by rfl) (fun K hK=>?_)
      go_simp;refine hK _ ?_;clear hK K
     refine Qcq ?_;refine QaU 3 rfl (by kernel_rfl) (by rfl) (fun K hK=>?_);go_simp;obtain ⟨W6,hW6⟩:∃ W6,W6=(Z.alloc (Obj.cells #[.int .i64 0,.slice none 0 0,.slice none 0 0] 66)).drew:=⟨_,rfl⟩
     have b6:Below Z.heap.size Z W6:=by
      rw [hW6];have h20:Below Z.heap.size Z (Z.alloc (Obj.cells #[.int .i64 0,.slice none 0 0,.slice none 0 0] 66)):=(QB _ _).alloc (QN _) _;exact ⟨h20.os,h20.tape,h20.output,h20.size,h20.block⟩
     have x6:W6.heap[Z.heap.size]?=some (.cells #[.int .i64 0,.slice none 0 0,.slice none 0 0] 66):=by rw [hW6];exact QW _ _
     have s6:W6.heap.size=Z.heap.size+1:=by rw [hW6];show (Z.alloc _).heap.size=_;simp
     rw [← hW6];refine hK _ _ (show Qaz Z.drew W6 from ⟨b6.os,b6.tape,b6.output,b6.size,b6.block⟩) ?_;clear hW6;clear hK K;refine QaN (fun K hK=>?_);go_simp;refine hK _ ?_;clear hK K;refine Qcm (by kernel_rfl) ?_;obtain ⟨g8,g9,g13,own0,relP,rel1,bZ,wZ⟩:=(QG HG)
     have hul:=fun x hx=>own0.lt x hx
     have own6:W6.ownsRow (W.heap.size+4) 66 3 (.slice va N vc) N vs:=Qac own0 fun x hx=>b6.block x (hul x hx).2
     have hvs3:vs.length=N*3:=own0.1;have G6:=QQ ((b6.block _ g8.lt).trans g8)
     have hbs6:W.heap.size+4≤W6.heap.size:=by omega
     have B6:=QQ b6;clear g8 g9 g13 own0 relP rel1 bZ wZ b6 HZX;refine Qal (fun K hK=>?_);go_simp;refine hK _ ?_;clear hK K;refine Qaq 4 rfl (by kernel_rfl) (by rfl) (fun K hK=>?_)
     refine QaQ (.tmp 49) (.tmp 52) 59 rfl (W.heap.size+4) 66 i0 _ 3 56 Tryz.underlying59 hi hz0 hz1 hz2 rfl (by decide) (.slice va N vc) N vs rfl own6 (some ⟨Z.heap.size,0,none⟩) 1 1 [.int .i64 0,.slice none 0 0,.slice none 0 0] rfl rfl (by simp [Value.oneCell']) (.inr ⟨_,_,rfl,fun j u hj=>by
       rw [Nat.zero_add,cell_of_row W6 _ j _ _ _ x6,List.getElem?_toArray]
       exact hj⟩) (by omega) (by simp only [maxLen];omega) hbs6 ?_
     intro v7 w7 o7 gr7 hv7;obtain ⟨g,c7,cur,rfl,hc7,hgb,e7,hfit,hlast⟩:=Qf3 (ys:=[.int .i64 x0,.slice ya yl yc,.slice ka kl kc]) o7 hvs3 rfl
     have hSgd:∀ b,Sg b↔((Value.slice va N vc).ownBlock=some b∨b=W.heap.size+1∨b=Z.heap.size+1):=fun b=>by rw [(QG HSG)]
     have hgo:(Value.slice va N vc).ownBlock=some g∨g=Z.heap.size+1:=by
      rcases hv7 with h | h
      ·exact .inl (h.symm.trans rfl)
      ·right
       have h20:some g=some W6.heap.size:=h
       injection h20 with h20
       omega
     have hgS:Sg g:=(hSgd g).2 (hgo.elim .inl (fun h=>.inr (.inr h)))
     have hw7:Wr Sg Sg W6 w7:=Wr.grown (Wr.refl Sg W6) gr7 fun b hb=>.inl ((hSgd b).2 (.inl hb))
     have hBS:Sg (W.heap.size+1):=(hSgd _).2 (.inr (.inl rfl))
     have hgB:g≠W.heap.size+1:=by omega
     have G7:Boxed w7 (W.heap.size+1) 59 (.slice va N vc):=(gr7.block _ (Boxed.lt G6) (fun e=>by have:=hul _ e.symm;omega)).trans G6
     have hNc:(N:Int)<(N:Int)+1:=by omega
     refine hK _ _ hw7 ?_;clear gr7 hv7 o7 own6 x6;clear hK K;refine Qal (fun K hK=>?_);go_simp;refine hK _ ?_;clear hK K;refine Qam [5] (by kernel_rfl) (by kernel_rfl) ?_
     iterate 1
      first
      | (refine Qax (Qa.pre Sg) rfl (by rfl) (v:=?_) (fun W hW=>?_) (fun K hK=>?_);rotate_left;· (go_simp;first | done | rfl))
      | refine Qap (Qa.pre Sg) rfl (by rfl) (fun K hK=>?_)
      go_simp;refine hK _ ?_;clear hK K
     refine Qaw ?_;refine Qif (Qqi (W.heap.size+1) (W.heap.size+4) g N c7 (vs++[.int .i64 x0,.slice ya yl yc,.slice ka kl kc]) Sg w7) 6 7 rfl rfl (by decide) (by kernel_rfl) (by kernel_rfl) (by kernel_rfl) (by simp) (by rfl) (by rfl) (fun v=>by rfl) (fun v=>by rfl) (fun K hK=>?p1) (fun K hK=>?p2) ?p3
     case p1 =>
      refine Qco 66 (.tmp 54) (.tmp 50) rfl g (N*3) #[.int .i64 x0,.slice ya yl yc,.slice ka kl kc] rfl rfl 66 cur e7 QbO hfit (QaS ..) ?_;obtain ⟨u1,hu1⟩:∃ u1,u1=w7.setRow g (cur.toList.take (N*3)++([Value.int .i64 x0,Value.slice ya yl yc,Value.slice ka kl kc]:List Value)++cur.toList.drop (N*3+3)).toArray:=⟨_,rfl⟩
      have e8:u1.heap[g]?=some (.cells (cur.toList.take (N*3)++([Value.int .i64 x0,Value.slice ya yl yc,Value.slice ka kl kc]:List Value)++cur.toList.drop (N*3+3)).toArray 66 (0,0)):=by rw [hu1];exact setRow_heap _ _ _ _ _ _ e7
      have g8:Boxed u1 (W.heap.size+1) 59 (.slice va N vc):=by rw [hu1];exact (setRow_other _ _ _ _ (Ne.symm hgB)).trans G7
      have w8:Wr Sg Sg w7 u1:=by rw [hu1];exact (Wr.refl Sg w7).setRow (.inl hgS) _
      show K undef (w7.setRow g (cur.toList.take (N*3)++([Value.int .i64 x0,Value.slice ya yl yc,Value.slice ka kl kc]:List Value)++cur.toList.drop (N*3+3)).toArray);rw [← hu1];refine hK _ _ w8 ?_;refine Qdl 59 (.tmp 6) (.tmp 53) rfl (W.heap.size+1) rfl (.slice (some ⟨g,0,none⟩) (N+1) c7) rfl rfl 59 (.slice va N vc) g8 Qnw ?_;have w9:=(Wr.refl Sg u1).setRow (.inl hBS) #[.slice (some ⟨g,0,none⟩) (N+1) c7];exact ⟨w9,rfl,rfl,setRow_heap _ _ _ _ _ _ g8,hlast _ ((setRow_other _ _ _ _ hgB).trans e8),w8.trans w9⟩
     case p2 =>
      refine Qdl 59 (.tmp 6) (.tmp 53) rfl (W.heap.size+1) rfl (.slice (some ⟨g,0,none⟩) (N+1) c7) rfl rfl 59 (.slice va N vc) G7 Qnw ?_;obtain ⟨u1,hu1⟩:∃ u1,u1=w7.setRow (W.heap.size+1) #[.slice (some ⟨g,0,none⟩) (N+1) c7]:=⟨_,rfl⟩
      have w8:Wr Sg Sg w7 u1:=by rw [hu1];exact (Wr.refl Sg w7).setRow (.inl hBS) _
      have g8:Boxed u1 (W.heap.size+1) 59 (.slice (some ⟨g,0,none⟩) (N+1) c7):=by rw [hu1];exact setRow_heap _ _ _ _ _ _ G7
      have e8:u1.heap[g]?=some (.cells cur 66 (0,0)):=by rw [hu1];exact (setRow_other _ _ _ _ hgB).trans e7
      rw [← hu1];refine hK _ _ w8 ?_;refine Qco 66 (.tmp 54) (.tmp 50) rfl g (N*3) #[.int .i64 x0,.slice ya yl yc,.slice ka kl kc] rfl rfl 66 cur e8 QbO hfit (QaS ..) ?_;have w9:=(Wr.refl Sg u1).setRow (.inl hgS) (cur.toList.take (N*3)++([Value.int .i64 x0,Value.slice ya yl yc,Value.slice ka kl kc]:List Value)++cur.toList.drop (N*3+3)).toArray;exact ⟨w9,rfl,rfl,(setRow_other _ _ _ _ (Ne.symm hgB)).trans g8,hlast _ (setRow_heap _ _ _ _ _ _ e8),w8.trans w9⟩
     case p3 =>
      rintro v1 v2 w9 ⟨rfl,rfl,B9,o9,w79⟩;refine Qal (fun K hK=>?_);go_simp;refine hK _ ?_;clear hK K;refine QaR (by kernel_rfl) ?_;have wZ9:Wr Sg Sg Z w9:=(Wr.of_below (S:=Sg) (QG B6)).trans (hw7.trans w79);have H9:=QQ (QA B9 (QA o9 wZ9));clear B9 o9 w79 wZ9 hlast e7 hw7 G7 G6 B6 hfit
      gi_wp2
      obtain ⟨B9,o9,wZ9⟩:=(QG H9);obtain ⟨g8,g9,g13,own0,relP,rel1,bZ,wZ⟩:=(QG HG);have h12:∀ x,S1 x→W.heap.size+4≤x∧x<A.heap.size∧(Value.slice va N vc).ownBlock≠some x:=H12;have hT:∀ x,T x→A.heap.size<x∧x<Z.heap.size:=HT;have s9:=wZ9.size
      have k9:∀ b,b<Z.heap.size→(Value.slice va N vc).ownBlock≠some b→b≠W.heap.size+1→w9.heap[b]?=Z.heap[b]?:=fun b h1 h2 h3=>wZ9.block b h1 (fun h=>by
       rcases (hSgd b).1 h with h | h | h
       ·exact h2 h
       ·exact h3 h
       ·omega)
      have hTo:∀ x,T x→(Value.slice va N vc).ownBlock≠some x:=fun x hx e=>by
       have h20:=hT x hx;have h21:=hAo x e;omega
      have hgx:∀ x,(Value.slice (some ⟨g,0,none⟩) (N+1) c7).ownBlock=some x→(Value.slice va N vc).ownBlock=some x∨x=Z.heap.size+1:=fun x hx=>by
       have h20:some g=some x:=hx
       injection h20 with h20
       subst h20;exact hgo
      refine ⟨fun b=>b=W.heap.size+1∨b=W.heap.size+1+1∨(Value.slice (some ⟨g,0,none⟩) (N+1) c7).ownBlock=some b∨(S1 b∨T b),⟨_,Ap+5+L,m-(5+L),fu,N+1,q6,cap' - (5+L),P.app fl,_,fun b=>S1 b∨T b,rfl,by omega,by omega,hnx,hrd,hsn,by omega,by rw [Forest.length_app,hf1,h7],B9,?_,o9,Qat.app ?_ ?_ (by rw [h7];exact hvs3),?_,?_,?_⟩,?_⟩
      ·exact (k9 _ g9.lt (fun e=>by have:=hul _ e;omega) (by omega)).trans g9
      ·exact (relP.keep fun x hx=>k9 x (by have:=h12 x hx;omega) (h12 x hx).2.2 (by have:=h12 x hx;omega)).widen fun x hx=>.inl hx
      ·exact (rel1.keep fun x hx=>k9 x (hT x hx).2 (hTo x hx) (by have:=hT x hx;omega)).widen fun x hx=>.inr hx
      ·rintro x (hx | hx)
       ·have h20:=h12 x hx
        refine ⟨h20.1,by omega,fun e=>?_⟩
        rcases hgx x e with h | h
        ·exact h20.2.2 h
        ·omega
       ·have h20:=hT x hx
        refine ⟨by omega,by omega,fun e=>?_⟩
        rcases hgx x e with h | h
        ·exact hTo x hx h
        ·omega
      ·exact (k9 _ g13.lt (fun e=>by have:=hul _ e;omega) (by omega)).trans g13
      ·refine ⟨wZ9.os.trans bZ.os,wZ9.tape.trans bZ.tape,wZ9.output.trans bZ.output,by omega,fun b hb=>(k9 b (by omega) (fun e=>by have:=hul _ e;omega) (by omega)).trans (bZ.block b hb)⟩
      ·refine ⟨wZ9.os.trans wZ.os,wZ9.tape.trans wZ.tape,wZ9.output.trans wZ.output,by omega,fun b hb hs=>(k9 b (by omega) (fun e=>hs (.inr (.inr (.inl e)))) (fun e=>hs (.inl e))).trans (wZ.block b hb hs),fun b hb=>?_⟩
       rcases hb with hb | hb | hb | hb | hb
       ·exact .inl (.inl hb)
       ·exact .inl (.inr (.inl hb))
       ·rcases hgx b hb with h | h
        ·exact .inl (.inr (.inr (.inl h)))
        ·exact .inr (by omega)
       ·exact .inl (.inr (.inr (.inr hb)))
       ·exact .inr (by have:=hT b hb;omega)
  ·have t2:decide ((128:Int)≤x0)=false:=by simp;omega
   have hch:Fence.wide.fn 19:=trivial;have H:=QQ (QA h8 (QA h9 (QA h14 (QA h10 (QA h11 (QA h12 h13))))));have HR4:=QQ h4;have hAl:=h8.lt;have hA9:=h9.lt;have hAs:=h14.size;have hvb:=Qk5 Ap hby;clear ih hit h4 h5 h8 h9 h10 h11 h12 h13 h14;dsimp only
   gi_wp2_with first
    | ((fail_if_success (unfold Qag));refine QaV (t:=66) rfl ?_)
   unfold Qag;refine QaD rfl 66 (.tmp 10) (.tmp 16) rfl A.heap.size #[.int .i64 x0,.slice none 0 0,.slice none 0 0] rfl rfl 66 zT (QW _ _) QbO rfl (QaS ..) ?_;rw [World.setRow_alloc_new];obtain ⟨V4,hV4⟩:∃ V4,V4=A.alloc (.cells #[.int .i64 x0,.slice none 0 0,.slice none 0 0] 66):=⟨_,rfl⟩
   have b4:Below A.heap.size A V4:=by rw [hV4];exact (QB _ _).alloc (QN _) _
   have x4:V4.heap[A.heap.size]?=some (.cells #[.int .i64 x0,.slice none 0 0,.slice none 0 0] 66):=by rw [hV4];exact QW _ _
   have s4h:V4.heap.size=A.heap.size+1:=by rw [hV4];simp
   rw [← hV4];clear hV4;obtain ⟨h8,h9,h14,h10,h11,h12,h13⟩:=(QG H);have g8:Boxed V4 (W.heap.size+1) 59 (.slice va N vc):=(b4.block _ h8.lt).trans h8;have g9:Boxed V4 (W.heap.size+1+1) 4 (.bool true):=(b4.block _ h9.lt).trans h9;have g13:Boxed V4 W.heap.size 3 (.int .i64 d):=(b4.block _ h13.lt).trans h13;have q13:=g13.cell
   have hsv4:QaL V4.heap.size V4 (.slice q5 L c5) (QcI bs Ap):=hsv.to fun b hb=>⟨(b4.block b (by omega)).trans (h14.block b hb),by omega⟩
   have KC:=QQ (Qfa q5 L c5 (QcI bs Ap) V4 V4.heap.size (QN _) hsv4 (by omega));have X4:=QQ x4;clear h8 h9 h10 h11 h12 h13 h14 x4 hsv4
   gi_wp2_with first
    | (gi_at_call 19;refine Qau ?_)
   try (any_goals (exact QeK ⟨_,by assumption⟩))
   unfold Qag;refine (Qd8 l' _ KC).mono ?_;rintro e w5 ⟨vb,rfl,o5,b5⟩;obtain ⟨vba,vbc,rfl,hvba⟩:=Qaa o5
   try dsimp only
   have hb45:=b5.size;have e5:w5.heap[A.heap.size]?=some (.cells #[.int .i64 x0,.slice none 0 0,.slice none 0 0] 66):=(b5.block A.heap.size (by omega)).trans X4
   have cc5:w5.cell? ⟨A.heap.size,1,none⟩=some (.slice none 0 0):=by rw [cell_of_row w5 _ 1 _ _ _ e5];rfl
   have ff5:=frozen_of_row w5 A.heap.size 1 _ _ e5;have k58:Boxed (w5.setCell ⟨A.heap.size,1,none⟩ (.slice vba L vbc)) (W.heap.size+1) 59 (.slice va N vc):=(Below.heap_setCell _ _ _ _ (by show W.heap.size+1≠A.heap.size;omega)).trans ((b5.block _ g8.lt).trans g8);have k59:Boxed (w5.setCell ⟨A.heap.size,1,none⟩ (.slice vba L vbc)) (W.heap.size+1+1) 4 (.bool true):=(Below.heap_setCell _ _ _ _ (by show W.heap.size+1+1≠A.heap.size;omega)).trans ((b5.block _ g9.lt).trans g9);have q9:=k59.cell
   have s55:w5.heap.size=(w5.setCell ⟨A.heap.size,1,none⟩ (.slice vba L vbc)).heap.size:=by
    rw [Qh3]
   have hbA:Below A.heap.size A w5:=b4.trans (b5.mono (by omega));have E5:=QQ e5;have O5:=QQ o5;clear KC b5 e5 o5 g8 g9 g13 X4 q13 hch
   gi_wp2
   obtain ⟨Z,hZ⟩:∃ Z,Z=w5.setCell ⟨A.heap.size,1,none⟩ (.slice vba L vbc):=⟨_,rfl⟩
   have kZ:∀ b,b≠A.heap.size→Z.heap[b]?=w5.heap[b]?:=fun b h1=>by rw [hZ];exact Below.heap_setCell _ _ _ _ h1
   have sZ:Z.heap.size=w5.heap.size:=by rw [hZ];exact s55.symm
   have eZ:Z.heap[A.heap.size]?=some (.cells #[.int .i64 x0,.slice vba L vbc,.slice none 0 0] 66):=by rw [hZ];exact heap_setCell_same _ _ _ _ _ _ (QG E5)
   have g8:Boxed Z (W.heap.size+1) 59 (.slice va N vc):=by rw [hZ];exact k58
   have g9:Boxed Z (W.heap.size+1+1) 4 (.bool true):=by rw [hZ];exact k59
   have oZ:Z.os=A.os∧Z.tape=A.tape∧Z.output=A.output:=by rw [hZ];exact ⟨hbA.os,hbA.tape,hbA.output⟩
   rw [← hZ];clear hZ;obtain ⟨h8,h9,h14,h10,h11,h12,h13⟩:=(QG H);have g13:Boxed Z W.heap.size 3 (.int .i64 d):=(kZ _ (by omega)).trans ((hbA.block _ h13.lt).trans h13)
   have zA:∀ b,b<A.heap.size→b≠W.heap.size+1+1→Z.heap[b]?=A.heap[b]?:=fun b h1 h2=>(kZ b (by omega)).trans (hbA.block b h1)
   have own0:Z.ownsRow (W.heap.size+4) 66 3 (.slice va N vc) N vs:=Qac h10 fun b hb=>zA b (h10.lt b hb).2 (by have:=(h10.lt b hb).1;omega)
   have relP:Qat S1 Z P vs:=h11.keep fun x hx=>zA x (h12 x hx).2.1 (by have:=(h12 x hx).1;omega)
   have bZ:Below W.heap.size W Z:=⟨oZ.1.trans h14.os,oZ.2.1.trans h14.tape,oZ.2.2.trans h14.output,by omega,fun b hb=>(zA b (by omega) (by omega)).trans (h14.block b hb)⟩;have wZ:Wr (fun b=>b=W.heap.size+1∨b=W.heap.size+1+1∨(Value.slice va N vc).ownBlock=some b∨S1 b) (fun b=>b=W.heap.size+1∨b=W.heap.size+1+1∨(Value.slice va N vc).ownBlock=some b∨S1 b) A Z:=⟨oZ.1,oZ.2.1,oZ.2.2,by omega,fun b hb hs=>zA b hb (fun e=>hs (.inr (.inl e))),fun b h=>.inl h⟩;have o5:w5.ownsRow V4.heap.size 5 1 (.slice vba L vbc) L ((QcI bs Ap).map (Value.int .u8)):=O5
   have rel1:Qat (fun x=>V4.heap.size≤x∧x<w5.heap.size) Z (.cons x0 (QcI bs Ap) .nil .nil) [.int .i64 x0,.slice vba L vbc,.slice none 0 0]:=by
    refine Qat.one (by omega) (by omega) (by omega) (fun W' n' h1 h2=>QbM o5 hvb W' n' fun b hb=>?_) (fun W' n' h1 h2=>⟨rfl,.inl rfl⟩);have h20:=o5.lt b hb;exact ⟨(h1 b h20).trans (kZ b (by omega)),h2 b h20⟩
   have hrd:=QQ ((QG HR4).plain h35 hd8 (by rw [← (QG HX0)];exact hx00) (by rw [← (QG HX0)];omega));rw [← (QG HX0),← (QG HL)] at hrd
   have hT:∀ x,(V4.heap.size≤x∧x<w5.heap.size)→A.heap.size<x∧x<Z.heap.size:=fun x hx=>by omega
   obtain ⟨T,hTd⟩:∃ T:Nat→Prop,T=fun x=>V4.heap.size≤x∧x<w5.heap.size:=⟨_,rfl⟩
   rw [← hTd] at rel1
   replace hT:∀ x,T x→A.heap.size<x∧x<Z.heap.size:=by rw [hTd];exact hT
   obtain ⟨fl,hfl⟩:∃ fl,fl=Forest.cons x0 (QcI bs Ap) .nil .nil:=⟨_,rfl⟩
   have hf1:fl.length=1:=by rw [hfl];rfl
   rw [← hfl] at rel1 hrd;obtain ⟨ya,yl,yc,ka,kl,kc,hks⟩:∃ ya yl yc ka kl kc,(ya=vba∧yl=L∧yc=vbc)∧((ka:Option Addr)=none∧kl=0∧kc=0):=⟨vba,L,vbc,none,0,0,⟨rfl,rfl,rfl⟩,rfl,rfl,rfl⟩;rw [show (Value.slice vba L vbc)=.slice ya yl yc by rw [hks.1.1,hks.1.2.1,hks.1.2.2],show (Value.slice none 0 0)=.slice ka kl kc by rw [hks.2.1,hks.2.2.1,hks.2.2.2]] at rel1 eZ
   have hsZ:A.heap.size+1≤Z.heap.size:=by omega
   clear kZ sZ oZ hTd hfl hks zA cc5 ff5 k58 k59 q9 s55 hbA E5 O5 o5 b4 s4h H hb45 hvb hvba
   have hNN:N≤1048576:=by omega
   have hAo:=fun x hx=>(h10.lt x hx).2
   obtain ⟨Sg,hSg⟩:∃ Sg:Nat→Prop,Sg=fun b=>(Value.slice va N vc).ownBlock=some b∨b=W.heap.size+1∨b=Z.heap.size+1:=⟨_,rfl⟩
   have z0:Z.cell? ⟨A.heap.size,0,none⟩=some (.int .i64 x0):=by rw [cell_of_row Z _ 0 _ _ _ eZ];rfl
   have z1:Z.cell? ⟨A.heap.size,1,none⟩=some (.slice ya yl yc):=by rw [cell_of_row Z _ 1 _ _ _ eZ];rfl
   have z2:Z.cell? ⟨A.heap.size,2,none⟩=some (.slice ka kl kc):=by rw [cell_of_row Z _ 2 _ _ _ eZ];rfl
   have z3:=g8.cell;have g8l:=g8.lt
   have HZX:=QQ (show ∀ W',Qaz Z.drew W'→W'.cell? ⟨W.heap.size+1,0,none⟩=some (.slice va N vc)∧W'.cell? ⟨A.heap.size,0,none⟩=some (.int .i64 x0)∧W'.cell? ⟨A.heap.size,1,none⟩=some (.slice ya yl yc)∧W'.cell? ⟨A.heap.size,2,none⟩=some (.slice ka kl kc) from fun W' hW=>by
    have hW2:=QbE hW
    exact ⟨(hW2.cell (p:=⟨W.heap.size+1,0,none⟩) g8l).trans z3,(hW2.cell (p:=⟨A.heap.size,0,none⟩) (by show A.heap.size<Z.heap.size;omega)).trans z0,(hW2.cell (p:=⟨A.heap.size,1,none⟩) (by show A.heap.size<Z.heap.size;omega)).trans z1,(hW2.cell (p:=⟨A.heap.size,2,none⟩) (by show A.heap.size<Z.heap.size;omega)).trans z2⟩)
   have HG:=QQ (QA g8 (QA g9 (QA g13 (QA own0 (QA relP (QA rel1 (QA bZ wZ)))))));have H12:=QQ h12;have HT:=QQ hT;have HSG:=QQ hSg;clear z0 z1 z2 z3 g8 g9 g13 own0 relP rel1 bZ wZ h12 hT eZ h8 h9 h14 h10 h11 h13 hSg;refine Qcw Qaz (Qa Sg) 4 4 (by kernel_rfl) rfl (by kernel_rfl) ?_;refine QbI [0,1,2] (by kernel_rfl) (by kernel_rfl) ?_
   iterate 3
    first
    | (refine Qcr (Qaz.pre) rfl (by rfl) (v:=?_) (fun W hW=>?_) (fun K hK=>?_);rotate_left;· (obtain ⟨q0,q1,q2,q3⟩:=(QG HZX) W hW;go_simp;first | done | rfl))
    | refine Qb0 (Qaz.pre) rfl (by rfl) (fun K hK=>?_)
    go_simp;refine hK _ ?_;clear hK K
   refine Qcq ?_;refine QaU 3 rfl (by kernel_rfl) (by rfl) (fun K hK=>?_);go_simp;obtain ⟨W6,hW6⟩:∃ W6,W6=(Z.alloc (Obj.cells #[.int .i64 0,.slice none 0 0,.slice none 0 0] 66)).drew:=⟨_,rfl⟩
   have b6:Below Z.heap.size Z W6:=by
    rw [hW6];have h20:Below Z.heap.size Z (Z.alloc (Obj.cells #[.int .i64 0,.slice none 0 0,.slice none 0 0] 66)):=(QB _ _).alloc (QN _) _;exact ⟨h20.os,h20.tape,h20.output,h20.size,h20.block⟩
   have x6:W6.heap[Z.heap.size]?=some (.cells #[.int .i64 0,.slice none 0 0,.slice none 0 0] 66):=by rw [hW6];exact QW _ _
   have s6:W6.heap.size=Z.heap.size+1:=by rw [hW6];show (Z.alloc _).heap.size=_;simp
   rw [← hW6];refine hK _ _ (show Qaz Z.drew W6 from ⟨b6.os,b6.tape,b6.output,b6.size,b6.block⟩) ?_;clear hW6;clear hK K;refine QaN (fun K hK=>?_);go_simp;refine hK _ ?_;clear hK K;refine Qcm (by kernel_rfl) ?_;obtain ⟨g8,g9,g13,own0,relP,rel1,bZ,wZ⟩:=(QG HG)
   have hul:=fun x hx=>own0.lt x hx
   have own6:W6.ownsRow (W.heap.size+4) 66 3 (.slice va N vc) N vs:=Qac own0 fun x hx=>b6.block x (hul x hx).2
   have hvs3:vs.length=N*3:=own0.1;have G6:=QQ ((b6.block _ g8.lt).trans g8)
   have hbs6:W.heap.size+4≤W6.heap.size:=by omega
   have B6:=QQ b6;clear g8 g9 g13 own0 relP rel1 bZ wZ b6 HZX;refine Qal (fun K hK=>?_);go_simp;refine hK _ ?_;clear hK K;refine Qaq 4 rfl (by kernel_rfl) (by rfl) (fun K hK=>?_)
   refine QaQ (.tmp 49) (.tmp 52) 59 rfl (W.heap.size+4) 66 i0 _ 3 56 Tryz.underlying59 hi hz0 hz1 hz2 rfl (by decide) (.slice va N vc) N vs rfl own6 (some ⟨Z.heap.size,0,none⟩) 1 1 [.int .i64 0,.slice none 0 0,.slice none 0 0] rfl rfl (by simp [Value.oneCell']) (.inr ⟨_,_,rfl,fun j u hj=>by
     rw [Nat.zero_add,cell_of_row W6 _ j _ _ _ x6,List.getElem?_toArray]
     exact hj⟩) (by omega) (by simp only [maxLen];omega) hbs6 ?_
   intro v7 w7 o7 gr7 hv7;obtain ⟨g,c7,cur,rfl,hc7,hgb,e7,hfit,hlast⟩:=Qf3 (ys:=[.int .i64 x0,.slice ya yl yc,.slice ka kl kc]) o7 hvs3 rfl
   have hSgd:∀ b,Sg b↔((Value.slice va N vc).ownBlock=some b∨b=W.heap.size+1∨b=Z.heap.size+1):=fun b=>by rw [(QG HSG)]
   have hgo:(Value.slice va N vc).ownBlock=some g∨g=Z.heap.size+1:=by
    rcases hv7 with h | h
    ·exact .inl (h.symm.trans rfl)
    ·right
     have h20:some g=some W6.heap.size:=h
     injection h20 with h20
     omega
   have hgS:Sg g:=(hSgd g).2 (hgo.elim .inl (fun h=>.inr (.inr h)))
   have hw7:Wr Sg Sg W6 w7:=Wr.grown (Wr.refl Sg W6) gr7 fun b hb=>.inl ((hSgd b).2 (.inl hb))
   have hBS:Sg (W.heap.size+1):=(hSgd _).2 (.inr (.inl rfl))
   have hgB:g≠W.heap.size+1:=by omega
   have G7:Boxed w7 (W.heap.size+1) 59 (.slice va N vc):=(gr7.block _ (Boxed.lt G6) (fun e=>by have:=hul _ e.symm;omega)).trans G6
   have hNc:(N:Int)<(N:Int)+1:=by omega
   refine hK _ _ hw7 ?_;clear gr7 hv7 o7 own6 x6;clear hK K;refine Qal (fun K hK=>?_);go_simp;refine hK _ ?_;clear hK K;refine Qam [5] (by kernel_rfl) (by kernel_rfl) ?_
   iterate 1
    first
    | (refine Qax (Qa.pre Sg) rfl (by rfl) (v:=?_) (fun W hW=>?_) (fun K hK=>?_);rotate_left;· (go_simp;first | done | rfl))
    | refine Qap (Qa.pre Sg) rfl (by rfl) (fun K hK=>?_)
    go_simp;refine hK _ ?_;clear hK K
   refine Qaw ?_;refine Qif (Qqi (W.heap.size+1) (W.heap.size+4) g N c7 (vs++[.int .i64 x0,.slice ya yl yc,.slice ka kl kc]) Sg w7) 6 7 rfl rfl (by decide) (by kernel_rfl) (by kernel_rfl) (by kernel_rfl) (by simp) (by rfl) (by rfl) (fun v=>by rfl) (fun v=>by rfl) (fun K hK=>?p1) (fun K hK=>?p2) ?p3
   case p1 =>
    refine Qco 66 (.tmp 54) (.tmp 50) rfl g (N*3) #[.int .i64 x0,.slice ya yl yc,.slice ka kl kc] rfl rfl 66 cur e7 QbO hfit (QaS ..) ?_;obtain ⟨u1,hu1⟩:∃ u1,u1=w7.setRow g (cur.toList.take (N*3)++([Value.int .i64 x0,Value.slice ya yl yc,Value.slice ka kl kc]:List Value)++cur.toList.drop (N*3+3)).toArray:=⟨_,rfl⟩
    have e8:u1.heap[g]?=some (.cells (cur.toList.take (N*3)++([Value.int .i64 x0,Value.slice ya yl yc,Value.slice ka kl kc]:List Value)++cur.toList.drop (N*3+3)).toArray 66 (0,0)):=by rw [hu1];exact setRow_heap _ _ _ _ _ _ e7
    have g8:Boxed u1 (W.heap.size+1) 59 (.slice va N vc):=by rw [hu1];exact (setRow_other _ _ _ _ (Ne.symm hgB)).trans G7
    have w8:Wr Sg Sg w7 u1:=by rw [hu1];exact (Wr.refl Sg w7).setRow (.inl hgS) _
    show K undef (w7.setRow g (cur.toList.take (N*3)++([Value.int .i64 x0,Value.slice ya yl yc,Value.slice ka kl kc]:List Value)++cur.toList.drop (N*3+3)).toArray);rw [← hu1];refine hK _ _ w8 ?_;refine Qdl 59 (.tmp 6) (.tmp 53) rfl (W.heap.size+1) rfl (.slice (some ⟨g,0,none⟩) (N+1) c7) rfl rfl 59 (.slice va N vc) g8 Qnw ?_;have w9:=(Wr.refl Sg u1).setRow (.inl hBS) #[.slice (some ⟨g,0,none⟩) (N+1) c7];exact ⟨w9,rfl,rfl,setRow_heap _ _ _ _ _ _ g8,hlast _ ((setRow_other _ _ _ _ hgB).trans e8),w8.trans w9⟩
   case p2 =>
    refine Qdl 59 (.tmp 6) (.tmp 53) rfl (W.heap.size+1) rfl (.slice (some ⟨g,0,none⟩) (N+1) c7) rfl rfl 59 (.slice va N vc) G7 Qnw ?_;obtain ⟨u1,hu1⟩:∃ u1,u1=w7.setRow (W.heap.size+1) #[.slice (some ⟨g,0,none⟩) (N+1) c7]:=⟨_,rfl⟩
    have w8:Wr Sg Sg w7 u1:=by rw [hu1];exact (Wr.refl Sg w7).setRow (.inl hBS) _
    have g8:Boxed u1 (W.heap.size+1) 59 (.slice (some ⟨g,0,none⟩) (N+1) c7):=by rw [hu1];exact setRow_heap _ _ _ _ _ _ G7
    have e8:u1.heap[g]?=some (.cells cur 66 (0,0)):=by rw [hu1];exact (setRow_other _ _ _ _ hgB).trans e7
    rw [← hu1];refine hK _ _ w8 ?_;refine Qco 66 (.tmp 54) (.tmp 50) rfl g (N*3) #[.int .i64 x0,.slice ya yl yc,.slice ka kl kc] rfl rfl 66 cur e8 QbO hfit (QaS ..) ?_;have w9:=(Wr.refl Sg u1).setRow (.inl hgS) (cur.toList.take (N*3)++([Value.int .i64 x0,Value.slice ya yl yc,Value.slice ka kl kc]:List Value)++cur.toList.drop (N*3+3)).toArray;exact ⟨w9,rfl,rfl,(setRow_other _ _ _ _ (Ne.symm hgB)).trans g8,hlast _ (setRow_heap _ _ _ _ _ _ e8),w8.trans w9⟩
   case p3 =>
    rintro v1 v2 w9 ⟨rfl,rfl,B9,o9,w79⟩;refine Qal (fun K hK=>?_);go_simp;refine hK _ ?_;clear hK K;refine QaR (by kernel_rfl) ?_;have wZ9:Wr Sg Sg Z w9:=(Wr.of_below (S:=Sg) (QG B6)).trans (hw7.trans w79);have H9:=QQ (QA B9 (QA o9 wZ9));clear B9 o9 w79 wZ9 hlast e7 hw7 G7 G6 B6 hfit
    gi_wp2
    obtain ⟨B9,o9,wZ9⟩:=(QG H9);obtain ⟨g8,g9,g13,own0,relP,rel1,bZ,wZ⟩:=(QG HG);have h12:∀ x,S1 x→W.heap.size+4≤x∧x<A.heap.size∧(Value.slice va N vc).ownBlock≠some x:=H12;have hT:∀ x,T x→A.heap.size<x∧x<Z.heap.size:=HT;have s9:=wZ9.size
    have k9:∀ b,b<Z.heap.size→(Value.slice va N vc).ownBlock≠some b→b≠W.heap.size+1→w9.heap[b]?=Z.heap[b]?:=fun b h1 h2 h3=>wZ9.block b h1 (fun h=>by
     rcases (hSgd b).1 h with h | h | h
     ·exact h2 h
     ·exact h3 h
     ·omega)
    have hTo:∀ x,T x→(Value.slice va N vc).ownBlock≠some x:=fun x hx e=>by
     have h20:=hT x hx;have h21:=hAo x e;omega
    have hgx:∀ x,(Value.slice (some ⟨g,0,none⟩) (N+1) c7).ownBlock=some x→(Value.slice va N vc).ownBlock=some x∨x=Z.heap.size+1:=fun x hx=>by
     have h20:some g=some x:=hx
     injection h20 with h20
     subst h20;exact hgo
    refine ⟨fun b=>b=W.heap.size+1∨b=W.heap.size+1+1∨(Value.slice (some ⟨g,0,none⟩) (N+1) c7).ownBlock=some b∨(S1 b∨T b),⟨_,Ap+5+L,m-(5+L),fu,N+1,q6,cap' - (5+L),P.app fl,_,fun b=>S1 b∨T b,rfl,by omega,by omega,hnx,hrd,hsn,by omega,by rw [Forest.length_app,hf1,h7],B9,?_,o9,Qat.app ?_ ?_ (by rw [h7];exact hvs3),?_,?_,?_⟩,?_⟩
    ·exact (k9 _ g9.lt (fun e=>by have:=hul _ e;omega) (by omega)).trans g9
    ·exact (relP.keep fun x hx=>k9 x (by have:=h12 x hx;omega) (h12 x hx).2.2 (by have:=h12 x hx;omega)).widen fun x hx=>.inl hx
    ·exact (rel1.keep fun x hx=>k9 x (hT x hx).2 (hTo x hx) (by have:=hT x hx;omega)).widen fun x hx=>.inr hx
    ·rintro x (hx | hx)
     ·have h20:=h12 x hx
      refine ⟨h20.1,by omega,fun e=>?_⟩
      rcases hgx x e with h | h
      ·exact h20.2.2 h
      ·omega
     ·have h20:=hT x hx
      refine ⟨by omega,by omega,fun e=>?_⟩
      rcases hgx x e with h | h
      ·exact hTo x hx h
      ·omega
    ·exact (k9 _ g13.lt (fun e=>by have:=hul _ e;omega) (by omega)).trans g13
    ·refine ⟨wZ9.os.trans bZ.os,wZ9.tape.trans bZ.tape,wZ9.output.trans bZ.output,by omega,fun b hb=>(k9 b (by omega) (fun e=>by have:=hul _ e;omega) (by omega)).trans (bZ.block b hb)⟩
    ·refine ⟨wZ9.os.trans wZ.os,wZ9.tape.trans wZ.tape,wZ9.output.trans wZ.output,by omega,fun b hb hs=>(k9 b (by omega) (fun e=>hs (.inr (.inr (.inl e)))) (fun e=>hs (.inl e))).trans (wZ.block b hb hs),fun b hb=>?_⟩
     rcases hb with hb | hb | hb | hb | hb
     ·exact .inl (.inl hb)
     ·exact .inl (.inr (.inl hb))
     ·rcases hgx b hb with h | h
      ·exact .inl (.inr (.inr (.inl h)))
      ·exact .inr (by omega)
     ·exact .inl (.inr (.inr (.inr hb)))
     ·exact .inr (by have:=hT b hb;omega)
 case done =>
  rintro D S A hD hS ⟨v,Ap,m,fuel,N,a',cap',P,vs,S1,rfl,h1,h2,h3,h4,h5,h6,h7,h8,h9,h10,h11,h12,h13,h14⟩ hK;have c1:=h8.cell;have c2:=h9.cell;obtain ⟨va,vc,rfl,hva⟩:=Qaa h10
  gi_wp2
  gi_region
  gi_wp2
  refine ⟨by simp,.inl ⟨_,_,rfl,run_takeDeferred hK,?_⟩⟩;have hAl:bs.length≤Ap:=Qm (n:=fuel) (A:=Ap) (a:=a') (cap:=cap') (by omega) (by rw [← (show xs.drop xs.length=Qch fuel bs Ap a' cap' from h3)];exact List.drop_length)
  have hAD:∀ x,x≠D→(A.drew.putObj D (.deferred none)).heap[x]?=A.heap[x]?:=fun x hx=>World.putObj_heap_other hx
  refine ⟨.tuple #[.slice va N vc,.bool true],by simp [results,Tryz.results56,go_sem],?_,_,_,_,_,rfl,fun h=>(by cases h),fun _=>⟨P,Rd.end (show Rd d bs Ap P from h4) hAl,fun W2 n' h=>QgT h10 h11 h7 W2 n' fun x hx=>?_⟩⟩
  ·exact h14.trans (show Below W.heap.size A (A.drew.putObj D (.deferred none)) from ⟨rfl,rfl,rfl,by simp,fun b hb=>World.putObj_heap_other (by omega)⟩)
  ·have hx2:W.heap.size≤x∧x<A.heap.size∧x≠D:=by
    rcases hx with hx | hx
    ·have:=h12 x hx
     exact ⟨by omega,by omega,fun e=>hS (.inr (.inr (.inr (by rw [← e];exact hx))))⟩
    ·have:=h10.lt x hx
     exact ⟨by omega,by omega,fun e=>hS (.inr (.inr (.inl (by rw [← e];exact hx))))⟩
   have h20:=h x (.inr ⟨hx2.1,by simpa using hx2.2.1⟩);exact ⟨h20.1.trans (hAD x hx2.2.2),h20.2⟩
 case stop =>
  rintro D c k S A hD hS hk ⟨ra,rl,rc,rfl,rfl,h1,h2,h3,h4⟩ hK;have c1:=h1.cell;have c2:=h2.cell
  gi_wp2
  gi_region
  gi_wp2
  refine ⟨by simp,.inl ⟨_,_,rfl,run_takeDeferred hK,?_⟩⟩;refine ⟨.tuple #[.slice ra rl rc,.bool false],by simp [results,Tryz.results56,go_sem],?_,_,_,_,_,rfl,fun _=>h3,fun h=>(by cases h)⟩;exact h4.trans (show Below W.heap.size A (A.drew.putObj D (.deferred none)) from ⟨rfl,rfl,rfl,by simp,fun b hb=>World.putObj_heap_other (by omega)⟩)
theorem QmQ (m:Nat):Qi5 m:=Nat.strongRecOn m Qmx
end




def Qpe (bs:List Int) (W:World) (e:Ending) (W':World):Prop :=
 Below W.heap.size W W'∧∃ ra rl rc E,e=.returned (.tuple #[.slice ra rl rc,.int .i64 E])∧((Qa9 1 bs=none∧E=220∧ra=none∧rl=0∧rc=0)∨∃ f,Qa9 1 bs=some f∧E=0∧SlF W'.heap.size W' ra rl rc f)
theorem QiS (bs:List Int) (W:World) (a:Option Addr) (len cap:Nat) (hr:QaL W.heap.size W (.slice a len cap) bs) (hb:bs.length≤1048576) :
  Calls Tryz.prog 15 #[.slice a len cap] W (Qpe bs W):=by
 have kr:=QmQ bs.length 1 bs W a len cap (QN _) (.inl (by decide)) hb hr;have hl:=hr.1.open.1
 have t1:decide ((1048576:Int)<(len:Int))=false:=by simp;omega
 clear hr;go_enter Tryz.func15,Tryz.ntmps15;go_wp2_with (go_at_call 56;refine Qau ?_);unfold Qag;refine kr.mono ?_;rintro e w1 ⟨b1,ra,rl,rc,ok,rfl,hno,hs⟩
 try dsimp only
 cases ok with
 | false =>
  have H:=QQ (hno rfl);clear hno hs kr;go_wp2;go_ret2;exact ⟨b1,_,_,_,_,rfl,.inl ⟨H,rfl,rfl,rfl,rfl⟩⟩
 | true =>
  have H:=QQ (hs rfl);clear hno hs kr;go_wp2;go_ret2;obtain ⟨f,hf,hS⟩:=(QG H);exact ⟨b1,_,_,_,_,rfl,.inr ⟨f,hf,rfl,hS w1 w1.heap.size fun x hx=>⟨rfl,by omega⟩⟩⟩
theorem Qmu (bs:List Int) (W:World) (a:Option Addr) (len cap:Nat) (hr:QaL W.heap.size W (.slice a len cap) bs) (hb:bs.length≤1048576) :
  Calls Tryz.prog 23 #[.slice a len cap] W (Qpe bs W):=by
 have kr:=QmE bs.length W.heap.size 1 bs W a len cap (QN _) (QN _) (by decide) hb hr;have hl:=hr.1.open.1
 have t1:decide ((1048576:Int)<(len:Int))=false:=by simp;omega
 clear hr;go_enter Tryz.func23,Tryz.ntmps23;go_wp2_with (go_at_call 67;refine Qau ?_);unfold Qag;refine kr.mono ?_;rintro e w1 ⟨b1,ra,rl,rc,ok,rfl,hno,hs⟩
 try dsimp only
 cases ok with
 | false =>
  have H:=QQ (hno rfl);clear hno hs kr;go_wp2;go_ret2;exact ⟨b1,_,_,_,_,rfl,.inl ⟨H,rfl,rfl,rfl,rfl⟩⟩
 | true =>
  have H:=QQ (hs rfl);clear hno hs kr;go_wp2;go_ret2;obtain ⟨f,hf,hS⟩:=(QG H);have hs1:=b1.size;exact ⟨b1,_,_,_,_,rfl,.inr ⟨f,hf,rfl,hS w1 w1.heap.size fun x hx=>⟨rfl,by omega⟩⟩⟩
theorem Qet:∀ (m d:Nat) (bs:List Int) (f:Forest),bs.length≤m→Qa9 d bs=some f→f.cnt≤bs.length
 | m,d,[],f,hm,h=>by
  rw [Qdt] at h
  injection h with h
  rw [← h];exact QN _
 | 0,d,b::r,f,hm,h=>by simp at hm
 | m+1,d,[b0],f,hm,h=>by rw [Qbt _ _ (by simp) (by simp)] at h;cases h
 | m+1,d,[b0,b1],f,hm,h=>by rw [Qbt _ _ (by simp) (by simp)] at h;cases h
 | m+1,d,[b0,b1,b2],f,hm,h=>by rw [Qbt _ _ (by simp) (by simp)] at h;cases h
 | m+1,d,[b0,b1,b2,b3],f,hm,h=>by rw [Qbt _ _ (by simp) (by simp)] at h;cases h
 | m+1,d,b0::b1::b2::b3::b4::rest,f,hm,h=>by
  rw [QdG] at h;obtain ⟨L,hL⟩:∃ L,L=QfM b1 b2 b3 b4:=⟨_,rfl⟩;rw [← hL] at h;simp only [List.length_cons] at hm ⊢;by_cases hc:8<d∨b0=0∨rest.length<L
  ·rw [if_pos hc] at h;cases h
  ·rw [if_neg hc] at h
   have htl:(rest.take L).length=L:=by rw [List.length_take];omega
   have hdl:(rest.drop L).length=rest.length-L:=by rw [List.length_drop]
   have i1:=fun (k:Forest)=>Qet m (d+1) (rest.take L) k (by omega)
   have i2:=fun (r:Forest)=>Qet m d (rest.drop L) r (by omega)
   by_cases ht:128≤b0
   ·rw [if_pos ht] at h
    cases hk:Qa9 (d+1) (rest.take L) with
    | none=>rw [hk] at h;cases h
    | some k =>
     cases hr:Qa9 d (rest.drop L) with
     | none=>rw [hk,hr] at h;cases h
     | some r =>
      rw [hk,hr] at h
      injection h with h
      have h1:=i1 k hk;have h2:=i2 r hr;rw [← h,Forest.cnt];simp only [List.length_nil];omega
   ·rw [if_neg ht] at h
    cases hr:Qa9 d (rest.drop L) with
    | none=>rw [hr] at h;cases h
    | some r =>
     rw [hr] at h
     injection h with h
     have h2:=i2 r hr;rw [← h,Forest.cnt,htl];simp only [Forest.cnt];omega
section
attribute [local go_sem] Oper.semAt_some
section
variable {F : Fence} {nF : Nat} {P : Program} {ops : Array Oper} {Q : Exit → Act → World → Prop} {a : Act} {w : World} {rest : List Oper} {o : Oper}
theorem QbC (hgd:o.guard=none) (ty:TypeId) (x:Operand) (ho:o.op=.load ty x)
  (g off:Nat) (hx:a.eval x=.pointer (some ⟨g,off,none⟩)) (cs:List Value) (d:TypeDesc) (hc:∀ j v,cs[j]?=some v→w.cell? ⟨g,off+j,none⟩=some v)
  (hu:P.underlying ty=some d) (hd:(match d with | .struct _ | .array _ _=>true | _=>false)=true) (hi:(P.info? ty).map (·.size)=some cs.length)
  (h:wpListIn F nF P ops Q rest (a.put o.dst (.agg cs.toArray)) w):wpListIn F nF P ops Q (o::rest) a w:=by
 refine wpListIn_plain hgd fun K hK=>?_
 unfold Oper.wpIn;refine ⟨by simp [Oper.about,ho],?_⟩;rw [Oper.semAt_plain F _ _ (by rw [ho];intro c hc';cases hc')];simp only [execOp,ho,hx,Instr.loadAt,Instr.sureAddr,Sem.run_bind,Sem.run_pure,Result.andThen_ok,Qa2 w g off ty cs d hc hu hd hi];exact hK _ _ h
theorem Qd5 {t:TypeId} {x:Operand} (ho:o.op=.load t x) (h:Qag (wpListIn F nF P ops Q (o::rest) a w)):wpListIn F nF P ops Q (o::rest) a w:=h
end
structure Fe where
 t:Int
 a:Option Addr
 l:Nat
 c:Nat
 ka:Option Addr
 kl:Nat
 kc:Nat
def Fe.cells (x:Fe):List Value:=[.int .i64 x.t,.slice x.a x.l x.c,.slice x.ka x.kl x.kc]
def Qf6 (W:World) (n:Nat) (a:Option Addr) (fs:List Fe):Prop:=fs=[]∨∃ b off,a=some ⟨b,off,none⟩∧b<n∧∀ i (h:i<fs.length),∀ j v,fs[i].cells[j]?=some v→W.cell? ⟨b,off+i*3+j,none⟩=some v
def QeE (D:Nat):Deferred:={ target:=.collected D,args:=#[] }
def QeS (B:Nat) (S:Nat→Prop) (W:World):List Deferred→Prop
 | []=>True
 | d::ds=>(∃ D,d=QeE D∧B≤D∧¬ S D∧W.heap[D]?=some (.deferred (some []))∧QeE D ∉ ds)∧QeS B S W ds
theorem QeS.keep {B:Nat} {S S':Nat→Prop} {W W':World}:∀ (ds:List Deferred),QeS B S W ds→(∀ D,QeE D∈ds→B≤D→¬ S D→D<W.heap.size→¬ S' D∧W'.heap[D]?=W.heap[D]?)→QeS B S' W' ds
 | [],_,_=>trivial
 | d::ds,⟨⟨D,e,h1,h2,h3,h4⟩,hm⟩,hk=>by
  obtain ⟨k1,k2⟩:=hk D (by rw [e];exact List.mem_cons_self ..) h1 h2 (QI.1 h3).1;exact ⟨⟨D,e,h1,k1,k2.trans h3,h4⟩,QeS.keep ds hm fun D2 q=>hk D2 (List.mem_cons_of_mem _ q)⟩
theorem QeS.lt {B:Nat} {S:Nat→Prop} {W:World} {D:Nat}:∀ (ds:List Deferred),QeS B S W ds→QeE D∈ds→D<W.heap.size
 | d::ds,⟨⟨D2,e,_,_,h3,_⟩,hm⟩,h=>by
  rcases List.mem_cons.1 h with h | h
  ·rw [e] at h
   unfold QeE at h
   injection h with h _
   injection h with h
   rw [h];exact (QI.1 h3).1
  ·exact QeS.lt ds hm h
theorem Qfj {D D2:Nat} (h:QeE D=QeE D2):D=D2:=by unfold QeE at h;injection h with h _;injection h
theorem Qec {F:Fence} {n:Nat} {P:Program} {fn:Func} {tmps:Array Value} {R:Ending→World→Prop} {B:Nat} {S:Nat→Prop}
  (hb:∀ W,(∀ W',QaM (fun b=>b<B∨S b) W W'→R (.returned (.tuple #[])) W')→LeavesInM F n P fn tmps R [] .returning W) :
  ∀ (ds:List Deferred) (W:World),QeS B S W ds→(∀ W',QaM (fun b=>b<B∨S b) W W'→R (.returned (.tuple #[])) W')→LeavesInM F n P fn tmps R ds .returning W
 | [],W,_,hR=>hb W hR
 | d::ds,W,⟨⟨D,e,h1,h2,h3,h4⟩,hm⟩,hR=>by
  have hs:QaM (fun b=>b<B∨S b) W (W.putObj D (.deferred none)):=QaM.putObj _ _ _ (fun h=>h.elim (fun h=>by omega) h2);refine ⟨by simp,.inl ⟨D,W.putObj D (.deferred none),by rw [e];rfl,run_takeDeferred h3,?_⟩⟩
  refine Qec hb ds _ (hm.keep ds fun D2 q _ k2 _=>⟨k2,World.putObj_heap_other (fun e2=>h4 (by rw [← e2];exact q))⟩) fun W' h=>hR W' (hs.trans h)
theorem QeV (F:Fence) (n:Nat) (hF:F.fn 16) (hro:F.round=none) (a:Option Addr) (len cap:Nat) (tag:Int) (w:World) :
  CallsIn F n Tryz.prog 16 #[.slice a len cap,.int .i64 tag] w fun e w' =>
   e=.returned (.func (.func 57) #[] #[.pointer (some ⟨w.heap.size,0,none⟩),.pointer (some ⟨w.heap.size+1,0,none⟩)]) ∧
   w'=(w.alloc (.cells #[.slice a len cap] 59)).alloc (.cells #[.int .i64 tag] 3):=by
 refine callsIn_of_wp Tryz.func16 rfl hF ?_ hro;simp only [Tryz.ntmps16,QS,List.length_cons,List.length_nil,Nat.reduceAdd,Nat.reduceSub,Array.replicate_succ,Array.replicate_zero,List.push_toArray,List.append_toArray,List.nil_append,List.cons_append]
 gi_wp2
 go_ret;exact ⟨by simp,rfl⟩
end
section
variable {P : Program} {n : Nat}
def Qpc {α:Type} (P:Program) (g:Nat) (lb:Array Value) (Enc:World→α→Array Value→(Nat→Prop)→Prop) (X:Nat→Prop) (xs:List α) (w:World):Prop :=
 ∀ (l:Nat) (J Jx:Nat→(Nat→Prop)→World→Prop) (S0:Nat→Prop) (W:World),Below w.heap.size w W→QeP W.heap.size J→QeP W.heap.size Jx →
  (∀ k S W,J k S W→∀ b,S b→b<W.heap.size)→(∀ b,X b→¬ S0 b) →
  (∀ (k:Nat) (h:k<xs.length) (S:Nat→Prop) (W1:World) (args:Array Value) (G:Nat→Prop),J k S W1→Enc W1 xs[k] args G→(∀ b,G b→W.heap.size≤b∧b<W1.heap.size∧¬ S b)→YieldAt Fence.wide 100 P l args W1 fun e W' =>
   (e=.returned (.bool true)∧∃ S',J (k+1) S' W'∧Wr (fun b=>S b∨G b) S' W1 W')∨(e=.returned (.bool false)∧∃ S',Jx (k+1) S' W'∧Wr (fun b=>S b∨G b) S' W1 W')) →
  J 0 S0 W →
  Calls P g (#[.func (.yield l) #[] #[]]++lb) W fun e W'=>(∃ v,e=.returned v)∧((∃ S',J xs.length S' W')∨∃ k S',k≤xs.length∧Jx k S' W')
theorem QkX {α:Type} {g:Operand} {ps:Array Tmp} {assign body:Code} {Q:Exit→Act→World→Prop} {a:Act} {w:World}
  {gf:Nat} {lb:Array Value} (hg:a.eval g=.func (.func gf) #[] lb) (eg:∀ args w,(callFunc gf args).run P w=.ok (.enter gf args) w)
  {Enc:World→α→Array Value→(Nat→Prop)→Prop} {X:Nat→Prop} {xs:List α} (hseq:Qpc P gf lb Enc X xs w) (hps:∀ W x args G,Enc W x args G→args.size=ps.size)
  (hEnc:∀ W W' x args G,Enc W x args G→W.heap.size≤W'.heap.size→(∀ b,G b→W'.heap[b]?=W.heap[b]?)→Enc W' x args G)
  (I:Nat→(Nat→Prop)→World→Prop) (Ix:Code→Nat→(Nat→Prop)→World→Prop) (S0:Nat→Prop)
  (hX:∀ b,X b→b<w.heap.size∧¬ S0 b) (hI:QeP w.heap.size I) (hIx:∀ c,QeP w.heap.size (Ix c)) (hlt:∀ k S W,I k S W→∀ b,S b→b<W.heap.size) (h0:I 0 S0 w)
  (Af:Array Value→Nat→World→Prop) (hAf:∀ x m W W',W'.heap[m]?=W.heap[m]?→Af x m W→Af x m W') (a₁:Array Value→Nat→Act)
  (hassign:∀ (l k:Nat) (h:k<xs.length) (W:World) (args:Array Value) (G:Nat→Prop) (K:Act→World→Prop),Enc W xs[k] args G→(∀ W1,Below W.heap.size W W1→Af args W.heap.size W1→K (a₁ args W.heap.size) W1) →
   assign.wpIn (Fence.wide.inRound l) 100 P (Exit.then K (fun _ _ _=>False)) { tmps:=(ps.zip args).foldl (fun t (p,v)=>t.setIfInBounds p v) a.tmps,defers:=[] } W)
  (hbody:∀ (l k:Nat) (h:k<xs.length) (S:Nat→Prop) (W:World) (m:Nat) (args:Array Value) (G:Nat→Prop),I k S W→w.heap.size≤m→m≤W.heap.size→¬ S m→¬ G m→Af args m W→Enc W xs[k] args G→(∀ b,G b→w.heap.size≤b∧b<W.heap.size∧¬ S b) →
   body.wpIn (Fence.wide.inRound l) 100 P (Qd4 I Ix k (fun b=>S b∨G b) W) (a₁ args m) W)
  (hdone:∀ (D:Nat) (S:Nat→Prop) (W:World),w.heap.size≤D→¬ S D→I xs.length S W→W.heap[D]?=some (.deferred (some [])) →
   Q .normal { a with defers:={ target:=.collected D,args:=#[] }::a.defers } W)
  (hstop:∀ (D:Nat) (c:Code) (k:Nat) (S:Nat→Prop) (W:World),w.heap.size≤D→¬ S D→k≤xs.length→Ix c k S W→W.heap[D]?=some (.deferred (some [])) →
   c.wpIn Fence.wide n P Q { a with defers:={ target:=.collected D,args:=#[] }::a.defers } W) :
  (Code.rangeFunc g ps assign body).wpIn Fence.wide n P Q a w:=by
 refine wpIn_rangeFunc fun fn hfn=>?_
 obtain ⟨rec,hrec⟩:∃ rec:LoopState→Option Code→Loop,rec=fun st pe=>{ state:=st,pending:=pe,fn,tmps:=a.tmps,params:=ps,assign,body,defers:=w.heap.size }:=⟨_,rfl⟩
 obtain ⟨V,hV⟩:∃ V,V=(w.alloc (.deferred (some []))).alloc (.loop (rec .ready none)):=⟨_,rfl⟩
 have sV:V.heap.size=w.heap.size+2:=by rw [hV];simp
 have lV:V.heap[w.heap.size+1]?=some (.loop (rec .ready none)):=by
  have:=QW (w.alloc (.deferred (some []))) (.loop (rec .ready none));rw [World.size_alloc] at this;rw [hV];exact this
 have dV:V.heap[w.heap.size]?=some (.deferred (some [])):=by
  rw [hV];exact (Below.heap_alloc _ _ _ (by simp)).trans (QW w _)
 have bV:Below w.heap.size w V:=by rw [hV];exact ((QB _ w).alloc (QN _) _).alloc (by simp) _
 have s0:∀ b,S0 b→b<w.heap.size:=hlt _ _ _ h0;have iV:I 0 S0 V:=hI _ _ _ _ h0 ((QaM.of_below bV).mono fun b hb=>hb.elim id (s0 b))
 refine ⟨w.heap.size+1,[{ target:=.collected w.heap.size,args:=#[] }],V,{ target:=.fn (.func gf) lb,args:=#[.func (.yield (w.heap.size+1)) #[] #[]] },V,gf,
  #[.func (.yield (w.heap.size+1)) #[] #[]]++lb,V,?_,?_,fun _ _=>trivial,?_,fun h=>by simp [Fence.wide] at h,callsIn_wide.2 ?_⟩
 ·rw [hV,hrec];exact run_enterLoop_outer _ _ _ _ _
 ·simp only [resolve,hg];simp [go_sem]
 ·simp [invoke,go_sem,eg]
 clear hV
 -- the rounds' blocks,with the loop's own two
 obtain ⟨T,hT⟩:∃ T:(Nat→Prop)→Nat→Prop,T=fun S b=>S b∨b=w.heap.size∨b=w.heap.size+1:=⟨_,rfl⟩
 have T1:∀ S b,T S b↔(S b∨b=w.heap.size∨b=w.heap.size+1):=fun S b=>by rw [hT]
 clear hT
 refine (hseq (w.heap.size+1)
  (fun k S W=>∃ Sc,S=T Sc∧I k Sc W∧¬ Sc w.heap.size∧¬ Sc (w.heap.size+1)∧W.heap[w.heap.size+1]?=some (.loop (rec .ready none))∧W.heap[w.heap.size]?=some (.deferred (some [])))
  (fun k S W=>∃ Sc c,S=T Sc∧Ix c k Sc W∧¬ Sc w.heap.size∧¬ Sc (w.heap.size+1)∧W.heap[w.heap.size+1]?=some (.loop (rec .done (some c)))∧W.heap[w.heap.size]?=some (.deferred (some [])))
  (T S0) V bV ?_ ?_ ?_ ?_ ?_ ⟨S0,rfl,iV,fun h=>by have:=s0 _ h;omega,fun h=>by have:=s0 _ h;omega,lV,dV⟩).mono ?_
 ·rintro k S A A' ⟨Sc,rfl,hi,n1,n2,hl,hd⟩ hs
  exact ⟨Sc,rfl,hI _ _ _ _ hi (hs.mono fun b hb=>hb.elim (fun h=>.inl (by omega)) (fun h=>.inr ((T1 _ _).2 (.inl h)))),n1,n2,(hs.block _ (.inl (by omega))).trans hl,(hs.block _ (.inl (by omega))).trans hd⟩
 ·rintro k S A A' ⟨Sc,c,rfl,hi,n1,n2,hl,hd⟩ hs
  exact ⟨Sc,c,rfl,hIx c _ _ _ _ hi (hs.mono fun b hb=>hb.elim (fun h=>.inl (by omega)) (fun h=>.inr ((T1 _ _).2 (.inl h)))),n1,n2,(hs.block _ (.inl (by omega))).trans hl,(hs.block _ (.inl (by omega))).trans hd⟩
 ·rintro k S A ⟨Sc,rfl,hi,n1,n2,hl,hd⟩ b hb
  rcases (T1 _ _).1 hb with h | h | h
  ·exact hlt _ _ _ hi b h
  ·rw [h];exact (QI.1 hd).1
  ·rw [h];exact (QI.1 hl).1
 ·intro b hb h
  obtain ⟨h1,h2⟩:=hX b hb
  rcases (T1 _ _).1 h with h3 | h3 | h3
  ·exact h2 h3
  ·omega
  ·omega
 ·-- one round
  rintro k hk S W0 args G ⟨Sc,rfl,hi0,n1,n2,hl0,hd0⟩ hE0 hG0
  have g1:¬ G w.heap.size:=fun h=>by have:=(hG0 _ h).1;omega
  have g2:¬ G (w.heap.size+1):=fun h=>by have:=(hG0 _ h).1;omega
  have gS:∀ b,G b→¬ Sc b:=fun b hb h=>(hG0 b hb).2.2 ((T1 _ _).2 (.inl h))
  have hy:=run_yield (P:=P) (args:=args) hl0 (by rw [hrec];exact hps _ _ _ _ hE0);rw [hrec] at hy;refine ⟨fn,_,assign,body,hy,roundIn_of_wpIn hfn (hassign _ k hk W0 args G _ hE0 fun W bA hAA=>?_)⟩;clear hy;have hlt0:w.heap.size+1<W0.heap.size:=(QI.1 hl0).1;have hl:=(bA.block _ hlt0).trans hl0;have hd:=(bA.block _ (by omega)).trans hd0;have hi:I k Sc W:=hI _ _ _ _ hi0 ((QaM.of_below bA).mono fun b hb=>hb.elim (fun h=>by omega) (hlt _ _ _ hi0 b))
  have nS:¬ Sc W0.heap.size:=fun h=>by have:=hlt _ _ _ hi0 _ h;omega
  have wr0:Wr (fun b=>T Sc b∨G b) (fun b=>T Sc b∨G b) W0 W:=Wr.of_below bA
  have nG:¬ G W0.heap.size:=fun h=>by have:=(hG0 _ h).2.1;omega
  have sA:=bA.size;have hE:Enc W xs[k] args G:=hEnc _ _ _ _ _ hE0 bA.size (fun b hb=>bA.block b (hG0 b hb).2.1);have hlt2:w.heap.size+1<W.heap.size:=(QI.1 hl).1;refine ⟨_,run_beginRound hl (by rw [hrec]),?_⟩;obtain ⟨W3,h3⟩:∃ W3,W3=W.putObj (w.heap.size+1) (.loop { rec .ready none with state:=.busy }):=⟨_,rfl⟩
  have hl3:W3.heap[w.heap.size+1]?=some (.loop { rec .ready none with state:=.busy }):=by rw [h3];exact World.putObj_heap_same hlt2
  have hd3:W3.heap[w.heap.size]?=some (.deferred (some [])):=by rw [h3];exact (World.putObj_heap_other (by omega)).trans hd
  have hi3:I k Sc W3:=hI _ _ _ _ hi (by rw [h3];exact QaM.putObj _ _ _ (fun h=>h.elim (fun h=>by omega) n2));have hA3:Af args W0.heap.size W3:=hAf _ _ _ _ (by rw [h3];exact World.putObj_heap_other (by omega)) hAA;have hE3:Enc W3 xs[k] args G:=hEnc _ _ _ _ _ hE (by rw [h3];simp) (fun b hb=>by rw [h3];exact World.putObj_heap_other (fun e=>g2 (by rw [← e];exact hb)));have hlt00:w.heap.size+1<W0.heap.size:=hlt0
  have sz3:W3.heap.size=W.heap.size:=by rw [h3];simp
  have wr3:Wr (fun b=>T Sc b∨G b) (fun b=>T Sc b∨G b) W0 W3:=by
   refine wr0.trans ?_;rw [h3];exact ⟨rfl,rfl,rfl,by simp,fun b _ hs=>World.putObj_heap_other (fun e=>hs (.inl ((T1 _ _).2 (.inr (.inr e))))),fun b h=>.inl h⟩
  rw [← h3];clear h3
  have after:∀ (jump:Option Code) (Sc':Nat→Prop) (W4:World),Wr (fun b=>Sc b∨G b) Sc' W3 W4 →
    ∃ W5,W5=W4.putObj (w.heap.size+1) (.loop (rec (if jump.isNone then .ready else .done) jump))∧(Instr.endRound (w.heap.size+1) jump).run P W4=.ok (.bool jump.isNone) W5 ∧
    ¬ Sc' w.heap.size∧¬ Sc' (w.heap.size+1) ∧
    W5.heap[w.heap.size+1]?=some (.loop (rec (if jump.isNone then .ready else .done) jump))∧W5.heap[w.heap.size]?=some (.deferred (some []))∧Wr (fun b=>T Sc b∨G b) (T Sc') W0 W5:=fun jump Sc' W4 hw=>by
   have s3:=wr3.size;have hl4:=(hw.block _ (by omega) (fun h=>h.elim n2 g2)).trans hl3;have hd4:=(hw.block _ (by omega) (fun h=>h.elim n1 g1)).trans hd3
   have m1:¬ Sc' w.heap.size:=fun h=>(hw.new _ h).elim (fun h=>h.elim n1 g1) (fun h=>by omega)
   have m2:¬ Sc' (w.heap.size+1):=fun h=>(hw.new _ h).elim (fun h=>h.elim n2 g2) (fun h=>by omega)
   have hr:=run_endRound (P:=P) jump hl4;have hlt4:=(QI.1 hl4).1;rw [hrec] at hr ⊢;refine ⟨_,rfl,hr,m1,m2,World.putObj_heap_same hlt4,(World.putObj_heap_other (by omega)).trans hd4,?_⟩
   have w34:Wr (fun b=>T Sc b∨G b) (T Sc') W3 W4:=⟨hw.os,hw.tape,hw.output,hw.size,fun b hb hs=>hw.block b hb (fun h=>hs (h.elim (fun h=>.inl ((T1 _ _).2 (.inl h))) .inr)),
    fun b hb=>((T1 _ _).1 hb).elim (fun h=>(hw.new b h).elim (fun h=>.inl (h.elim (fun h=>.inl ((T1 _ _).2 (.inl h))) .inr)) .inr) (fun h=>.inl (.inl ((T1 _ _).2 (.inr h))))⟩
   refine (wr3.trans w34).trans ⟨rfl,rfl,rfl,by simp,fun b _ hs=>World.putObj_heap_other (fun e=>hs ((T1 _ _).2 (.inr (.inr e)))),fun b h=>.inl h⟩
  have leaves:∀ (c:Code) (Sc':Nat→Prop) (W4:World),Ix c (k+1) Sc' W4→Wr (fun b=>Sc b∨G b) Sc' W3 W4→∃ v W5,(Instr.endRound (w.heap.size+1) (some c)).run P W4=.ok v W5 ∧
    (Ending.returned v=.returned (.bool false)∧∃ S',(∃ Sc c,S'=T Sc∧Ix c (k+1) Sc W5∧¬ Sc w.heap.size∧¬ Sc (w.heap.size+1)∧W5.heap[w.heap.size+1]?=some (.loop (rec .done (some c)))∧W5.heap[w.heap.size]?=some (.deferred (some [])))∧Wr (fun b=>T Sc b∨G b) S' W0 W5) :=
   fun c Sc' W4 hi4 hw=>by
    obtain ⟨W5,e5,hr,m1,m2,hl5,hd5,hw5⟩:=after (some c) Sc' W4 hw;exact ⟨_,W5,hr,rfl,T Sc',⟨Sc',c,rfl,hIx c _ _ _ _ hi4 (by rw [e5];exact QaM.putObj _ _ _ (fun h=>h.elim (fun h=>by omega) m2)),m1,m2,hl5,hd5⟩,hw5⟩
  refine wpIn_mono (hbody _ k hk Sc W3 W0.heap.size args G hi3 (by omega) (by omega) nS nG hA3 hE3 (fun b hb=>⟨by have:=(hG0 b hb).1;omega,by have:=(hG0 b hb).2.1;omega,gS b hb⟩)) fun e a4 W4 hp=>?_
  cases e with
  | normal =>
   obtain ⟨Sc',hi4,hw⟩:=hp;obtain ⟨W5,e5,hr,m1,m2,hl5,hd5,hw5⟩:=after none Sc' W4 hw;exact ⟨_,W5,hr,.inl ⟨rfl,T Sc',⟨Sc',rfl,hI _ _ _ _ hi4 (by rw [e5];exact QaM.putObj _ _ _ (fun h=>h.elim (fun h=>by omega) m2)),m1,m2,hl5,hd5⟩,hw5⟩⟩
  | ret =>
   obtain ⟨Sc',hi4,hw⟩:=hp;obtain ⟨v,W5,hr,h⟩:=leaves .ret Sc' W4 hi4 hw;exact ⟨v,W5,hr,.inr h⟩
  | exit id =>
   obtain ⟨Sc',hi4,hw⟩:=hp;obtain ⟨v,W5,hr,h⟩:=leaves (.exit id) Sc' W4 hi4 hw;exact ⟨v,W5,hr,.inr h⟩
  | goto t =>
   obtain ⟨Sc',hi4,hw⟩:=hp;obtain ⟨v,W5,hr,h⟩:=leaves (.goto t) Sc' W4 hi4 hw;exact ⟨v,W5,hr,.inr h⟩
  | panic ch=>exact hp.elim
  | outgrown=>exact hp.elim
 ·-- Qcg the iterator
  rintro e W2 ⟨⟨v,rfl⟩,(⟨S',Sc,rfl,hi,n1,n2,hl,hd⟩ | ⟨k,S',hk,Sc,c,rfl,hi,n1,n2,hl,hd⟩)⟩
  ·have he:=run_endLoop (P:=P) hl (by rw [hrec];simp)
   have hp:(rec .ready none).pending=none:=by rw [hrec]
   rw [hp] at he;exact ⟨none,_,he,hdone _ Sc _ (QN _) n1 (hI _ _ _ _ hi (QaM.putObj _ _ _ (fun h=>h.elim (fun h=>by omega) n2))) ((World.putObj_heap_other (by omega)).trans hd)⟩
  ·have he:=run_endLoop (P:=P) hl (by rw [hrec];simp)
   have hp:(rec .done (some c)).pending=some c:=by rw [hrec]
   rw [hp] at he;exact ⟨some c,_,he,hstop _ c k Sc _ (QN _) n1 hk (hIx c _ _ _ _ hi (QaM.putObj _ _ _ (fun h=>h.elim (fun h=>by omega) n2))) ((World.putObj_heap_other (by omega)).trans hd)⟩
end
end Go.Proofs.YtejcandhijdnhaaGreat
