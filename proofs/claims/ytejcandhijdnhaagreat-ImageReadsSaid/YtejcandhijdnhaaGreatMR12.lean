/- Own texts of this seat, one behind the other, without needless spaces (part 12 of 26). -/
import Derived.Test.YtejcandhijdnhaaGreatMR01
import Derived.Test.YtejcandhijdnhaaGreatMR02
import Derived.Test.YtejcandhijdnhaaGreatMR06
import Derived.Test.YtejcandhijdnhaaGreatMR11
namespace Go.Proofs.YtejcandhijdnhaaGreat
open Go Go.RowKit
set_option linter.unusedVariables false
set_option linter.unusedSimpArgs false
set_option linter.unnecessarySimpa false
set_option maxRecDepth 100000
set_option maxHeartbeats 16000000
theorem Qgs {α:Type} (p:α→Bool) (l:List α):l.all p = !(l.any fun x=>!p x):=by rw [List.not_any_eq_all_not];simp
theorem Qfi (n k:Nat):decide (n≤k)=decide ((n:Int)≤(k:Int)):=by rw [Bool.eq_iff_iff,decide_eq_true_iff,decide_eq_true_iff];omega
theorem Qhq (x:Mem) (s:Sl5) (W:World) (h:Qb2 W.heap.size W x s) (hf:x.im.Fine) :
  Calls Tryz.prog 10 #[.agg (x.cells s).toArray] W fun e W'=>e=.returned (.int .i64 (if Qcb x.im then 0 else 240))∧Below W.heap.size W W':=by
 obtain ⟨E,hE⟩:∃ E:Int,E=if Qcb x.im then 0 else 240:=⟨_,rfl⟩
 rw [← hE]
 have hq:∀ q∈x.P,q.1.Fine:=fun q hq=>hf.procs q.1 (List.mem_map.2 ⟨q,hq,rfl⟩)
 have hs:=hf.small;simp only [Mem.im,QM] at hs
 have kP:=fun (V:World) (hV:Below W.heap.size W V)=>Qij (fun q=>!Qbj q.1) x.P V s.p.1 x.P.length s.p.2 ((h.P.below hV).mono hV.size) rfl hs.1 (fun q hq'=>Pr.vals_length (hq q hq').ok _ _ _ _) (fun q hq' V' hV'=>Qkv q (hq q hq') V' (((h.fds q hq').below (hV.trans (hV'.mono hV.size))).mono (Nat.le_trans hV.size hV'.size)) (((h.pages q hq').below (hV.trans (hV'.mono hV.size))).mono (Nat.le_trans hV.size hV'.size)))
 have kO:=fun (V:World) (hV:Below W.heap.size W V)=>Qjd (fun l=>!(l.length == 64)) x.O V s.o.1 x.O.length s.o.2 ((h.O.below hV).mono hV.size) rfl hs.2.1 (fun _ _=>rfl) (fun l _ V' _=>Qku l V')
 have kB:=fun (V:World) (hV:Below W.heap.size W V)=>Qii (fun q=>!QbK q.1) x.B V s.b.1 x.B.length s.b.2 ((h.B.below hV).mono hV.size) rfl hs.2.2.1 (fun _ _=>rfl) (fun q _ V' _=>Qkr q V')
 have kF:=fun (V:World) (hV:Below W.heap.size W V)=>Qih (fun f=>!Qce f) x.F V s.f.1 x.F.length s.f.2 ((h.F.below hV).mono hV.size) rfl hs.2.2.2.1 (fun _ _=>rfl) (fun f _ V' _=>Qks f V')
 have kK:=fun (V:World) (hV:Below W.heap.size W V)=>Qik (fun w=>!QbU w) x.K V s.k.1 x.K.length s.k.2 ((h.K.below hV).mono hV.size) rfl hs.2.2.2.2 (fun _ _=>rfl) (fun w _ V' _=>Qkt w V')
 obtain ⟨gP,hgP⟩:∃ g,g=x.P.any (fun q=>!Qbj q.1):=⟨_,rfl⟩;rw [← hgP] at kP;obtain ⟨gO,hgO⟩:∃ g,g=x.O.any (fun l=>!(l.length == 64)):=⟨_,rfl⟩;rw [← hgO] at kO;obtain ⟨gB,hgB⟩:∃ g,g=x.B.any (fun q=>!QbK q.1):=⟨_,rfl⟩;rw [← hgB] at kB;obtain ⟨gF,hgF⟩:∃ g,g=x.F.any (fun f=>!Qce f):=⟨_,rfl⟩;rw [← hgF] at kF;obtain ⟨gK,hgK⟩:∃ g,g=x.K.any (fun w=>!QbU w):=⟨_,rfl⟩;rw [← hgK] at kK
 have hE2:E=if (decide (1≤(x.P.length:Int)∧(x.P.length:Int)≤32)&&decide ((x.O.length:Int)≤256)&&decide ((x.B.length:Int)≤16)&&decide ((x.F.length:Int)≤64)&&decide ((x.K.length:Int)≤32)&&!gP&&!gO&&!gB&&!gF&&!gK) then 0 else 240:=by
  rw [hE,hgP,hgO,hgB,hgF,hgK,← Qgs,← Qgs,← Qgs,← Qgs,← Qgs];unfold Qcb Mem.im;simp only [QM,List.all_map];rw [show decide (1≤x.P.length∧x.P.length≤32)=decide (1≤(x.P.length:Int)∧(x.P.length:Int)≤32) by rw [Bool.eq_iff_iff,decide_eq_true_iff,decide_eq_true_iff];omega,Qfi x.O.length 256,Qfi x.B.length 16,Qfi x.F.length 64,Qfi x.K.length 32];rfl
 obtain ⟨nP,hnP⟩:∃ n,n=x.P.length:=⟨_,rfl⟩;obtain ⟨nO,hnO⟩:∃ n,n=x.O.length:=⟨_,rfl⟩;obtain ⟨nB,hnB⟩:∃ n,n=x.B.length:=⟨_,rfl⟩;obtain ⟨nF,hnF⟩:∃ n,n=x.F.length:=⟨_,rfl⟩;obtain ⟨nK,hnK⟩:∃ n,n=x.K.length:=⟨_,rfl⟩;rw [← hnP,← hnO,← hnB,← hnF,← hnK] at hE2;rw [← hnP] at kP;have KP:=QQ kP;rw [← hnO] at kO;have KO:=QQ kO;rw [← hnB] at kB;have KB:=QQ kB;rw [← hnF] at kF;have KF:=QQ kF;rw [← hnK] at kK;have KK:=QQ kK;obtain ⟨X,hX⟩:∃ X,X=(x.cells s).toArray:=⟨_,rfl⟩;rw [← hX]
 have hX2:X=#[.slice s.p.1 nP s.p.2,.slice s.o.1 nO s.o.2,.slice s.b.1 nB s.b.2,.slice s.f.1 nF s.f.2,.slice s.k.1 nK s.k.2]:=by rw [hX,hnP,hnO,hnB,hnF,hnK];rfl
 obtain ⟨a1,ha1⟩:∃ a,decide (1≤(nP:Int)∧(nP:Int)≤32)=a:=⟨_,rfl⟩;rw [ha1] at hE2;have A1:=QQ ha1;have HE:=QQ hE2;have HX:=QQ hX2;clear hE hE2 hX hX2 ha1 hgP hgO hgB hgF hgK hnP hnO hnB hnF hnK kP kO kB kF kK h hf hq hs;go_enter Tryz.func10,Tryz.ntmps10
 go_upto_region 1 with fail
 generalize hV':World.alloc _ _=V;have hV:V=W.alloc (.cells X 29):=hV'.symm;clear hV'
 have bV:Below W.heap.size W V:=by rw [hV];exact (QB _ _).alloc (QN _) _
 have e:V.heap[W.heap.size]?=some (.cells X 29):=by rw [hV];exact QW _ _
 clear hV;have sV:W.heap.size<V.heap.size:=(QI.1 e).1
 have c0:V.cell? ⟨W.heap.size,0,none⟩=some (.slice s.p.1 nP s.p.2):=by rw [cell_of_row V _ 0 _ _ _ e,show X=_ from HX];rfl
 have c1:V.cell? ⟨W.heap.size,1,none⟩=some (.slice s.o.1 nO s.o.2):=by rw [cell_of_row V _ 1 _ _ _ e,show X=_ from HX];rfl
 have c2:V.cell? ⟨W.heap.size,2,none⟩=some (.slice s.b.1 nB s.b.2):=by rw [cell_of_row V _ 2 _ _ _ e,show X=_ from HX];rfl
 have c3:V.cell? ⟨W.heap.size,3,none⟩=some (.slice s.f.1 nF s.f.2):=by rw [cell_of_row V _ 3 _ _ _ e,show X=_ from HX];rfl
 have c4:V.cell? ⟨W.heap.size,4,none⟩=some (.slice s.k.1 nK s.k.2):=by rw [cell_of_row V _ 4 _ _ _ e,show X=_ from HX];rfl
 clear e;go_wp2_with (go_at_call 33;refine Qau ?_);unfold Qag;refine (QdU _ _ _ _ a1 A1).mono ?_;rintro e' w' ⟨rfl,hw⟩;rw [hw];clear hw w'
 cases a1 with
 | false =>
  go_wp2;go_ret;exact ⟨by rw [show E=_ from HE] <;> rfl,bV⟩
 | true =>
  cases t1:decide ((nO:Int)≤256) with
  | false =>
   go_wp2;go_ret;exact ⟨by rw [show E=_ from HE,t1] <;> rfl,bV⟩
  | true =>
   cases t2:decide ((nB:Int)≤16) with
   | false =>
    go_wp2;go_ret;exact ⟨by rw [show E=_ from HE,t1,t2] <;> rfl,bV⟩
   | true =>
    cases t3:decide ((nF:Int)≤64) with
    | false =>
     go_wp2;go_ret;exact ⟨by rw [show E=_ from HE,t1,t2,t3] <;> rfl,bV⟩
    | true =>
     cases t4:decide ((nK:Int)≤32) with
     | false =>
      go_wp2;go_ret;exact ⟨by rw [show E=_ from HE,t1,t2,t3,t4] <;> rfl,bV⟩
     | true =>
      go_wp2_with (go_at_call 34;refine Qau ?_);unfold Qag;refine ((QG KP) V bV).mono ?_;rintro e' w1 ⟨rfl,bw1⟩;have sw1:W.heap.size<w1.heap.size:=Nat.lt_of_lt_of_le sV bw1.size;have bbw1:=bV.trans (bw1.mono (Nat.le_of_lt sV));replace c1:=(bw1.cell (p:=⟨W.heap.size,1,none⟩) sV).trans c1;replace c2:=(bw1.cell (p:=⟨W.heap.size,2,none⟩) sV).trans c2;replace c3:=(bw1.cell (p:=⟨W.heap.size,3,none⟩) sV).trans c3;replace c4:=(bw1.cell (p:=⟨W.heap.size,4,none⟩) sV).trans c4;clear bw1 c0 KP
      cases gP with
      | true =>
       go_wp2;go_ret;exact ⟨by rw [show E=_ from HE,t1,t2,t3,t4] <;> rfl,bbw1⟩
      | false =>
       go_wp2_with (go_at_call 37;refine Qau ?_);unfold Qag;refine ((QG KO) w1 bbw1).mono ?_;rintro e' w2 ⟨rfl,bw2⟩;have sw2:W.heap.size<w2.heap.size:=Nat.lt_of_lt_of_le sw1 bw2.size;have bbw2:=bbw1.trans (bw2.mono (Nat.le_of_lt sw1));replace c2:=(bw2.cell (p:=⟨W.heap.size,2,none⟩) sw1).trans c2;replace c3:=(bw2.cell (p:=⟨W.heap.size,3,none⟩) sw1).trans c3;replace c4:=(bw2.cell (p:=⟨W.heap.size,4,none⟩) sw1).trans c4;clear bw2 c1 KO
       cases gO with
       | true =>
        go_wp2;go_ret;exact ⟨by rw [show E=_ from HE,t1,t2,t3,t4] <;> rfl,bbw2⟩
       | false =>
        go_wp2_with (go_at_call 39;refine Qau ?_);unfold Qag;refine ((QG KB) w2 bbw2).mono ?_;rintro e' w3 ⟨rfl,bw3⟩;have sw3:W.heap.size<w3.heap.size:=Nat.lt_of_lt_of_le sw2 bw3.size;have bbw3:=bbw2.trans (bw3.mono (Nat.le_of_lt sw2));replace c3:=(bw3.cell (p:=⟨W.heap.size,3,none⟩) sw2).trans c3;replace c4:=(bw3.cell (p:=⟨W.heap.size,4,none⟩) sw2).trans c4;clear bw3 c2 KB
        cases gB with
        | true =>
         go_wp2;go_ret;exact ⟨by rw [show E=_ from HE,t1,t2,t3,t4] <;> rfl,bbw3⟩
        | false =>
         go_wp2_with (go_at_call 41;refine Qau ?_);unfold Qag;refine ((QG KF) w3 bbw3).mono ?_;rintro e' w4 ⟨rfl,bw4⟩;have sw4:W.heap.size<w4.heap.size:=Nat.lt_of_lt_of_le sw3 bw4.size;have bbw4:=bbw3.trans (bw4.mono (Nat.le_of_lt sw3));replace c4:=(bw4.cell (p:=⟨W.heap.size,4,none⟩) sw3).trans c4;clear bw4 c3 KF
         cases gF with
         | true =>
          go_wp2;go_ret;exact ⟨by rw [show E=_ from HE,t1,t2,t3,t4] <;> rfl,bbw4⟩
         | false =>
          go_wp2_with (go_at_call 43;refine Qau ?_);unfold Qag;refine ((QG KK) w4 bbw4).mono ?_;rintro e' w5 ⟨rfl,bw5⟩;have sw5:W.heap.size<w5.heap.size:=Nat.lt_of_lt_of_le sw4 bw5.size;have bbw5:=bbw4.trans (bw5.mono (Nat.le_of_lt sw4));clear bw5 c4 KK
          cases gK with
          | true =>
           go_wp2;go_ret;exact ⟨by rw [show E=_ from HE,t1,t2,t3,t4] <;> rfl,bbw5⟩
          | false =>
           go_wp2;go_ret;exact ⟨by rw [show E=_ from HE,t1,t2,t3,t4] <;> rfl,bbw5⟩
def FlS (lo hi:Nat) (v:Value):Nat→Prop:=fun x=>lo≤x∧x<hi∧v.ownBlock≠some x
def QbY (lo hi base:Nat) (W:World) (v:Value) (n:Nat) (f:Forest):Prop:=hi≤W.heap.size∧∃ vs,W.ownsRow base 66 3 v n vs∧Qat (FlS lo hi v) W f vs∧f.length=n
theorem QbY.keep {lo hi base:Nat} {W W':World} {v:Value} {n:Nat} {f:Forest} (h:QbY lo hi base W v n f) (hs:W.heap.size≤W'.heap.size) (b:∀ x,(lo≤x∧x<hi)∨v.ownBlock=some x→W'.heap[x]?=W.heap[x]?):QbY lo hi base W' v n f:=by
 obtain ⟨h0,vs,h1,h2,h3⟩:=h;exact ⟨by omega,vs,Qac h1 fun x hx=>b x (.inr hx),h2.keep fun x hx=>b x (.inl ⟨hx.1,hx.2.1⟩),h3⟩
theorem QbY.grow {lo hi base:Nat} {W W':World} {v:Value} {n:Nat} {f:Forest} (h:QbY lo hi base W v n f) (b:Below W.heap.size W W'):QbY lo hi base W' v n f :=
 h.keep b.size fun x hx=>b.block x (by
  obtain ⟨h0,vs,h1,_,_⟩:=h
  rcases hx with hx | hx
  ·omega
  ·exact (h1.lt x hx).2)
theorem QbY.lift {lo hi hi' base:Nat} {W:World} {v:Value} {n:Nat} {f:Forest} (h:QbY lo hi base W v n f) (h1:hi≤hi') (h2:hi'≤W.heap.size):QbY lo hi' base W v n f:=by
 obtain ⟨h0,vs,g1,g2,g3⟩:=h;exact ⟨h2,vs,g1,g2.widen fun x hx=>⟨hx.1,Nat.lt_of_lt_of_le hx.2.1 h1,hx.2.2⟩,g3⟩
theorem QbY.put {lo hi base:Nat} {V V1:World} {v v':Value} {n m:Nat} {f g:Forest} {vs us:List Value} (h0:hi≤V.heap.size) (h1:V.ownsRow base 66 3 v n vs) (h2:Qat (FlS lo hi v) V f vs) (hl:f.length=n)
  (ho:V1.ownsRow base 66 3 v' (n+m) (vs++us)) (hg:V.grownBy V1 v.ownBlock) (hat:v'.ownBlock=v.ownBlock∨v'.ownBlock=some V.heap.size) (hu:Qat (FlS lo hi v) V g us) (hgl:g.length=m):QbY lo hi base V1 v' (n+m) (f.app g):=by
 have hk:∀ x,FlS lo hi v x→V1.heap[x]?=V.heap[x]?:=fun x hx=>hg.block x (Nat.lt_of_lt_of_le hx.2.1 h0) fun e=>hx.2.2 e.symm
 have hw:∀ x,FlS lo hi v x→FlS lo hi v' x:=fun x hx=>⟨hx.1,hx.2.1,fun e=>by
  rcases hat with h | h
  ·exact hx.2.2 (h.symm.trans e)
  ·have h20:some V.heap.size=some x:=h.symm.trans e
   injection h20 with h20
   have:=hx.2.1
   omega⟩
 exact ⟨by have:=hg.size;omega,_,ho,Qat.app ((h2.keep hk).widen hw) ((hu.keep hk).widen hw) (by rw [hl];exact h1.1),by rw [Forest.length_app,hl,hgl]⟩
theorem QbY.slF {lo hi base:Nat} {W:World} {a:Option Addr} {n c:Nat} {f:Forest} (h:QbY lo hi base W (.slice a n c) n f) {S:Nat→Prop} (hS:∀ x,FlS lo hi (.slice a n c) x∨(Value.slice a n c).ownBlock=some x→S x) (W':World) (n':Nat) (h1:∀ x,S x→W'.heap[x]?=W.heap[x]?) (h2:∀ x,S x→x<n'):SlF n' W' a n c f:=by
 obtain ⟨_,vs,g1,g2,g3⟩:=h
 exact QgT g1 g2 g3 W' n' fun x hx=>⟨h1 x (hS x hx),h2 x (hS x hx)⟩
theorem QbY.here {lo hi base:Nat} {W:World} {a:Option Addr} {n c:Nat} {f:Forest} (h:QbY lo hi base W (.slice a n c) n f):SlF W.heap.size W a n c f:=by
 refine h.slF (S:=fun x=>x<W.heap.size) ?_ W _ (fun _ _=>rfl) fun _ h=>h
 obtain ⟨h0,vs,g1,_,_⟩:=h;rintro x (hx | hx)
 ·exact Nat.lt_of_lt_of_le hx.2.1 h0
 ·exact (g1.lt x hx).2
theorem QmD {S:Nat→Prop} {w:World} {a:Option Addr} {l c:Nat} {bs:List Int} {n:Nat} (hr:QaL n w (.slice a l c) bs) (hS:∀ b,QaO (.slice a l c) b→S b) (W':World) (n':Nat) (h1:∀ x,S x→W'.heap[x]?=w.heap[x]?) (h2:∀ x,S x→x<n'):QaL n' W' (.slice a l c) bs:=by
 refine ⟨?_,hr.2⟩
 rcases hr.1 with h3 | ⟨b,off,cap,e,hb,h4,h5,hc⟩
 ·exact .inl h3
 ·by_cases h0:bs.length=0
  ·have hb0:bs=[]:=List.length_eq_zero_iff.1 h0
   subst hb0;exact .inl ⟨_,_,e,rfl⟩
  ·have hSb:S b:=hS b (by rw [e];exact ⟨by omega,rfl⟩)
   exact .inr ⟨b,off,cap,e,h2 b hSb,h4,h5,fun j hj=>QaF (p:=⟨b,off+j,none⟩) (h1 b hSb) (hc j hj)⟩
theorem Qmi {S:Nat→Prop} {w:World} {t:Int} {a:Option Addr} {l c:Nat} {bs:List Int} {n:Nat} (ht1:-9223372036854775808≤t) (ht2:t≤9223372036854775807) (hbl:bs.length≤140737488351232) (hr:QaL n w (.slice a l c) bs) (hS:∀ b,QaO (.slice a l c) b→S b) :
  Qat S w (.cons t bs .nil .nil) [.int .i64 t,.slice a l c,.slice none 0 0] :=
 Qat.one ht1 ht2 hbl (fun W' n' h1 h2=>QmD hr hS W' n' h1 h2) fun W' n' _ _=>⟨rfl,.inl rfl⟩
theorem QnM {S:Nat→Prop} {w:World} {t:Int} {lo hi base:Nat} {a:Option Addr} {n c:Nat} {k:Forest} (ht1:-9223372036854775808≤t) (ht2:t≤9223372036854775807) (h:QbY lo hi base w (.slice a n c) n k) (hS:∀ x,FlS lo hi (.slice a n c) x∨(Value.slice a n c).ownBlock=some x→S x) :
  Qat S w (.cons t [] k .nil) [.int .i64 t,.slice none 0 0,.slice a n c] :=
 Qat.one ht1 ht2 (by simp) (fun W' n' _ _=>Qdu _ _) fun W' n' h1 h2=>h.slF hS W' n' h1 h2
def w4 (x:Int):List Int:=[x % 256,x / 256 % 256,x / 65536 % 256,x / 16777216 % 256]
def wsB (ws:List Int):List Int:=ws.flatMap w4
theorem Qe2:∀ ws:List Int,(wsB ws).length=ws.length*4
 | []=>rfl
 | x::ws=>by have:=Qe2 ws;unfold wsB at this ⊢;rw [List.flatMap_cons,QL,this];simp [w4];omega
theorem Qfy (ws:List Int):∀ z∈wsB ws,0≤z∧z≤255:=by
 intro z hz;obtain ⟨x,_,hx⟩:=List.mem_flatMap.1 hz;simp only [w4,List.mem_cons,List.not_mem_nil,or_false] at hx
 rcases hx with rfl | rfl | rfl | rfl <;> omega
theorem QbW (n:Int):IntKind.u8.wrap n=n % 256:=by
 show (if (false&&decide (n % (256:Int) ≥ 128))=true then n % 256-256 else n % 256)=_;simp
theorem Qgf:(Tryz.prog.info? 5).map (fun i=>(i.zero,i.size,i.bytes))=some (some (.int .u8 0),1,1):=by kernel_rfl
theorem Qg7 (ws:List Int) (W:World) (a:Option Addr) (len cap:Nat) (h:Qc W.heap.size W a len cap (ws.map (Value.int .u32))) (hl:ws.length=len) (hs:len≤100000) :
  Calls Tryz.prog 96 #[.slice a len cap] W fun e W'=>∃ v,e=.returned v∧W'.ownsRow W.heap.size 5 1 v (len*4) ((wsB ws).map (Value.int .u8))∧Below W.heap.size W W':=by
 subst hl;obtain ⟨i0,hi0,hz0,hz1,hz2⟩:=info_parts Qgf;have HR:=QQ h;clear h;go_enter Tryz.func96,Tryz.ntmps96;go_wp2;go_loopw [3,5,8] (fun vv _ i wr=>∃ (k:Nat) (v:Value),i=.int .i64 (k:Int)∧v=vv∧k≤ws.length∧wr.ownsRow W.heap.size 5 1 v (k*4) ((wsB (ws.take k)).map (Value.int .u8))∧Below W.heap.size W wr) (fun _ _ i _=>ws.length-(intOf i).toNat)
 case atStart=>exact ⟨0,_,rfl,rfl,Nat.zero_le _,World.ownsRow_nil _ _ _ _,QB _ _⟩
 case round =>
  obtain ⟨k,v,rfl,rfl,hk,own,hb⟩:=hrel
  rcases Nat.lt_or_ge k ws.length with hx | hx
  ·rcases (QG HR) with h0 | ⟨b,off,rfl,hbn,hlc,hcm,hc⟩
   ·omega
   have hsz:=hb.size;obtain ⟨x,hxx⟩:∃ x,x=ws[k]:=⟨_,rfl⟩;have e0:wr.cell? ⟨b,off+k,none⟩=some (.int .u32 x):=(hb.cell (p:=⟨b,off+k,none⟩) hbn).trans (hc k _ (by rw [List.getElem?_map,List.getElem?_eq_getElem hx,hxx];rfl))
   have t0:((k:Int)<(ws.length:Int)):=by omega
   have w0:=QbW x;have w1:=QbW (x / 256);have w2:=QbW (x / 65536);have w3:=QbW (x / 16777216)
   have hcat:(wsB (ws.take (k+1))).map (Value.int .u8)=(wsB (ws.take k)).map (Value.int .u8)++[.int .u8 (x % 256),.int .u8 (x / 256 % 256),.int .u8 (x / 65536 % 256),.int .u8 (x / 16777216 % 256)]:=by
    unfold wsB;rw [List.take_succ_eq_append_getElem hx,List.flatMap_append,List.map_append,hxx];rfl
   have HCAT:=QQ hcat;have OWN:=QQ own;clear hc hcat own hxx;go_wp2_with (at_builtin;refine Qau ?_);unfold Qag;have own:=(QG OWN);have hnew:=QbR wr #[.int .u8 (x % 256),.int .u8 (x / 256 % 256),.int .u8 (x / 65536 % 256),.int .u8 (x / 16777216 % 256)] 5
   refine QaH rfl _ _ 22 rfl W.heap.size 5 i0 _ 1 1 Tryz.underlying22 hi0 hz0 hz1 hz2 rfl (by decide) v (k*4) _ rfl (own.alloc _) (some ⟨wr.heap.size,0,none⟩) 4 4 [.int .u8 (x % 256),.int .u8 (x / 256 % 256),.int .u8 (x / 65536 % 256),.int .u8 (x / 16777216 % 256)] rfl rfl (by simp [Value.oneCell']) (.inr ⟨_,_,rfl,fun j u hj=>by
    have:=hnew j u hj;rw [show (⟨wr.heap.size,0,none⟩:Addr).add j=⟨wr.heap.size,0+j,none⟩ from Addr.add_lit ..] at this
    exact this⟩) (by omega) (by simp only [maxLen];omega) (by simp;omega) ?_
   intro v9 w9 o9 g9 hv9
   have hb9:Below W.heap.size W w9:=(hb.trans ((QB _ _).alloc hsz _)).grown g9 (by simp;omega) fun b' hb'=>(own.lt b' hb').1
   rw [← (QG HCAT),show k*4+4=(k+1)*4 by omega] at o9;have O9:=QQ o9;clear own hnew o9 g9 hv9 OWN;go_wp2;go_roundw
   case rel=>exact ⟨k+1,_,by go_num,rfl,by omega,O9,hb9⟩
   case measure=>simp [intOf];omega
  ·have hk2:k=ws.length:=by omega
   subst hk2;rw [List.take_length] at own;clear hx hk;have OWN:=QQ own;clear own;go_wp2;go_ret;exact ⟨v,rfl,OWN,hb⟩
def Qb6 (b:Bool):Int:=if b then 1 else 0
theorem Qgw (b:Bool) (W:World):Calls Tryz.prog 94 #[.bool b] W fun e W'=>e=.returned (.int .u64 (Qb6 b))∧W'=W:=by
 go_enter Tryz.func94,Tryz.ntmps94
 cases b with
 | true=>go_wp2;go_ret;exact ⟨rfl,rfl⟩
 | false=>go_wp2;go_ret;exact ⟨rfl,rfl⟩
section
attribute [local go_sem] Oper.semAt_some
theorem Qmm (n m:Int) (hn:-524288≤n∧n<524288) (hm:-524288≤m∧m<524288) (W:World) :
  Calls Tryz.prog 136 #[.complex .f64 (fl n) (fl m)] W fun e W'=>e=.returned (.tuple #[.int .i64 n,.int .i64 m])∧Below W.heap.size W W':=by
 have k:=Qjp n m hn hm W
 have hn2:n.natAbs<2 ^ 40:=by omega
 have hm2:m.natAbs<2 ^ 40:=by omega
 have v1:=fun w=>QoH n hn2 w
 have v2:=fun w=>QoH m hm2 w
 obtain ⟨a,ha⟩:∃ a,a=fl n:=⟨_,rfl⟩;obtain ⟨b,hb⟩:∃ b,b=fl m:=⟨_,rfl⟩;rw [← ha] at v1;rw [← hb] at v2;rw [← ha,← hb] at k ⊢
 have r1:=fun w t u=>Qh0 a b w t u
 have r2:=fun w t u=>QhZ a b w t u
 clear ha hb hn hm hn2 hm2;go_enter Tryz.func136,Tryz.ntmps136;go_wp2_with (go_at_call 106;refine k.mono ?_;rintro e w ⟨rfl,b1⟩);go_ret2;exact ⟨rfl,b1⟩
theorem Qg8 (n m:Int) (hn:-524288≤n∧n<524288) (hm:-524288≤m∧m<524288) (W:World) :
  Calls Tryz.prog 129 #[.complex .f64 (fl n) (fl m)] W fun e W'=>e=.returned (.tuple #[.int .u32 (n % 4294967296),.int .u32 (m % 4294967296)])∧Below W.heap.size W W':=by
 have k:=Qmm n m hn hm W;obtain ⟨a,ha⟩:∃ a,a=fl n:=⟨_,rfl⟩;obtain ⟨b,hb⟩:∃ b,b=fl m:=⟨_,rfl⟩;rw [← ha,← hb] at k ⊢;clear ha hb;go_enter Tryz.func129,Tryz.ntmps129;go_wp2_with (go_at_call 136;refine k.mono ?_;rintro e w ⟨rfl,b1⟩);go_ret2;exact ⟨rfl,b1⟩
end
def cpW (c:Cp):List Int:=c.r++[c.za % 4294967296,c.zb % 4294967296,c.zc % 4294967296,c.zd % 4294967296,c.pc]
def cpB (c:Cp):List Int:=wsB (cpW c)
theorem QgL:(Tryz.prog.info? 40).map (fun i=>(i.zero,i.size,i.bytes))=some (some (.int .u32 0),1,4):=by kernel_rfl
theorem Qjb (b off n cap:Nat) (vs:List Value) (hv:vs.length=n) (hn:n≤1000) (h1:∀ u∈vs,u.oneCell'=true) (w:World) (hc:∀ j u,vs[j]?=some u→w.cell? ⟨b,off+j,none⟩=some u) (hb:b<w.heap.size) :
  Calls Tryz.prog 128 #[.slice (some ⟨b,off,none⟩) n cap] w fun e w'=>∃ v,e=.returned v∧w'.ownsRow w.heap.size 40 1 v n vs∧Below w.heap.size w w':=by
 obtain ⟨i0,hi,hz0,hz1,hz2⟩:=info_parts QgL
 have qn:=fun (a:Option Addr) (n c:Nat) (W:World)=>Lib.run_eql_slice_nil (P:=Tryz.prog) W 78 40 a n c 0 0 Tryz.underlying78
 go_enter Tryz.func128,Tryz.ntmps128;go_wp2_with (at_builtin;refine Qau ?_);unfold Qag;have hl0:=World.ownsRow_lit (base:=w.heap.size) (e:=40) (size:=1) w #[] 0 (QN _) (by decide) rfl;obtain ⟨W2,hW2⟩:∃ W2,W2=w.alloc (.cells #[] 40):=⟨_,rfl⟩
 have bb:Below w.heap.size w W2:=by rw [hW2];exact (QB _ w).alloc (QN _) _
 rw [← hW2] at hl0 ⊢;refine QaH rfl _ _ 78 rfl w.heap.size 40 i0 _ 1 4 Tryz.underlying78 hi hz0 hz1 hz2 rfl (by decide) (.slice (some ⟨w.heap.size,0,none⟩) 0 0) 0 [] rfl hl0 (some ⟨b,off,none⟩) n cap vs rfl (by omega) h1 (.inr ⟨_,_,rfl,fun j u hj=>(bb.cell (p:=⟨b,off+j,none⟩) hb).trans (hc j u hj)⟩) (by omega) (by simp only [maxLen];omega) bb.size ?_;intro v1 u1 o1 hg1 hv1;have b10:Below w.heap.size w u1:=bb.grown hg1 bb.size (fun b h=>by simp [Value.ownBlock] at h;omega);rw [Nat.zero_add,List.nil_append] at o1;clear hl0 hW2 bb hg1 hv1;go_wp2;go_ret;exact ⟨_,rfl,o1,b10⟩
theorem Qqw (n1 n2 n3 n4:Nat) (w:World):(Instr.index 43 (.agg #[.complex .f64 n1 n2,.complex .f64 n3 n4]) (.int .i64 0)).run Tryz.prog w=.ok (.complex .f64 n1 n2) w:=by kernel_rfl
theorem Qqx (n1 n2 n3 n4:Nat) (w:World):(Instr.index 43 (.agg #[.complex .f64 n1 n2,.complex .f64 n3 n4]) (.int .i64 1)).run Tryz.prog w=.ok (.complex .f64 n3 n4) w:=by kernel_rfl
theorem QlA (c:Cp) (hc:c.Ok) (W:World):Calls Tryz.prog 113 #[.agg c.vals.toArray] W fun e W'=>∃ v,e=.returned v∧W'.ownsRow W.heap.size 5 1 v 52 ((cpB c).map (Value.int .u8))∧Below W.heap.size W W':=by
 obtain ⟨i0,hi,hz0,hz1,hz2⟩:=info_parts QgL;obtain ⟨r,za,zb,zc,zd,pc⟩:=c;obtain ⟨h1,h2,h3,h4,h5,h6,h7⟩:=hc
 match r,h1 with
 | [r0,r1,r2,r3,r4,r5,r6,r7],_ =>
 have k1:=fun V=>Qg8 za zb h3 h4 V
 have k2:=fun V=>Qg8 zc zd h5 h6 V
 obtain ⟨X,hX⟩:∃ X,X=(Cp.vals ⟨[r0,r1,r2,r3,r4,r5,r6,r7],za,zb,zc,zd,pc⟩).toArray:=⟨_,rfl⟩;obtain ⟨cb,hcb⟩:∃ cb,cb=cpB ⟨[r0,r1,r2,r3,r4,r5,r6,r7],za,zb,zc,zd,pc⟩:=⟨_,rfl⟩;rw [← hX,← hcb];have HX:=QQ hX;have HCB:=QQ hcb;clear hX hcb h2 h3 h4 h5 h6 h7;go_enter Tryz.func113,Tryz.ntmps113
 go_upto_region 1 with fail
 generalize hV':World.alloc _ _=V;have hV:V=W.alloc (.cells X 45):=hV'.symm;clear hV'
 have bV:Below W.heap.size W V:=by rw [hV];exact (QB _ _).alloc (QN _) _
 have e:V.heap[W.heap.size]?=some (.cells X 45):=by rw [hV];exact QW _ _
 clear hV;have hX:=(QG HX);obtain ⟨n1,hn1⟩:∃ n,n=fl za:=⟨_,rfl⟩;obtain ⟨n2,hn2⟩:∃ n,n=fl zb:=⟨_,rfl⟩;obtain ⟨n3,hn3⟩:∃ n,n=fl zc:=⟨_,rfl⟩;obtain ⟨n4,hn4⟩:∃ n,n=fl zd:=⟨_,rfl⟩
 have c8:V.cell? ⟨W.heap.size,8,none⟩=some (.complex .f64 n1 n2):=by rw [cell_of_row V _ 8 _ _ _ e,hX,hn1,hn2];rfl
 have c9:V.cell? ⟨W.heap.size,9,none⟩=some (.complex .f64 n3 n4):=by rw [cell_of_row V _ 9 _ _ _ e,hX,hn3,hn4];rfl
 have c10:V.cell? ⟨W.heap.size,10,none⟩=some (.int .u32 pc):=by rw [cell_of_row V _ 10 _ _ _ e,hX];rfl
 have hcr:∀ j u,([.int .u32 r0,.int .u32 r1,.int .u32 r2,.int .u32 r3,.int .u32 r4,.int .u32 r5,.int .u32 r6,.int .u32 r7]:List Value)[j]?=some u→V.cell? ⟨W.heap.size,0+j,none⟩=some u:=fun j u hj=>by
  have hlt:=(List.getElem?_eq_some_iff.1 hj).1;rw [Nat.zero_add,cell_of_row V _ j _ _ _ e,hX,List.getElem?_toArray];have:(Cp.vals ⟨[r0,r1,r2,r3,r4,r5,r6,r7],za,zb,zc,zd,pc⟩)=[.int .u32 r0,.int .u32 r1,.int .u32 r2,.int .u32 r3,.int .u32 r4,.int .u32 r5,.int .u32 r6,.int .u32 r7]++[.complex .f64 (fl za) (fl zb),.complex .f64 (fl zc) (fl zd),.int .u32 pc]:=rfl;rw [this,List.getElem?_append_left hlt];exact hj
 rw [← hn1,← hn2] at k1;rw [← hn3,← hn4] at k2;have sV:W.heap.size<V.heap.size:=(QI.1 e).1;have kcl:=Qjb W.heap.size 0 8 8 [.int .u32 r0,.int .u32 r1,.int .u32 r2,.int .u32 r3,.int .u32 r4,.int .u32 r5,.int .u32 r6,.int .u32 r7] rfl (by decide) (by simp [Value.oneCell']) V hcr sV;clear hX e hn1 hn2 hn3 hn4 hcr;go_wp2_with (go_at_call 128;refine Qau ?_);unfold Qag;refine kcl.mono ?_;rintro e' w1 ⟨v1,rfl,o1,b1⟩;replace c8:=(b1.cell (p:=⟨W.heap.size,8,none⟩) sV).trans c8;replace c9:=(b1.cell (p:=⟨W.heap.size,9,none⟩) sV).trans c9;replace c10:=(b1.cell (p:=⟨W.heap.size,10,none⟩) sV).trans c10;have s1:W.heap.size<w1.heap.size:=Nat.lt_of_lt_of_le sV b1.size;have bW1:=bV.trans (b1.mono (Nat.le_of_lt sV));have O1:=QQ (QaI (base':=W.heap.size+1) o1 (by omega) fun _ _=>rfl);clear kcl b1 bV o1;go_wp2
 go_loopw [3,5,6,7,13] (fun vv _ _ _ i wr=>∃ (k:Int) (v:Value),i=.int .i64 k∧v=vv∧Below W.heap.size W wr∧W.heap.size<wr.heap.size∧wr.cell? ⟨W.heap.size,10,none⟩=some (.int .u32 pc) ∧
  ((k=0∧wr.ownsRow (W.heap.size+1) 40 1 v 8 [.int .u32 r0,.int .u32 r1,.int .u32 r2,.int .u32 r3,.int .u32 r4,.int .u32 r5,.int .u32 r6,.int .u32 r7])∨(k=1∧wr.ownsRow (W.heap.size+1) 40 1 v 10 ([.int .u32 r0,.int .u32 r1,.int .u32 r2,.int .u32 r3,.int .u32 r4,.int .u32 r5,.int .u32 r6,.int .u32 r7]++[.int .u32 (za % 4294967296),.int .u32 (zb % 4294967296)]))∨(k=2∧wr.ownsRow (W.heap.size+1) 40 1 v 12 (([.int .u32 r0,.int .u32 r1,.int .u32 r2,.int .u32 r3,.int .u32 r4,.int .u32 r5,.int .u32 r6,.int .u32 r7]++[.int .u32 (za % 4294967296),.int .u32 (zb % 4294967296)])++[.int .u32 (zc % 4294967296),.int .u32 (zd % 4294967296)])))) (fun _ _ _ _ i _=>2-(intOf i).toNat)
 case atStart=>exact ⟨0,_,rfl,rfl,bW1,s1,c10,.inl ⟨rfl,O1⟩⟩
 case round =>
  clear c8 c9 c10 bW1 s1;obtain ⟨k,v,rfl,rfl,hb,hs,c10,h⟩:=hrel
  have x0:=fun w=>Qqw n1 n2 n3 n4 w
  have x1:=fun w=>Qqx n1 n2 n3 n4 w
  rcases h with ⟨rfl,own⟩ | ⟨rfl,own⟩ | ⟨rfl,own⟩
  ·have OWN:=QQ own
   clear own O1;go_wp2_with (go_at_call 129;refine Qau ?_);unfold Qag;refine (k1 wr).mono ?_;rintro e' w2 ⟨rfl,b2⟩;have sw:=b2.size;have c10':=(b2.cell (p:=⟨W.heap.size,10,none⟩) hs).trans c10;have own2:=QQ (Qac (B:=w2) (QG OWN) fun x hx=>b2.block x ((QG OWN).lt x hx).2);have bb2:=hb.trans (b2.mono (Nat.le_of_lt hs));clear b2 c10;go_wp2_with (at_builtin;refine Qau ?_);unfold Qag;have own:=(QG own2);have hnew:=QbR w2 #[.int .u32 (za % 4294967296),.int .u32 (zb % 4294967296)] 40
   refine QaH rfl _ _ 78 rfl (W.heap.size+1) 40 i0 _ 1 4 Tryz.underlying78 hi hz0 hz1 hz2 rfl (by decide) v 8 _ rfl (own.alloc _) (some ⟨w2.heap.size,0,none⟩) 2 2 [.int .u32 (za % 4294967296),.int .u32 (zb % 4294967296)] rfl rfl (by simp [Value.oneCell']) (.inr ⟨_,_,rfl,fun j u hj=>by
    have:=hnew j u hj;rw [show (⟨w2.heap.size,0,none⟩:Addr).add j=⟨w2.heap.size,0+j,none⟩ from Addr.add_lit ..] at this
    exact this⟩) (by decide) (by decide) (by simp;omega) ?_
   intro v9 w9 o9 g9 hv9;have s9:=g9.size;simp at s9
   have hb9:Below W.heap.size W w9:=(bb2.trans ((QB _ _).alloc (by omega) _)).grown g9 (by simp;omega) fun b' hb'=>by have:=(own.lt b' hb').1;omega
   have c109:w9.cell? ⟨W.heap.size,10,none⟩=some (.int .u32 pc):=by
    refine (World.cell?_of_block (a:=⟨W.heap.size,10,none⟩) ?_).trans c10';exact (g9.block W.heap.size (by simp;omega) (fun e=>by have:=(own.lt _ e.symm).1;omega)).trans (((QB _ w2).alloc (QN _) _:Below w2.heap.size w2 _).block _ (by omega))
   have O9:=QQ o9;clear own hnew o9 g9 hv9 own2 c10';go_wp2;go_roundw
   case rel=>exact ⟨1,v9,by go_num,rfl,hb9,by omega,c109,.inr (.inl ⟨rfl,O9⟩)⟩
   case measure=>simp [intOf]
  ·have OWN:=QQ own
   clear own O1;go_wp2_with (go_at_call 129;refine Qau ?_);unfold Qag;refine (k2 wr).mono ?_;rintro e' w2 ⟨rfl,b2⟩;have sw:=b2.size;have c10':=(b2.cell (p:=⟨W.heap.size,10,none⟩) hs).trans c10;have own2:=QQ (Qac (B:=w2) (QG OWN) fun x hx=>b2.block x ((QG OWN).lt x hx).2);have bb2:=hb.trans (b2.mono (Nat.le_of_lt hs));clear b2 c10;go_wp2_with (at_builtin;refine Qau ?_);unfold Qag;have own:=(QG own2);have hnew:=QbR w2 #[.int .u32 (zc % 4294967296),.int .u32 (zd % 4294967296)] 40
   refine QaH rfl _ _ 78 rfl (W.heap.size+1) 40 i0 _ 1 4 Tryz.underlying78 hi hz0 hz1 hz2 rfl (by decide) v 10 _ rfl (own.alloc _) (some ⟨w2.heap.size,0,none⟩) 2 2 [.int .u32 (zc % 4294967296),.int .u32 (zd % 4294967296)] rfl rfl (by simp [Value.oneCell']) (.inr ⟨_,_,rfl,fun j u hj=>by
    have:=hnew j u hj;rw [show (⟨w2.heap.size,0,none⟩:Addr).add j=⟨w2.heap.size,0+j,none⟩ from Addr.add_lit ..] at this
    exact this⟩) (by decide) (by decide) (by simp;omega) ?_
   intro v9 w9 o9 g9 hv9;have s9:=g9.size;simp at s9
   have hb9:Below W.heap.size W w9:=(bb2.trans ((QB _ _).alloc (by omega) _)).grown g9 (by simp;omega) fun b' hb'=>by have:=(own.lt b' hb').1;omega
   have c109:w9.cell? ⟨W.heap.size,10,none⟩=some (.int .u32 pc):=by
    refine (World.cell?_of_block (a:=⟨W.heap.size,10,none⟩) ?_).trans c10';exact (g9.block W.heap.size (by simp;omega) (fun e=>by have:=(own.lt _ e.symm).1;omega)).trans (((QB _ w2).alloc (QN _) _:Below w2.heap.size w2 _).block _ (by omega))
   have O9:=QQ o9;clear own hnew o9 g9 hv9 own2 c10';go_wp2;go_roundw
   case rel=>exact ⟨2,v9,by go_num,rfl,hb9,by omega,c109,.inr (.inr ⟨rfl,O9⟩)⟩
   case measure=>simp [intOf]
  ·have OWN:=QQ own
   clear own O1 k1 k2;go_wp2_with (at_builtin;refine Qau ?_);unfold Qag;have own:=(QG OWN);have hnew:=QbR wr #[.int .u32 pc] 40
   refine QaH rfl _ _ 78 rfl (W.heap.size+1) 40 i0 _ 1 4 Tryz.underlying78 hi hz0 hz1 hz2 rfl (by decide) v 12 _ rfl (own.alloc _) (some ⟨wr.heap.size,0,none⟩) 1 1 [.int .u32 pc] rfl rfl (by simp [Value.oneCell']) (.inr ⟨_,_,rfl,fun j u hj=>by
    have:=hnew j u hj;rw [show (⟨wr.heap.size,0,none⟩:Addr).add j=⟨wr.heap.size,0+j,none⟩ from Addr.add_lit ..] at this
    exact this⟩) (by decide) (by decide) (by simp;omega) ?_
   intro v9 w9 o9 g9 hv9;have s9:=g9.size;simp at s9
   have hb9:Below W.heap.size W w9:=(hb.trans ((QB _ _).alloc (by omega) _)).grown g9 (by simp;omega) fun b' hb'=>by have:=(own.lt b' hb').1;omega
   obtain ⟨a9,c9,rfl,_⟩:=Qaa o9;have kw:=Qg7 (cpW ⟨[r0,r1,r2,r3,r4,r5,r6,r7],za,zb,zc,zd,pc⟩) w9 a9 13 c9 (Qbn o9) rfl (by decide);rw [show wsB (cpW ⟨[r0,r1,r2,r3,r4,r5,r6,r7],za,zb,zc,zd,pc⟩)=cb from (QG HCB).symm] at kw;clear own hnew o9 g9 hv9 OWN c10;go_wp2_with (go_at_call 96;refine Qau ?_);unfold Qag;refine kw.mono ?_;rintro e' w10 ⟨v10,rfl,o10,b10⟩;have O10:=QQ (QaI (base':=W.heap.size) o10 (by omega) fun _ _=>rfl);have B10:=hb9.trans (b10.mono (by omega));clear kw o10 b10 hb9;go_wp2;go_ret;exact ⟨v10,rfl,O10,B10⟩
def sgB (s:Sg):List Int:=wsB (s.pend::s.mask::s.hand)++[Qb6 s.busy]
def fdB (l:List Int):List Int:=l.map (· % 256)
def QkW (m:Pg):List Int:=[m.page % 256,m.frame % 256,0,Qb6 m.w+2*Qb6 m.s+4*Qb6 m.c]
def pgB (l:List Pg):List Int:=l.flatMap QkW
def Qff (p:Pr):Forest:=.cons 7 (Qa7 p.pid.toNat) .nil (.cons 8 (Qa7 p.parent.toNat) .nil (.cons 9 (Qa7 p.state.toNat) .nil .nil))
def QkR (p:Pr):Forest:=.cons 11 (cpB p.cpu) .nil (.cons 12 (cpB p.saved) .nil (.cons 13 (sgB p.sig) .nil (.cons 14 (Qa7 p.wait.toNat) .nil (.cons 15 (Qa7 p.pipe.toNat) .nil (.cons 16 (Qa7 p.left.toNat) .nil (.cons 17 (fdB p.fds) .nil (.cons 18 (pgB p.pages) .nil .nil)))))))
def Qbl (p:Pr):Forest:=(Qff p).app (if p.state=2 then .cons 10 (Qa7 p.status.toNat) .nil .nil else QkR p)
theorem Qat.cons8 {S:Nat→Prop} {w:World} {t:Int} {a:Option Addr} {l c n:Nat} {bs:List Int} {g:Forest} {us:List Value} (ht1:-9223372036854775808≤t) (ht2:t≤9223372036854775807) (hbl:bs.length≤140737488351232) (hr:QaL n w (.slice a l c) bs) (hS:∀ b,QaO (.slice a l c) b→S b) (hg:Qat S w g us) :
  Qat S w (.cons t bs .nil g) (.int .i64 t::.slice a l c::.slice none 0 0::us):=Qat.app (Qmi ht1 ht2 hbl hr hS) hg rfl
theorem QcE {base:Nat} {W:World} {t:TypeId} {sz n:Nat} {v:Value} {l:List Value} (h:W.ownsRow base t sz v n l) {b:Nat} (hb:QaO v b):v.ownBlock=some b:=by
 rcases h.2 with ⟨rfl,_⟩ | ⟨g,c,cur,rfl,_⟩
 ·exact hb.elim
 ·obtain ⟨_,rfl⟩:=hb
  rfl
theorem Qg1 (s:Sg):∀ z∈sgB s,0≤z∧z≤255:=by
 intro z hz
 rcases List.mem_append.1 hz with h | h
 ·exact Qfy _ z h
 ·rw [List.mem_singleton.1 h];unfold Qb6;split <;> omega
theorem QgF (l:List Int):∀ z∈fdB l,0≤z∧z≤255:=by
 intro z hz;obtain ⟨x,_,rfl⟩:=List.mem_map.1 hz;omega
theorem QdL (b:Bool):0≤Qb6 b∧Qb6 b≤1:=by unfold Qb6;split <;> omega
theorem QgU (l:List Pg):∀ z∈pgB l,0≤z∧z≤255:=by
 intro z hz;obtain ⟨m,_,hx⟩:=List.mem_flatMap.1 hz;simp only [QkW,List.mem_cons,List.not_mem_nil,or_false] at hx;have h1:=QdL m.w;have h2:=QdL m.s;have h3:=QdL m.c
 rcases hx with rfl | rfl | rfl | rfl <;> omega
theorem Qh2 {s:Sg} (h:s.Ok):(sgB s).length=73:=by
 unfold sgB;rw [QL,Qe2,List.length_cons,List.length_cons,h.2.2.1];rfl
theorem QfN:∀ l:List Pg,(pgB l).length=l.length*4
 | []=>rfl
 | m::l=>by have:=QfN l;unfold pgB at this ⊢;rw [List.flatMap_cons,QL,this];simp [QkW];omega
theorem QdC (c:Cp):∀ z∈cpB c,0≤z∧z≤255:=Qfy _
theorem Qd9 {c:Cp} (h:c.Ok):(cpB c).length=52:=by unfold cpB cpW;rw [Qe2,QL,h.1];rfl
def KdQ (W:World) (p:Pr):Exit→Act→World→Prop:=bodyPost Tryz.prog Tryz.f95 fun e W'=>∃ v n,e=.returned v∧QbY W.heap.size W'.heap.size W.heap.size W' v n (Qbl p)∧Below W.heap.size W W'
structure Qoa (W V:World) (p:Pr) (t4 t5 t6:Value):Prop where
 sg:V.ownsRow W.heap.size 5 1 t4 73 ((sgB p.sig).map (Value.int .u8))
 fd:V.ownsRow W.heap.size 5 1 t5 p.fds.length ((fdB p.fds).map (Value.int .u8))
 pg:V.ownsRow W.heap.size 5 1 t6 (p.pages.length*4) ((pgB p.pages).map (Value.int .u8))
section
attribute [local go_sem] QaB QaJ QaA
theorem Qfo {P:Program} (w:World) (ty:TypeId) (g off:Nat) (row part:Array Value) (t:TypeId) (hg:w.heap[g]?=some (.cells row t (0,0))) (hp:(row.toList.drop off).take part.size=part.toList) (d:TypeDesc)
  (hu:P.underlying ty=some d) (hd:(match d with | .struct _ | .array _ _=>true | _=>false)=true) (hi:(P.info? ty).map (·.size)=some part.size):(loadVar ty ⟨g,off,none⟩).run P w=.ok (.agg part) w :=
 Qa2 w g off ty part.toList d (fun j v hj=>by
  rw [← hp,List.getElem?_take] at hj
  split at hj
  ·rw [List.getElem?_drop] at hj
   rw [cell_of_row w _ (off+j) _ _ _ hg,← Array.getElem?_toList];exact hj
  ·cases hj) hu hd (by simpa using hi)
theorem QbY.low {lo hi base base':Nat} {W:World} {v:Value} {n:Nat} {f:Forest} (h:QbY lo hi base W v n f) (hb:base'≤base):QbY lo hi base' W v n f:=by
 obtain ⟨h0,vs,h1,h2,h3⟩:=h;exact ⟨h0,vs,QaI h1 hb fun _ _=>rfl,h2,h3⟩
theorem QbF {P:Program} {o:Oper} {a:Act} {w:World} (ty:TypeId) (x:Operand) (ho:o.op=.load ty x) (ad:Addr) (hx:a.eval x=.pointer (some ad)) {v:Value} (hr:(loadVar ty ad).run P w=.ok v w):(execOp a.eval o).run P w=.ok (.value v) w:=by
 unfold execOp;simp only [ho,hx,Instr.loadAt,Instr.sureAddr,Sem.run_bind,Sem.run_pure,Result.andThen_ok,hr]
theorem Qp2 (W:World) (p:Pr) (fa:Option Addr) (fc:Nat) (pa:Option Addr) (pc:Nat) (X:Array Value) (B:Nat) (t3 t4 t5 t6:Value) (hm:Qbj p=true) (hst:¬ p.state=2) (h3:Nat) (u7 u8 u9 u10 u11 u12 u13 u14 u15 u16 u17 u18 u19 u20 u21 u22 u23 u24 u25 u26 u27 u28 u29 u30 u31 u32 u33 u34 u35 u36 u37 u38 u39 u40 u41 u42 u43 u44 u45 u46 u47 u48 u49 u50 u51 u52 u53 u54 u55 u56 u57 u58 u59 u60 u61 u62 u63 u64 u65 u66 u67 u68 u69 u70 u71 u72 u73 u74 u75 u76 u77 u78 u79 u80 u81 u82 u83 u84 u85 u86 u87 u88 u89 u90 u91 u92 u93 u94 u95 u96 u97 u98 u99 u100 u101 u102 u103 u104 u105 u106 u107 u108 u109 u110 u111 u112 u113 u114 u115 u116 u117 u118 u119 u120 u121 u122 u123 u124:Value) (V:World)
  (h:Qad W (p,⟨fa,fc,pa,pc⟩) X B V) (hl:QbY W.heap.size h3 (W.heap.size+1) V t3 3 (Qff p)) (hr:Qoa W V p t4 t5 t6) :
  (tl 8 (Tryz.f95.body.getD .skip)).wp Tryz.prog (KdQ W p) { tmps:=#[.agg X,.pointer (some ⟨B,0,none⟩),.slice none 0 0,t3,t4,t5,t6,u7,u8,u9,u10,u11,u12,u13,u14,u15,u16,u17,u18,u19,u20,u21,u22,u23,u24,u25,u26,u27,u28,u29,u30,u31,u32,u33,u34,u35,u36,u37,u38,u39,u40,u41,u42,u43,u44,u45,u46,u47,u48,u49,u50,u51,u52,u53,u54,u55,u56,u57,u58,u59,u60,u61,u62,u63,u64,u65,u66,u67,u68,u69,u70,u71,u72,u73,u74,u75,u76,u77,u78,u79,u80,u81,u82,u83,u84,u85,u86,u87,u88,u89,u90,u91,u92,u93,u94,u95,u96,u97,u98,u99,u100,u101,u102,u103,u104,u105,u106,u107,u108,u109,u110,u111,u112,u113,u114,u115,u116,u117,u118,u119,u120,u121,u122,u123,u124],defers:=[] } V:=by
 obtain ⟨i0,hi,hz0,hz1,hz2⟩:=info_parts Qc1;obtain ⟨a4,c4,rfl,_⟩:=Qaa hr.sg;obtain ⟨a5,c5,rfl,_⟩:=Qaa hr.fd;obtain ⟨a6,c6,rfl,_⟩:=Qaa hr.pg;obtain ⟨nw,hnw⟩:∃ n:Nat,n=p.wait.toNat:=⟨_,rfl⟩;obtain ⟨np,hnp⟩:∃ n:Nat,n=p.pipe.toNat:=⟨_,rfl⟩;obtain ⟨nl,hnl⟩:∃ n:Nat,n=p.left.toNat:=⟨_,rfl⟩;have HST:=QQ hst
 have hlive:Qbq p=true:=by
  unfold Qbj at hm;rw [if_neg hst] at hm;simp only [Bool.and_eq_true] at hm;exact hm.2
 have hbw:0≤p.wait∧p.wait≤5∧0≤p.pipe∧p.pipe≤15:=by
  unfold Qbq Qdc at hlive;simp only [Bool.and_eq_true,decide_eq_true_eq] at hlive;obtain ⟨⟨⟨_,⟨⟨⟨h1,h2⟩,h3⟩,h4⟩,_⟩,_⟩,_⟩:=hlive;omega
 have hlf:0≤p.left∧p.left<4294967296:=h.fine.left
 have ew:p.wait=(nw:Int):=by omega
 have ep:p.pipe=(np:Int):=by omega
 have el:p.left=(nl:Int):=by omega
 have eP1:(X.toList.drop 4).take p.cpu.vals.toArray.size=p.cpu.vals.toArray.toList:=by
  rw [QS,Cp.vals_length h.fine.ok.1,h.hX];exact (Qaf p h.fine.ok fa fc pa pc).2.2.2.1
 have eP2:(X.toList.drop 15).take p.saved.vals.toArray.size=p.saved.vals.toArray.toList:=by
  rw [QS,Cp.vals_length h.fine.ok.2.1,h.hX];exact (Qaf p h.fine.ok fa fc pa pc).2.2.2.2.1
 have i1:(Tryz.prog.info? 45).map (·.size)=some p.cpu.vals.toArray.size:=by rw [QS,Cp.vals_length h.fine.ok.1];exact Qbv
 have i2:(Tryz.prog.info? 45).map (·.size)=some p.saved.vals.toArray.size:=by rw [QS,Cp.vals_length h.fine.ok.2.1];exact Qbv
 have kc1:=QlA p.cpu h.fine.ok.1;have kc2:=QlA p.saved h.fine.ok.2.1;obtain ⟨v1,hv1⟩:∃ v,v=p.cpu.vals.toArray:=⟨_,rfl⟩;obtain ⟨v2,hv2⟩:∃ v,v=p.saved.vals.toArray:=⟨_,rfl⟩;rw [← hv1] at eP1 i1 kc1;rw [← hv2] at eP2 i2 kc2
 obtain ⟨Rg,hRg⟩:∃ Rg:Nat→Prop,Rg=fun b=>t3.ownBlock=some b:=⟨_,rfl⟩
 have hown3:∀ b,t3.ownBlock=some b→W.heap.size+1≤b∧b<V.heap.size:=fun b hb=>by
  obtain ⟨_,vs,g1,_,_⟩:=hl;exact g1.lt b hb
 have lB:B<V.heap.size:=(QI.1 h.eB).1;have hB:=h.hB
 have HX:=QQ (show ∀ W',Qa Rg V.drew W'→(loadVar 45 ⟨B,4,none⟩).run Tryz.prog W'=.ok (.agg v1) W'∧(loadVar 45 ⟨B,15,none⟩).run Tryz.prog W'=.ok (.agg v2) W' ∧
   W'.cell? ⟨B,45,none⟩=some (.int .i64 (nw:Int))∧W'.cell? ⟨B,46,none⟩=some (.int .i64 (np:Int))∧W'.cell? ⟨B,50,none⟩=some (.int .u32 (nl:Int)) from fun W' hW=>by
  have e:=(hW.block B lB (by rw [hRg];intro e;have:=(hown3 B e).1;omega)).trans (show V.drew.heap[B]?=_ from h.eB)
  have hc:∀ i v,(p.vals fa fc pa pc)[i]?=some v→W'.cell? ⟨B,i,none⟩=some v:=fun i v hv=>by rw [cell_of_row W' _ i _ _ _ e,h.hX,List.getElem?_toArray];exact hv
  have g:=Qaf p h.fine.ok fa fc pa pc
  exact ⟨Qfo W' _ B 4 X v1 _ e eP1 _ Tryz.underlying45 rfl i1,Qfo W' _ B 15 X v2 _ e eP2 _ Tryz.underlying45 rfl i2,by rw [← ew];exact hc 45 _ g.2.1.1,by rw [← ep];exact hc 46 _ g.2.1.2.1,by rw [← el];exact hc 50 _ g.2.2.1.1⟩)
 have HRG:=QQ hRg;have H:=QQ h;have HL:=QQ hl;have HR:=QQ hr;have HM:=QQ (QA hnw (QA hnp hnl));have HBE:=QQ hB
 have hs1:nw<9223372036854775808:=by omega
 have hs2:np<9223372036854775808:=by omega
 have hs3:nl<18446744073709551616:=by omega
 have hwn:=Qby nl hs3;clear hB
 have hnle:nw≤5∧np≤15∧nl<4294967296:=by omega
 obtain ⟨n5,hn5⟩:∃ n,n=p.fds.length:=⟨_,rfl⟩;obtain ⟨n6,hn6⟩:∃ n,n=p.pages.length*4:=⟨_,rfl⟩;rw [← hn5,← hn6];have HN:=QQ (QA hn5 hn6);clear hn5 hn6;clear hm hlive hbw hst hlf ew ep el eP1 eP2 i1 i2 hv1 hv2 hRg h hl hr hnw hnp hnl
 conv=>arg 2;whnf
 refine wp_seq_k (fun K' aK=>?_);have AK:=QQ aK;clear aK;refine Qas (Qa Rg) (by kernel_rfl) 28 rfl ?_;refine Qam [0,1] (by kernel_rfl) (by kernel_rfl) ?_
 iterate 2
  first
  | (refine Qax (Qa.pre Rg) rfl (by rfl) (v:=?_) (fun W hW=>?_) (fun K hK=>?_);rotate_left;· (obtain ⟨_,_,q2,q3,q4⟩:=(QG HX) W hW;go_simp;first | done | rfl))
  | refine Qap (Qa.pre Rg) rfl (by rfl) (fun K hK=>?_)
  go_simp;refine hK _ ?_;clear hK K
 refine Qaw ?_;refine Qb5 2 (Qa.pre Rg) rfl (by kernel_rfl) (by kernel_rfl) (by kernel_rfl) (by rfl) (v:=.agg v1) (fun W hW=>?_) (fun K hK=>?_)
 ·(exact QbF 45 (.tmp 99) rfl ⟨B,4,none⟩ rfl ((QG HX) W hW).1)
 go_simp;refine hK _ ?_;clear hK K;refine Qam [5] (by kernel_rfl) (by kernel_rfl) ?_
 iterate 1
  first
  | (refine Qax (Qa.pre Rg) rfl (by rfl) (v:=?_) (fun W hW=>?_) (fun K hK=>?_);rotate_left;· (obtain ⟨_,_,q2,q3,q4⟩:=(QG HX) W hW;go_simp;first | done | rfl))
  | refine Qap (Qa.pre Rg) rfl (by rfl) (fun K hK=>?_)
  go_simp;refine hK _ ?_;clear hK K
 refine Qaw ?_;refine Qb5 6 (Qa.pre Rg) rfl (by kernel_rfl) (by kernel_rfl) (by kernel_rfl) (by rfl) (v:=.agg v2) (fun W hW=>?_) (fun K hK=>?_)
 ·(exact QbF 45 (.tmp 103) rfl ⟨B,15,none⟩ rfl ((QG HX) W hW).2.1)
 go_simp;refine hK _ ?_;clear hK K;refine Qam [9,10,11,12,14,15,17,18,19,21,22,23,24] (by kernel_rfl) (by kernel_rfl) ?_
 iterate 13
  first
  | (refine Qax (Qa.pre Rg) rfl (by rfl) (v:=?_) (fun W hW=>?_) (fun K hK=>?_);rotate_left;· (obtain ⟨_,_,q2,q3,q4⟩:=(QG HX) W hW;go_simp;first | done | rfl))
  | refine Qap (Qa.pre Rg) rfl (by rfl) (fun K hK=>?_)
  go_simp;refine hK _ ?_;clear hK K
 refine Qaw ?_;refine Qaq 3 rfl (by kernel_rfl) (by rfl) (fun K hK=>?_);go_simp;refine (kc1 V.drew).mono ?_;rintro e1 w1 ⟨x1,rfl,o1,b1⟩;obtain ⟨a1,c1,rfl,_⟩:=Qaa o1;refine ⟨_,rfl,hK _ _ (Wr.of_below b1) ?_⟩;have B1:=QQ (QA o1 (show Below V.heap.size V w1 from QbE b1));have s1:V.heap.size≤w1.heap.size:=b1.size;clear o1 b1 kc1;clear hK K;refine Qal (fun K hK=>?_);go_simp;refine hK _ ?_;clear hK K;refine Qam [4] (by kernel_rfl) (by kernel_rfl) ?_
 iterate 1
  first
  | (refine Qax (Qa.pre Rg) rfl (by rfl) (v:=?_) (fun W hW=>?_) (fun K hK=>?_);rotate_left;· (go_simp;first | done | rfl))
  | refine Qap (Qa.pre Rg) rfl (by rfl) (fun K hK=>?_)
  go_simp;refine hK _ ?_;clear hK K
 refine Qaw ?_;refine Qaq 7 rfl (by kernel_rfl) (by rfl) (fun K hK=>?_);go_simp;refine (kc2 w1).mono ?_;rintro e2 w2 ⟨x2,rfl,o2,b2⟩;obtain ⟨a2,c2,rfl,_⟩:=Qaa o2;refine ⟨_,rfl,hK _ _ (Wr.of_below b2) ?_⟩;have B2:=QQ (QA o2 b2);have s2:w1.heap.size≤w2.heap.size:=b2.size;clear o2 b2 kc2;clear hK K;refine Qal (fun K hK=>?_);go_simp;refine hK _ ?_;clear hK K;refine Qam [8] (by kernel_rfl) (by kernel_rfl) ?_
 iterate 1
  first
  | (refine Qax (Qa.pre Rg) rfl (by rfl) (v:=?_) (fun W hW=>?_) (fun K hK=>?_);rotate_left;· (go_simp;first | done | rfl))
  | refine Qap (Qa.pre Rg) rfl (by rfl) (fun K hK=>?_)
  go_simp;refine hK _ ?_;clear hK K
 refine Qaw ?_;refine Qaq 13 rfl (by kernel_rfl) (by rfl) (fun K hK=>?_);go_simp;refine (Qcn 14 nw (show Nat.lt nw _ from hs1) w2).mono ?_;rintro e3 w3 ⟨a7,c7,rfl,r7,g7,b3⟩;refine ⟨_,rfl,hK _ _ (Wr.of_below b3) ?_⟩;have B3:=QQ (QA r7 (QA g7 b3));have s3:w2.heap.size≤w3.heap.size:=b3.size;clear r7 g7 b3;clear hK K;refine Qal (fun K hK=>?_);go_simp;refine hK _ ?_;clear hK K;refine Qaq 16 rfl (by kernel_rfl) (by rfl) (fun K hK=>?_);go_simp;refine (Qcn 15 np (show Nat.lt np _ from hs2) w3).mono ?_;rintro e4 w4 ⟨a8,c8,rfl,r8,g8,b4⟩;refine ⟨_,rfl,hK _ _ (Wr.of_below b4) ?_⟩;have B4:=QQ (QA r8 (QA g8 b4));have s4:w3.heap.size≤w4.heap.size:=b4.size;clear r8 g8 b4;clear hK K;refine Qal (fun K hK=>?_);go_simp;refine hK _ ?_;clear hK K;refine Qaq 20 rfl (by kernel_rfl) (by rfl) (fun K hK=>?_);go_simp;refine (QeF 16 nl (show Nat.lt nl _ from hs3) w4).mono ?_;rintro e5 w5 ⟨a9,c9,rfl,r9,g9,b5⟩;refine ⟨_,rfl,hK _ _ (Wr.of_below b5) ?_⟩;have B5:=QQ (QA r9 (QA g9 b5));have s5:w4.heap.size≤w5.heap.size:=b5.size;clear r9 g9 b5;clear hK K;refine Qal (fun K hK=>?_);go_simp;refine hK _ ?_;clear hK K;refine Qaq 25 rfl (by kernel_rfl) (by rfl) (fun K hK=>?_);go_simp;obtain ⟨us,hus⟩:∃ us:List Value,us=[.int .i64 11,.slice a1 52 c1,.slice none 0 0,.int .i64 12,.slice a2 52 c2,.slice none 0 0,.int .i64 13,.slice a4 73 c4,.slice none 0 0,.int .i64 14,.slice a7 8 c7,.slice none 0 0,.int .i64 15,.slice a8 8 c8,.slice none 0 0,.int .i64 16,.slice a9 8 c9,.slice none 0 0,.int .i64 17,.slice a5 n5 c5,.slice none 0 0,.int .i64 18,.slice a6 n6 c6,.slice none 0 0]:=⟨_,rfl⟩;obtain ⟨w6,hw6⟩:∃ w6,w6=w5.alloc (Obj.cells us.toArray 66):=⟨_,rfl⟩
 have b6:Below w5.heap.size w5 w6:=by rw [hw6];exact (QB _ _).alloc (QN _) _
 have x6:w6.heap[w5.heap.size]?=some (.cells us.toArray 66):=by rw [hw6];exact QW _ _
 have s6:w6.heap.size=w5.heap.size+1:=by rw [hw6];simp
 rw [hus] at hw6;rw [show w5.alloc (Obj.cells #[.int .i64 11,.slice a1 52 c1,.slice none 0 0,.int .i64 12,.slice a2 52 c2,.slice none 0 0,.int .i64 13,.slice a4 73 c4,.slice none 0 0,.int .i64 14,.slice a7 8 c7,.slice none 0 0,.int .i64 15,.slice a8 8 c8,.slice none 0 0,.int .i64 16,.slice a9 8 c9,.slice none 0 0,.int .i64 17,.slice a5 n5 c5,.slice none 0 0,.int .i64 18,.slice a6 n6 c6,.slice none 0 0] 66)=w6 from hw6.symm];refine hK _ _ (Wr.of_below b6) ?_
 have hus1:∀ u∈us,u.oneCell'=true:=by rw [hus];simp [Value.oneCell']
 have husl:us.length=24:=by rw [hus];rfl
 have HUS:=QQ hus;have B6:=QQ b6;clear hw6 hus b6;clear hK K;refine Qal (fun K hK=>?_);go_simp;refine hK _ ?_;clear hK K;refine Qaq 26 rfl (by kernel_rfl) (by rfl) (fun K hK=>?_);have hl:=(QG HL);obtain ⟨o1,b1⟩:=(QG B1);obtain ⟨o2,b2⟩:=(QG B2);obtain ⟨r7,g7,b3⟩:=(QG B3);obtain ⟨r8,g8,b4⟩:=(QG B4);obtain ⟨r9,g9,b5⟩:=(QG B5);have b6:=(QG B6);have k5:Below w5.heap.size w5 w6:=b6;have k4:Below w4.heap.size w4 w6:=b5.trans (k5.mono s5);have k3:Below w3.heap.size w3 w6:=b4.trans (k4.mono s4);have k2:Below w2.heap.size w2 w6:=b3.trans (k3.mono s3);have k1:Below w1.heap.size w1 w6:=b2.trans (k2.mono s2);have k0:Below V.heap.size V w6:=b1.trans (k1.mono s1);have hH:=(QG H);have hr:=(show Qoa W V p (.slice a4 73 c4) (.slice a5 n5 c5) (.slice a6 n6 c6) from by have:=HR;rw [← (QG HN).1,← (QG HN).2] at this;exact this);have hlow:=hH.below.size;have h0:=hl.1;obtain ⟨_,vs0,q1,q2,q3⟩:=id hl;obtain ⟨hh,vs,g1,g2,g3⟩:=(hl.grow k0).lift (hi':=w6.heap.size) (by omega) (QN _)
 refine QaQ (.tmp 98) (.tmp 123) 59 rfl (W.heap.size+1) 66 i0 _ 3 56 Tryz.underlying59 hi hz0 hz1 hz2 rfl (by decide) t3 3 vs rfl g1 (some ⟨w5.heap.size,0,none⟩) 8 8 us rfl husl hus1 (.inr ⟨_,_,rfl,fun j u hj=>by
  rw [Nat.zero_add,cell_of_row w6 _ j _ _ _ x6,List.getElem?_toArray];exact hj⟩) (by decide) (by decide) (by omega) ?_
 intro v10 w10 o10 g10 hat
 have kt3:∀ b,t3.ownBlock=some b→b<V.heap.size:=fun b hb=>(hown3 b hb).2
 have kne:∀ {n:Nat} {v:Value} {l:List Value},V.ownsRow W.heap.size 5 1 v n l→∀ b,QaO v b→t3.ownBlock≠some b:=fun h b hb e=>(QaK (by decide) h q1).elim (fun h0=>by rw [h0] at e;cases e) (fun h0=>h0 (by rw [QcE h hb,e]))
 have hfl:p.fds.length≤20000:=hH.fine.fds;have hpl:p.pages.length≤20000:=hH.fine.pages
 have relU:Qat (FlS W.heap.size w6.heap.size t3) w6 (QkR p) us:=by
  rw [show us=_ from HUS];unfold QkR;refine Qat.cons8 (by decide) (by decide) (by rw [Qd9 hH.fine.ok.1];decide) (((QbM o1 (QdC _) w1 w1.heap.size fun b hb=>⟨rfl,(o1.lt b hb).2⟩).below k1).mono k1.size) (fun b hb=>?_) ?_
  ·have:=o1.lt b (QcE o1 hb)
   exact ⟨by have:V.heap.size≤b:=this.1;omega,by have:=k1.size;omega,fun e=>by have h8:=kt3 b e;have:V.heap.size≤b:=this.1;omega⟩
  refine Qat.cons8 (by decide) (by decide) (by rw [Qd9 hH.fine.ok.2.1];decide) (((QbM o2 (QdC _) w2 w2.heap.size fun b hb=>⟨rfl,(o2.lt b hb).2⟩).below k2).mono k2.size) (fun b hb=>?_) ?_
  ·have:=o2.lt b (QcE o2 hb)
   exact ⟨by omega,by have:=k2.size;omega,fun e=>by have h8:=kt3 b e;omega⟩
  refine Qat.cons8 (by decide) (by decide) (by rw [Qh2 hH.fine.ok.2.2];decide) (((QbM hr.sg (Qg1 _) V V.heap.size fun b hb=>⟨rfl,(hr.sg.lt b hb).2⟩).below k0).mono k0.size) (fun b hb=>?_) ?_
  ·have:=hr.sg.lt b (QcE hr.sg hb)
   exact ⟨this.1,by have:=k0.size;omega,kne hr.sg b hb⟩
  obtain ⟨hnw,hnp,hnl⟩:=(QG HM);rw [← hnw,← hnp,← hnl];refine Qat.cons8 (by decide) (by decide) (by rw [QaG];decide) ((r7.below k3).mono k3.size) (fun b hb=>?_) ?_
  ·have h1:=g7 b hb;have h2:=r7.lt b hb
   exact ⟨by omega,by have:=k3.size;omega,fun e=>by have h8:=kt3 b e;omega⟩
  refine Qat.cons8 (by decide) (by decide) (by rw [QaG];decide) ((r8.below k4).mono k4.size) (fun b hb=>?_) ?_
  ·have h1:=g8 b hb;have h2:=r8.lt b hb
   exact ⟨by omega,by have:=k4.size;omega,fun e=>by have h8:=kt3 b e;omega⟩
  refine Qat.cons8 (by decide) (by decide) (by rw [QaG];decide) ((r9.below k5).mono k5.size) (fun b hb=>?_) ?_
  ·have h1:=g9 b hb;have h2:=r9.lt b hb
   exact ⟨by omega,by have:=k5.size;omega,fun e=>by have h8:=kt3 b e;omega⟩
  have hfdr:=hr.fd;rw [← (QG HN).1] at hfdr;have hpgr:=hr.pg;rw [← (QG HN).2] at hpgr;refine Qat.cons8 (by decide) (by decide) (by unfold fdB;rw [QM];omega) (((QbM hfdr (QgF _) V V.heap.size fun b hb=>⟨rfl,(hfdr.lt b hb).2⟩).below k0).mono k0.size) (fun b hb=>?_) ?_
  ·have:=hfdr.lt b (QcE hfdr hb)
   exact ⟨this.1,by have:=k0.size;omega,kne hfdr b hb⟩
  refine Qat.cons8 (by decide) (by decide) (by rw [QfN];omega) (((QbM hpgr (QgU _) V V.heap.size fun b hb=>⟨rfl,(hpgr.lt b hb).2⟩).below k0).mono k0.size) (fun b hb=>?_) Qat.nil
  ·have:=hpgr.lt b (QcE hpgr hb)
   exact ⟨this.1,by have:=k0.size;omega,kne hpgr b hb⟩
 have hF:=QbY.put hh g1 g2 g3 o10 g10 hat relU rfl
 have B10:Below W.heap.size W w10:=(hH.below.trans (k0.mono hlow)).grown g10 (by have:=k0.size;omega) fun b hb=>by have:=(hown3 b hb).1;omega
 have HF:=QQ (QA hF B10)
 have hw10:Qa Rg w6 w10:=Wr.grown (Wr.refl Rg w6) g10 fun b hb=>.inl (by rw [show Rg=_ from HRG];exact hb)
 clear hF B10 relU o10 g10 hat g1 g2 g3 hl hr q1 q2 q3 r7 r8 r9 g7 g8 g9 b1 b2 b3 b4 b5 b6 k0 k1 k2 k3 k4 k5 o1 o2 x6 kne kt3 hH;refine hK _ _ hw10 ?_;clear hK K;refine Qal (fun K hK=>?_);go_simp;refine hK _ ?_;clear hK K;refine Qam [27] (by kernel_rfl) (by kernel_rfl) ?_
 iterate 1
  first
  | (refine Qax (Qa.pre Rg) rfl (by rfl) (v:=?_) (fun W hW=>?_) (fun K hK=>?_);rotate_left;· (go_simp;first | done | rfl))
  | refine Qap (Qa.pre Rg) rfl (by rfl) (fun K hK=>?_)
  go_simp;refine hK _ ?_;clear hK K
 refine Qaw ?_;refine QaR (by kernel_rfl) ?_;refine (QG AK) _ _ ?_;go_wp2;go_ret;obtain ⟨hF,B10⟩:=(QG HF);refine ⟨v10,11,rfl,?_,B10⟩;rw [show Qbl p=(Qff p).app (QkR p) by unfold Qbl;rw [if_neg (QG HST)]];exact (hF.lift hF.1 (QN _)).low (Nat.le_succ _)
end
theorem Cp.eq_self (c:Cp):c.eq c=true:=by simp [Cp.eq]
theorem Sg.eq_self (c:Sg):c.eq c=true:=by simp [Sg.eq]
theorem Qji {P:Program} {o:Oper} {a:Act} {w:World} (k:BinOp) (t t2:TypeId) (x y:Operand) (ho:o.op=.binOp k t x y t2) (v:Value) (hq:(eqGuard k t x y (a.eval x) (a.eval y)).run P w=.ok () w) (hr:(binOp k t (a.eval x) (a.eval y)).run P w=.ok v w) :
  (execOp a.eval o).run P w=.ok (.value v) w:=by
 unfold execOp;simp only [ho,Sem.run_bind,Sem.run_pure,Result.andThen_ok,hq,hr]
theorem QoS:Tryz.prog.eqGuardType Tryz.prog.depth 110=false:=by kernel_rfl
theorem QoR:Tryz.prog.eqGuardType Tryz.prog.depth 76=false:=by kernel_rfl
theorem QoT:Tryz.prog.eqGuardType Tryz.prog.depth 80=false:=by kernel_rfl
theorem Qht (d:Nat) (a b c:Int) (w:World):(Op.equalIn (d+2) 50 (.agg #[.int .i64 a,.int .i64 b,.int .i64 c]) (.agg #[.int .i64 a,.int .i64 b,.int .i64 c])).run Tryz.prog w=.ok true w:=by
 rw [run_equalIn_agg _ _ _ _ _ (by kernel_rfl) (by kernel_rfl)];simp [Program.fieldsOf,Tryz.underlying50,Op.eqFields,go_sem]
theorem QkH (d:Nat) (f:Int) (a b c e:Bool) (w:World):(Op.equalIn (d+2) 108 (.agg #[.int .i64 f,.bool a,.bool b,.bool c,.bool e]) (.agg #[.int .i64 f,.bool a,.bool b,.bool c,.bool e])).run Tryz.prog w=.ok true w:=by
 rw [run_equalIn_agg _ _ _ _ _ (by kernel_rfl) (by kernel_rfl)];simp [Program.fieldsOf,Tryz.underlying108,Op.eqFields,go_sem]
theorem Qpq (w:World):(binOp .eql 50 (.agg #[.int .i64 0,.int .i64 0,.int .i64 0]) (.agg #[.int .i64 0,.int .i64 0,.int .i64 0])).run Tryz.prog w=.ok (.bool true) w:=by
 rw [run_eql_struct,Qht];rfl
theorem QqH (m:Pg) (w:World):(binOp .neq 110 (.agg m.vals.toArray) (.agg m.vals.toArray)).run Tryz.prog w=.ok (.bool false) w:=by
 obtain ⟨p,f,a,b,c⟩:=m;have hk:=QkH 9997 f a b c false;rw [run_neq_struct,show (10000:Nat)=9999+1 from rfl,run_equalIn_agg _ _ _ _ _ (by kernel_rfl) (by kernel_rfl)];simp [Program.fieldsOf,Tryz.underlying110,Op.eqFields,go_sem,Pg.vals,hk]
theorem QqG (z:Int) (b:Bool) (w:World):(binOp .neq 76 (.agg #[.int .i64 z,.bool b]) (.agg #[.int .i64 z,.bool b])).run Tryz.prog w=.ok (.bool false) w:=by
 rw [run_neq_struct,show (10000:Nat)=9999+1 from rfl,run_equalIn_agg _ _ _ _ _ (by kernel_rfl) (by kernel_rfl)];simp [Program.fieldsOf,Tryz.underlying76,Op.eqFields,go_sem]
theorem QqI (m:Wt) (w:World):(binOp .neq 80 (.agg m.vals.toArray) (.agg m.vals.toArray)).run Tryz.prog w=.ok (.bool false) w:=by
 obtain ⟨p,a,b,c⟩:=m;have hk:=Qht 9997 a b c;rw [run_neq_struct,show (10000:Nat)=9999+1 from rfl,run_equalIn_agg _ _ _ _ _ (by kernel_rfl) (by kernel_rfl)];simp [Program.fieldsOf,Tryz.underlying80,Op.eqFields,go_sem,Wt.vals,hk]
theorem Qoi {n:Nat} {W V:World} {a:Option Addr} {cap:Nat} {l:List Int} (h:Qc n W a l.length cap (l.map (Value.int .i64))) (hb:Below n W V) (k:Nat) (hk:k<l.length) :
  ∃ b off,a=some ⟨b,off,none⟩∧b<n∧V.cell? ⟨b,off+k,none⟩=some (.int .i64 l[k]):=by
 rcases h with h0 | ⟨b,off,e0,hbn,hlc,hcm,hc⟩
 ·omega
 refine ⟨b,off,e0,hbn,?_⟩;have:=hc k (.int .i64 l[k]) (by simp [List.getElem?_map,List.getElem?_eq_getElem hk]);exact (hb.cell (p:=⟨b,off+k,none⟩) hbn).trans this
section
attribute [local go_sem] QaB QaJ QaA
theorem QlW (w s c:Bool):IntKind.u8.wrap (bits .or .u64 (bits .or .u64 (Qb6 w) (IntKind.u64.wrap (Qb6 s*2))) (IntKind.u64.wrap (Qb6 c*4)))=Qb6 w+2*Qb6 s+4*Qb6 c:=by
 cases w <;> cases s <;> cases c <;> decide
theorem Qp1 (W:World) (p:Pr) (fa:Option Addr) (fc:Nat) (pa:Option Addr) (pc:Nat) (X:Array Value) (B:Nat) (t3 t4 t5:Value) (hm:Qbj p=true) (hst:¬ p.state=2) (h3:Nat) (u7 u8 u9 u10 u11 u12 u13 u14 u15 u16 u17 u18 u19 u20 u21 u22 u23 u24 u25 u26 u27 u28 u29 u30 u31 u32 u33 u34 u35 u36 u37 u38 u39 u40 u41 u42 u43 u44 u45 u46 u47 u48 u49 u50 u51 u52 u53 u54 u55 u56 u57 u58 u59 u60 u61 u62 u63 u64 u65 u66 u67 u68 u69 u70 u71 u72 u73 u74 u75 u76 u77 u78 u79 u80 u81 u82 u83 u84 u85 u86 u87 u88 u89 u90 u91 u92 u93 u94 u95 u96 u97 u98 u99 u100 u101 u102 u103 u104 u105 u106 u107 u108 u109 u110 u111 u112 u113 u114 u115 u116 u117 u118 u119 u120 u121 u122 u123 u124:Value) (V:World)
  (h:Qad W (p,⟨fa,fc,pa,pc⟩) X B V) (hl:QbY W.heap.size h3 (W.heap.size+1) V t3 3 (Qff p)) (hr:V.ownsRow W.heap.size 5 1 t4 73 ((sgB p.sig).map (Value.int .u8))) (hr5:V.ownsRow W.heap.size 5 1 t5 p.fds.length ((fdB p.fds).map (Value.int .u8))) :
  (tl 7 (Tryz.f95.body.getD .skip)).wp Tryz.prog (KdQ W p) { tmps:=#[.agg X,.pointer (some ⟨B,0,none⟩),.slice none 0 0,t3,t4,t5,.slice none 0 0,u7,u8,u9,u10,u11,u12,u13,u14,u15,u16,u17,u18,u19,u20,u21,u22,u23,u24,u25,u26,u27,u28,u29,u30,u31,u32,u33,u34,u35,u36,u37,u38,u39,u40,u41,u42,u43,u44,u45,u46,u47,u48,u49,u50,u51,u52,u53,u54,u55,u56,u57,u58,u59,u60,u61,u62,u63,u64,u65,u66,u67,u68,u69,u70,u71,u72,u73,u74,u75,u76,u77,u78,u79,u80,u81,u82,u83,u84,u85,u86,u87,u88,u89,u90,u91,u92,u93,u94,u95,u96,u97,u98,u99,u100,u101,u102,u103,u104,u105,u106,u107,u108,u109,u110,u111,u112,u113,u114,u115,u116,u117,u118,u119,u120,u121,u122,u123,u124],defers:=[] } V:=by
 obtain ⟨i0,hi0,hz0,hz1,hz2⟩:=info_parts Qgf;have c54:=Qad.cell h (Qaf p h.fine.ok fa fc pa pc).2.2.1.2.2.2.2;have hpl:p.pages.length≤20000:=h.fine.pages;have hrow:=(h.pages.below h.below).mono h.below.size;obtain ⟨l,hll⟩:∃ l,l=p.pages:=⟨_,rfl⟩;simp only at hrow;rw [← hll] at c54 hpl hrow;have HL:=QQ hll;have HROW:=QQ hrow;have H:=QQ (QA h (QA hl (QA hr (QA hr5 (QA hm hst)))));clear h hl hr hr5 hm hst hll hrow
 conv=>arg 2;whnf
 refine wp_seq_k (fun K' aK=>?_);have AK:=QQ aK;clear aK;go_wp2;go_loopw [6,10,11,68] (fun vv _ _ i wr=>∃ (k:Nat) (v:Value),i=.int .i64 (k:Int)∧v=vv∧k≤l.length∧wr.ownsRow V.heap.size 5 1 v (k*4) ((pgB (l.take k)).map (Value.int .u8))∧Below V.heap.size V wr) (fun _ _ _ i _=>l.length-(intOf i).toNat)
 case atStart=>exact ⟨0,_,rfl,rfl,Nat.zero_le _,World.ownsRow_nil _ _ _ _,QB _ _⟩
 case round =>
  clear c54;obtain ⟨k,v,rfl,rfl,hk,own,hb⟩:=hrel
  rcases Nat.lt_or_ge k l.length with hx | hx
  ·rcases (QG HROW) with h0 | ⟨b,off,rfl,hbn,hlc,hcm,hc⟩
   ·omega
   have e:∀ j v,(Pg.vals l[k])[j]?=some v→wr.cell? ⟨b,off+k*6+j,none⟩=some v:=fun j v hj=>by
    have:=hc (k*6+j) v (Qb Pg.vals 6 l (fun _ _=>rfl) k hx j v hj);rw [show off+k*6+j=off+(k*6+j) by omega];exact (hb.cell (p:=⟨b,off+(k*6+j),none⟩) hbn).trans this
   have hsz:=hb.size;clear hc;obtain ⟨mg,hmg⟩:∃ mg,mg=l[k]:=⟨_,rfl⟩
   have hcat:(pgB (l.take (k+1))).map (Value.int .u8)=(pgB (l.take k)).map (Value.int .u8)++(QkW mg).map (Value.int .u8):=by
    unfold pgB;rw [List.take_succ_eq_append_getElem hx,List.flatMap_append,List.map_append,hmg];simp
   rw [← hmg] at e;clear hmg;obtain ⟨pg,f,w,s,c⟩:=mg;have HCAT:=QQ hcat;have OWN:=QQ own;have own0:=own.lt;clear hcat own
   have t0:((k:Int)<(l.length:Int)):=by omega
   go_wp2_with first
    | (refine QaC (by rfl) 110 (.tmp 70) rfl b (off+k*6) rfl (Pg.vals ⟨pg,f,w,s,c⟩) _ e Tryz.underlying110 rfl Qeb ?_)
    | ((fail_if_success (unfold Qag));refine Qan (t:=110) rfl ?_)
   unfold Qag;refine Qab rfl 110 (.tmp 10) (.tmp 71) rfl wr.heap.size #[.int .i64 pg,.int .i64 f,.bool w,.bool s,.bool c,.bool false] rfl rfl 110 _ (QW _ _) Qeb rfl (by simp [Value.oneCell']) ?_;rw [World.setRow_alloc_new];obtain ⟨V1,hV1⟩:∃ V,V=wr.alloc (.cells #[.int .i64 pg,.int .i64 f,.bool w,.bool s,.bool c,.bool false] 110):=⟨_,rfl⟩
   have eV1:V1.heap[wr.heap.size]?=some (.cells #[.int .i64 pg,.int .i64 f,.bool w,.bool s,.bool c,.bool false] 110):=by rw [hV1];exact QW _ _
   have bV1:Below wr.heap.size wr V1:=by rw [hV1];exact (QB _ _).alloc (QN _) _
   have SV1:=QQ (show V1.heap.size=wr.heap.size+1 by rw [hV1];simp);rw [← hV1];clear hV1 e
   have hcE:∀ j v,([.int .i64 f,.bool w,.bool s,.bool c,.bool false]:List Value)[j]?=some v→V1.cell? ⟨wr.heap.size,1+j,none⟩=some v:=fun j v hj=>by
    have hlt:=(List.getElem?_eq_some_iff.1 hj).1;rw [cell_of_row V1 _ (1+j) _ _ _ eV1,List.getElem?_toArray,Nat.add_comm,List.getElem?_cons_succ];exact hj
   go_wp2_with first
    | (refine QaC (by rfl) 108 (.tmp 72) rfl wr.heap.size 1 rfl [.int .i64 f,.bool w,.bool s,.bool c,.bool false] _ hcE Tryz.underlying108 rfl QfK ?_)
    | ((fail_if_success (unfold Qag));refine Qan (t:=108) rfl ?_)
   unfold Qag;refine Qab rfl 108 (.tmp 11) (.tmp 73) rfl V1.heap.size #[.int .i64 f,.bool w,.bool s,.bool c,.bool false] rfl rfl 108 _ (QW _ _) QfK rfl (by simp [Value.oneCell']) ?_;rw [World.setRow_alloc_new];obtain ⟨V2,hV2⟩:∃ V,V=V1.alloc (.cells #[.int .i64 f,.bool w,.bool s,.bool c,.bool false] 108):=⟨_,rfl⟩
   have eV2:V2.heap[V1.heap.size]?=some (.cells #[.int .i64 f,.bool w,.bool s,.bool c,.bool false] 108):=by rw [hV2];exact QW _ _
   have bV2:Below V1.heap.size V1 V2:=by rw [hV2];exact (QB _ _).alloc (QN _) _
   have SV2:=QQ (show V2.heap.size=V1.heap.size+1 by rw [hV2];simp);rw [← hV2];have eV1':=(bV2.block _ (by have:=(QG SV1);omega)).trans eV1;clear hV2 hcE;go_wp2
   obtain ⟨Rg,hRg⟩:∃ Rg:Nat→Prop,Rg=fun b=>v.ownBlock=some b:=⟨_,rfl⟩
   have l1:wr.heap.size<V2.heap.size:=by have:=(QG SV1);have:=(QG SV2);omega
   have l2:V1.heap.size<V2.heap.size:=by have:=(QG SV2);omega
   have l3:wr.heap.size≤V1.heap.size:=by have:=(QG SV1);omega
   have HX:=QQ (show ∀ W',Qa Rg V2.drew W'→W'.cell? ⟨wr.heap.size,0,none⟩=some (.int .i64 pg)∧W'.cell? ⟨V1.heap.size,0,none⟩=some (.int .i64 f)∧W'.cell? ⟨V1.heap.size,1,none⟩=some (.bool w)∧W'.cell? ⟨V1.heap.size,2,none⟩=some (.bool s)∧W'.cell? ⟨V1.heap.size,3,none⟩=some (.bool c) from fun W' hW=>by
    have h1:=(hW.block wr.heap.size l1 (by rw [hRg];intro e;have:=(own0 _ e).2;omega)).trans (show V2.drew.heap[wr.heap.size]?=_ from eV1');have h2:=(hW.block V1.heap.size l2 (by rw [hRg];intro e;have:=(own0 _ e).2;omega)).trans (show V2.drew.heap[V1.heap.size]?=_ from eV2)
    exact ⟨by rw [cell_of_row W' _ 0 _ _ _ h1];rfl,by rw [cell_of_row W' _ 0 _ _ _ h2];rfl,by rw [cell_of_row W' _ 1 _ _ _ h2];rfl,by rw [cell_of_row W' _ 2 _ _ _ h2];rfl,by rw [cell_of_row W' _ 3 _ _ _ h2];rfl⟩)
   have HRG:=QQ hRg;have BV:=QQ (QA bV1 bV2);clear eV1 eV1' eV2 bV1 bV2 hRg;refine Qas (Qa Rg) (by kernel_rfl) 24 rfl ?_;refine Qam [0,1,2,3,4,5,6,7,8,10,11,15,16] (by kernel_rfl) (by kernel_rfl) ?_
   iterate 13
    first
    | (refine Qax (Qa.pre Rg) rfl (by rfl) (v:=?_) (fun W hW=>?_) (fun K hK=>?_);rotate_left;· (obtain ⟨q0,q1,q2,q3,q4⟩:=(QG HX) W hW;go_simp;first | done | rfl))
    | refine Qap (Qa.pre Rg) rfl (by rfl) (fun K hK=>?_)
    go_simp;refine hK _ ?_;clear hK K
   refine Qaw ?_;refine Qaq 9 rfl (by kernel_rfl) (by rfl) (fun K hK=>?_);go_simp;refine (Qgw w V2.drew).mono ?_;rintro e1 w1 ⟨rfl,hw⟩;rw [hw];clear hw w1;refine ⟨_,rfl,hK _ _ (Wr.refl _ _) ?_⟩;obtain ⟨y1,hy1⟩:∃ y,y=Qb6 w:=⟨_,rfl⟩;rw [← hy1];have HY1:=QQ hy1;clear hy1;clear hK K;refine Qal (fun K hK=>?_);go_simp;refine hK _ ?_;clear hK K;refine Qaq 12 rfl (by kernel_rfl) (by rfl) (fun K hK=>?_);go_simp;refine (Qgw s V2.drew).mono ?_;rintro e1 w1 ⟨rfl,hw⟩;rw [hw];clear hw w1;refine ⟨_,rfl,hK _ _ (Wr.refl _ _) ?_⟩;obtain ⟨y2,hy2⟩:∃ y,y=Qb6 s:=⟨_,rfl⟩;rw [← hy2];have HY2:=QQ hy2;clear hy2;clear hK K;refine Qal (fun K hK=>?_);go_simp;refine hK _ ?_;clear hK K;refine Qam [13,14] (by kernel_rfl) (by kernel_rfl) ?_
   iterate 2
    first
    | (refine Qax (Qa.pre Rg) rfl (by rfl) (v:=?_) (fun W hW=>?_) (fun K hK=>?_);rotate_left;· (obtain ⟨q0,q1,q2,q3,q4⟩:=(QG HX) W hW;go_simp;first | done | rfl))
    | refine Qap (Qa.pre Rg) rfl (by rfl) (fun K hK=>?_)
    go_simp;refine hK _ ?_;clear hK K
   refine Qaw ?_;refine Qaq 17 rfl (by kernel_rfl) (by rfl) (fun K hK=>?_);go_simp;refine (Qgw c V2.drew).mono ?_;rintro e1 w1 ⟨rfl,hw⟩;rw [hw];clear hw w1;refine ⟨_,rfl,hK _ _ (Wr.refl _ _) ?_⟩;obtain ⟨y3,hy3⟩:∃ y,y=Qb6 c:=⟨_,rfl⟩;rw [← hy3];have HY3:=QQ hy3;clear hy3;clear hK K;refine Qal (fun K hK=>?_);go_simp;refine hK _ ?_;clear hK K;refine Qam [18,19,20] (by kernel_rfl) (by kernel_rfl) ?_
   iterate 3
    first
    | (refine Qax (Qa.pre Rg) rfl (by rfl) (v:=?_) (fun W hW=>?_) (fun K hK=>?_);rotate_left;· (obtain ⟨q0,q1,q2,q3,q4⟩:=(QG HX) W hW;go_simp;first | done | rfl))
    | refine Qap (Qa.pre Rg) rfl (by rfl) (fun K hK=>?_)
    go_simp;refine hK _ ?_;clear hK K
   refine Qaw ?_;refine Qaq 21 rfl (by kernel_rfl) (by rfl) (fun K hK=>?_);go_simp;obtain ⟨us,hus⟩:∃ us:List Value,us=[.int .u8 (IntKind.u8.wrap pg),.int .u8 (IntKind.u8.wrap f),.int .u8 0,.int .u8 (IntKind.u8.wrap (bits .or .u64 (bits .or .u64 y1 (IntKind.u64.wrap (y2*2))) (IntKind.u64.wrap (y3*4))))]:=⟨_,rfl⟩
   have husP:us=(QkW ⟨pg,f,w,s,c⟩).map (Value.int .u8):=by
    rw [hus,QbW pg,QbW f,show y1=Qb6 w from HY1,show y2=Qb6 s from HY2,show y3=Qb6 c from HY3,QlW];rfl
   have husl:us.length=4:=by rw [hus];rfl
   have hus1:∀ u∈us,u.oneCell'=true:=by rw [hus];simp [Value.oneCell']
   obtain ⟨w6,hw6⟩:∃ w6,w6=(V2.alloc (Obj.cells us.toArray 5)).drew:=⟨_,rfl⟩
   have b6:Below V2.heap.size V2 w6:=by
    rw [hw6];have h20:Below V2.heap.size V2 (V2.alloc (Obj.cells us.toArray 5)):=(QB _ _).alloc (QN _) _;exact ⟨h20.os,h20.tape,h20.output,h20.size,h20.block⟩
   have x6:w6.heap[V2.heap.size]?=some (.cells us.toArray 5):=by rw [hw6];exact QW _ _
   have s6:w6.heap.size=V2.heap.size+1:=by rw [hw6];show (V2.alloc _).heap.size=_;simp
   have hD:Below V2.drew.heap.size V2.drew w6:=⟨b6.os,b6.tape,b6.output,b6.size,b6.block⟩;rw [hus] at hw6;rw [show (V2.alloc (Obj.cells #[.int .u8 (IntKind.u8.wrap pg),.int .u8 (IntKind.u8.wrap f),.int .u8 0,.int .u8 (IntKind.u8.wrap (bits .or .u64 (bits .or .u64 y1 (IntKind.u64.wrap (y2*2))) (IntKind.u64.wrap (y3*4))))] 5)).drew=w6 from hw6.symm];refine hK _ _ (Wr.of_below hD) ?_;have HUS:=QQ husP;have B6:=QQ b6;clear hw6 hus husP b6 hD;clear hK K;refine Qal (fun K hK=>?_);go_simp;refine hK _ ?_;clear hK K;refine Qaq 22 rfl (by kernel_rfl) (by rfl) (fun K hK=>?_);have own:=(QG OWN);have b6:=(QG B6);obtain ⟨bV1,bV2⟩:=(QG BV);have kk:Below wr.heap.size wr w6:=bV1.trans ((bV2.trans (b6.mono (Nat.le_of_lt l2))).mono l3)
   have own6:=Qac (B:=w6) own fun b hb'=>kk.block b (own.lt b hb').2
   refine QaQ (.tmp 74) (.tmp 95) 22 rfl V.heap.size 5 i0 _ 1 1 Tryz.underlying22 hi0 hz0 hz1 hz2 rfl (by decide) v (k*4) _ rfl own6 (some ⟨V2.heap.size,0,none⟩) 4 4 us rfl husl hus1 (.inr ⟨_,_,rfl,fun j u hj=>by
    rw [Nat.zero_add,cell_of_row w6 _ j _ _ _ x6,List.getElem?_toArray];exact hj⟩) (by omega) (by simp only [maxLen];omega) (by have:=kk.size;omega) ?_
   intro v10 w10 o10 g10 hat
   have hb10:Below V.heap.size V w10:=(hb.trans (kk.mono hsz)).grown g10 (by have:=kk.size;omega) fun b' hb'=>(own.lt b' hb').1
   rw [show us=_ from HUS,← (QG HCAT),show k*4+4=(k+1)*4 by omega] at o10;have O10:=QQ (QA o10 hb10)
   have hw10:Qa Rg w6 w10:=Wr.grown (Wr.refl Rg w6) g10 fun b hb=>.inl (by rw [show Rg=_ from HRG];exact hb)
   clear o10 hb10 g10 hat own own6 kk b6 bV1 bV2 x6;refine hK _ _ hw10 ?_;clear hK K;refine Qal (fun K hK=>?_);go_simp;refine hK _ ?_;clear hK K;refine Qam [23] (by kernel_rfl) (by kernel_rfl) ?_
   iterate 1
    first
    | (refine Qax (Qa.pre Rg) rfl (by rfl) (v:=?_) (fun W hW=>?_) (fun K hK=>?_);rotate_left;· (go_simp;first | done | rfl))
    | refine Qap (Qa.pre Rg) rfl (by rfl) (fun K hK=>?_)
    go_simp;refine hK _ ?_;clear hK K
   refine Qaw ?_;refine QaR (by kernel_rfl) ?_;go_wp2;go_roundw
   case rel=>exact ⟨k+1,_,by go_num,rfl,by omega,(QG O10).1,(QG O10).2⟩
   case measure=>simp [intOf];omega
  ·have hk2:k=l.length:=by omega
   subst hk2;rw [List.take_length] at own;clear hx hk;have OWN:=QQ own;clear own;go_wp2;refine (QG AK) _ _ ?_;obtain ⟨h,hl,hr,hr5,hm,hst⟩:=(QG H);exact Qp2 W p fa fc pa pc X B t3 t4 t5 v hm hst h3 _ _ _ _ _ _ _ _ _ _ _ _ _ _ _ _ _ _ _ _ _ _ _ _ _ _ _ _ _ _ _ _ _ _ _ _ _ _ _ _ _ _ _ _ _ _ _ _ _ _ _ _ _ _ _ _ _ _ _ _ _ _ _ _ _ _ _ _ _ _ _ _ _ _ _ _ _ _ _ _ _ _ _ _ _ _ _ _ _ _ _ _ _ _ _ _ _ _ _ _ _ _ _ _ _ _ _ _ _ _ _ _ _ _ _ _ _ _ wr (h.grow hb) (hl.grow hb) ⟨Qac hr fun b hb'=>hb.block b (hr.lt b hb').2,Qac hr5 fun b hb'=>hb.block b (hr5.lt b hb').2,by rw [← (QG HL)];exact QaI (QG OWN) h.below.size fun _ _=>rfl⟩
end
theorem Qp0 (W:World) (p:Pr) (fa:Option Addr) (fc:Nat) (pa:Option Addr) (pc:Nat) (X:Array Value) (B:Nat) (t3 t4:Value) (hm:Qbj p=true) (hst:¬ p.state=2) (h3:Nat) (u7 u8 u9 u10 u11 u12 u13 u14 u15 u16 u17 u18 u19 u20 u21 u22 u23 u24 u25 u26 u27 u28 u29 u30 u31 u32 u33 u34 u35 u36 u37 u38 u39 u40 u41 u42 u43 u44 u45 u46 u47 u48 u49 u50 u51 u52 u53 u54 u55 u56 u57 u58 u59 u60 u61 u62 u63 u64 u65 u66 u67 u68 u69 u70 u71 u72 u73 u74 u75 u76 u77 u78 u79 u80 u81 u82 u83 u84 u85 u86 u87 u88 u89 u90 u91 u92 u93 u94 u95 u96 u97 u98 u99 u100 u101 u102 u103 u104 u105 u106 u107 u108 u109 u110 u111 u112 u113 u114 u115 u116 u117 u118 u119 u120 u121 u122 u123 u124:Value) (V:World)
  (h:Qad W (p,⟨fa,fc,pa,pc⟩) X B V) (hl:QbY W.heap.size h3 (W.heap.size+1) V t3 3 (Qff p)) (hr:V.ownsRow W.heap.size 5 1 t4 73 ((sgB p.sig).map (Value.int .u8))) :
  (tl 6 (Tryz.f95.body.getD .skip)).wp Tryz.prog (KdQ W p) { tmps:=#[.agg X,.pointer (some ⟨B,0,none⟩),.slice none 0 0,t3,t4,.slice none 0 0,.slice none 0 0,u7,u8,u9,u10,u11,u12,u13,u14,u15,u16,u17,u18,u19,u20,u21,u22,u23,u24,u25,u26,u27,u28,u29,u30,u31,u32,u33,u34,u35,u36,u37,u38,u39,u40,u41,u42,u43,u44,u45,u46,u47,u48,u49,u50,u51,u52,u53,u54,u55,u56,u57,u58,u59,u60,u61,u62,u63,u64,u65,u66,u67,u68,u69,u70,u71,u72,u73,u74,u75,u76,u77,u78,u79,u80,u81,u82,u83,u84,u85,u86,u87,u88,u89,u90,u91,u92,u93,u94,u95,u96,u97,u98,u99,u100,u101,u102,u103,u104,u105,u106,u107,u108,u109,u110,u111,u112,u113,u114,u115,u116,u117,u118,u119,u120,u121,u122,u123,u124],defers:=[] } V:=by
 obtain ⟨i0,hi0,hz0,hz1,hz2⟩:=info_parts Qgf;have c51:=Qad.cell h (Qaf p h.fine.ok fa fc pa pc).2.2.1.2.1;have hfl:p.fds.length≤20000:=h.fine.fds;have hrow:=(h.fds.below h.below).mono h.below.size;obtain ⟨fds,hfds⟩:∃ l,l=p.fds:=⟨_,rfl⟩;simp only at hrow;rw [← hfds] at c51 hfl hrow;have HFD:=QQ hfds;have HROW:=QQ hrow;have H:=QQ (QA h (QA hl (QA hr (QA hm hst))));clear h hl hr hm hst hfds hrow
 conv=>arg 2;whnf
 refine wp_seq_k (fun K' aK=>?_);have AK:=QQ aK;clear aK;go_wp2;go_loopw [5,8,55] (fun vv _ i wr=>∃ (k:Nat) (v:Value),i=.int .i64 (k:Int)∧v=vv∧k≤fds.length∧wr.ownsRow V.heap.size 5 1 v k ((fdB (fds.take k)).map (Value.int .u8))∧Below V.heap.size V wr) (fun _ _ i _=>fds.length-(intOf i).toNat)
 case atStart=>exact ⟨0,_,rfl,rfl,Nat.zero_le _,World.ownsRow_nil _ _ _ _,QB _ _⟩
 case round =>
  clear c51;obtain ⟨k,v,rfl,rfl,hk,own,hb⟩:=hrel
  rcases Nat.lt_or_ge k fds.length with hx | hx
  ·rcases (QG HROW) with h0 | ⟨b,off,rfl,hbn,hlc,hcm,hc⟩
   ·omega
   have hsz:=hb.size;obtain ⟨x,hxx⟩:∃ x,x=fds[k]:=⟨_,rfl⟩;have e0:wr.cell? ⟨b,off+k,none⟩=some (.int .i64 x):=(hb.cell (p:=⟨b,off+k,none⟩) hbn).trans (hc k _ (by rw [List.getElem?_map,List.getElem?_eq_getElem hx,hxx];rfl))
   have t0:((k:Int)<(fds.length:Int)):=by omega
   have w0:=QbW x
   have hcat:(fdB (fds.take (k+1))).map (Value.int .u8)=(fdB (fds.take k)).map (Value.int .u8)++[.int .u8 (x % 256)]:=by
    unfold fdB;rw [List.take_succ_eq_append_getElem hx,List.map_append,List.map_append,hxx];rfl
   have HCAT:=QQ hcat;have OWN:=QQ own;clear hc hcat own hxx;go_wp2_with (at_builtin;refine Qau ?_);unfold Qag;have own:=(QG OWN);have hnew:=QbR wr #[.int .u8 (x % 256)] 5
   refine QaH rfl _ _ 22 rfl V.heap.size 5 i0 _ 1 1 Tryz.underlying22 hi0 hz0 hz1 hz2 rfl (by decide) v k _ rfl (own.alloc _) (some ⟨wr.heap.size,0,none⟩) 1 1 [.int .u8 (x % 256)] rfl rfl (by simp [Value.oneCell']) (.inr ⟨_,_,rfl,fun j u hj=>by
    have:=hnew j u hj;rw [show (⟨wr.heap.size,0,none⟩:Addr).add j=⟨wr.heap.size,0+j,none⟩ from Addr.add_lit ..] at this
    exact this⟩) (by omega) (by simp only [maxLen];omega) (by simp;omega) ?_
   intro v9 w9 o9 g9 hv9
   have hb9:Below V.heap.size V w9:=(hb.trans ((QB _ _).alloc hsz _)).grown g9 (by simp;omega) fun b' hb'=>(own.lt b' hb').1
   rw [← (QG HCAT)] at o9;have O9:=QQ o9;clear own hnew o9 g9 hv9 OWN;go_wp2;go_roundw
   case rel=>exact ⟨k+1,_,by go_num,rfl,by omega,O9,hb9⟩
   case measure=>simp [intOf];omega
  ·have hk2:k=fds.length:=by omega
   subst hk2;rw [List.take_length] at own;clear hx hk;have OWN:=QQ own;clear own;go_wp2;refine (QG AK) _ _ ?_;obtain ⟨h,hl,hr,hm,hst⟩:=(QG H);exact Qp1 W p fa fc pa pc X B t3 t4 v hm hst h3 _ _ _ _ _ _ _ _ _ _ _ _ _ _ _ _ _ _ _ _ _ _ _ _ _ _ _ _ _ _ _ _ _ _ _ _ _ _ _ _ _ _ _ _ _ _ _ _ _ _ _ _ _ _ _ _ _ _ _ _ _ _ _ _ _ _ _ _ _ _ _ _ _ _ _ _ _ _ _ _ _ _ _ _ _ _ _ _ _ _ _ _ _ _ _ _ _ _ _ _ _ _ _ _ _ _ _ _ _ _ _ _ _ _ _ _ _ _ wr (h.grow hb) (hl.grow hb) (Qac hr fun b hb'=>hb.block b (hr.lt b hb').2) (by rw [← (QG HFD)];exact QaI (QG OWN) h.below.size fun _ _=>rfl)
end Go.Proofs.YtejcandhijdnhaaGreat
