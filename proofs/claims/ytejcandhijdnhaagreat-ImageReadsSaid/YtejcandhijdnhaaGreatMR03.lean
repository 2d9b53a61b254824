/- Own texts of this seat, one behind the other, without needless spaces (part 3 of 26). -/
import Derived.Test.YtejcandhijdnhaaGreatMR01
import Derived.Test.YtejcandhijdnhaaGreatMR02
import Derived.Deep.Cut
import Derived.Deep.CutRange
import Derived.Deep.CutBlock
import Derived.Deep.RegionWith
import Derived.Deep.WholeRow
import Derived.Laws.Slices
import Derived.BigFrame
import Derived.OrdersIn
namespace Go.Proofs.YtejcandhijdnhaaGreat
open Go Go.RowKit
set_option linter.unusedVariables false
set_option linter.unusedSimpArgs false
set_option linter.unnecessarySimpa false
set_option maxRecDepth 100000
set_option maxHeartbeats 16000000
section
attribute [local go_sem] QaB QaJ QaA
def zT:Array Value:=#[.int .i64 0,.slice none 0 0,.slice none 0 0]
theorem QbO:(Tryz.prog.info? 66).map (·.size)=some 3:=by kernel_rfl
theorem QaS (t:Int) (a:Option Addr) (l c:Nat) (ka:Option Addr) (kl kc:Nat):(#[Value.int .i64 t,.slice a l c,.slice ka kl kc]:Array Value).all (·.oneCell')=true:=by simp [Value.oneCell']
theorem Qes (n:Nat):Pre (Below n):=⟨fun w=>QB _ w,fun h k=>h.trans k⟩
theorem Qaj {n:Nat} {A B:World} (h:Below n A B) {g:Nat} (hg:n≤g) (cs:Array Value):Below n A (B.setRow g cs) :=
 ⟨h.os,h.tape,h.output,by rw [size_setRow];exact h.size,fun b hb=>(setRow_other B g b cs (by omega)).trans (h.block b hb)⟩
theorem QaI {base base':Nat} {e:TypeId} {size:Nat} {W W':World} {v:Value} {n:Nat} {xs:List Value} (h:W.ownsRow base e size v n xs) (hb:base'≤base) (hs:∀ b,v.ownBlock=some b→W'.heap[b]?=W.heap[b]?):W'.ownsRow base' e size v n xs:=by
 refine ⟨h.1,?_⟩
 rcases h.2 with h | ⟨g,cap,cur,rfl,h2,h3,h4⟩
 ·exact .inl h
 ·exact .inr ⟨g,cap,cur,rfl,Nat.le_trans hb h2,(hs g rfl).trans h3,h4⟩
theorem Forest.app_cons (F:Forest) (t:Int) (b:List Int) (k r:Forest):(F.app (.cons t b k .nil)).app r=F.app (.cons t b k r):=by
 induction F with
 | nil=>rfl
 | cons t' b' k' r' _ ih=>simp only [Forest.app,ih]
theorem Forest.cnt_app:∀ (F G:Forest),(F.app G).cnt=F.cnt+G.cnt
 | .nil,_=>by simp [Forest.app,Forest.cnt]
 | .cons _ _ _ r,G=>by simp only [Forest.app,Forest.cnt,Forest.cnt_app r G];omega
theorem QmR (k:Forest) (hk:k.AllKids Qgq):Qgq k:=by
 intro W n t a len cap bs ka kl kc hn ht1 ht2 hb hkids hcnt;obtain ⟨i0,hi0,hz0,hz1,hz2⟩:=info_parts Qc1;have hbl:bs.length=len:=hb.1.open.1;have hbb:=hb.2
 have bX:∀ X Y:Obj,Below W.heap.size W ((W.alloc X).alloc Y):=fun X Y=>((QB _ W).alloc (QN _) X).alloc (by simp) Y
 go_enter Tryz.func59,Tryz.ntmps59
 go_upto_region 1 with fail
 obtain ⟨V,hV⟩:∃ V,V=(W.alloc (.cells #[.int .i64 t,.slice a len cap,.slice ka kl kc] 66)).alloc (.cells #[.int .i64 0,.slice none 0 0,.slice none 0 0] 66):=⟨_,rfl⟩
 have bV:Below W.heap.size W V:=by rw [hV];exact bX _ _
 have p1:V.heap[W.heap.size]?=some (.cells #[.int .i64 t,.slice a len cap,.slice ka kl kc] 66):=by rw [hV];exact (Below.heap_alloc _ _ _ (by simp)).trans (QW _ _)
 have p2:V.heap[W.heap.size+1]?=some (.cells #[.int .i64 0,.slice none 0 0,.slice none 0 0] 66):=by
  rw [hV,show W.heap.size+1=(W.alloc (.cells #[.int .i64 t,.slice a len cap,.slice ka kl kc] 66)).heap.size from (World.size_alloc ..).symm];exact QW _ _
 have sV:V.heap.size=W.heap.size+2:=by rw [hV];simp
 rw [← hV];clear hV bX;have bVn:Below n W V:=⟨bV.os,bV.tape,bV.output,bV.size,fun q hq=>bV.block q (by omega)⟩
 go_cut [3] from 6 (fun p wx=>∃ (B:Nat) (va:Option Addr) (vc:Nat),p=.pointer (some ⟨B,0,none⟩)∧V.heap.size≤B∧wx.heap[B]?=some (.cells #[.int .i64 t,.slice va len vc,.slice none 0 0] 66)∧wx.ownsRow V.heap.size 5 1 (.slice va len vc) len (bs.map (Value.int .u8))∧Below V.heap.size V wx)
 case first =>
  have hnV:n≤V.heap.size:=by omega
  have hxl:W.heap.size<V.heap.size:=by omega
  have hbl2:bs.length≤1000000000:=by omega
  have HX:Hid (∀ W',Below V.heap.size V.drew W'→W'.cell? ⟨W.heap.size,0,none⟩=some (.int .i64 t)∧W'.cell? ⟨W.heap.size,1,none⟩=some (.slice a len cap)):=fun W' hW=>by
   have q:=(hW.block W.heap.size hxl).trans p1;exact ⟨by rw [cell_of_row W' _ 0 _ _ _ q];rfl,by rw [cell_of_row W' _ 1 _ _ _ q];rfl⟩
  have hrV:=hb.below bVn;clear p1 p2 hk hkids;refine Qas (Below V.heap.size) (by kernel_rfl) 8 rfl ?_;refine Qam [0,1,2,3] (by kernel_rfl) (by kernel_rfl) ?_
  iterate 4
   first
   | (refine Qax (Qes _) rfl (by rfl) (v:=?_) (fun W hW=>?_) (fun K hK=>?_);rotate_left;· (obtain ⟨z0,z1⟩:=(QG HX) W hW;go_simp;first | done | rfl))
   | refine Qap (Qes _) rfl (by rfl) (fun K hK=>?_)
   go_simp;refine hK _ ?_;clear hK K
  refine Qaw ?_;refine QjL 4 6 rfl rfl (by kernel_rfl) (by rfl) (by rfl) (fun K hK=>?wayA) (fun K hK=>?wayB)
  case wayA =>
   go_simp;refine (Qfa a len cap bs V.drew n hnV (hrV.same fun _ _=>rfl) hbl2).mono ?_;rintro e w3 ⟨v,rfl,o3,b3⟩;obtain ⟨va,vc,rfl,hva⟩:=Qaa o3;have b3':Below V.heap.size V w3:=QbE b3;refine ⟨_,rfl,hK _ _ b3 ?_⟩;clear hK K;refine Qal (fun K hK=>?_);go_simp;refine hK _ ?_;clear hK K;refine Qam [5] (by kernel_rfl) (by kernel_rfl) ?_
   iterate 1
    first
    | (refine Qax (Qes _) rfl (by rfl) (v:=?_) (fun W hW=>?_) (fun K hK=>?_);rotate_left;· (go_simp;first | done | rfl))
    | refine Qap (Qes _) rfl (by rfl) (fun K hK=>?_)
    go_simp;refine hK _ ?_;clear hK K
   refine Qaw ?_;refine Qaq 6 rfl (by kernel_rfl) (by rfl) (fun K hK=>?_);go_simp;refine hK _ _ ((QB _ w3).alloc b3'.size _) ?_;clear hK K;refine Qal (fun K hK=>?_);go_simp;refine hK _ ?_;clear hK K;refine Qaq 7 rfl (by kernel_rfl) (by rfl) (fun K hK=>?_);refine Qfq 66 (.tmp 3) (.tmp 11) rfl w3.heap.size #[.int .i64 t,.slice va len vc,.slice none 0 0] rfl rfl 66 zT (QW w3 _) QbO rfl (QaS ..) ?_;refine hK _ _ (Qaj (QB _ _) b3'.size _) ?_;clear hK K;refine Qal (fun K hK=>?_);go_simp;refine hK _ ?_;clear hK K;refine QaR (by kernel_rfl) ?_;go_wp2_with fail;go_meet;obtain ⟨W5,hW5⟩:∃ W5,W5=(w3.alloc (.cells zT 66)).setRow w3.heap.size #[.int .i64 t,.slice va len vc,.slice none 0 0]:=⟨_,rfl⟩
   have e5:W5.heap[w3.heap.size]?=some (.cells #[.int .i64 t,.slice va len vc,.slice none 0 0] 66):=by rw [hW5];exact setRow_heap _ _ _ _ _ _ (QW w3 _)
   have b5:Below w3.heap.size w3 W5:=by rw [hW5];exact Qaj ((QB _ w3).alloc (QN _) _) (QN _) _
   refine ⟨w3.heap.size,va,vc,rfl,b3'.size,?_⟩;rw [show (w3.alloc (Obj.cells #[Value.int IntKind.i64 0,Value.slice none 0 0,Value.slice none 0 0] 66)).setRow w3.heap.size #[.int .i64 t,.slice va len vc,.slice none 0 0]=W5 from hW5.symm];exact ⟨e5,Qac o3 fun b hb=>b5.block b (o3.lt b hb).2,b3'.trans (b5.mono b3'.size)⟩
  case wayB =>
   obtain ⟨V2,hV2⟩:∃ V2,V2=(V.alloc (.cells #[.int .i64 0,.slice none 0 0,.slice none 0 0] 66)).drew:=⟨_,rfl⟩
   have bV2:Below V.heap.size V.drew V2:=by
    have h:Below V.heap.size V (V.alloc (.cells #[.int .i64 0,.slice none 0 0,.slice none 0 0] 66)):=(QB _ _).alloc (QN _) _;rw [hV2];exact ⟨h.os,h.tape,h.output,h.size,h.block⟩
   have eV2:V2.heap[V.heap.size]?=some (.cells zT 66):=by rw [hV2];exact QW V _
   have sV2:V2.heap.size=V.heap.size+1:=by rw [hV2];show (V.alloc _).heap.size=_;simp
   go_simp;rw [← hV2]
   try rw [← sV]
   have HSV:=QQ sV
   have sV2':V.heap.size<V2.heap.size:=by omega
   clear hV2 sV sV2;refine hK _ _ bV2 ?_;clear hK K;refine Qal (fun K hK=>?_);go_simp;refine hK _ ?_;clear hK K;refine Qaq 4 rfl (by kernel_rfl) (by rfl) (fun K hK=>?_);go_simp;refine (Qfa a len cap bs V2 n (by omega) ((show QaL n V.drew _ _ from hrV.same fun _ _=>rfl).same fun q hq=>bV2.block q (by have:=hrV.lt q hq;omega)) hbl2).mono ?_;rintro e w3 ⟨v,rfl,o3,b3⟩;obtain ⟨va,vc,rfl,hva⟩:=Qaa o3;have b3':Below V.heap.size V2 w3:=b3.mono (by omega);have e3:w3.heap[V.heap.size]?=some (.cells zT 66):=(b3.block V.heap.size (by omega)).trans eV2;refine ⟨_,rfl,hK _ _ b3' ?_⟩;clear hK K;refine Qal (fun K hK=>?_);go_simp;refine hK _ ?_;clear hK K;refine Qam [5] (by kernel_rfl) (by kernel_rfl) ?_
   iterate 1
    first
    | (refine Qax (Qes _) rfl (by rfl) (v:=?_) (fun W hW=>?_) (fun K hK=>?_);rotate_left;· (go_simp;first | done | rfl))
    | refine Qap (Qes _) rfl (by rfl) (fun K hK=>?_)
    go_simp;refine hK _ ?_;clear hK K
   refine Qaw ?_;refine Qaq 7 rfl (by kernel_rfl) (by rfl) (fun K hK=>?_);refine Qfq 66 (.tmp 3) (.tmp 11) rfl V.heap.size #[.int .i64 t,.slice va len vc,.slice none 0 0] rfl rfl 66 zT e3 QbO rfl (QaS ..) ?_;refine hK _ _ (Qaj (QB _ _) (QN _) _) ?_;clear hK K;refine Qal (fun K hK=>?_);go_simp;refine hK _ ?_;clear hK K;refine QaR (by kernel_rfl) ?_;go_wp2_with fail;go_meet;refine ⟨V.heap.size,va,vc,rfl,QN _,setRow_heap _ _ _ _ _ _ e3,?_,?_⟩
   ·refine QaI (Qac o3 fun b hb=>setRow_other _ _ _ _ (by have:=(o3.lt b hb).1;omega)) (by omega) fun _ _=>rfl
   ·have:=Qaj (bV2.trans b3') (QN _) #[.int .i64 t,.slice va len vc,.slice none 0 0]
    exact ⟨this.os,this.tape,this.output,this.size,this.block⟩
 case rest =>
  obtain ⟨B,va,vc,rfl,hB,eB,oB,bB⟩:=hcut;have bWc:Below W.heap.size W wc:=bV.trans (bB.mono bV.size);have e1:=(bB.block W.heap.size (by omega)).trans p1;have e2:=(bB.block (W.heap.size+1) (by omega)).trans p2
  have y2:wc.cell? ⟨W.heap.size,2,none⟩=some (.slice ka kl kc):=by rw [cell_of_row wc _ 2 _ _ _ e1];rfl
  have lB:B<wc.heap.size:=(QI.1 eB).1;have hVn:V.heap.size≤wc.heap.size:=bB.size
  have hva:∀ b,(Value.slice va len vc).ownBlock=some b→b≠B:=fun b hb h=>by
   subst h
   rcases oB.2 with ⟨h1,_⟩ | ⟨g,cap',cur,h1,_,h3,_⟩
   ·rw [h1] at hb;simp [Value.ownBlock] at hb
   ·rw [h1] at hb
    obtain rfl:g=b:=by simpa [Value.ownBlock] using hb
    rw [eB] at h3
    injection h3 with h3;injection h3 with _ h3 _
    exact absurd h3 (by decide)
  have hW1:W.heap.size+1<V.heap.size:=by omega
  have hkc:k.cnt≤20000:=by omega
  have hksm:=hkids.small;obtain ⟨hkl,hkr⟩:=hkids;have hkll:=Forest.length_le_cnt k;clear p1 p2 bV e1;go_wp2_with fail
  go_loopw [15] (fun x wr=>∃ (j:Nat) (F G:Forest) (vk:Value) (vs:List Value) (S:Nat→Prop),x=.int .i64 (j:Int)∧j+G.length=kl∧Hid (k=F.app G∧F.length=j∧G.AllKids Qgq)∧(0<G.length→∃ b2 o2,ka=some ⟨b2,o2,none⟩∧kl≤kc∧kc≤maxLen∧QcR n W G b2 (o2+j*3)∧b2<n) ∧
   wr.heap[B]?=some (.cells #[.int .i64 t,.slice va len vc,vk] 66)∧wr.ownsRow V.heap.size 5 1 (.slice va len vc) len (bs.map (Value.int .u8))∧wr.ownsRow V.heap.size 66 3 vk j vs∧Qat S wr F vs∧(∀ x,S x→V.heap.size≤x∧x<wr.heap.size∧x≠B∧vk.ownBlock≠some x)∧vk.ownBlock≠some B∧(∀ b,(Value.slice va len vc).ownBlock=some b→b≠B∧vk.ownBlock≠some b)∧Below V.heap.size wc wr) (fun x _=>kl-(intOf x).toNat)
  case atStart =>
   refine ⟨0,.nil,k,.slice none 0 0,[],fun _=>False,rfl,by omega,⟨rfl,rfl,hk⟩,fun hl=>?_,eB,oB,World.ownsRow_nil _ _ _ _,Qat.nil,fun x h=>h.elim,by simp [Value.ownBlock],fun b hb=>⟨hva b hb,by simp [Value.ownBlock]⟩,QB _ _⟩
   rcases hkr with h0 | ⟨b2,o2,g1,g2,g3,g4,g5⟩
   ·omega
   ·exact ⟨b2,o2,g1,g3,g4,by simpa using g5,g2⟩
  case round =>
   clear eB oB hkr hk lB y2;obtain ⟨j,F,G,vk,vs,S,rfl,hjl,hFG,hGr,eB,oB,oK,hR,hS,hKB,hvb,bw⟩:=hrel;have lB:B<wr.heap.size:=(QI.1 eB).1;by_cases hlt:j<kl
   ·have t1:decide ((j:Int)<(kl:Int))=true:=by simp;omega
    obtain ⟨b2,o2,rfl,hkc1,hkc2,hrow,hb2⟩:=hGr (by omega);simp only [maxLen] at hkc2;have bWr:Below W.heap.size W wr:=bWc.trans (bw.mono (by omega));have bnr:Below n W wr:=bWr.mono hn;have hrow':QcR n wr G b2 (o2+j*3):=QcR.below bnr G b2 _ hb2 hrow;obtain ⟨t',bs',k',r,a1,l1,c1,ka1,kl1,kc1,rfl,q0,q1,q2,hr1,hr2,hrb,hrk,hrr⟩:=hrow'.open (by omega);obtain ⟨hkF,hFl,hGk⟩:=(show _∧_∧_ from hFG)
    have hcF:k'.cnt+bs'.length+1≤k.cnt:=by rw [hkF,Forest.cnt_app];simp only [Forest.cnt];omega
    have hGl:r.length+1=kl-j:=by simp only [Forest.length] at hjl;omega
    have hKid:Qgq k':=hGk.1;have HFG:=QQ (show k=(F.app (.cons t' bs' k' .nil)).app r∧(F.app (.cons t' bs' k' .nil)).length=j+1∧r.AllKids Qgq from ⟨by rw [Forest.app_cons];exact hkF,by rw [Forest.length_app];simp only [Forest.length];omega,hGk.2⟩)
    have hvl:vs.length=F.length*3:=by rw [hFl];exact oK.1
    have hls:j*3+3≤kl*3:=by omega
    obtain ⟨vka,vkc,rfl,_⟩:=Qaa oK;obtain ⟨T3,hT3⟩:∃ T3,T3=wr.heap.size:=⟨_,rfl⟩
    have x3:=fun (O:Obj)=>QW wr O
    have hRow2:=QQ (show QcR n W r b2 (o2+(j+1)*3)∧b2<n from by
     have hc:=hrow;obtain ⟨_,_,_,_,_,_,_,_,_,_,_,_,_,_,hc'⟩:=hc;rw [show o2+(j+1)*3=o2+j*3+3 by omega]
     exact ⟨hc',hb2⟩)
    clear hGr hFG hGk hkF hrow hrow' hrr;go_wp2_with ((fail_if_success (unfold Qag));refine Qan (t:=66) rfl ?_);unfold Qag;refine Qab rfl 66 (.tmp 5) (.tmp 18) rfl wr.heap.size #[.int .i64 t',.slice a1 l1 c1,.slice ka1 kl1 kc1] rfl rfl 66 zT (QW _ _) QbO rfl (QaS ..) ?_;rw [World.setRow_alloc_new];obtain ⟨V4,hV4⟩:∃ V4,V4=wr.alloc (.cells #[.int .i64 t',.slice a1 l1 c1,.slice ka1 kl1 kc1] 66):=⟨_,rfl⟩
    have x4:V4.heap[wr.heap.size]?=some (.cells #[.int .i64 t',.slice a1 l1 c1,.slice ka1 kl1 kc1] 66):=by rw [hV4];exact QW _ _
    have b4:Below wr.heap.size wr V4:=by rw [hV4];exact (QB _ _).alloc (QN _) _
    have s4:V4.heap.size=wr.heap.size+1:=by rw [hV4];simp
    rw [← hV4]
    have hs4:wr.heap.size<V4.heap.size:=by omega
    clear hV4 s4 x3;have B4:V4.heap[B]?=some (.cells #[.int .i64 t,.slice va len vc,.slice vka j vkc] 66):=(b4.block B lB).trans eB
    have o4:=Qac oK fun b hb=>b4.block b (oK.lt b hb).2
    have hg:∀ b,(Value.slice vka j vkc).ownBlock=some b→V.heap.size≤b∧b<wr.heap.size:=fun b hb=>oK.lt b hb
    have hnV4:n≤V4.heap.size:=by have:=bw.size;omega
    have hrb4:QaL n V4.drew (.slice a1 l1 c1) bs':=(hrb.1.below ⟨b4.os,b4.tape,b4.output,b4.size,fun q hq=>b4.block q (by have:=bw.size;omega)⟩).same fun _ _=>rfl
    have hrk4:SlF n V4.drew ka1 kl1 kc1 k':=by
     have h:Below n wr V4.drew:=⟨b4.os,b4.tape,b4.output,b4.size,fun q hq=>b4.block q (by have:=bw.size;omega)⟩;exact hrk.below h
    have k1:=hKid V4.drew n t' a1 l1 c1 bs' ka1 kl1 kc1 hnV4 hr1 hr2 hrb4 hrk4 (by omega)
    obtain ⟨Sg,hSg⟩:∃ Sg:Nat→Prop,Sg=fun b=>(Value.slice vka j vkc).ownBlock=some b:=⟨_,rfl⟩
    have hSB:¬ Sg B:=by rw [hSg];exact hKB
    have hSx:¬ Sg wr.heap.size:=by rw [hSg];intro h;have:=(hg _ h).2;omega
    have HX:Hid (∀ W',Wr Sg Sg V4 W'→W'.cell? ⟨B,2,none⟩=some (.slice vka j vkc)∧W'.cell? ⟨wr.heap.size,0,none⟩=some (.int .i64 t')∧W'.cell? ⟨wr.heap.size,1,none⟩=some (.slice a1 l1 c1)∧W'.cell? ⟨wr.heap.size,2,none⟩=some (.slice ka1 kl1 kc1)):=fun W' hW=>by
     have z1:=(hW.block B (by omega) hSB).trans B4;have z2:=(hW.block wr.heap.size hs4 hSx).trans x4;exact ⟨by rw [cell_of_row W' _ 2 _ _ _ z1];rfl,by rw [cell_of_row W' _ 0 _ _ _ z2];rfl,by rw [cell_of_row W' _ 1 _ _ _ z2];rfl,by rw [cell_of_row W' _ 2 _ _ _ z2];rfl⟩
    have K1:=QQ k1;have HEB:=QQ eB;have HOB:=QQ oB;have HOK:=QQ oK;have HRR:=QQ hR;have HS:=QQ hS;have HVB:=QQ hvb;have HBW:=QQ bw;have HB4:=QQ b4;have HBB4:=QQ B4;have hbws:=bw.size
    have hjk:j≤20000:=by omega
    clear q0 q1 q2 k1 hrb hrk hrb4 hrk4 eB oB oK hR hS hvb bw b4 B4 hKid hcF x4 bWr bnr;go_wp2_with fail;refine QbV (Qa Sg) 6 2 (by kernel_rfl) rfl ?_;refine QbI [0,1,2] (by kernel_rfl) (by kernel_rfl) ?_
    iterate 3
     first
     | (refine Qcr (Qa.pre Sg) rfl (by rfl) (v:=?_) (fun W hW=>?_) (fun K hK=>?_);rotate_left;· (obtain ⟨z0,z1,z2,z3⟩:=(QG HX) W (Wr.undrew hW);go_simp;first | done | rfl))
     | refine Qb0 (Qa.pre Sg) rfl (by rfl) (fun K hK=>?_)
     go_simp;refine hK _ ?_;clear hK K
    refine Qcq ?_;refine QaU 3 rfl (by kernel_rfl) (by rfl) (fun K hK=>?_);go_simp;refine Calls.mono K1 ?_;rintro e w5 ⟨a5,l5,c5,ka5,kl5,kc5,rfl,hR5,_,b5⟩;have b5':Below V4.heap.size V4 w5:=QbE b5;refine ⟨_,rfl,hK _ _ (Wr.of_below b5) ?_⟩;clear hK K;refine QaN (fun K hK=>?_);go_simp;refine hK _ ?_;clear hK K;refine QaU 4 rfl (by kernel_rfl) (by rfl) (fun K hK=>?_);go_simp;obtain ⟨W6,hW6⟩:∃ W6,W6=w5.alloc (Obj.cells #[.int .i64 t',.slice a5 l5 c5,.slice ka5 kl5 kc5] 66):=⟨_,rfl⟩
    have b6:Below w5.heap.size w5 W6:=by rw [hW6];exact (QB _ _).alloc (QN _) _
    have x6:W6.heap[w5.heap.size]?=some (.cells #[.int .i64 t',.slice a5 l5 c5,.slice ka5 kl5 kc5] 66):=by rw [hW6];exact QW _ _
    have s6:W6.heap.size=w5.heap.size+1:=by rw [hW6];simp
    have b46:Below V4.heap.size V4 W6:=b5'.trans (b6.mono b5'.size)
    have o6:=Qac o4 fun b hb=>b46.block b (by have:=(hg b hb).2;omega)
    have hs56:w5.heap.size<W6.heap.size:=by omega
    have h45:=b5'.size;rw [← hW6];refine hK _ _ (Wr.of_below b6) ?_;clear hW6;clear hK K;refine QaN (fun K hK=>?_);go_simp;refine hK _ ?_;clear hK K;refine QaU 5 rfl (by kernel_rfl) (by rfl) (fun K hK=>?_)
    refine QaQ (.tmp 20) (.tmp 23) 59 rfl V.heap.size 66 i0 _ 3 56 Tryz.underlying59 hi0 hz0 hz1 hz2 rfl (by decide) (.slice vka j vkc) j vs rfl o6 (some ⟨w5.heap.size,0,none⟩) 1 1 [.int .i64 t',.slice a5 l5 c5,.slice ka5 kl5 kc5] rfl rfl (by simp [Value.oneCell']) (.inr ⟨_,_,rfl,fun q u hq=>by
     have hql:=(List.getElem?_eq_some_iff.1 hq).1;rw [Nat.zero_add,cell_of_row W6 _ q _ _ _ x6,List.getElem?_toArray]
     exact hq⟩) (by omega) (by simp only [maxLen];omega) (by omega) ?_
    intro v7 w7 o7 g7 hv7
    have hg7:Wr Sg Sg W6 w7:=Wr.grown (Wr.refl Sg W6) g7 fun b hb=>.inl (by rw [hSg];exact hb)
    have w47:Wr Sg Sg V4 w7:=(Wr.of_below b46).trans hg7;have e7:=(w47.block B (by omega) hSB).trans HBB4
    have cc7:w7.cell? ⟨B,2,none⟩=some (.slice vka j vkc):=by rw [cell_of_row w7 _ 2 _ _ _ e7];rfl
    have ff7:=frozen_of_row w7 B 2 _ _ e7;obtain ⟨a7,c7,rfl,_⟩:=Qaa o7;refine hK _ _ hg7 ?_;clear hK K;refine QaN (fun K hK=>?_);go_simp;refine hK _ ?_;clear hK K;refine Qcm (by kernel_rfl) ?_;refine QbA 6 rfl (by kernel_rfl) (by rfl) (fun K hK=>?_);go_simp;refine hK _ _ ?_;clear hK K;refine Qbo (fun K hK=>?_);go_simp;refine hK _ ?_;clear hK K;refine QbA 7 rfl (by kernel_rfl) (by rfl) (fun K hK=>?_);go_simp;refine hK _ _ ?_;clear hK K;refine Qbo (fun K hK=>?_);go_simp;refine hK _ ?_;clear hK K;refine Qc0 (by kernel_rfl) ?_;obtain ⟨W8,hW8⟩:∃ W8,W8=w7.setCell ⟨B,2,none⟩ (.slice a7 (j+1) c7):=⟨_,rfl⟩
    have e8:W8.heap[B]?=some (.cells #[.int .i64 t,.slice va len vc,.slice a7 (j+1) c7] 66):=by rw [hW8];exact heap_setCell_same _ _ _ _ _ _ e7
    have s8:w7.heap.size≤W8.heap.size:=by rw [hW8];show _≤(w7.heap.modify _ _).size;rw [Array.size_modify];exact QN _
    have k8:∀ b,b≠B→W8.heap[b]?=w7.heap[b]?:=fun b hb=>by rw [hW8];exact Below.heap_setCell _ _ _ _ hb
    rw [← hW8];have h67:=hg7.size
    have hv7':∀ b,(Value.slice a7 (j+1) c7).ownBlock=some b→(Value.slice vka j vkc).ownBlock=some b∨b=W6.heap.size:=fun b hb=>by
     rcases hv7 with h | h
     ·rw [h] at hb;exact .inl hb
     ·rw [h] at hb;injection hb with hb;exact .inr hb.symm
    -- old blocks
    have keepO:∀ b,b<wr.heap.size→b≠B→(Value.slice vka j vkc).ownBlock≠some b→W8.heap[b]?=wr.heap[b]?:=fun b h1 h2 h3=>by
     refine (k8 b h2).trans ((w47.block b (by omega) (by rw [hSg];exact h3)).trans ((QG HB4).block b h1))
    have keepN:∀ b,V4.heap.size≤b→b<w5.heap.size→W8.heap[b]?=w5.heap[b]?:=fun b h1 h2=>by
     refine (k8 b (by omega)).trans ((hg7.block b (by omega) (by rw [hSg];intro h;have:=(hg b h).2;omega)).trans (b6.block b h2))
    have F1:Hid (W8.heap[B]?=some (.cells #[.int .i64 t,.slice va len vc,.slice a7 (j+1) c7] 66)∧W8.ownsRow V.heap.size 5 1 (.slice va len vc) len (bs.map (Value.int .u8))∧W8.ownsRow V.heap.size 66 3 (.slice a7 (j+1) c7) (j+1) (vs++[.int .i64 t',.slice a5 l5 c5,.slice ka5 kl5 kc5]) ∧
      Qat (fun x=>S x∨(V4.heap.size≤x∧x<w5.heap.size)) W8 (F.app (.cons t' bs' k' .nil)) (vs++[.int .i64 t',.slice a5 l5 c5,.slice ka5 kl5 kc5]) ∧
      (∀ x,(S x∨(V4.heap.size≤x∧x<w5.heap.size))→V.heap.size≤x∧x<W8.heap.size∧x≠B∧(Value.slice a7 (j+1) c7).ownBlock≠some x)∧(Value.slice a7 (j+1) c7).ownBlock≠some B∧(∀ b,(Value.slice va len vc).ownBlock=some b→b≠B∧(Value.slice a7 (j+1) c7).ownBlock≠some b)∧Below V.heap.size wc W8):=by
     have hS:=(QG HS);have hvb:=(QG HVB);have oB:=(QG HOB);refine ⟨e8,Qac oB fun b hb=>keepO b (oB.lt b hb).2 (hvb b hb).1 (hvb b hb).2,Qac o7 fun b hb=>k8 b fun e=>?_,Qat.app ?_ ?_ hvl,?_,?_,?_,?_⟩
     ·subst e
      rcases hv7' b hb with h | h
      ·exact hKB h
      ·omega
     ·exact ((QG HRR).keep fun x hx=>keepO x (hS x hx).2.1 (hS x hx).2.2.1 (hS x hx).2.2.2).widen fun x hx=>.inl hx
     ·exact (Qat.keep hR5 fun x hx=>keepN x hx.1 hx.2).widen fun x hx=>.inr hx
     ·rintro x (hx | ⟨h1,h2⟩)
      ·refine ⟨(hS x hx).1,by have:=(hS x hx).2.1;omega,(hS x hx).2.2.1,fun h=>?_⟩
       rcases hv7' x h with h | h
       ·exact (hS x hx).2.2.2 h
       ·have:=(hS x hx).2.1;omega
      ·refine ⟨by omega,by omega,by omega,fun h=>?_⟩
       rcases hv7' x h with h | h
       ·have:=(hg x h).2;omega
       ·omega
     ·intro h
      rcases hv7' B h with h | h
      ·exact hKB h
      ·omega
     ·intro b hb
      refine ⟨(hvb b hb).1,fun h=>?_⟩
      rcases hv7' b h with h | h
      ·exact (hvb b hb).2 h
      ·have:=(oB.lt b hb).2;omega
     ·have hbw:=(QG HBW)
      refine ⟨?_,?_,?_,by omega,fun b hb=>?_⟩
      ·rw [hW8];exact (w47.os.trans (QG HB4).os).trans hbw.os
      ·rw [hW8];exact (w47.tape.trans (QG HB4).tape).trans hbw.tape
      ·rw [hW8];exact (w47.output.trans (QG HB4).output).trans hbw.output
      ·exact (keepO b (by omega) (by omega) (fun h=>by have:=(hg b h).1;omega)).trans (hbw.block b hb)
    clear e8 s8 k8 hW8 keepO keepN hv7' o7 g7 hv7 hg7 w47 e7 cc7 ff7 b6 x6 s6 b46 o6 b5 b5' hR5 K1 HEB HOB HOK HRR HS HVB HBW HB4 HBB4 HX o4 hg hSB hSx;go_wp2_with fail;go_roundw
    case rel=>exact ⟨j+1,_,r,.slice a7 (j+1) c7,_,_,by go_num,by omega,HFG,fun _=>⟨b2,o2,rfl,hkc1,by simp only [maxLen];omega,hRow2⟩,F1⟩
    case measure=>simp [intOf];omega
   ·have t1:decide ((j:Int)<(kl:Int))=false:=by simp;omega
    have hGn:G=.nil:=by
     cases G with
     | nil=>rfl
     | cons _ _ _ _=>simp only [Forest.length] at hjl;omega
    subst hGn;obtain ⟨hkF,hFl,_⟩:=(show _∧_∧_ from hFG);rw [Forest.app_nil] at hkF;subst hkF;obtain ⟨vka,vkc,rfl,_⟩:=Qaa oK;have e2r:=(bw.block (W.heap.size+1) (by omega)).trans e2
    have y0:wr.cell? ⟨B,0,none⟩=some (.int .i64 t):=by rw [cell_of_row wr _ 0 _ _ _ eB];rfl
    have y1:wr.cell? ⟨B,1,none⟩=some (.slice va len vc):=by rw [cell_of_row wr _ 1 _ _ _ eB];rfl
    have y2:wr.cell? ⟨B,2,none⟩=some (.slice vka j vkc):=by rw [cell_of_row wr _ 2 _ _ _ eB];rfl
    clear hFG hGr;go_wp2_with ((fail_if_success (unfold Qag));refine Qan (t:=66) rfl ?_);unfold Qag;refine Qab rfl 66 (.tmp 2) (.tmp 27) rfl (W.heap.size+1) #[.int .i64 t,.slice va len vc,.slice vka j vkc] rfl rfl 66 zT e2r QbO rfl (QaS ..) ?_;obtain ⟨W9,hW9⟩:∃ W9,W9=wr.setRow (W.heap.size+1) #[.int .i64 t,.slice va len vc,.slice vka j vkc]:=⟨_,rfl⟩
    have e9:W9.heap[W.heap.size+1]?=some (.cells #[.int .i64 t,.slice va len vc,.slice vka j vkc] 66):=by rw [hW9];exact setRow_heap _ _ _ _ _ _ e2r
    have k9:∀ b,b≠W.heap.size+1→W9.heap[b]?=wr.heap[b]?:=fun b hb=>by rw [hW9];exact setRow_other _ _ _ _ hb
    have s9:W9.heap.size=wr.heap.size:=by rw [hW9];exact size_setRow _ _ _
    have b9:Below W.heap.size W W9:=by rw [hW9];exact Qaj (bWc.trans (bw.mono (by omega))) (by omega) _
    rw [← hW9]
    have z0:W9.cell? ⟨W.heap.size+1,0,none⟩=some (.int .i64 t):=by rw [cell_of_row W9 _ 0 _ _ _ e9];rfl
    have z1:W9.cell? ⟨W.heap.size+1,1,none⟩=some (.slice va len vc):=by rw [cell_of_row W9 _ 1 _ _ _ e9];rfl
    have z2:W9.cell? ⟨W.heap.size+1,2,none⟩=some (.slice vka j vkc):=by rw [cell_of_row W9 _ 2 _ _ _ e9];rfl
    clear hW9
    have hb9:∀ (W':World) (n':Nat),(∀ x,(W.heap.size≤x∧x<W9.heap.size)→W'.heap[x]?=W9.heap[x]?)→(∀ x,(W.heap.size≤x∧x<W9.heap.size)→x<n')→QaL n' W' (.slice va len vc) bs:=fun W' n' h1 h2=>QbM oB hbb W' n' fun b hb=>by
     have h3:=oB.lt b hb;have h4:W.heap.size≤b∧b<W9.heap.size:=⟨by omega,by omega⟩;exact ⟨(h1 b h4).trans (k9 b (by omega)),h2 b h4⟩
    have hk9:∀ (W':World) (n':Nat),(∀ x,(W.heap.size≤x∧x<W9.heap.size)→W'.heap[x]?=W9.heap[x]?)→(∀ x,(W.heap.size≤x∧x<W9.heap.size)→x<n')→SlF n' W' vka j vkc k:=fun W' n' h1 h2=>QgT oK hR hFl W' n' fun x hx=>by
     have h4:V.heap.size≤x∧x<wr.heap.size:=hx.elim (fun h=>⟨(hS x h).1,(hS x h).2.1⟩) (fun h=>oK.lt x h);have h5:W.heap.size≤x∧x<W9.heap.size:=⟨by omega,by omega⟩;exact ⟨(h1 x h5).trans (k9 x (by omega)),h2 x h5⟩
    have hP:Qat (fun x=>W.heap.size≤x∧x<W9.heap.size) W9 (.cons t bs k .nil) [.int .i64 t,.slice va len vc,.slice vka j vkc]∧(∀ (W2:World) (n':Nat),(∀ x,W.heap.size≤x∧x<W9.heap.size→W2.heap[x]?=W9.heap[x]?)→(∀ x,W.heap.size≤x∧x<W9.heap.size→x<n')→QaL n' W2 (.slice va len vc) bs∧SlF n' W2 vka j vkc k)∧Below W.heap.size W W9 :=
     ⟨Qat.one ht1 ht2 (by omega) hb9 hk9,fun W2 n' h1 h2=>⟨hb9 W2 n' h1 h2,hk9 W2 n' h1 h2⟩,b9⟩
    have HP:=QQ hP;clear hP hb9 hk9 eB oB oK hR hS hvb bw y0 y1 y2 e2r;clear z0 z1 z2;go_wp2_with fail;refine bodyPost_ret (results_cell_row rfl _ _ (W.heap.size+1) 66 #[.int .i64 t,.slice va len vc,.slice vka j vkc] (0,0) _ rfl e9 Tryz.underlying66 rfl QbO) rfl ?_;exact ⟨_,_,_,_,_,_,rfl,HP⟩
theorem Qn4 (k:Forest):Qgq k:=Forest.all Qgq QmR k
end
def QfM (b1 b2 b3 b4:Int):Nat:=(b1+256*b2+65536*b3+16777216*b4).toNat
def Qd0:Nat→Nat→List Int→Option Forest
 | _,_,[]=>some .nil
 | n+1,d,b0::b1::b2::b3::b4::rest =>
  if 8<d∨b0=0∨rest.length<QfM b1 b2 b3 b4 then none
  else if 128≤b0 then
   (Qd0 n (d+1) (rest.take (QfM b1 b2 b3 b4))).bind fun k=>(Qd0 n d (rest.drop (QfM b1 b2 b3 b4))).map fun r=>.cons b0 [] k r
  else (Qd0 n d (rest.drop (QfM b1 b2 b3 b4))).map fun r=>.cons b0 (rest.take (QfM b1 b2 b3 b4)) .nil r
 | _,_,_=>none
theorem QeJ:∀ (m n d:Nat) (bs:List Int),bs.length≤n→n≤m→Qd0 m d bs=Qd0 n d bs
 | m,n,d,[],h,hm=>by simp [Qd0]
 | 0,n,d,b::r,h,hm=>by simp at h;omega
 | m+1,0,d,b::r,h,hm=>by simp at h
 | m+1,n+1,d,[b0],h,hm=>by simp [Qd0]
 | m+1,n+1,d,[b0,b1],h,hm=>by simp [Qd0]
 | m+1,n+1,d,[b0,b1,b2],h,hm=>by simp [Qd0]
 | m+1,n+1,d,[b0,b1,b2,b3],h,hm=>by simp [Qd0]
 | m+1,n+1,d,b0::b1::b2::b3::b4::rest,h,hm=>by
  simp only [List.length_cons] at h;have e1:=QeJ m n (d+1) (rest.take (QfM b1 b2 b3 b4)) (by simp only [List.length_take];omega) (by omega);have e2:=QeJ m n d (rest.drop (QfM b1 b2 b3 b4)) (by simp only [List.length_drop];omega) (by omega);simp only [Qd0,e1,e2]
def Qa9 (d:Nat) (bs:List Int):Option Forest:=Qd0 bs.length d bs
theorem Qdt (d:Nat):Qa9 d []=some .nil:=by simp [Qa9,Qd0]
theorem QdG (d:Nat) (b0 b1 b2 b3 b4:Int) (rest:List Int):Qa9 d (b0::b1::b2::b3::b4::rest) =
  if 8<d∨b0=0∨rest.length<QfM b1 b2 b3 b4 then none
  else if 128≤b0 then
   (Qa9 (d+1) (rest.take (QfM b1 b2 b3 b4))).bind fun k=>(Qa9 d (rest.drop (QfM b1 b2 b3 b4))).map fun r=>.cons b0 [] k r
  else (Qa9 d (rest.drop (QfM b1 b2 b3 b4))).map fun r=>.cons b0 (rest.take (QfM b1 b2 b3 b4)) .nil r:=by
 unfold Qa9;have e1:=QeJ (rest.length+4) (rest.take (QfM b1 b2 b3 b4)).length (d+1) (rest.take (QfM b1 b2 b3 b4)) (QN _) (by simp only [List.length_take];omega);have e2:=QeJ (rest.length+4) (rest.drop (QfM b1 b2 b3 b4)).length d (rest.drop (QfM b1 b2 b3 b4)) (QN _) (by simp only [List.length_drop];omega);rw [← e1,← e2];simp only [List.length_cons,Qd0]
theorem Qbt (d:Nat) (bs:List Int) (h:0<bs.length) (h5:bs.length<5):Qa9 d bs=none:=by
 match bs,h,h5 with
 | [_],_,_=>simp [Qa9,Qd0]
 | [_,_],_,_=>simp [Qa9,Qd0]
 | [_,_,_],_,_=>simp [Qa9,Qd0]
 | [_,_,_,_],_,_=>simp [Qa9,Qd0]
theorem Forest.len_nil {k:Forest} (h:¬ 0<k.length):k=.nil:=by
 cases k with
 | nil=>rfl
 | cons _ _ _ _=>simp [Forest.length] at h
theorem QiH (t:Int) (b:List Int) (k:Forest) (d:Nat) (h1:¬ Forest.bad t b k.length d (k.sizeL (d+1) 0)) (ih:0≤k.sizeL (d+1) 0→k.sizeL (d+1) 0=0+(k.layF.length:Int)) :
  Forest.innerOf t b k.length d (k.sizeL (d+1) 0)=((if 128≤t then k.layF else b).length:Int):=by
 have h3:=Forest.inner_ge h1;unfold Forest.innerOf at h3 ⊢;by_cases ht:128≤t
 ·rw [if_pos ht] at h3
  rw [if_pos ht,if_pos ht];by_cases hd:d<8
  ·rw [if_pos hd] at h3
   rw [if_pos hd];have:=ih h3;omega
  ·rw [if_neg hd]
   have hk:¬ 0<k.length:=fun hk=>h1 (.inl ⟨ht,hd,hk⟩)
   rw [Forest.len_nil hk,Forest.layF];rfl
 ·rw [if_neg ht,if_neg ht]
theorem QhQ:∀ (f:Forest) (d:Nat) (n:Int),0≤n→0≤f.sizeL d n→f.sizeL d n=n+(f.layF.length:Int)
 | .nil,d,n,hn,h=>by simp [Forest.sizeL,Forest.layF]
 | .cons t b k r,d,n,hn,h=>by
  rw [Forest.sizeL] at h ⊢;by_cases h1:Forest.bad t b k.length d (k.sizeL (d+1) 0)
  ·simp [h1] at h
  ·simp only [h1,↓reduceIte] at h ⊢
   have hi:=QiH t b k d h1 (QhQ k (d+1) 0 (Int.le_refl _));have h3:=Forest.inner_ge h1;by_cases h2:1048576<n+(5+Forest.innerOf t b k.length d (k.sizeL (d+1) 0))
   ·rw [if_pos h2] at h;omega
   ·rw [if_neg h2] at h
    rw [if_neg h2,QhQ r d _ (by omega) h,hi,Forest.layF];simp only [QL,List.length_cons,List.length_nil];omega
theorem QkS (n:Nat) (h:n<4294967296):QfM ((n:Int) % 256) ((n:Int) / 256 % 256) ((n:Int) / 65536 % 256) ((n:Int) / 16777216 % 256)=n:=by
 unfold QfM;omega
theorem QhY:∀ (f:Forest) (d:Nat) (n:Int),d≤8→0≤n→0≤f.sizeL d n→Qa9 d f.layF=some f
 | .nil,d,n,hd,hn,h=>by rw [Forest.layF,Qdt]
 | .cons t b k r,d,n,hd,hn,h=>by
  rw [Forest.sizeL] at h;by_cases h1:Forest.bad t b k.length d (k.sizeL (d+1) 0)
  ·simp [h1] at h
  ·simp only [h1,↓reduceIte] at h
   have hi:=QiH t b k d h1 (QhQ k (d+1) 0 (Int.le_refl _));have h3:=Forest.inner_ge h1;by_cases h2:1048576<n+(5+Forest.innerOf t b k.length d (k.sizeL (d+1) 0))
   ·rw [if_pos h2] at h;omega
   ·rw [if_neg h2] at h
    have ihr:=QhY r d _ hd (by omega) h
    have ihk:128≤t→Qa9 (d+1) k.layF=some k:=fun ht=>by
     by_cases hd8:d<8
     ·refine QhY k (d+1) 0 (by omega) (Int.le_refl _) ?_
      unfold Forest.innerOf at h3;rw [if_pos ht,if_pos hd8] at h3;exact h3
     ·have hk:¬ 0<k.length:=fun hk=>h1 (.inl ⟨ht,hd8,hk⟩)
      rw [Forest.len_nil hk,Forest.layF,Qdt]
    have hb:1≤t∧t≤255∧(128≤t→b=[])∧(¬ 128≤t→k=.nil):=by
     refine ⟨Decidable.byContradiction fun hc=>h1 (.inr (.inl (by omega))),Decidable.byContradiction fun hc=>h1 (.inr (.inr (.inl (by omega)))),fun ht=>?_,fun ht=>?_⟩
     ·exact Decidable.byContradiction fun hc=>h1 (.inr (.inr (.inr (.inl ⟨ht,List.length_pos_iff.2 hc⟩))))
     ·exact Forest.len_nil fun hc=>h1 (.inr (.inr (.inr (.inr (.inl ⟨ht,hc⟩)))))
    obtain ⟨g1,g2,g3,g4⟩:=hb
    obtain ⟨v,hv⟩:∃ v,v=if 128≤t then k.layF else b:=⟨_,rfl⟩
    rw [← hv] at hi;rw [Forest.layF,← hv]
    have hvl:v.length<4294967296:=by omega
    simp only [List.cons_append,List.nil_append];rw [QdG,QkS _ hvl,show t % 256=t by omega,if_neg (by simp only [QL];omega),List.take_left' rfl,List.drop_left' rfl,ihr];by_cases ht:128≤t
    ·rw [if_pos ht]
     rw [if_pos ht] at hv;rw [hv,ihk ht,g3 ht];rfl
    ·rw [if_neg ht]
     rw [if_neg ht] at hv;rw [hv,g4 ht];rfl

theorem Qmv {d:Nat} {bs:List Int} {k:Forest} (hd:8<d) (h:Qa9 d bs=some k):bs=[]∧k=.nil:=by
 match bs,h with
 | [],h=>rw [Qdt] at h;injection h with h;exact ⟨rfl,h.symm⟩
 | [_],h=>rw [Qbt _ _ (by simp) (by simp)] at h;cases h
 | [_,_],h=>rw [Qbt _ _ (by simp) (by simp)] at h;cases h
 | [_,_,_],h=>rw [Qbt _ _ (by simp) (by simp)] at h;cases h
 | [_,_,_,_],h=>rw [Qbt _ _ (by simp) (by simp)] at h;cases h
 | _::_::_::_::_::_,h=>rw [QdG,if_pos (.inl hd)] at h;cases h
theorem QdE (bs:List Int) (A:Nat) (h:A<bs.length):bs.drop A=bs.getD A 0::bs.drop (A+1):=by rw [List.drop_eq_getElem_cons h,Qba _ _ h]
theorem QpZ (bs:List Int) (A:Nat) (h:A+5≤bs.length):bs.drop A=bs.getD A 0::bs.getD (A+1) 0::bs.getD (A+2) 0::bs.getD (A+3) 0::bs.getD (A+4) 0::bs.drop (A+5):=by
 rw [QdE bs A (by omega),QdE bs (A+1) (by omega),QdE bs (A+1+1) (by omega),QdE bs (A+1+1+1) (by omega),QdE bs (A+1+1+1+1) (by omega)]
theorem Forest.app_one (F:Forest) (t:Int) (b:List Int) (k r:Forest):(F.app (.cons t b k .nil)).app r=F.app (.cons t b k r):=by
 induction F with
 | nil=>rfl
 | cons t' b' k' r' _ ih=>simp only [Forest.app,ih]
def Qbw (bs:List Int) (A:Nat):Nat:=QfM (bs.getD (A+1) 0) (bs.getD (A+2) 0) (bs.getD (A+3) 0) (bs.getD (A+4) 0)
def QcI (bs:List Int) (A:Nat):List Int:=(bs.drop (A+5)).take (Qbw bs A)
def Rd (d:Nat) (bs:List Int) (A:Nat) (P:Forest):Prop:=(Qa9 d (bs.drop A)).map (P.app ·)=Qa9 d bs
theorem Rd.start (d:Nat) (bs:List Int):Rd d bs 0 .nil:=by
 unfold Rd;rw [List.drop_zero]
 cases Qa9 d bs <;> rfl
theorem Rd.end {d:Nat} {bs:List Int} {A:Nat} {P:Forest} (h:Rd d bs A P) (hA:bs.length≤A):Qa9 d bs=some P:=by
 unfold Rd at h;rw [List.drop_eq_nil_of_le hA,Qdt] at h;rw [← h];simp [Forest.app_nil]
theorem Rd.none {d:Nat} {bs:List Int} {A:Nat} {P:Forest} (h:Rd d bs A P) (hn:Qa9 d (bs.drop A)=.none):Qa9 d bs=.none:=by
 unfold Rd at h;rw [hn] at h;exact h.symm
theorem Rd.short {d:Nat} {bs:List Int} {A:Nat} {P:Forest} (h:Rd d bs A P) (h1:A<bs.length) (h2:bs.length<A+5):Qa9 d bs=.none :=
 h.none (Qbt _ _ (by rw [List.length_drop];omega) (by rw [List.length_drop];omega))
theorem Qgj (d:Nat) (bs:List Int) (A:Nat) (h:A+5≤bs.length):Qa9 d (bs.drop A) =
  if 8<d∨bs.getD A 0=0∨bs.length<A+5+Qbw bs A then .none
  else if 128≤bs.getD A 0 then (Qa9 (d+1) (QcI bs A)).bind fun k=>(Qa9 d (bs.drop (A+5+Qbw bs A))).map fun r=>.cons (bs.getD A 0) [] k r
  else (Qa9 d (bs.drop (A+5+Qbw bs A))).map fun r=>.cons (bs.getD A 0) (QcI bs A) .nil r:=by
 conv=>lhs;rw [QpZ bs A h,QdG]
 rw [show QfM (bs.getD (A+1) 0) (bs.getD (A+2) 0) (bs.getD (A+3) 0) (bs.getD (A+4) 0)=Qbw bs A from rfl]
 have e2:(bs.drop (A+5)).drop (Qbw bs A)=bs.drop (A+5+Qbw bs A):=by rw [List.drop_drop]
 rw [e2];by_cases hc:8<d∨bs.getD A 0=0∨bs.length<A+5+Qbw bs A
 ·rw [if_pos hc,if_pos (by rw [List.length_drop];omega)]
 ·rw [if_neg hc,if_neg (by rw [List.length_drop];omega)]
  rfl
theorem Rd.bad {d:Nat} {bs:List Int} {A:Nat} {P:Forest} (h:Rd d bs A P) (h5:A+5≤bs.length) (h2:8<d∨bs.getD A 0=0∨bs.length<A+5+Qbw bs A):Qa9 d bs=.none :=
 h.none (by rw [Qgj _ _ _ h5,if_pos h2])
theorem Rd.kidsNone {d:Nat} {bs:List Int} {A:Nat} {P:Forest} (h:Rd d bs A P) (h5:A+5≤bs.length) (ht:128≤bs.getD A 0) (hk:Qa9 (d+1) (QcI bs A)=.none):Qa9 d bs=.none:=by
 refine h.none ?_;rw [Qgj _ _ _ h5]
 split
 ·rfl
 ·rw [hk];rfl
theorem Rd.kids {d:Nat} {bs:List Int} {A:Nat} {P k:Forest} (h:Rd d bs A P) (h5:A+5+Qbw bs A≤bs.length) (hd:d≤8) (ht:128≤bs.getD A 0) (hk:Qa9 (d+1) (QcI bs A)=some k):Rd d bs (A+5+Qbw bs A) (P.app (.cons (bs.getD A 0) [] k .nil)):=by
 unfold Rd at h ⊢;rw [← h,Qgj d bs A (by omega),if_neg (by omega),if_pos ht,hk]
 cases Qa9 d (bs.drop (A+5+Qbw bs A)) with
 | none=>rfl
 | some r=>simp [Forest.app_one]
theorem Rd.plain {d:Nat} {bs:List Int} {A:Nat} {P:Forest} (h:Rd d bs A P) (h5:A+5+Qbw bs A≤bs.length) (hd:d≤8) (h0:bs.getD A 0≠0) (ht:¬ 128≤bs.getD A 0):Rd d bs (A+5+Qbw bs A) (P.app (.cons (bs.getD A 0) (QcI bs A) .nil .nil)):=by
 unfold Rd at h ⊢;rw [← h,Qgj d bs A (by omega),if_neg (by omega),if_neg ht]
 cases Qa9 d (bs.drop (A+5+Qbw bs A)) with
 | none=>rfl
 | some r=>simp [Forest.app_one]
theorem Qf5 (bs:List Int) (A:Nat) (h5:A+5+Qbw bs A≤bs.length):(QcI bs A).length=Qbw bs A:=by unfold QcI;rw [List.length_take,List.length_drop];omega
theorem Qk5 {bs:List Int} (A:Nat) (hb:∀ z∈bs,0≤z∧z≤255):∀ z∈QcI bs A,0≤z∧z≤255:=fun z hz=>hb z (List.mem_of_mem_drop (List.mem_of_mem_take hz))
section
theorem Qdb.sub {k:IntKind} {n₀:Nat} {W:World} {a:Option Addr} {len cap:Nat} {zs:List Int} (h:Qdb k n₀ W (.slice a len cap) zs) (l m:Nat) (h1:l≤m) (h2:m≤len) :
  Qdb k n₀ W (sliced a l m cap 1) ((zs.drop l).take (m-l))∧∀ b,QaO (sliced a l m cap 1) b→QaO (.slice a len cap) b:=by
 rcases h with ⟨a',c,h,rfl⟩ | ⟨b,off,c,h,hb,h3,h4,hc⟩
 ·injection h with e1 e2 e3;subst e1 e2 e3
  obtain rfl:m=0:=by omega
  obtain rfl:l=0:=by omega
  refine ⟨.inl ⟨_,_,rfl,by simp⟩,fun b hb=>?_⟩;unfold sliced at hb
  split at hb
  ·exact hb
  ·cases a <;> simp [QaO] at hb
 ·injection h with e1 e2 e3;subst e1 e2 e3
  by_cases hm:m=l
  ·subst hm
   refine ⟨.inl ⟨_,_,by unfold sliced;rw [Nat.sub_self],by simp⟩,fun b' hb'=>?_⟩;unfold sliced at hb';rw [Nat.sub_self] at hb'
   split at hb' <;> simp [QaO] at hb'
  ·have e:sliced (some ⟨b,off,none⟩) l m cap 1=.slice (some ⟨b,off+l,none⟩) (m-l) (cap-l):=by
    unfold sliced;rw [if_neg (by omega)];simp [Addr.add_lit]
   have el:((zs.drop l).take (m-l)).length=m-l:=by rw [List.length_take,List.length_drop];omega
   rw [e];refine ⟨.inr ⟨b,off+l,cap-l,by rw [el],hb,by rw [el];omega,by omega,fun j hj=>?_⟩,?_⟩
   ·rw [el] at hj
    rw [Nat.add_assoc,hc (l+j) (by omega)]
    congr 2
    rw [Qba _ _ (by omega),Qba _ _ (by rw [el];exact hj)];simp
   ·rintro b' ⟨h5,rfl⟩
    exact ⟨by omega,rfl⟩
theorem QaL.sub {n₀:Nat} {W:World} {a:Option Addr} {len cap:Nat} {zs:List Int} (h:QaL n₀ W (.slice a len cap) zs) (l m:Nat) (h1:l≤m) (h2:m≤len) :
  QaL n₀ W (sliced a l m cap 1) ((zs.drop l).take (m-l))∧∀ b,QaO (sliced a l m cap 1) b→QaO (.slice a len cap) b :=
 ⟨⟨(h.1.sub l m h1 h2).1,fun z hz=>h.2 z (List.mem_of_mem_drop (List.mem_of_mem_take hz))⟩,(h.1.sub l m h1 h2).2⟩
theorem Qdb.cap {k:IntKind} {n₀:Nat} {W:World} {a:Option Addr} {len cap:Nat} {zs:List Int} (h:Qdb k n₀ W (.slice a len cap) zs):len≤cap:=by
 rcases h with ⟨a',c,h,rfl⟩ | ⟨b,off,c,h,hb,h3,h4,hc⟩
 ·injection h with e1 e2 e3;omega
 ·injection h with e1 e2 e3;omega
section
variable {P : Program} {ops : Array Oper} {rest : List Oper} {o : Oper} {a : Act} {w : World} {Q : Exit → Act → World → Prop}
theorem Qhm (T:TypeId) (x:Operand) (lo hi:Option Operand) (ho:o.op=.slice T x lo hi none) (p:Option Addr) (len cap l m:Nat)
  (hx:a.eval x=.slice p len cap) (hlo:(lo=none∧l=0)∨∃ t,lo=some t∧a.eval t=.int .i64 (l:Int)) (hhi:(hi=none∧m=len)∨∃ t,hi=some t∧a.eval t=.int .i64 (m:Int))
  (hu:P.underlying T=some (.slice (P.elem T))) (hs:(P.info? (P.elem T)).map (·.size)=some 1) (h0:l≤m) (h1:m≤len) (h2:len≤cap) (q:Value) (hq:sliced p l m cap 1=q) :
  (execOp a.eval o).run P w=.ok (.value q) w:=by
 have hsz:(sizeOf (P.elem T)).run P w=.ok 1 w:=by
  cases hq:P.info? (P.elem T) with
  | none=>simp [hq] at hs
  | some i=>simp [sizeOf,typeInfo,hq];simpa [hq] using hs
 have hr:(Instr.sliceAt T (.slice p len cap) (lo.map a.eval) (hi.map a.eval) none).run P w=.ok (sliced p l m cap 1) w:=by
  rw [run_sliceAt_slice _ T _ _ _ _ hu]
  rcases hlo with ⟨rfl,rfl⟩ | ⟨t1,rfl,e1⟩ <;> rcases hhi with ⟨rfl,rfl⟩ | ⟨t2,rfl,e2⟩
  ·simp only [Option.map_none]
   rw [run_slice_all _ T p m cap hu,hsz];rfl
  ·simp only [Option.map_none,Option.map_some,e2]
   rw [run_slice_h _ T p len cap hu _ _ (by omega) (by omega),hsz];rfl
  ·simp only [Option.map_none,Option.map_some,e1]
   rw [run_slice_l _ T p m cap hu _ _ (by omega) (by omega),hsz];rfl
  ·simp only [Option.map_some,e1,e2]
   rw [run_slice_lh _ T p len cap hu _ _ _ _ (by omega) (by omega) (by omega),hsz];rfl
 unfold execOp;simp only [ho,hx,Option.map_none];rw [Sem.run_bind,hr,← hq];rfl
theorem Qi1 (hw:Region.wanted o (yielded ops a.tmps)=true) (T:TypeId) (x:Operand) (lo hi:Option Operand) (ho:o.op=.slice T x lo hi none) (p:Option Addr) (len cap l m:Nat)
  (hx:a.eval x=.slice p len cap) (hlo:(lo=none∧l=0)∨∃ t,lo=some t∧a.eval t=.int .i64 (l:Int)) (hhi:(hi=none∧m=len)∨∃ t,hi=some t∧a.eval t=.int .i64 (m:Int))
  (hu:P.underlying T=some (.slice (P.elem T))) (hs:(P.info? (P.elem T)).map (·.size)=some 1) (h0:l≤m) (h1:m≤len) (h2:len≤cap)
  (h:∀ q,sliced p l m cap 1=.slice q (m-l) (cap-l)→wpList P ops Q rest (a.put o.dst (.slice q (m-l) (cap-l))) w):wpList P ops Q (o::rest) a w:=by
 refine BigFrame.wpList_want hw fun K hK=>?_
 have hr:=Qhm (P:=P) (o:=o) (a:=a) (w:=w) T x lo hi ho p len cap l m hx hlo hhi hu hs h0 h1 h2 _ rfl;unfold Oper.wp;rw [hr];exact hK _ _ (h _ rfl)
end
end
section
attribute [local go_sem] QaB QaJ QaA
def QjJ (n₀ d:Nat) (bs:List Int) (W:World) (e:Ending) (W':World):Prop :=
 Below W.heap.size W W'∧∃ ra rl rc ok,e=.returned (.tuple #[.slice ra rl rc,.bool ok])∧(ok=false→Qa9 d bs=none) ∧
  (ok=true→∃ f,Qa9 d bs=some f∧∀ (W2:World) (n':Nat),(∀ x,(x<n₀∨W.heap.size≤x∧x<W'.heap.size)→W2.heap[x]?=W'.heap[x]?∧x<n')→SlF n' W2 ra rl rc f)
theorem QaL.to {n m:Nat} {W W':World} {sv:Value} {zs:List Int} (h:QaL n W sv zs) (hs:∀ b,b<n→W'.heap[b]?=W.heap[b]?∧b<m):QaL m W' sv zs:=by
 have h2:=h.same (B:=W') fun b hb=>(hs b (h.lt b hb)).1
 refine ⟨?_,h2.2⟩
 rcases h2.1 with h3 | ⟨b,off,cap,e,hb,h4⟩
 ·exact .inl h3
 ·exact .inr ⟨b,off,cap,e,(hs b hb).2,h4⟩
def Qi4 (m:Nat):Prop:=∀ (n₀ d:Nat) (bs:List Int) (W:World) (a:Option Addr) (len cap:Nat),bs.length≤m→n₀≤W.heap.size→d≤9→bs.length≤1048576→QaL n₀ W (.slice a len cap) bs →
 Calls Tryz.prog 67 #[.slice a len cap,.int .i64 d] W (QjJ n₀ d bs W)
theorem Qk2 (m:Nat) (ih:∀ m',m'<m→Qi4 m'):Qi4 m:=by
 intro n₀ d bs W a len cap hm hn hd hbl hr;obtain ⟨i0,hi,hz0,hz1,hz2⟩:=info_parts Qc1;obtain ⟨hlen,b,off,hopen,hc⟩:=hr.1.open;have hcap:=hr.1.cap;have hby:=hr.2;have hR:=QQ hr;have HC:=QQ hc;clear hr hc;go_enter Tryz.func67,Tryz.ntmps67;by_cases h8:8<d∧0<len
 ·have t1:decide ((8:Int)<(d:Int))=true:=by simp;omega
  have t2:decide ((0:Int)<(len:Int))=true:=by simp;omega
  go_wp2;go_ret2;refine ⟨QB _ _,_,_,_,_,rfl,fun _=>?_,fun h=>by cases h⟩;by_cases h5:bs.length<5
  ·exact (Rd.start d bs).short (by omega) (by omega)
  ·exact (Rd.start d bs).bad (by omega) (.inl h8.1)
 by_cases h9:8<d
 ·have t1:decide ((8:Int)<(d:Int))=true:=by simp;omega
  obtain rfl:len=0:=by omega
  have hbs:bs=[]:=List.eq_nil_of_length_eq_zero hlen;have HBS:=QQ hbs;clear hbs;go_wp2;go_loopw [6,7,8,9,10,11,12,13] (fun out at_ n _ _ _ _ _ wr=>out=.slice none 0 0∧at_=.int .i64 0∧n=.int .i64 0∧wr=W) (fun _ _ _ _ _ _ _ _ _=>0)
  case atStart=>exact ⟨rfl,rfl,rfl,rfl⟩
  case round =>
   obtain ⟨rfl,rfl,rfl,rfl⟩:=hrel;go_wp2;go_ret2;have hbs:bs=[]:=HBS;refine ⟨QB _ _,_,_,_,_,rfl,fun h=>(by cases h),fun _=>⟨.nil,by rw [hbs,Qdt],fun _ _ _=>⟨rfl,.inl rfl⟩⟩⟩
 have t1:decide ((8:Int)<(d:Int))=false:=by simp;omega
 go_wp2;go_loopw [6,7,8,9,10,11,12,13] (fun out at_ n _ _ _ _ _ wr=>∃ (A N:Nat) (P:Forest) (vs:List Value) (S:Nat→Prop),at_=.int .i64 (A:Int)∧n=.int .i64 (N:Int)∧A≤len∧N*5≤A∧P.length=N∧Hid (Rd d bs A P)∧wr.ownsRow W.heap.size 66 3 out N vs∧Qat S wr P vs∧(∀ x,S x→(x<n₀∨W.heap.size≤x)∧x<wr.heap.size∧out.ownBlock≠some x)∧Below W.heap.size W wr) (fun _ a _ _ _ _ _ _ _=>len-(intOf a).toNat)
 case atStart=>exact ⟨0,0,.nil,[],fun _=>False,rfl,rfl,Nat.zero_le _,QN _,rfl,Rd.start d bs,World.ownsRow_nil _ _ _ _,Qat.nil,fun x h=>h.elim,QB _ _⟩
 case round =>
  obtain ⟨A,N,P,vs,S,rfl,rfl,hA,hN,hP,hRd,hown,hrel,hS,hb0⟩:=hrel
  have s1:decide ((N:Int)≤(len:Int))=true:=by simp;omega
  by_cases hlt:A<len
  rotate_left
  ·have s2:decide ((A:Int)<(len:Int))=false:=by simp;omega
   obtain ⟨va,vc,rfl,hva⟩:=Qaa hown
   have hK:Hid (∀ (W2:World) (n':Nat),(∀ x,(x<n₀∨W.heap.size≤x∧x<wr.heap.size)→W2.heap[x]?=wr.heap[x]?∧x<n')→SlF n' W2 va N vc P):=fun W2 n' h=>QgT hown hrel hP W2 n' fun x hx=>h x (by
    rcases hx with hx | hx
    ·obtain ⟨h1,h2,_⟩:=hS x hx
     rcases h1 with h1 | h1
     ·exact .inl h1
     ·exact .inr ⟨h1,h2⟩
    ·exact .inr (hown.lt x hx))
   clear hown hrel hS hva;go_wp2;go_ret2;exact ⟨hb0,_,_,_,_,rfl,fun h=>(by cases h),fun _=>⟨P,Rd.end (show Rd d bs A P from hRd) (by omega),hK⟩⟩
  have s2:decide ((A:Int)<(len:Int))=true:=by simp;omega
  obtain ⟨rfl,hbn,_,hcm⟩:=hopen (by omega)
  have hc:∀ j,j<len→wr.cell? ⟨b,off+j,none⟩=some (.int .u8 (bs.getD j 0)):=fun j hj=>(hb0.cell (p:=⟨b,off+j,none⟩) (show b<W.heap.size by omega)).trans ((QG HC) j hj)
  by_cases h5:len<A+5
  ·have s3:decide ((len:Int)-(A:Int)<(5:Int))=true:=by simp;omega
   clear hc hown hrel hS;go_wp2;go_ret2;exact ⟨hb0,_,_,_,_,rfl,fun _=>(show Rd d bs A P from hRd).short (by omega) (by omega),fun h=>(by cases h)⟩
  have s3:decide ((len:Int)-(A:Int)<(5:Int))=false:=by simp;omega
  have hz:∀ j,A+j<len→0≤bs.getD (A+j) 0∧bs.getD (A+j) 0≤255:=fun j hj=>by
   rw [Qba _ _ (by omega)];exact hby _ (List.getElem_mem _)
  obtain ⟨x0,hx0⟩:∃ x,x=bs.getD A 0:=⟨_,rfl⟩;obtain ⟨x1,hx1⟩:∃ x,x=bs.getD (A+1) 0:=⟨_,rfl⟩;obtain ⟨x2,hx2⟩:∃ x,x=bs.getD (A+2) 0:=⟨_,rfl⟩;obtain ⟨x3,hx3⟩:∃ x,x=bs.getD (A+3) 0:=⟨_,rfl⟩;obtain ⟨x4,hx4⟩:∃ x,x=bs.getD (A+4) 0:=⟨_,rfl⟩;have c0:=hc A (by omega);have c1:=hc (A+1) (by omega);have c2:=hc (A+2) (by omega);have c3:=hc (A+3) (by omega);have c4:=hc (A+4) (by omega);have z0:=hz 0 (by omega);have z1:=hz 1 (by omega);have z2:=hz 2 (by omega);have z3:=hz 3 (by omega);have z4:=hz 4 (by omega);rw [Nat.add_zero,← hx0] at z0;rw [← hx1] at z1 c1;rw [← hx2] at z2 c2;rw [← hx3] at z3 c3;rw [← hx4] at z4 c4;rw [← hx0] at c0
  have hL:Qbw bs A=QfM x1 x2 x3 x4:=by unfold Qbw;rw [hx1,hx2,hx3,hx4]
  have HL:=QQ hL;have HX0:=QQ hx0;clear hL hx0 hx1 hx2 hx3 hx4 hz hc;have HOWN:=QQ hown;have HREL:=QQ hrel;have HS:=QQ hS;clear hrel hS
  have k1:(A:Int)+1<(len:Int):=by omega
  have k2:(A:Int)+2<(len:Int):=by omega
  have k3:(A:Int)+3<(len:Int):=by omega
  have k4:(A:Int)+4<(len:Int):=by omega
  have j1:(0:Int)≤(A:Int)+1:=by omega
  have j2:(0:Int)≤(A:Int)+2:=by omega
  have j3:(0:Int)≤(A:Int)+3:=by omega
  have j4:(0:Int)≤(A:Int)+4:=by omega
  by_cases h0:x0=0
  ·have s4:(x0 == 0)=true:=by simp [h0]
   have H0:=QQ h0;clear h0 hown;go_wp2;go_ret2;exact ⟨hb0,_,_,_,_,rfl,fun _=>(show Rd d bs A P from hRd).bad (by omega) (.inr (.inl ((QG HX0).symm.trans H0))),fun h=>(by cases h)⟩
  have s4:(x0 == 0)=false:=by simp [h0]
  have H0:=QQ h0;clear h0 hown
  have w1':IntKind.i64.wrap ((A:Int)+1)=(A:Int)+1:=by rw [IntKind.wrap_i64];omega
  have w2':IntKind.i64.wrap ((A:Int)+2)=(A:Int)+2:=by rw [IntKind.wrap_i64];omega
  have w3':IntKind.i64.wrap ((A:Int)+3)=(A:Int)+3:=by rw [IntKind.wrap_i64];omega
  have w4':IntKind.i64.wrap ((A:Int)+4)=(A:Int)+4:=by rw [IntKind.wrap_i64];omega
  rw [show A+2=((A:Int)+2).toNat from by omega] at c2;rw [show A+3=((A:Int)+3).toNat from by omega] at c3;rw [show A+4=((A:Int)+4).toNat from by omega] at c4
  have hbw:b<wr.heap.size:=by have:=hb0.size;omega
  have HX:=QQ (show ∀ W',Qaz wr.drew W'→W'.cell? ⟨b,off+(A+1),none⟩=some (.int .u8 x1)∧W'.cell? ⟨b,off+((A:Int)+2).toNat,none⟩=some (.int .u8 x2)∧W'.cell? ⟨b,off+((A:Int)+3).toNat,none⟩=some (.int .u8 x3)∧W'.cell? ⟨b,off+((A:Int)+4).toNat,none⟩=some (.int .u8 x4) from fun W' hW=>by
   have hW2:=QbE hW
   exact ⟨(hW2.cell (p:=⟨b,off+(A+1),none⟩) hbw).trans c1,(hW2.cell (p:=⟨b,off+((A:Int)+2).toNat,none⟩) hbw).trans c2,(hW2.cell (p:=⟨b,off+((A:Int)+3).toNat,none⟩) hbw).trans c3,(hW2.cell (p:=⟨b,off+((A:Int)+4).toNat,none⟩) hbw).trans c4⟩)
  clear c1 c2 c3 c4;go_wp2_with fail;refine Qas Qaz (by kernel_rfl) 31 rfl ?_;refine Qam [0,1,2,3,4,5,6,7,8,9,10,11,12,13,14,15,16,17,18,19,20,21,22,23,24,25,26,27,28,29,30] (by kernel_rfl) (by kernel_rfl) ?_
  iterate 31
   first
   | (refine Qax (Qaz.pre) rfl (by rfl) (v:=?_) (fun W hW=>?_) (fun K hK=>?_);rotate_left;· (obtain ⟨q1,q2,q3,q4⟩:=(QG HX) W hW;go_simp;first | done | rfl))
   | refine Qap (Qaz.pre) rfl (by rfl) (fun K hK=>?_)
   go_simp;refine hK _ ?_;clear hK K
  refine Qaw ?_;refine QaR (by kernel_rfl) ?_;obtain ⟨L,hLd⟩:∃ L,L=Qbw bs A:=⟨_,rfl⟩
  have hL2:(L:Int)=x1+256*x2+65536*x3+16777216*x4:=by
   rw [hLd,show Qbw bs A=QfM x1 x2 x3 x4 from HL];unfold QfM;omega
  have e64:IntKind.u64.wrap (IntKind.u64.wrap (IntKind.u64.wrap (IntKind.u64.wrap x1+IntKind.u64.wrap (256*IntKind.u64.wrap x2))+IntKind.u64.wrap (65536*IntKind.u64.wrap x3))+IntKind.u64.wrap (16777216*IntKind.u64.wrap x4))=(L:Int):=by
   simp only [IntKind.wrap_u64];omega
  rw [e64];obtain ⟨V0,hV0⟩:∃ V0,V0=wr.drew:=⟨_,rfl⟩
  have sV0:V0.heap.size=wr.heap.size:=by rw [hV0];rfl
  have kV0:∀ x:Nat,V0.heap[x]?=wr.heap[x]?:=fun x=>by rw [hV0];rfl
  have b0':Below W.heap.size W V0:=by rw [hV0];exact ⟨hb0.os,hb0.tape,hb0.output,hb0.size,hb0.block⟩
  have c0':V0.cell? ⟨b,off+A,none⟩=some (.int .u8 x0):=QaF (kV0 _) c0;have own0:=QQ (Qac (B:=V0) (QG HOWN) fun q _=>kV0 q);have rel0:=QQ ((QG HREL).keep (W2:=V0) fun x _=>kV0 x);have hS0:=QQ (show ∀ x,S x→(x<n₀∨W.heap.size≤x)∧x<V0.heap.size∧u6.ownBlock≠some x by rw [sV0];exact HS);rw [← hV0]
  have hbw0:b<V0.heap.size:=by omega
  clear hV0 kV0 HOWN HREL HS c0 hb0 sV0 hbw;have HLD:=QQ hLd
  have hLb:L<4294967296:=by omega
  clear hL2 e64 hLd HL HX z1 z2 z3 z4 w1' w2' w3' w4' k1 k2 k3 k4 j1 j2 j3 j4;by_cases hlong:len<A+5+L
  ·have s5:decide ((len:Int)-(A:Int)-5<(L:Int))=true:=by simp;omega
   go_wp2;go_ret2;exact ⟨b0',_,_,_,_,rfl,fun _=>(show Rd d bs A P from hRd).bad (by omega) (.inr (.inr (by rw [← (QG HLD)];omega))),fun h=>(by cases h)⟩
  have s5:decide ((len:Int)-(A:Int)-5<(L:Int))=false:=by simp;omega
  have m1:A+5≤A+5+L:=by omega
  have m2:A+5+L≤len:=by omega
  have hsub:=(QG hR).sub (A+5) (A+5+L) m1 m2
  have w1':IntKind.i64.wrap ((A:Int)+5)=(A:Int)+5:=by rw [IntKind.wrap_i64];omega
  go_wp2_with first
   | (refine Qi1 (by rfl) 22 (.tmp 83) (some (.tmp 85)) (some (.tmp 90)) rfl (some ⟨b,off,none⟩) len cap (A+5) (A+5+L) rfl (.inr ⟨_,rfl,rfl⟩) (.inr ⟨_,rfl,rfl⟩) (by kernel_rfl) (by kernel_rfl) m1 m2 hcap ?_;intro q hq)
   | ((fail_if_success (unfold Qag));refine Qan (t:=66) rfl ?_)
  unfold Qag;refine Qab rfl 66 (.tmp 11) (.tmp 97) rfl V0.heap.size #[.int .i64 x0,.slice none 0 0,.slice none 0 0] rfl rfl 66 zT (QW _ _) QbO rfl (QaS ..) ?_;rw [World.setRow_alloc_new];obtain ⟨V4,hV4⟩:∃ V4,V4=V0.alloc (.cells #[.int .i64 x0,.slice none 0 0,.slice none 0 0] 66):=⟨_,rfl⟩
  have x4:V4.heap[V0.heap.size]?=some (.cells #[.int .i64 x0,.slice none 0 0,.slice none 0 0] 66):=by rw [hV4];exact QW _ _
  have b4:Below V0.heap.size V0 V4:=by rw [hV4];exact (QB _ _).alloc (QN _) _
  have s4h:V4.heap.size=V0.heap.size+1:=by rw [hV4];simp
  rw [← hV4];clear hV4
  have hsq:QaL n₀ W (.slice q L (cap-(A+5))) (QcI bs A):=by
   have h:=hsub.1;rw [hq,show A+5+L-(A+5)=L by omega] at h;unfold QcI;rw [← (QG HLD)];exact h
  have hvl:(QcI bs A).length=L:=by rw [Qf5 _ _ (by rw [← (QG HLD)];omega)];exact HLD.symm
  have y0:V4.cell? ⟨V0.heap.size,0,none⟩=some (.int .i64 x0):=by rw [cell_of_row V4 _ 0 _ _ _ x4];rfl
  obtain ⟨lc,hlc⟩:∃ lc,lc=cap-(A+5):=⟨_,rfl⟩;rw [show A+5+L-(A+5)=L by omega] at hq;rw [← hlc] at hsq
  try rw [← hlc]
  have hL3:A+5+Qbw bs A≤bs.length:=by rw [← (QG HLD)];omega
  clear hq hsub hlc c0'
  go_upto_if 100 with fail
  go_cut [12,13] from 21 to 122 (fun _ _ wx=>∃ (fl:Forest) (ya:Option Addr) (yl yc:Nat) (ka:Option Addr) (kl kc:Nat) (T:Nat→Prop),wx.heap[V0.heap.size]?=some (.cells #[.int .i64 x0,.slice ya yl yc,.slice ka kl kc] 66)∧fl.length=1∧Hid (Rd d bs (A+5+L) (P.app fl))∧Qat T wx fl [.int .i64 x0,.slice ya yl yc,.slice ka kl kc]∧(∀ x,T x→(x<n₀∨V0.heap.size<x)∧x<wx.heap.size)∧Below V0.heap.size V4 wx)
  case first =>
   have s40:V0.heap.size<V4.heap.size:=by omega
   have hWV:=b0'.size
   have hV4W:∀ x,x<n₀→V4.heap[x]?=W.heap[x]?:=fun x hx=>(b4.block x (by omega)).trans (b0'.block x (by omega))
   by_cases ht:128≤x0
   ·have tt:decide ((127:Int)<x0)=true:=by simp;omega
    have kc:Calls Tryz.prog 67 #[.slice q L lc,.int .i64 ((d:Int)+1)] V4 (QjJ n₀ (d+1) (QcI bs A) V4):=ih (QcI bs A).length (by omega) n₀ (d+1) (QcI bs A) V4 q L lc (QN _) (by omega) (by omega) (by omega) (hsq.same fun x hx=>hV4W x (hsq.lt x hx));have K1:=QQ kc;have X4:=QQ x4;clear kc x4 ih hsq own0 rel0 hS0;go_wp2_with (go_at_call 67;refine Qau ?_);unfold Qag;refine Calls.mono K1 ?_;rintro e w5 ⟨b5,ra,rl,rc,ok,rfl,hn5,hs5⟩
    try dsimp only
    have hb45:=b5.size
    cases ok with
    | false =>
     have hno:=QQ (hn5 rfl);clear hn5 hs5 K1;go_wp2;go_ret2;have bfin:Below W.heap.size W w5:=(b0'.trans (b4.mono hWV)).trans (b5.mono (by omega));exact ⟨bfin,_,_,_,_,rfl,fun _=>(show Rd d bs A P from hRd).kidsNone (by omega) (by rw [← (QG HX0)];exact ht) hno,fun h=>(by cases h)⟩
    | true =>
     obtain ⟨f,hf,hS5⟩:=hs5 rfl;have e5:w5.heap[V0.heap.size]?=some (.cells #[.int .i64 x0,.slice none 0 0,.slice none 0 0] 66):=(b5.block V0.heap.size s40).trans X4
     have cc5:w5.cell? ⟨V0.heap.size,2,none⟩=some (.slice none 0 0):=by rw [cell_of_row w5 _ 2 _ _ _ e5];rfl
     have ff5:=frozen_of_row w5 V0.heap.size 2 _ _ e5;have HF:=QQ hf;have HS5:=QQ hS5;clear hn5 hs5 K1 hf hS5;go_wp2;obtain ⟨W8,hW8⟩:∃ W8,W8=w5.setCell ⟨V0.heap.size,2,none⟩ (.slice ra rl rc):=⟨_,rfl⟩
     have e8:W8.heap[V0.heap.size]?=some (.cells #[.int .i64 x0,.slice none 0 0,.slice ra rl rc] 66):=by rw [hW8];exact heap_setCell_same _ _ _ _ _ _ e5
     have s8:w5.heap.size=W8.heap.size:=by rw [hW8];show _=(w5.heap.modify _ _).size;rw [Array.size_modify]
     have k8:∀ x,x≠V0.heap.size→W8.heap[x]?=w5.heap[x]?:=fun x hx=>by rw [hW8];exact Below.heap_setCell _ _ _ _ hx
     have b8:Below V0.heap.size V4 W8:=by
      have h:Below V0.heap.size V4 w5:=b5.mono (by omega);refine ⟨?_,?_,?_,by omega,fun x hx=>(k8 x (by omega)).trans (h.block x hx)⟩
      ·rw [hW8];exact h.os
      ·rw [hW8];exact h.tape
      ·rw [hW8];exact h.output
     rw [← hW8];clear hW8;go_meet;refine ⟨.cons x0 [] f .nil,none,0,0,ra,rl,rc,fun x=>x<n₀∨(V4.heap.size≤x∧x<w5.heap.size),e8,rfl,?_,?_,?_,b8⟩
     ·have h:=(show Rd d bs A P from hRd).kids hL3 (by omega) (by rw [← (QG HX0)];exact ht) (k:=f) HF
      rw [← (QG HLD),← (QG HX0)] at h;exact h
     ·refine Qat.one (by omega) (by omega) (by simp) (fun W' n' h1 h2=>⟨.inl ⟨_,_,rfl,rfl⟩,by simp⟩) (fun W' n' h1 h2=>?_)
      exact (QG HS5) W' n' fun x hx=>⟨(h1 x hx).trans (k8 x (by omega)),h2 x hx⟩
     ·intro x hx
      constructor <;> omega
   ·have tt:decide ((127:Int)<x0)=false:=by simp;omega
    have cc4:V4.cell? ⟨V0.heap.size,1,none⟩=some (.slice none 0 0):=by rw [cell_of_row V4 _ 1 _ _ _ x4];rfl
    have ff4:=frozen_of_row V4 V0.heap.size 1 _ _ x4;have X4:=QQ x4;clear x4 ih own0 rel0 hS0;go_wp2;have x4:V4.heap[V0.heap.size]?=some (.cells #[.int .i64 x0,.slice none 0 0,.slice none 0 0] 66):=X4;obtain ⟨W8,hW8⟩:∃ W8,W8=V4.setCell ⟨V0.heap.size,1,none⟩ (.slice q L lc):=⟨_,rfl⟩
    have e8:W8.heap[V0.heap.size]?=some (.cells #[.int .i64 x0,.slice q L lc,.slice none 0 0] 66):=by rw [hW8];exact heap_setCell_same _ _ _ _ _ _ x4
    have s8:V4.heap.size=W8.heap.size:=by rw [hW8];show _=(V4.heap.modify _ _).size;rw [Array.size_modify]
    have k8:∀ x,x≠V0.heap.size→W8.heap[x]?=V4.heap[x]?:=fun x hx=>by rw [hW8];exact Below.heap_setCell _ _ _ _ hx
    have b8:Below V0.heap.size V4 W8:=by
     refine ⟨?_,?_,?_,by omega,fun x hx=>(k8 x (by omega))⟩
     ·rw [hW8];rfl
     ·rw [hW8];rfl
     ·rw [hW8];rfl
    rw [← hW8];clear hW8;go_meet;refine ⟨.cons x0 (QcI bs A) .nil .nil,q,L,lc,none,0,0,fun x=>x<n₀,e8,rfl,?_,?_,?_,b8⟩
    ·have h:=(show Rd d bs A P from hRd).plain hL3 (by omega) (by rw [← (QG HX0)];exact H0) (by rw [← (QG HX0)];omega)
     rw [← (QG HLD),← (QG HX0)] at h;exact h
    ·refine Qat.one (by omega) (by omega) (by omega) (fun W' n' h1 h2=>hsq.to fun x hx=>⟨(h1 x hx).trans ((k8 x (by omega)).trans (hV4W x hx)),h2 x hx⟩) (fun W' n' h1 h2=>⟨rfl,.inl rfl⟩)
    ·intro x hx
     constructor <;> omega
  case rest =>
   obtain ⟨fl,ya,yl,yc,ka,kl,kc,T,e1,hfl,hRd2,hrel2,hT,b5⟩:=hcut
   have s40:V0.heap.size<V4.heap.size:=by omega
   have hWV:=b0'.size;have hVc:=b5.size;have own0':V0.ownsRow W.heap.size 66 3 u6 N vs:=own0
   have own5:wc.ownsRow W.heap.size 66 3 u6 N vs:=Qac own0' fun x hx=>(b5.block x (own0'.lt x hx).2).trans (b4.block x (own0'.lt x hx).2)
   have hS0':∀ x,S x→(x<n₀∨W.heap.size≤x)∧x<V0.heap.size∧u6.ownBlock≠some x:=hS0
   have rel5:Qat S wc P vs:=(QG rel0).keep fun x hx=>(b5.block x (hS0' x hx).2.1).trans (b4.block x (hS0' x hx).2.1)
   have bc:Below W.heap.size W wc:=(b0'.trans (b4.mono hWV)).trans (b5.mono hWV)
   have hul:=fun x hx=>own0'.lt x hx
   have z0:wc.cell? ⟨V0.heap.size,0,none⟩=some (.int .i64 x0):=by rw [cell_of_row wc _ 0 _ _ _ e1];rfl
   have z1:wc.cell? ⟨V0.heap.size,1,none⟩=some (.slice ya yl yc):=by rw [cell_of_row wc _ 1 _ _ _ e1];rfl
   have z2:wc.cell? ⟨V0.heap.size,2,none⟩=some (.slice ka kl kc):=by rw [cell_of_row wc _ 2 _ _ _ e1];rfl
   have REL:=QQ rel5;have HS0:=QQ hS0';have REL2:=QQ hrel2;have HT:=QQ hT;clear own0 own0' hS0 hS0' rel0 rel5 e1 x4 b4 b5 b0' ih hsq hrel2 hT;go_wp2_with (at_builtin;refine Qau ?_);unfold Qag;obtain ⟨W6,hW6⟩:∃ W6,W6=wc.alloc (Obj.cells #[.int .i64 x0,.slice ya yl yc,.slice ka kl kc] 66):=⟨_,rfl⟩
   have b6:Below wc.heap.size wc W6:=by rw [hW6];exact (QB _ _).alloc (QN _) _
   have x6:W6.heap[wc.heap.size]?=some (.cells #[.int .i64 x0,.slice ya yl yc,.slice ka kl kc] 66):=by rw [hW6];exact QW _ _
   have s6:W6.heap.size=wc.heap.size+1:=by rw [hW6];simp
   have own6:W6.ownsRow W.heap.size 66 3 u6 N vs:=Qac own5 fun x hx=>b6.block x (by have:=(hul x hx).2;omega)
   have bc6:Below W.heap.size W W6:=bc.trans (b6.mono bc.size);rw [← hW6];clear hW6 own5
   refine QaH rfl _ _ 59 rfl W.heap.size 66 i0 _ 3 56 Tryz.underlying59 hi hz0 hz1 hz2 rfl (by decide) u6 N vs rfl own6 (some ⟨wc.heap.size,0,none⟩) 1 1 [.int .i64 x0,.slice ya yl yc,.slice ka kl kc] rfl rfl (by simp [Value.oneCell']) (.inr ⟨_,_,rfl,fun j u hj=>by
     rw [Nat.zero_add,cell_of_row W6 _ j _ _ _ x6,List.getElem?_toArray]
     exact hj⟩) (by omega) (by simp only [maxLen];omega) bc6.size ?_
   intro v7 w7 o7 g7 hv7
   have keep:∀ x,x<wc.heap.size→u6.ownBlock≠some x→w7.heap[x]?=wc.heap[x]?:=fun x h1 h2=>(g7.block x (by omega) (fun e=>h2 e.symm)).trans (b6.block x h1)
   have hv7':∀ x,v7.ownBlock=some x→u6.ownBlock=some x∨x=W6.heap.size:=fun x hx=>by
    rcases hv7 with h | h
    ·rw [h] at hx;exact .inl hx
    ·rw [h] at hx;injection hx with hx;exact .inr hx.symm
   have b7:Below W.heap.size W w7:=bc6.grown g7 bc6.size fun x hx=>(hul x hx).1
   have s7:=g7.size
   have F1:Hid (w7.ownsRow W.heap.size 66 3 v7 (N+1) (vs++[.int .i64 x0,.slice ya yl yc,.slice ka kl kc])∧Qat (fun x=>S x∨T x) w7 (P.app fl) (vs++[.int .i64 x0,.slice ya yl yc,.slice ka kl kc])∧(∀ x,(S x∨T x)→(x<n₀∨W.heap.size≤x)∧x<w7.heap.size∧v7.ownBlock≠some x)∧Below W.heap.size W w7):=by
    have hS':∀ x,S x→(x<n₀∨W.heap.size≤x)∧x<V0.heap.size∧u6.ownBlock≠some x:=HS0;have hT':∀ x,T x→(x<n₀∨V0.heap.size<x)∧x<wc.heap.size:=HT
    have hTu:∀ x,T x→u6.ownBlock≠some x:=fun x hx e=>by
     have h1:=hT' x hx;have h2:=hul x e;omega
    refine ⟨o7,Qat.app ?_ ?_ (by rw [hP];exact own6.1),?_,b7⟩
    ·exact ((QG REL).keep fun x hx=>keep x (by have:=(hS' x hx).2.1;omega) (hS' x hx).2.2).widen fun x hx=>.inl hx
    ·exact ((QG REL2).keep fun x hx=>keep x (hT' x hx).2 (hTu x hx)).widen fun x hx=>.inr hx
    ·rintro x (hx | hx)
     ·have h1:=hS' x hx
      refine ⟨h1.1,by omega,fun e=>?_⟩
      rcases hv7' x e with h | h
      ·exact h1.2.2 h
      ·omega
     ·have h1:=hT' x hx
      refine ⟨by omega,by omega,fun e=>?_⟩
      rcases hv7' x e with h | h
      ·exact hTu x hx h
      ·omega
   have hPl:(P.app fl).length=N+1:=by rw [Forest.length_app,hfl,hP]
   clear keep hv7' b7 g7 hv7 o7 s7 own6 bc6 b6 x6 s6 bc REL HS0 REL2 HT z0 z1 z2;go_wp2;go_roundw
   case rel=>exact ⟨A+5+L,N+1,P.app fl,_,_,by go_num,by go_num,by omega,by omega,hPl,hRd2,F1⟩
   case measure=>simp [intOf];omega
theorem QmE (m:Nat):Qi4 m:=Nat.strongRecOn m Qk2
end
section
def QhE (B:Nat) (Y:Nat→Prop) (I:Nat→(Nat→Prop)→World→Prop):Prop:=∀ k S W W',I k S W→QaM (fun b=>(b<B∧¬ Y b)∨S b) W W'→I k S W'
def Qpd {α:Type} (P:Program) (g:Nat) (lb:Array Value) (encs:α→Array Value) (X Y:Nat→Prop) (xs:List α) (w:World):Prop :=
 ∀ (l:Nat) (J Jx:Nat→(Nat→Prop)→World→Prop) (S0:Nat→Prop) (W:World),Below w.heap.size w W→QhE W.heap.size Y J→QhE W.heap.size Y Jx →
  (∀ k S W,J k S W→∀ b,S b→b<W.heap.size)→(∀ b,X b→¬ S0 b) →
  (∀ (k:Nat) (h:k<xs.length) (S:Nat→Prop) (W1:World),J k S W1→YieldAt Fence.wide 100 P l (encs xs[k]) W1 fun e W' =>
   (e=.returned (.bool true)∧∃ S',J (k+1) S' W'∧Wr S S' W1 W')∨(e=.returned (.bool false)∧∃ S',Jx (k+1) S' W'∧Wr S S' W1 W')) →
  J 0 S0 W →
  Calls P g (#[.func (.yield l) #[] #[]]++lb) W fun e W'=>(∃ v,e=.returned v)∧((∃ S',J xs.length S' W')∨∃ k S',k≤xs.length∧Jx k S' W')
variable {P : Program} {n : Nat}
theorem QkY {α:Type} {g:Operand} {ps:Array Tmp} {assign body:Code} {Q:Exit→Act→World→Prop} {a:Act} {w:World}
  {gf:Nat} {lb:Array Value} (hg:a.eval g=.func (.func gf) #[] lb) (eg:∀ args w,(callFunc gf args).run P w=.ok (.enter gf args) w)
  {encs:α→Array Value} {X Y:Nat→Prop} {xs:List α} (hseq:Qpd P gf lb encs X Y xs w) (hps:∀ x,(encs x).size=ps.size)
  (I:Nat→(Nat→Prop)→World→Prop) (Ix:Code→Nat→(Nat→Prop)→World→Prop) (S0:Nat→Prop)
  (hX:∀ b,X b→b<w.heap.size∧¬ S0 b) (hYw:∀ b,Y b→b<w.heap.size) (hI:QhE w.heap.size Y I) (hIx:∀ c,QhE w.heap.size Y (Ix c)) (hlt:∀ k S W,I k S W→∀ b,S b→b<W.heap.size) (h0:I 0 S0 w)
  (a₁:α→Act)
  (hassign:∀ (l:Nat) (x:α) (W:World) (K:Act→World→Prop),K (a₁ x) W →
   assign.wpIn (Fence.wide.inRound l) 100 P (Exit.then K (fun _ _ _=>False)) { tmps:=(ps.zip (encs x)).foldl (fun t (p,v)=>t.setIfInBounds p v) a.tmps,defers:=[] } W)
  (hbody:∀ (l k:Nat) (h:k<xs.length) (S:Nat→Prop) (W:World),I k S W →
   body.wpIn (Fence.wide.inRound l) 100 P (Qd4 I Ix k S W) (a₁ xs[k]) W)
  (hdone:∀ (D:Nat) (S:Nat→Prop) (W:World),w.heap.size≤D→¬ S D→I xs.length S W→W.heap[D]?=some (.deferred (some [])) →
   Q .normal { a with defers:={ target:=.collected D,args:=#[] }::a.defers } W)
  (hstop:∀ (D:Nat) (c:Code) (k:Nat) (S:Nat→Prop) (W:World),w.heap.size≤D→¬ S D→k≤xs.length→Ix c k S W→W.heap[D]?=some (.deferred (some [])) →
   c.wpIn Fence.wide n P Q { a with defers:={ target:=.collected D,args:=#[] }::a.defers } W) :
  (Code.rangeFunc g ps assign body).wpIn Fence.wide n P Q a w:=by
 refine wpIn_rangeFunc fun fn hfn=>?_
 obtain ⟨rec,hrec⟩:∃ rec:LoopState→Option Code→Loop,rec=fun st pe=>{ state:=st,pending:=pe,fn,tmps:=a.tmps,params:=ps,assign,body,defers:=w.heap.size }:=⟨_,rfl⟩
 obtain ⟨V,hV⟩:∃ V,V=(w.alloc (.deferred (some []))).alloc (.loop (rec .ready none)):=⟨_,rfl⟩
 have sV:V.heap.size=w.heap.size+2:=by rw [hV];simp
 have lV:V.heap[w.heap.size+1]?=some (.loop (rec .ready none)):=by
  have:=QW (w.alloc (.deferred (some []))) (.loop (rec .ready none));rw [World.size_alloc] at this;rw [hV];exact this
 have dV:V.heap[w.heap.size]?=some (.deferred (some [])):=by
  rw [hV];exact (Below.heap_alloc _ _ _ (by simp)).trans (QW w _)
 have bV:Below w.heap.size w V:=by rw [hV];exact ((QB _ w).alloc (QN _) _).alloc (by simp) _
 have s0:∀ b,S0 b→b<w.heap.size:=hlt _ _ _ h0;have iV:I 0 S0 V:=hI _ _ _ _ h0 ((QaM.of_below bV).mono fun b hb=>hb.elim (fun h=>h.1) (s0 b))
 refine ⟨w.heap.size+1,[{ target:=.collected w.heap.size,args:=#[] }],V,{ target:=.fn (.func gf) lb,args:=#[.func (.yield (w.heap.size+1)) #[] #[]] },V,gf,
  #[.func (.yield (w.heap.size+1)) #[] #[]]++lb,V,?_,?_,fun _ _=>trivial,?_,fun h=>by simp [Fence.wide] at h,callsIn_wide.2 ?_⟩
 ·rw [hV,hrec];exact run_enterLoop_outer _ _ _ _ _
 ·simp only [resolve,hg];simp [go_sem]
 ·simp [invoke,go_sem,eg]
 clear hV
 have ny0:¬ Y w.heap.size:=fun h=>by have:=hYw _ h;omega
 have ny1:¬ Y (w.heap.size+1):=fun h=>by have:=hYw _ h;omega
 -- the rounds' blocks,with the loop's own two
 obtain ⟨T,hT⟩:∃ T:(Nat→Prop)→Nat→Prop,T=fun S b=>S b∨b=w.heap.size∨b=w.heap.size+1:=⟨_,rfl⟩
 have T1:∀ S b,T S b↔(S b∨b=w.heap.size∨b=w.heap.size+1):=fun S b=>by rw [hT]
 clear hT
 refine (hseq (w.heap.size+1)
  (fun k S W=>∃ Sc,S=T Sc∧I k Sc W∧¬ Sc w.heap.size∧¬ Sc (w.heap.size+1)∧W.heap[w.heap.size+1]?=some (.loop (rec .ready none))∧W.heap[w.heap.size]?=some (.deferred (some [])))
  (fun k S W=>∃ Sc c,S=T Sc∧Ix c k Sc W∧¬ Sc w.heap.size∧¬ Sc (w.heap.size+1)∧W.heap[w.heap.size+1]?=some (.loop (rec .done (some c)))∧W.heap[w.heap.size]?=some (.deferred (some [])))
  (T S0) V bV ?_ ?_ ?_ ?_ ?_ ⟨S0,rfl,iV,fun h=>by have:=s0 _ h;omega,fun h=>by have:=s0 _ h;omega,lV,dV⟩).mono ?_
 ·rintro k S A A' ⟨Sc,rfl,hi,n1,n2,hl,hd⟩ hs
  exact ⟨Sc,rfl,hI _ _ _ _ hi (hs.mono fun b hb=>hb.elim (fun h=>.inl ⟨by omega,h.2⟩) (fun h=>.inr ((T1 _ _).2 (.inl h)))),n1,n2,(hs.block _ (.inl ⟨by omega,ny1⟩)).trans hl,(hs.block _ (.inl ⟨by omega,ny0⟩)).trans hd⟩
 ·rintro k S A A' ⟨Sc,c,rfl,hi,n1,n2,hl,hd⟩ hs
  exact ⟨Sc,c,rfl,hIx c _ _ _ _ hi (hs.mono fun b hb=>hb.elim (fun h=>.inl ⟨by omega,h.2⟩) (fun h=>.inr ((T1 _ _).2 (.inl h)))),n1,n2,(hs.block _ (.inl ⟨by omega,ny1⟩)).trans hl,(hs.block _ (.inl ⟨by omega,ny0⟩)).trans hd⟩
 ·rintro k S A ⟨Sc,rfl,hi,n1,n2,hl,hd⟩ b hb
  rcases (T1 _ _).1 hb with h | h | h
  ·exact hlt _ _ _ hi b h
  ·rw [h];exact (QI.1 hd).1
  ·rw [h];exact (QI.1 hl).1
 ·intro b hb h
  obtain ⟨h1,h2⟩:=hX b hb
  rcases (T1 _ _).1 h with h3 | h3 | h3
  ·exact h2 h3
  ·omega
  ·omega
 ·-- one round
  rintro k hk S W ⟨Sc,rfl,hi,n1,n2,hl,hd⟩;have hy:=run_yield (P:=P) (args:=encs xs[k]) hl (by rw [hrec];exact hps _);rw [hrec] at hy;refine ⟨fn,_,assign,body,hy,roundIn_of_wpIn hfn (hassign _ _ W _ ?_)⟩;clear hy;have hlt2:w.heap.size+1<W.heap.size:=(QI.1 hl).1;refine ⟨_,run_beginRound hl (by rw [hrec]),?_⟩;obtain ⟨W3,h3⟩:∃ W3,W3=W.putObj (w.heap.size+1) (.loop { rec .ready none with state:=.busy }):=⟨_,rfl⟩
  have hl3:W3.heap[w.heap.size+1]?=some (.loop { rec .ready none with state:=.busy }):=by rw [h3];exact World.putObj_heap_same hlt2
  have hd3:W3.heap[w.heap.size]?=some (.deferred (some [])):=by rw [h3];exact (World.putObj_heap_other (by omega)).trans hd
  have hi3:I k Sc W3:=hI _ _ _ _ hi (by rw [h3];exact QaM.putObj _ _ _ (fun h=>h.elim (fun h=>by have:=h.1;omega) n2))
  have wr3:Wr (T Sc) (T Sc) W W3:=by
   rw [h3];exact ⟨rfl,rfl,rfl,by simp,fun b _ hs=>World.putObj_heap_other (fun e=>hs ((T1 _ _).2 (.inr (.inr e)))),fun b h=>.inl h⟩
  rw [← h3];clear h3
  have after:∀ (jump:Option Code) (Sc':Nat→Prop) (W4:World),Wr Sc Sc' W3 W4 →
    ∃ W5,W5=W4.putObj (w.heap.size+1) (.loop (rec (if jump.isNone then .ready else .done) jump))∧(Instr.endRound (w.heap.size+1) jump).run P W4=.ok (.bool jump.isNone) W5 ∧
    ¬ Sc' w.heap.size∧¬ Sc' (w.heap.size+1) ∧
    W5.heap[w.heap.size+1]?=some (.loop (rec (if jump.isNone then .ready else .done) jump))∧W5.heap[w.heap.size]?=some (.deferred (some []))∧Wr (T Sc) (T Sc') W W5:=fun jump Sc' W4 hw=>by
   have s3:=wr3.size;have hl4:=(hw.block _ (by omega) n2).trans hl3;have hd4:=(hw.block _ (by omega) n1).trans hd3
   have m1:¬ Sc' w.heap.size:=fun h=>(hw.new _ h).elim n1 (fun h=>by omega)
   have m2:¬ Sc' (w.heap.size+1):=fun h=>(hw.new _ h).elim n2 (fun h=>by omega)
   have hr:=run_endRound (P:=P) jump hl4;have hlt4:=(QI.1 hl4).1;rw [hrec] at hr ⊢;refine ⟨_,rfl,hr,m1,m2,World.putObj_heap_same hlt4,(World.putObj_heap_other (by omega)).trans hd4,?_⟩
   have w34:Wr (T Sc) (T Sc') W3 W4:=⟨hw.os,hw.tape,hw.output,hw.size,fun b hb hs=>hw.block b hb (fun h=>hs ((T1 _ _).2 (.inl h))),
    fun b hb=>((T1 _ _).1 hb).elim (fun h=>(hw.new b h).elim (fun h=>.inl ((T1 _ _).2 (.inl h))) .inr) (fun h=>.inl ((T1 _ _).2 (.inr h)))⟩
   refine (wr3.trans w34).trans ⟨rfl,rfl,rfl,by simp,fun b _ hs=>World.putObj_heap_other (fun e=>hs ((T1 _ _).2 (.inr (.inr e)))),fun b h=>.inl h⟩
  have leaves:∀ (c:Code) (Sc':Nat→Prop) (W4:World),Ix c (k+1) Sc' W4→Wr Sc Sc' W3 W4→∃ v W5,(Instr.endRound (w.heap.size+1) (some c)).run P W4=.ok v W5 ∧
    (Ending.returned v=.returned (.bool false)∧∃ S',(∃ Sc c,S'=T Sc∧Ix c (k+1) Sc W5∧¬ Sc w.heap.size∧¬ Sc (w.heap.size+1)∧W5.heap[w.heap.size+1]?=some (.loop (rec .done (some c)))∧W5.heap[w.heap.size]?=some (.deferred (some [])))∧Wr (T Sc) S' W W5) :=
   fun c Sc' W4 hi4 hw=>by
    obtain ⟨W5,e5,hr,m1,m2,hl5,hd5,hw5⟩:=after (some c) Sc' W4 hw;exact ⟨_,W5,hr,rfl,T Sc',⟨Sc',c,rfl,hIx c _ _ _ _ hi4 (by rw [e5];exact QaM.putObj _ _ _ (fun h=>h.elim (fun h=>by omega) m2)),m1,m2,hl5,hd5⟩,hw5⟩
  refine wpIn_mono (hbody _ k hk Sc W3 hi3) fun e a4 W4 hp=>?_
  cases e with
  | normal =>
   obtain ⟨Sc',hi4,hw⟩:=hp;obtain ⟨W5,e5,hr,m1,m2,hl5,hd5,hw5⟩:=after none Sc' W4 hw;exact ⟨_,W5,hr,.inl ⟨rfl,T Sc',⟨Sc',rfl,hI _ _ _ _ hi4 (by rw [e5];exact QaM.putObj _ _ _ (fun h=>h.elim (fun h=>by omega) m2)),m1,m2,hl5,hd5⟩,hw5⟩⟩
  | ret =>
   obtain ⟨Sc',hi4,hw⟩:=hp;obtain ⟨v,W5,hr,h⟩:=leaves .ret Sc' W4 hi4 hw;exact ⟨v,W5,hr,.inr h⟩
  | exit id =>
   obtain ⟨Sc',hi4,hw⟩:=hp;obtain ⟨v,W5,hr,h⟩:=leaves (.exit id) Sc' W4 hi4 hw;exact ⟨v,W5,hr,.inr h⟩
  | goto t =>
   obtain ⟨Sc',hi4,hw⟩:=hp;obtain ⟨v,W5,hr,h⟩:=leaves (.goto t) Sc' W4 hi4 hw;exact ⟨v,W5,hr,.inr h⟩
  | panic ch=>exact hp.elim
  | outgrown=>exact hp.elim
 ·-- Qcg the iterator
  rintro e W2 ⟨⟨v,rfl⟩,(⟨S',Sc,rfl,hi,n1,n2,hl,hd⟩ | ⟨k,S',hk,Sc,c,rfl,hi,n1,n2,hl,hd⟩)⟩
  ·have he:=run_endLoop (P:=P) hl (by rw [hrec];simp)
   have hp:(rec .ready none).pending=none:=by rw [hrec]
   rw [hp] at he;exact ⟨none,_,he,hdone _ Sc _ (QN _) n1 (hI _ _ _ _ hi (QaM.putObj _ _ _ (fun h=>h.elim (fun h=>by have:=h.1;omega) n2))) ((World.putObj_heap_other (by omega)).trans hd)⟩
  ·have he:=run_endLoop (P:=P) hl (by rw [hrec];simp)
   have hp:(rec .done (some c)).pending=some c:=by rw [hrec]
   rw [hp] at he;exact ⟨some c,_,he,hstop _ c k Sc _ (QN _) n1 hk (hIx c _ _ _ _ hi (QaM.putObj _ _ _ (fun h=>h.elim (fun h=>by have:=h.1;omega) n2))) ((World.putObj_heap_other (by omega)).trans hd)⟩
section
variable {ops : Array Oper} {md : Region.Mode} {R : World → World → Prop}
def QgO (ops:Array Oper):Bool:=ops.all fun o=>match o.op with | .defer _=>false | _=>true
theorem Qf2 {ops:Array Oper} (h:QgO ops=true) (i:Nat) (o:Oper) (hi:ops[i]?=some o):∀ c,o.op≠.defer c:=fun c hc=>by
 unfold QgO at h;rw [Array.all_eq_true] at h;obtain ⟨hl,rfl⟩:=QI.1 hi;have:=h i hl;rw [hc] at this
 cases this
theorem Qfw {l m i:Nat} {o:Oper} {K:Act→World→Prop} {a:Act} {w:World} {Q:Exit→Act→World→Prop} (hi:ops[i]?=some o) (hd:∀ c,o.op≠.defer c) (hh:opV P ops o (fun v w'=>K (a.put o.dst v) w') a w) :
  wpOpIn (Fence.wide.inRound l) m P ops Q i K a w:=by
 unfold wpOpIn opV at *;simp only [hi]
 split
 ·rename_i hw
  simp only [hw,if_true] at hh;refine ⟨fun f _=>trivial,?_⟩;rw [Oper.semAt_eq _ _ _ hd];generalize (execOp a.eval o).run P w=r at *
  cases r with
  | ok nx w' =>
   cases nx <;> simp only [upV] at hh <;> simp only [Oper.uponIn]
   case enter f args=>exact ⟨fun h=>by simp [Fence.wide] at h,(Qd8 l _ hh).mono fun e w'' ⟨v,he,hk⟩=>by subst he;exact hk⟩
   all_goals exact hh
  | halt x w'=>simp only [upV] at hh
 ·rename_i hw;simp only [hw] at hh;exact ⟨fun f _=>trivial,hh⟩
theorem Qen {l m:Nat} {L:Act→World→Prop} {Q:Exit→Act→World→Prop} (hL:∀ a w,L a w→Q .normal a w) (hd:QgO ops=true):∀ (f:Nat) (listed:Array Bool) (a:Act) (w:World),Qf8 R P md ops L f listed a w→wpAnyIn (Fence.wide.inRound l) m P md ops Q f listed a w
 | 0,_,_,_,h=>⟨h.1,hL _ _ h.2⟩
 | f+1,listed,a,w,h=>⟨fun h0=>hL _ _ (h.1 h0),fun i hi=>by
   obtain ⟨o,ho,hop⟩:=h.2 i hi
   exact Qfw ho (Qf2 hd i o ho) (QdO (fun v w' hk=>Qen hL hd f _ _ _ hk.2) hop)⟩
end
end
end Go.Proofs.YtejcandhijdnhaaGreat
