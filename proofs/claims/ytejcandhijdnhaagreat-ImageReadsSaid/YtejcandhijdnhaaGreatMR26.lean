/- Own texts of this seat, one behind the other, without needless spaces (part 26 of 26). -/
import Derived.Test.YtejcandhijdnhaaGreatMR01
import Derived.Test.YtejcandhijdnhaaGreatMR14
import Derived.Test.YtejcandhijdnhaaGreatMR15
import Derived.Test.YtejcandhijdnhaaGreatMR17
import Derived.Test.YtejcandhijdnhaaGreatMR19
import Derived.Test.YtejcandhijdnhaaGreatMR20
import Derived.Test.YtejcandhijdnhaaGreatMR21
import Derived.Test.YtejcandhijdnhaaGreatMR22
import Derived.Test.YtejcandhijdnhaaGreatMR23
import Derived.Test.YtejcandhijdnhaaGreatMR24
import Derived.Test.YtejcandhijdnhaaGreatMR25
namespace Go.Proofs.YtejcandhijdnhaaGreat
open Go Go.RowKit
set_option linter.unusedVariables false
set_option linter.unusedSimpArgs false
set_option linter.unnecessarySimpa false
set_option maxRecDepth 100000
set_option maxHeartbeats 16000000
section
section
variable {W : World} {p : Pr} {fa : Option Addr} {fc : Nat} {pa : Option Addr} {pc : Nat} {X : Array Value} {B : Nat} {st su wt pi lf : Int} {n : Nat} {b5 rest R : Bool}
theorem Qpl (D:D6 W p fa fc pa pc X B st su wt pi lf n true rest R) (t1:(st != 1)=false) (t2:(su != 0)=false) (t3:decide (wt<0)=true) :
  Qc4 W (p,⟨fa,fc,pa,pc⟩) X B (tl 6 (Tryz.f100.body.getD .skip)) (.bool true) (.bool true) (.bool true) R:=by
 iterate 229 intro
 intro V h;have H:=QQ h;have HR:=QQ D.hR;have HN:=QQ D.hN;have HREST:=QQ D.hE;obtain ⟨c2,c3,c45,c46,c50,c51⟩:=D.c V h;clear D h
 conv=>arg 2;whnf
 refine wp_seq_k (fun K aK=>?_);have AK:=QQ aK;clear aK
 as_aux_lemma =>
  go_wp2
  all_goals go_ret
  all_goals exact ⟨by rw [show R=_ from HR,t1,t2,t3] <;> rfl,Qad.below (QG H)⟩
theorem Qpm (D:D6 W p fa fc pa pc X B st su wt pi lf n true rest R) (t1:(st != 1)=false) (t2:(su != 0)=false) (t3:decide (wt<0)=false) (t4:decide (wt > 5)=true) :
  Qc4 W (p,⟨fa,fc,pa,pc⟩) X B (tl 6 (Tryz.f100.body.getD .skip)) (.bool true) (.bool true) (.bool true) R:=by
 iterate 229 intro
 intro V h;have H:=QQ h;have HR:=QQ D.hR;have HN:=QQ D.hN;have HREST:=QQ D.hE;obtain ⟨c2,c3,c45,c46,c50,c51⟩:=D.c V h;clear D h
 conv=>arg 2;whnf
 refine wp_seq_k (fun K aK=>?_);have AK:=QQ aK;clear aK
 as_aux_lemma =>
  go_wp2
  all_goals go_ret
  all_goals exact ⟨by rw [show R=_ from HR,t1,t2,t3,t4] <;> rfl,Qad.below (QG H)⟩
theorem Qpn (D:D6 W p fa fc pa pc X B st su wt pi lf n true rest R) (t1:(st != 1)=false) (t2:(su != 0)=false) (t3:decide (wt<0)=false) (t4:decide (wt > 5)=false) (t5:decide (pi<0)=true) :
  Qc4 W (p,⟨fa,fc,pa,pc⟩) X B (tl 6 (Tryz.f100.body.getD .skip)) (.bool true) (.bool true) (.bool true) R:=by
 iterate 229 intro
 intro V h;have H:=QQ h;have HR:=QQ D.hR;have HN:=QQ D.hN;have HREST:=QQ D.hE;obtain ⟨c2,c3,c45,c46,c50,c51⟩:=D.c V h;clear D h
 conv=>arg 2;whnf
 refine wp_seq_k (fun K aK=>?_);have AK:=QQ aK;clear aK
 as_aux_lemma =>
  go_wp2
  all_goals go_ret
  all_goals exact ⟨by rw [show R=_ from HR,t1,t2,t3,t4,t5] <;> rfl,Qad.below (QG H)⟩
theorem Qpo (D:D6 W p fa fc pa pc X B st su wt pi lf n true rest R) (t1:(st != 1)=false) (t2:(su != 0)=false) (t3:decide (wt<0)=false) (t4:decide (wt > 5)=false) (t5:decide (pi<0)=false) (t6':decide (pi > 15)=true) :
  Qc4 W (p,⟨fa,fc,pa,pc⟩) X B (tl 6 (Tryz.f100.body.getD .skip)) (.bool true) (.bool true) (.bool true) R:=by
 iterate 229 intro
 intro V h;have H:=QQ h;have HR:=QQ D.hR;have HN:=QQ D.hN;have HREST:=QQ D.hE;obtain ⟨c2,c3,c45,c46,c50,c51⟩:=D.c V h;clear D h
 conv=>arg 2;whnf
 refine wp_seq_k (fun K aK=>?_);have AK:=QQ aK;clear aK
 as_aux_lemma =>
  go_wp2
  all_goals go_ret
  all_goals exact ⟨by rw [show R=_ from HR,t1,t2,t3,t4,t5,t6'] <;> rfl,Qad.below (QG H)⟩
end
theorem Qqs (W:World) (p:Pr) (fa:Option Addr) (fc:Nat) (pa:Option Addr) (pc:Nat) (X:Array Value) (B:Nat) (b5:Bool) :
  Qc4 W (p,⟨fa,fc,pa,pc⟩) X B (tl 6 (Tryz.f100.body.getD .skip)) (.bool true) (.bool true) (.bool b5) ((p.state == 1)&&(p.status == 0)&&b5&&Qdc p&&Qci p&&Qbc (-1) p.pages):=by
 obtain ⟨R,hR⟩:∃ R,R=((p.state == 1)&&(p.status == 0)&&b5&&Qdc p&&Qci p&&Qbc (-1) p.pages):=⟨_,rfl⟩;rw [← hR];obtain ⟨st,hst⟩:∃ x,x=p.state:=⟨_,rfl⟩;obtain ⟨su,hsu⟩:∃ x,x=p.status:=⟨_,rfl⟩;obtain ⟨wt,hwt⟩:∃ x,x=p.wait:=⟨_,rfl⟩;obtain ⟨pi,hpi⟩:∃ x,x=p.pipe:=⟨_,rfl⟩;obtain ⟨lf,hlf⟩:∃ x,x=p.left:=⟨_,rfl⟩;obtain ⟨n,hn⟩:∃ x,x=p.fds.length:=⟨_,rfl⟩;obtain ⟨rest,hrest⟩:∃ b,b=(p.fds.all Qf1&&Qbc (-1) p.pages):=⟨_,rfl⟩
 have hR2:R=(!(st != 1)&&!(su != 0)&&b5&&!(decide (wt<0))&&!(decide (wt > 5))&&!(decide (pi<0))&&!(decide (pi > 15))&&!(decide (pi > 0)&&(wt != 2)&&(wt != 3))&&!((wt == 5) != decide (lf > 0))&&!((n:Int) != 8)&&rest):=by
  rw [hR,hst,hsu,hwt,hpi,hlf,hn,hrest];unfold Qdc Qci;rw [Bool.eq_iff_iff]
  have e8:(((p.fds.length:Nat):Int) == 8)=(p.fds.length == 8):=by rw [Bool.eq_iff_iff,beq_iff_eq,beq_iff_eq];omega
  simp only [bne,Bool.not_not,e8];simp only [Bool.and_eq_true,Bool.or_eq_true,Bool.not_eq_true',decide_eq_true_eq,decide_eq_false_iff_not,beq_iff_eq,Bool.and_eq_false_iff,Bool.not_eq_false',beq_eq_false_iff_ne];constructor
  ·rintro ⟨⟨⟨⟨⟨h1,h2⟩,h3⟩,⟨⟨⟨h4,h5⟩,h6⟩,h7⟩⟩,⟨h8,h9⟩⟩,h10⟩
   refine ⟨⟨⟨⟨⟨⟨⟨⟨⟨⟨h1,h2⟩,h3⟩,?_⟩,?_⟩,?_⟩,?_⟩,?_⟩,h7⟩,h8⟩,h9,h10⟩ <;> omega
  ·rintro ⟨⟨⟨⟨⟨⟨⟨⟨⟨⟨h1,h2⟩,h3⟩,g1⟩,g2⟩,g3⟩,g4⟩,g5⟩,h7⟩,h8⟩,h9,h10⟩
   refine ⟨⟨⟨⟨⟨h1,h2⟩,h3⟩,⟨⟨⟨?_,?_⟩,?_⟩,h7⟩⟩,⟨h8,h9⟩⟩,h10⟩ <;> omega
 have D:D6 W p fa fc pa pc X B st su wt pi lf n b5 rest R:=⟨fun V h=>by
  have g:=Qaf p (Qad.fine h).ok fa fc pa pc;rw [hst,hsu,hwt,hpi,hlf,hn]
  exact ⟨Qad.cell h g.1.2.2.1,Qad.cell h g.1.2.2.2,Qad.cell h g.2.1.1,Qad.cell h g.2.1.2.1,Qad.cell h g.2.2.1.1,Qad.cell h g.2.2.1.2.1⟩,hR2,hn,hrest⟩
 clear hR hR2 hst hsu hwt hpi hlf hn hrest
 cases t1:(st != 1) with
 | true=>exact Qpj D t1
 | false =>
  cases t2:(su != 0) with
  | true=>exact Qpk D t1 t2
  | false =>
   cases b5 with
   | false=>exact QpO D t1 t2
   | true =>
    cases t3:decide (wt<0) with
    | true=>exact Qpl D t1 t2 t3
    | false =>
     cases t4:decide (wt > 5) with
     | true=>exact Qpm D t1 t2 t3 t4
     | false =>
      cases t5:decide (pi<0) with
      | true=>exact Qpn D t1 t2 t3 t4 t5
      | false =>
       cases t6':decide (pi > 15) with
       | true=>exact Qpo D t1 t2 t3 t4 t5 t6'
       | false =>
        cases p1:decide (pi > 0) with
        | false=>exact QpP D t1 t2 t3 t4 t5 t6' p1
        | true =>
         cases p2:(wt != 2) with
         | false=>exact QpQ D t1 t2 t3 t4 t5 t6' p1 p2
         | true =>
          cases p3:(wt != 3) with
          | false=>exact QpR D t1 t2 t3 t4 t5 t6' p1 p2 p3
          | true=>exact QpS D t1 t2 t3 t4 t5 t6' p1 p2 p3
end
theorem Qqr (W:World) (p:Pr) (fa:Option Addr) (fc:Nat) (pa:Option Addr) (pc:Nat) (X:Array Value) (B:Nat) (t3 t4 t5:Value) :
  Qc4 W (p,⟨fa,fc,pa,pc⟩) X B (tl 3 (Tryz.f100.body.getD .skip)) t3 t4 t5 (Qbq p):=by
 iterate 229 intro
 intro V h;have H:=QQ h;obtain ⟨R,hR⟩:∃ R,R=(Qbq p):=⟨_,rfl⟩;rw [← hR];have H0:=h
 have eP1:(X.toList.drop 4).take p.cpu.vals.toArray.size=p.cpu.vals.toArray.toList:=by
  rw [QS,Cp.vals_length H0.fine.ok.1,H0.hX];exact (Qaf p H0.fine.ok fa fc pa pc).2.2.2.1
 have eP2:(X.toList.drop 15).take p.saved.vals.toArray.size=p.saved.vals.toArray.toList:=by
  rw [QS,Cp.vals_length H0.fine.ok.2.1,H0.hX];exact (Qaf p H0.fine.ok fa fc pa pc).2.2.2.2.1
 have eP3:(X.toList.drop 26).take p.sig.vals.toArray.size=p.sig.vals.toArray.toList:=by
  rw [QS,Sg.vals_length H0.fine.ok.2.2,H0.hX];exact (Qaf p H0.fine.ok fa fc pa pc).2.2.2.2.2
 have i1:(Tryz.prog.info? 45).map (·.size)=some p.cpu.vals.toArray.size:=by rw [QS,Cp.vals_length H0.fine.ok.1];exact Qbv
 have i2:(Tryz.prog.info? 45).map (·.size)=some p.saved.vals.toArray.size:=by rw [QS,Cp.vals_length H0.fine.ok.2.1];exact Qbv
 have i3:(Tryz.prog.info? 48).map (·.size)=some p.sig.vals.toArray.size:=by rw [QS,Sg.vals_length H0.fine.ok.2.2];exact Qez
 have e:=H0.eB;have k1:=Qi0 p.cpu H0.fine.ok.1;have k2:=Qi0 p.saved H0.fine.ok.2.1;have k3:=QnX p.sig H0.fine.ok.2.2;obtain ⟨v1,hv1⟩:∃ v,v=p.cpu.vals.toArray:=⟨_,rfl⟩;obtain ⟨v2,hv2⟩:∃ v,v=p.saved.vals.toArray:=⟨_,rfl⟩;obtain ⟨v3,hv3⟩:∃ v,v=p.sig.vals.toArray:=⟨_,rfl⟩;obtain ⟨b5,hb5⟩:∃ b,b=QdN p.sig:=⟨_,rfl⟩;rw [← hv1] at eP1 i1 k1;rw [← hv2] at eP2 i2 k2;rw [← hv3] at eP3 i3 k3;rw [← hb5] at k3
 have hR2:R=((p.state == 1)&&(p.status == 0)&&b5&&Qdc p&&Qci p&&Qbc (-1) p.pages):=by rw [hR,hb5];rfl
 have HR:=QQ hR2;have EP:=QQ (QA eP1 (QA eP2 eP3));have KK:=QQ (QA k1 (QA k2 k3));have EE:=QQ e;clear hR hR2 hv1 hv2 hv3 hb5 eP1 eP2 eP3 k1 k2 k3 e h H0
 conv=>arg 2;whnf
 refine wp_seq_k (fun K aK=>?_);have AK:=QQ aK;clear aK
 go_wp2_with first
  | (go_at_call 119;refine Qau ?_)
  | (refine Qai (by rfl) 45 (.tmp 90) rfl B 4 rfl _ v1 _ (QG EE) (QG EP).1 _ Tryz.underlying45 rfl i1 ?_)
 unfold Qag;refine ((QG KK).1 V).mono ?_;rintro e' w1 ⟨rfl,b1⟩;have H1:=QQ (Qad.grow (QG H) b1);have EE1:=QQ (Qad.eB (QG H1));clear b1;go_wp2;refine (QG AK) _ _ ?_;clear AK K;refine wp_seq_k (fun K aK=>?_);have AK:=QQ aK;clear aK
 go_wp2_with first
  | (go_at_call 119;refine Qau ?_)
  | (refine Qai (by rfl) 45 (.tmp 93) rfl B 15 rfl _ v2 _ (QG EE1) (QG EP).2.1 _ Tryz.underlying45 rfl i2 ?_)
 unfold Qag;refine ((QG KK).2.1 w1).mono ?_;rintro e' w2 ⟨rfl,b2⟩;have H2:=QQ (Qad.grow (QG H1) b2);have EE2:=QQ (Qad.eB (QG H2));clear b2;go_wp2;refine (QG AK) _ _ ?_;clear AK K;refine wp_seq_k (fun K aK=>?_);have AK:=QQ aK;clear aK
 go_wp2_with first
  | (go_at_call 120;refine Qau ?_)
  | (refine Qai (by rfl) 48 (.tmp 96) rfl B 26 rfl _ v3 _ (QG EE2) (QG EP).2.2 _ Tryz.underlying48 rfl i3 ?_)
 unfold Qag;refine ((QG KK).2.2 w2).mono ?_;rintro e' w3 ⟨rfl,b3⟩;have H3:=QQ (Qad.grow (QG H2) b3);clear b3;go_wp2;refine (QG AK) _ _ ?_;rw [show R=_ from HR];apply Qqs W p fa fc pa pc X B b5;exact (QG H3)
theorem Qqq (W:World) (p:Pr) (fa:Option Addr) (fc:Nat) (pa:Option Addr) (pc:Nat) (X:Array Value) (B:Nat) (t3 t4 t5:Value) :
  Qc4 W (p,⟨fa,fc,pa,pc⟩) X B (tl 2 (Tryz.f100.body.getD .skip)) t3 t4 t5 (if p.state=2 then Qa8 p else Qbq p):=by
 iterate 229 intro
 intro V h;have H:=QQ h;obtain ⟨R,hR⟩:∃ R,R=(if p.state=2 then Qa8 p else Qbq p):=⟨_,rfl⟩;rw [← hR];have HR:=QQ hR;have H0:=h;have c2:=Qad.cell H0 (Qaf p (Qad.fine H0).ok fa fc pa pc).1.2.2.1;have c45:=Qad.cell H0 (Qaf p (Qad.fine H0).ok fa fc pa pc).2.1.1;have c46:=Qad.cell H0 (Qaf p (Qad.fine H0).ok fa fc pa pc).2.1.2.1;have c50:=Qad.cell H0 (Qaf p (Qad.fine H0).ok fa fc pa pc).2.2.1.1;have c51:=Qad.cell H0 (Qaf p (Qad.fine H0).ok fa fc pa pc).2.2.1.2.1;have c54:=Qad.cell H0 (Qaf p (Qad.fine H0).ok fa fc pa pc).2.2.1.2.2.2.2
 have eP1:(X.toList.drop 4).take p.cpu.vals.toArray.size=p.cpu.vals.toArray.toList:=by
  rw [QS,Cp.vals_length H0.fine.ok.1,H0.hX];exact (Qaf p H0.fine.ok fa fc pa pc).2.2.2.1
 have eP2:(X.toList.drop 15).take p.saved.vals.toArray.size=p.saved.vals.toArray.toList:=by
  rw [QS,Cp.vals_length H0.fine.ok.2.1,H0.hX];exact (Qaf p H0.fine.ok fa fc pa pc).2.2.2.2.1
 have eP3:(X.toList.drop 26).take p.sig.vals.toArray.size=p.sig.vals.toArray.toList:=by
  rw [QS,Sg.vals_length H0.fine.ok.2.2,H0.hX];exact (Qaf p H0.fine.ok fa fc pa pc).2.2.2.2.2
 have i1:(Tryz.prog.info? 45).map (·.size)=some p.cpu.vals.toArray.size:=by rw [QS,Cp.vals_length H0.fine.ok.1];exact Qbv
 have i2:(Tryz.prog.info? 45).map (·.size)=some p.saved.vals.toArray.size:=by rw [QS,Cp.vals_length H0.fine.ok.2.1];exact Qbv
 have i3:(Tryz.prog.info? 48).map (·.size)=some p.sig.vals.toArray.size:=by rw [QS,Sg.vals_length H0.fine.ok.2.2];exact Qez
 have e:=H0.eB;have k1:=QjT p.cpu H0.fine.ok.1;have k2:=QjT p.saved H0.fine.ok.2.1;have k3:=Qof p.sig H0.fine.ok.2.2;obtain ⟨v1,hv1⟩:∃ v,v=p.cpu.vals.toArray:=⟨_,rfl⟩;obtain ⟨v2,hv2⟩:∃ v,v=p.saved.vals.toArray:=⟨_,rfl⟩;obtain ⟨v3,hv3⟩:∃ v,v=p.sig.vals.toArray:=⟨_,rfl⟩;obtain ⟨z1,hz1⟩:∃ z,z=p.cpu.eq Cp.zero:=⟨_,rfl⟩;obtain ⟨z2,hz2⟩:∃ z,z=p.saved.eq Cp.zero:=⟨_,rfl⟩;obtain ⟨z3,hz3⟩:∃ z,z=p.sig.eq Sg.zero:=⟨_,rfl⟩;rw [← hv1] at eP1 i1 k1;rw [← hv2] at eP2 i2 k2;rw [← hv3] at eP3 i3 k3;rw [← hz1] at k1;rw [← hz2] at k2;rw [← hz3] at k3;obtain ⟨st,hst⟩:∃ x,x=p.state:=⟨_,rfl⟩;obtain ⟨wt,hwt⟩:∃ x,x=p.wait:=⟨_,rfl⟩;obtain ⟨pi,hpi⟩:∃ x,x=p.pipe:=⟨_,rfl⟩;obtain ⟨lf,hlf⟩:∃ x,x=p.left:=⟨_,rfl⟩;obtain ⟨n,hn⟩:∃ x,x=p.fds.length:=⟨_,rfl⟩;obtain ⟨m,hm⟩:∃ x,x=p.pages.length:=⟨_,rfl⟩;rw [← hst] at c2;rw [← hwt] at c45;rw [← hpi] at c46;rw [← hlf] at c50;rw [← hn] at c51;rw [← hm] at c54;have HG:Hid (Qa8 p=(z1&&z2&&z3&&(wt == 0)&&(pi == 0)&&(lf == 0)&&(n == 0)&&(m == 0))):=QQ (by unfold Qa8;rw [hz1,hz2,hz3,hwt,hpi,hlf,hn,hm]);have HST:=QQ hst;have EP:=QQ (QA eP1 (QA eP2 eP3));have KK:=QQ (QA k1 (QA k2 k3));have EE:=QQ e
 have nn:∀ x:Nat,((x:Int) == 0)=(x == 0):=fun x=>by rw [Bool.eq_iff_iff,beq_iff_eq,beq_iff_eq];omega
 have tn:=nn n;have tm:=nn m;clear hR hv1 hv2 hv3 hz1 hz2 hz3 hst hwt hpi hlf hn hm eP1 eP2 eP3 k1 k2 k3 e h H0 nn
 conv=>arg 2;whnf
 refine wp_seq_k (fun K aK=>?_);have AK:=QQ aK;clear aK
 cases t1:(st == 2) with
 | true =>
  have hs2:p.state=2:=by rw [← (QG HST)];simpa using t1
  have HS2:=QQ hs2;clear hs2
  go_wp2_with first
   | (refine Qai (by rfl) 45 (.tmp 47) rfl B 4 rfl _ v1 _ (QG EE) (QG EP).1 _ Tryz.underlying45 rfl i1 ?_)
   | (refine QcN (by rfl) .eql 45 _ (.tmp 48) (.tmp 49) rfl _ (run_eqGuard_agg _ _ _ _ _ _ _ QfH) ((QG KK).1 _) ?_;refine Qau ?_)
  unfold Qag
  cases z1 with
  | false =>
   go_wp2;go_ret;exact ⟨by rw [show R=_ from HR,if_pos (QG HS2),show Qa8 p=_ from HG] <;> rfl,Qad.below (QG H)⟩
  | true =>
   go_wp2_with first
    | (refine Qai (by rfl) 45 (.tmp 52) rfl B 15 rfl _ v2 _ (QG EE) (QG EP).2.1 _ Tryz.underlying45 rfl i2 ?_)
    | (refine QcN (by rfl) .eql 45 _ (.tmp 53) (.tmp 54) rfl _ (run_eqGuard_agg _ _ _ _ _ _ _ QfH) ((QG KK).2.1 _) ?_;refine Qau ?_)
   unfold Qag
   cases z2 with
   | false =>
    go_wp2;go_ret;exact ⟨by rw [show R=_ from HR,if_pos (QG HS2),show Qa8 p=_ from HG] <;> rfl,Qad.below (QG H)⟩
   | true =>
    go_wp2_with first
     | (refine Qai (by rfl) 48 (.tmp 58) rfl B 26 rfl _ v3 _ (QG EE) (QG EP).2.2 _ Tryz.underlying48 rfl i3 ?_)
     | (refine QcN (by rfl) .eql 48 _ (.tmp 59) (.tmp 60) rfl _ (run_eqGuard_agg _ _ _ _ _ _ _ Qjk) ((QG KK).2.2 _) ?_;refine Qau ?_)
    unfold Qag
    cases z3 with
    | false =>
     go_wp2;go_ret;exact ⟨by rw [show R=_ from HR,if_pos (QG HS2),show Qa8 p=_ from HG] <;> rfl,Qad.below (QG H)⟩
    | true =>
     cases t4':(wt == 0) with
     | false =>
      go_wp2;go_ret;exact ⟨by rw [show R=_ from HR,if_pos (QG HS2),show Qa8 p=_ from HG,t4'] <;> rfl,Qad.below (QG H)⟩
     | true =>
      cases t5':(pi == 0) with
      | false =>
       go_wp2;go_ret;exact ⟨by rw [show R=_ from HR,if_pos (QG HS2),show Qa8 p=_ from HG,t4',t5'] <;> rfl,Qad.below (QG H)⟩
      | true =>
       cases t6':(lf == 0) with
       | false =>
        go_wp2;go_ret;exact ⟨by rw [show R=_ from HR,if_pos (QG HS2),show Qa8 p=_ from HG,t4',t5',t6'] <;> rfl,Qad.below (QG H)⟩
       | true =>
        cases t7':(n == 0) with
        | false =>
         rw [t7'] at tn;go_wp2;go_ret;exact ⟨by rw [show R=_ from HR,if_pos (QG HS2),show Qa8 p=_ from HG,t4',t5',t6',t7'] <;> rfl,Qad.below (QG H)⟩
        | true =>
         rw [t7'] at tn
         cases t8':(m == 0) with
         | false =>
          rw [t8'] at tm;go_wp2;go_ret;exact ⟨by rw [show R=_ from HR,if_pos (QG HS2),show Qa8 p=_ from HG,t4',t5',t6',t7',t8'] <;> rfl,Qad.below (QG H)⟩
         | true =>
          rw [t8'] at tm;go_wp2;go_ret;exact ⟨by rw [show R=_ from HR,if_pos (QG HS2),show Qa8 p=_ from HG,t4',t5',t6',t7',t8'] <;> rfl,Qad.below (QG H)⟩
 | false =>
  have hs2:¬ p.state=2:=by rw [← (QG HST)];simpa using t1
  have HS2:=QQ hs2;clear hs2;go_wp2;refine (QG AK) _ _ ?_;rw [show R=_ from HR,if_neg (QG HS2)];apply Qqr W p fa fc pa pc X B;exact (QG H)
theorem Qio (q:Pr × QcJ) (hf:q.1.Fine) (W:World) (h1:Qc W.heap.size W q.2.fa q.1.fds.length q.2.fc (q.1.fds.map (Value.int .i64))) (h2:Qc W.heap.size W q.2.pa q.1.pages.length q.2.pc (q.1.pages.flatMap Pg.vals)) :
  Calls Tryz.prog 100 #[.agg (QaP q).toArray] W fun e W'=>e=.returned (.bool (Qbj q.1))∧Below W.heap.size W W':=by
 obtain ⟨p,⟨fa,fc,pa,pc⟩⟩:=q;obtain ⟨X,hX⟩:∃ X,X=(QaP (p,⟨fa,fc,pa,pc⟩)).toArray:=⟨_,rfl⟩;obtain ⟨R,hR⟩:∃ R,R=Qbj p:=⟨_,rfl⟩;obtain ⟨rest,hrest⟩:∃ b,b=(if p.state=2 then Qa8 p else Qbq p):=⟨_,rfl⟩;rw [← hX,← hR]
 have hR2:R=(!(decide (p.pid<1))&&!(decide (p.pid > 65535))&&!(decide (p.parent<0))&&!(decide (p.parent > 65535))&&rest):=by
  rw [hR,hrest];unfold Qbj;rw [Bool.eq_iff_iff];simp only [Bool.and_eq_true,Bool.not_eq_true',decide_eq_true_eq,decide_eq_false_iff_not];constructor
  ·rintro ⟨⟨h1,h2⟩,h3⟩;exact ⟨⟨⟨⟨by omega,by omega⟩,by omega⟩,by omega⟩,h3⟩
  ·rintro ⟨⟨⟨⟨h1,h2⟩,h4⟩,h5⟩,h3⟩;exact ⟨⟨by omega,by omega⟩,h3⟩
 obtain ⟨pid,hpid⟩:∃ x,x=p.pid:=⟨_,rfl⟩;obtain ⟨par,hpar⟩:∃ x,x=p.parent:=⟨_,rfl⟩;rw [← hpid,← hpar] at hR2;have HR:=QQ hR2;have HREST:=QQ hrest;have HH:=QQ (QA hf (QA hX (QA h1 (QA h2 (QA hpid hpar)))));clear hR hR2 hrest hX hf h1 h2 hpid hpar;go_enter Tryz.func100,Tryz.ntmps100;refine wp_seq_k (fun K aK=>?_);have AK:=QQ aK;clear aK;go_wp2;refine (QG AK) _ _ ?_;clear AK K;refine wp_seq_k (fun K aK=>?_);have AK:=QQ aK;clear aK;obtain ⟨hf,hX,h1,h2,hpid,hpar⟩:=(QG HH);obtain ⟨V,hV⟩:∃ V,V=W.alloc (.cells X 54):=⟨_,rfl⟩;have H0:Qad W (p,⟨fa,fc,pa,pc⟩) X W.heap.size V:=⟨hf,hX,rfl,by rw [hV];exact QW _ _,by rw [hV];exact (QB _ _).alloc (QN _) _,h1,h2⟩;rw [← hV];have H:=QQ H0;have c0:=Qad.cell H0 (Qaf p (Qad.fine H0).ok fa fc pa pc).1.1;have c1:=Qad.cell H0 (Qaf p (Qad.fine H0).ok fa fc pa pc).1.2.1;have c47:=Qad.cell H0 (Qaf p (Qad.fine H0).ok fa fc pa pc).2.1.2.2.1;have c48:=Qad.cell H0 (Qaf p (Qad.fine H0).ok fa fc pa pc).2.1.2.2.2.1;have c49:=Qad.cell H0 (Qaf p (Qad.fine H0).ok fa fc pa pc).2.1.2.2.2.2;have c52:=Qad.cell H0 (Qaf p (Qad.fine H0).ok fa fc pa pc).2.2.1.2.2.1;have c53:=Qad.cell H0 (Qaf p (Qad.fine H0).ok fa fc pa pc).2.2.1.2.2.2.1;rw [← hpid] at c0;rw [← hpar] at c1;clear hf hX h1 h2 hpid hpar hV H0
 cases t1:decide (pid<1) with
 | true =>
  go_wp2;go_ret;exact ⟨by rw [show R=_ from HR,t1] <;> rfl,Qad.below (QG H)⟩
 | false =>
  cases t2:decide (pid > 65535) with
  | true =>
   go_wp2;go_ret;exact ⟨by rw [show R=_ from HR,t1,t2] <;> rfl,Qad.below (QG H)⟩
  | false =>
   cases t3:decide (par<0) with
   | true =>
    go_wp2;go_ret;exact ⟨by rw [show R=_ from HR,t1,t2,t3] <;> rfl,Qad.below (QG H)⟩
   | false =>
    cases t4:decide (par > 65535) with
    | true =>
     go_wp2;go_ret;exact ⟨by rw [show R=_ from HR,t1,t2,t3,t4] <;> rfl,Qad.below (QG H)⟩
    | false =>
     go_wp2;refine (QG AK) _ _ ?_
     have hR3:(if p.state=2 then Qa8 p else Qbq p)=R:=by rw [show R=_ from HR,t1,t2,t3,t4,show rest=_ from HREST] <;> rfl
     have hg:=Qqq W p fa fc pa pc X W.heap.size undef undef undef;unfold Qc4 at hg;rw [hR3] at hg;apply hg;exact (QG H)
theorem Qie {α:Type} {f:α→Bool} {l:List α} {q:α} (hm:q∈l) (h:f q=false):l.all f=false:=by
 rw [Bool.eq_false_iff,ne_eq,List.all_eq_true]
 exact fun hh=>by have:=hh q hm;rw [h] at this;cases this
theorem Qe6 {α:Type} {f:α→Bool} {l:List α} {k:Nat} (hk:k<l.length) (h1:(l.take k).all f=true) (h:f l[k]=true):(l.take (k+1)).all f=true:=by
 rw [List.take_succ_eq_append_getElem hk,List.all_append,h1,List.all_cons,h];rfl
theorem Qnv:(Tryz.prog.info? 50).map (·.size)=some 3:=by kernel_rfl
def MyQ (W:World) (R:Bool):Exit→Act→World→Prop:=bodyPost Tryz.prog Tryz.f69 fun e W'=>e=.returned (.bool R)∧Below W.heap.size W W'
def Qhd (W:World) (x:Mem) (s:Sl5) (X:Array Value) (B:Nat) (c:Code) (R:Bool):Prop :=
 ∀ (t3 t4 t5 t6 t7 t8 t9 t10 t11 u12 u13 u14 u15 u16 u17 u18 u19 u20 u21 u22 u23 u24 u25 u26 u27 u28 u29 u30 u31 u32 u33 u34 u35 u36 u37 u38 u39 u40 u41 u42 u43 u44 u45 u46 u47 u48 u49 u50 u51 u52 u53 u54 u55 u56 u57 u58 u59 u60 u61 u62 u63 u64 u65 u66 u67 u68 u69 u70 u71 u72 u73 u74 u75 u76 u77 u78 u79 u80 u81 u82 u83 u84 u85 u86 u87 u88 u89 u90 u91 u92 u93 u94 u95 u96 u97 u98 u99 u100 u101 u102 u103 u104 u105 u106 u107 u108 u109 u110 u111 u112 u113 u114 u115 u116 u117 u118 u119 u120 u121 u122 u123 u124 u125 u126 u127 u128 u129 u130 u131 u132 u133 u134 u135 u136 u137 u138 u139 u140 u141 u142 u143 u144 u145 u146 u147 u148 u149 u150 u151 u152 u153 u154 u155 u156 u157 u158 u159 u160 u161 u162 u163 u164 u165 u166:Value) (V:World),Qa1 W x s X B V→c.wp Tryz.prog (MyQ W R) { tmps:=#[.agg X,.pointer (some ⟨B,0,none⟩),.bool false,t3,t4,t5,t6,t7,t8,t9,t10,t11,u12,u13,u14,u15,u16,u17,u18,u19,u20,u21,u22,u23,u24,u25,u26,u27,u28,u29,u30,u31,u32,u33,u34,u35,u36,u37,u38,u39,u40,u41,u42,u43,u44,u45,u46,u47,u48,u49,u50,u51,u52,u53,u54,u55,u56,u57,u58,u59,u60,u61,u62,u63,u64,u65,u66,u67,u68,u69,u70,u71,u72,u73,u74,u75,u76,u77,u78,u79,u80,u81,u82,u83,u84,u85,u86,u87,u88,u89,u90,u91,u92,u93,u94,u95,u96,u97,u98,u99,u100,u101,u102,u103,u104,u105,u106,u107,u108,u109,u110,u111,u112,u113,u114,u115,u116,u117,u118,u119,u120,u121,u122,u123,u124,u125,u126,u127,u128,u129,u130,u131,u132,u133,u134,u135,u136,u137,u138,u139,u140,u141,u142,u143,u144,u145,u146,u147,u148,u149,u150,u151,u152,u153,u154,u155,u156,u157,u158,u159,u160,u161,u162,u163,u164,u165,u166],defers:=[] } V
theorem QqF (W:World) (x:Mem) (s:Sl5) (X:Array Value) (B:Nat) :
  Qhd W x s X B (tl 6 (Tryz.f69.body.getD .skip)) (x.K.all QbU):=by
 iterate 164 intro
 intro V h;have H:=QQ h;obtain ⟨R,hR⟩:∃ R,R=(x.K.all QbU):=⟨_,rfl⟩;rw [← hR];have HR:=QQ hR
 have hsm:x.K.length≤20000:=by have:=h.fine.small;simp only [Mem.im,QM] at this;exact this.2.2.2.2
 have HP:=QQ (fun (V:World) (hV:Below W.heap.size W V) (k:Nat) (hk:k<x.K.length)=>QbP (m:=4) h.at_.K rfl (fun _ _=>rfl) hV k hk);clear hR h;obtain ⟨n,hn⟩:∃ n,n=x.K.length:=⟨_,rfl⟩;have HN:=QQ hn;rw [← hn] at hsm;clear hn
 conv=>arg 2;whnf
 refine wp_seq_k (fun K aK=>?_);have AK:=QQ aK;clear aK;go_wp2;go_loopw [2,9,10,11] (fun r0 i _ _ wr=>∃ (k:Nat),r0=.bool false∧i=.int .i64 (k:Int)∧k≤n∧Hid ((x.K.take k).all QbU=true)∧Qa1 W x s X B wr) (fun _ i _ _ _=>n-(intOf i).toNat)
 case atStart=>exact ⟨0,rfl,rfl,Nat.zero_le _,rfl,H⟩
 case round =>
  clear H;obtain ⟨k,rfl,rfl,hk,hall,inv⟩:=hrel;have H:=QQ inv;have c4:=inv.cell (i:=4) rfl;rw [show x.K.length=n from (QG HN).symm] at c4
  rcases Nat.lt_or_ge k n with hx | hx
  rotate_left
  ·have t1:decide ((k:Int)<(n:Int))=false:=by simp;omega
   have h8:(x.K.take k).all QbU=true:=hall;rw [List.take_of_length_le (by rw [← (QG HN)];exact hx)] at h8;have H8:=QQ h8;clear inv hall h8;go_wp2;refine (QG AK) _ _ ?_;go_wp2;go_ret;exact ⟨by rw [show R=_ from HR,show x.K.all QbU=true from H8] <;> rfl,Qa1.below (QG H)⟩
  have t1:decide ((k:Int)<(n:Int))=true:=by simp;omega
  have t0:(k:Int)<(n:Int):=by omega
  have hx2:k<x.K.length:=by rw [← (QG HN)];exact hx
  obtain ⟨b,off,ha,hbn,e⟩:=(QG HP) wr inv.below k hx2;obtain ⟨sa,hsa⟩:∃ sa,sa=s.k.1:=⟨_,rfl⟩;rw [← hsa] at ha c4;have HSA:=QQ hsa;subst ha;clear hsa;have hsz:=inv.below.size;obtain ⟨q,hq⟩:∃ q,q=x.K[k]:=⟨_,rfl⟩;rw [← hq] at e
  have hmem:q∈x.K:=by rw [hq];exact List.getElem_mem hx2
  have hno:QbU q=false→R=false:=fun h=>by
   rw [show R=_ from HR,Qie hmem h] <;> rfl
  have hyes:QbU q=true→(x.K.take (k+1)).all QbU=true:=fun h=>Qe6 hx2 hall (by rw [← hq];exact h)
  have HNO:=QQ hno;have HYES:=QQ hyes;obtain ⟨pid,kp,kf,ko⟩:=q;have e':∀ j v,([.int .i64 pid,.int .i64 kp,.int .i64 kf,.int .i64 ko]:List Value)[j]?=some v→wr.cell? ⟨b,off+k*4+j,none⟩=some v:=e;obtain ⟨r,hr⟩:∃ r,r=Qed kp kf ko:=⟨_,rfl⟩
  have hq1:QbU ⟨pid,kp,kf,ko⟩=(!(decide (pid<1))&&!(decide (pid > 65535))&&!(decide (kp > 65535))&&r):=by
   unfold QbU;rw [← hr,Bool.eq_iff_iff];simp only [Bool.and_eq_true,Bool.not_eq_true',decide_eq_true_eq,decide_eq_false_iff_not];constructor
   ·rintro ⟨⟨h1,h2⟩,h3⟩;exact ⟨⟨⟨by omega,by omega⟩,by omega⟩,h3⟩
   ·rintro ⟨⟨⟨h1,h2⟩,h4⟩,h3⟩;exact ⟨⟨by omega,by omega⟩,h3⟩
  have HQ:=QQ hq1;clear hq hno hyes hall inv hq1 hmem e
  go_wp2_with first
   | (refine QaC (by rfl) 80 (.tmp 144) rfl b (off+k*4) rfl [.int .i64 pid,.int .i64 kp,.int .i64 kf,.int .i64 ko] _ e' Tryz.underlying80 rfl QcL ?_)
   | ((fail_if_success (unfold Qag));refine Qan (t:=80) rfl ?_)
  unfold Qag;refine Qab rfl 80 (.tmp 10) (.tmp 145) rfl wr.heap.size #[.int .i64 pid,.int .i64 kp,.int .i64 kf,.int .i64 ko] rfl rfl 80 _ (QW _ _) QcL rfl (by simp [Value.oneCell']) ?_;rw [World.setRow_alloc_new];obtain ⟨V1,hV1⟩:∃ V,V=wr.alloc (.cells #[.int .i64 pid,.int .i64 kp,.int .i64 kf,.int .i64 ko] 80):=⟨_,rfl⟩
  have eV1:V1.heap[wr.heap.size]?=some (.cells #[.int .i64 pid,.int .i64 kp,.int .i64 kf,.int .i64 ko] 80):=by rw [hV1];exact QW _ _
  have bV1:Below wr.heap.size wr V1:=by rw [hV1];exact (QB _ _).alloc (QN _) _
  have lD:wr.heap.size<V1.heap.size:=(QI.1 eV1).1;have H2:=QQ (Qa1.grow (QG H) bV1);rw [← hV1]
  have hcE:∀ j v,([.int .i64 kp,.int .i64 kf,.int .i64 ko]:List Value)[j]?=some v→V1.cell? ⟨wr.heap.size,1+j,none⟩=some v:=fun j v hj=>by
   rw [cell_of_row V1 _ (1+j) _ _ _ eV1,List.getElem?_toArray,Nat.add_comm,List.getElem?_cons_succ];exact hj
  have kk:=QnW kp kf ko V1;rw [← hr] at kk;have EV:=QQ eV1;clear hV1 eV1 bV1 e' c4 hr
  go_wp2_with first
   | (go_at_call 101;refine Qau ?_)
   | (refine QaC (by rfl) 50 (.tmp 146) rfl wr.heap.size 1 rfl [.int .i64 kp,.int .i64 kf,.int .i64 ko] _ hcE Tryz.underlying50 rfl Qnv ?_)
  unfold Qag;refine kk.mono ?_;rintro e9 w2 ⟨rfl,b2⟩;have eW:w2.heap[wr.heap.size]?=some (.cells #[.int .i64 pid,.int .i64 kp,.int .i64 kf,.int .i64 ko] 80):=(b2.block _ lD).trans EV
  have d0:w2.cell? ⟨wr.heap.size,0,none⟩=some (.int .i64 pid):=by rw [cell_of_row w2 _ 0 _ _ _ eW];rfl
  have d1:w2.cell? ⟨wr.heap.size,1,none⟩=some (.int .i64 kp):=by rw [cell_of_row w2 _ 1 _ _ _ eW];rfl
  have H3:=QQ (Qa1.grow (QG H2) b2);clear kk b2 hcE eW
  cases t2:decide (pid<1) with
  | true =>
   go_wp2;go_ret;exact ⟨by rw [(QG HNO) (by rw [show QbU ⟨pid,kp,kf,ko⟩=_ from HQ,t2] <;> rfl)] <;> rfl,Qa1.below (QG H3)⟩
  | false =>
   cases t3':decide (pid > 65535) with
   | true =>
    go_wp2;go_ret;exact ⟨by rw [(QG HNO) (by rw [show QbU ⟨pid,kp,kf,ko⟩=_ from HQ,t2,t3'] <;> rfl)] <;> rfl,Qa1.below (QG H3)⟩
   | false =>
    cases t4':decide (kp > 65535) with
    | true =>
     go_wp2;go_ret;exact ⟨by rw [(QG HNO) (by rw [show QbU ⟨pid,kp,kf,ko⟩=_ from HQ,t2,t3',t4'] <;> rfl)] <;> rfl,Qa1.below (QG H3)⟩
    | false =>
     cases r with
     | false =>
      go_wp2;go_ret;exact ⟨by rw [(QG HNO) (by rw [show QbU ⟨pid,kp,kf,ko⟩=_ from HQ,t2,t3',t4'] <;> rfl)] <;> rfl,Qa1.below (QG H3)⟩
     | true =>
      go_wp2;go_roundw
      case rel=>exact ⟨k+1,rfl,by go_num,by omega,(QG HYES) (by rw [show QbU ⟨pid,kp,kf,ko⟩=_ from HQ,t2,t3',t4'] <;> rfl),(QG H3)⟩
      case measure=>simp [intOf];omega
theorem QqE (W:World) (x:Mem) (s:Sl5) (X:Array Value) (B:Nat) :
  Qhd W x s X B (tl 5 (Tryz.f69.body.getD .skip)) (x.F.all Qce&&(x.K.all QbU)):=by
 intro t3
 iterate 163 intro
 intro V h;have H:=QQ h;obtain ⟨R,hR⟩:∃ R,R=(x.F.all Qce&&(x.K.all QbU)):=⟨_,rfl⟩;rw [← hR];have HR:=QQ hR
 have hsm:x.F.length≤20000:=by have:=h.fine.small;simp only [Mem.im,QM] at this;exact this.2.2.2.1
 have HP:=QQ (fun (V:World) (hV:Below W.heap.size W V) (k:Nat) (hk:k<x.F.length)=>QbP (m:=2) h.at_.F rfl (fun _ _=>rfl) hV k hk);clear hR h;obtain ⟨n,hn⟩:∃ n,n=x.F.length:=⟨_,rfl⟩;have HN:=QQ hn;rw [← hn] at hsm;clear hn
 conv=>arg 2;whnf
 refine wp_seq_k (fun K aK=>?_);have AK:=QQ aK;clear aK;go_wp2;go_loopw [2,8] (fun r0 i  wr=>∃ (k:Nat),r0=.bool false∧i=.int .i64 (k:Int)∧k≤n∧Hid ((x.F.take k).all Qce=true)∧Qa1 W x s X B wr) (fun _ i  _=>n-(intOf i).toNat)
 case atStart=>exact ⟨0,rfl,rfl,Nat.zero_le _,rfl,H⟩
 case round =>
  clear H;obtain ⟨k,rfl,rfl,hk,hall,inv⟩:=hrel;have H:=QQ inv;have c3:=inv.cell (i:=3) rfl;rw [show x.F.length=n from (QG HN).symm] at c3
  rcases Nat.lt_or_ge k n with hx | hx
  rotate_left
  ·have t1:decide ((k:Int)<(n:Int))=false:=by simp;omega
   have h8:(x.F.take k).all Qce=true:=hall;rw [List.take_of_length_le (by rw [← (QG HN)];exact hx)] at h8;have H8:=QQ h8;clear inv hall h8;go_wp2;refine (QG AK) _ _ ?_
   have hR2:R=(x.K.all QbU):=by rw [show R=_ from HR,show x.F.all Qce=true from H8];rfl
   rw [hR2];apply QqF W x s X B;exact H
  have t1:decide ((k:Int)<(n:Int))=true:=by simp;omega
  have t0:(k:Int)<(n:Int):=by omega
  have hx2:k<x.F.length:=by rw [← (QG HN)];exact hx
  obtain ⟨b,off,ha,hbn,e⟩:=(QG HP) wr inv.below k hx2;obtain ⟨sa,hsa⟩:∃ sa,sa=s.f.1:=⟨_,rfl⟩;rw [← hsa] at ha c3;have HSA:=QQ hsa;subst ha;clear hsa;have hsz:=inv.below.size;obtain ⟨q,hq⟩:∃ q,q=x.F[k]:=⟨_,rfl⟩;rw [← hq] at e
  have hmem:q∈x.F:=by rw [hq];exact List.getElem_mem hx2
  have hno:Qce q=false→R=false:=fun h=>by
   rw [show R=_ from HR,Qie hmem h] <;> rfl
  have hyes:Qce q=true→(x.F.take (k+1)).all Qce=true:=fun h=>Qe6 hx2 hall (by rw [← hq];exact h)
  have HNO:=QQ hno;have HYES:=QQ hyes;obtain ⟨z,bb⟩:=q;have e0:wr.cell? ⟨b,off+k*2,none⟩=some (.int .i64 z):=e 0 _ rfl
  have hq1:Qce (z,bb)=(!(decide (z<0))&&!(decide (z > 15))):=by
   unfold Qce;rw [Bool.eq_iff_iff];simp only [Bool.and_eq_true,Bool.not_eq_true',decide_eq_true_eq,decide_eq_false_iff_not];omega
  have HQ:=QQ hq1;clear hq hno hyes hall inv hq1 hmem e
  cases t2:decide (z<0) with
  | true =>
   go_wp2;go_ret;exact ⟨by rw [(QG HNO) (by rw [show Qce (z,bb)=_ from HQ,t2] <;> rfl)] <;> rfl,Qa1.below (QG H)⟩
  | false =>
   cases t3:decide (z > 15) with
   | true =>
    go_wp2;go_ret;exact ⟨by rw [(QG HNO) (by rw [show Qce (z,bb)=_ from HQ,t2,t3] <;> rfl)] <;> rfl,Qa1.below (QG H)⟩
   | false =>
    go_wp2;go_roundw
    case rel=>exact ⟨k+1,rfl,by go_num,by omega,(QG HYES) (by rw [show Qce (z,bb)=_ from HQ,t2,t3] <;> rfl),(QG H)⟩
    case measure=>simp [intOf];omega
theorem QqD (W:World) (x:Mem) (s:Sl5) (X:Array Value) (B:Nat) :
  Qhd W x s X B (tl 4 (Tryz.f69.body.getD .skip)) (x.B.all (fun q:Pp × (Option Addr × Nat)=>QbK q.1)&&(x.F.all Qce&&(x.K.all QbU))):=by
 iterate 164 intro
 intro V h;have H:=QQ h;obtain ⟨R,hR⟩:∃ R,R=(x.B.all (fun q:Pp × (Option Addr × Nat)=>QbK q.1)&&(x.F.all Qce&&(x.K.all QbU))):=⟨_,rfl⟩;rw [← hR];have HR:=QQ hR
 have hsm:x.B.length≤20000:=by have:=h.fine.small;simp only [Mem.im,QM] at this;exact this.2.2.1
 have HP:=QQ (fun (V:World) (hV:Below W.heap.size W V) (k:Nat) (hk:k<x.B.length)=>QbP (m:=3) h.at_.B rfl (fun _ _=>rfl) hV k hk);clear hR h;obtain ⟨n,hn⟩:∃ n,n=x.B.length:=⟨_,rfl⟩;have HN:=QQ hn;rw [← hn] at hsm;clear hn
 conv=>arg 2;whnf
 refine wp_seq_k (fun K aK=>?_);have AK:=QQ aK;clear aK;go_wp2;go_loopw [2,6,7] (fun r0 i _ wr=>∃ (k:Nat),r0=.bool false∧i=.int .i64 (k:Int)∧k≤n∧Hid ((x.B.take k).all (fun q:Pp × (Option Addr × Nat)=>QbK q.1)=true)∧Qa1 W x s X B wr) (fun _ i _ _=>n-(intOf i).toNat)
 case atStart=>exact ⟨0,rfl,rfl,Nat.zero_le _,rfl,H⟩
 case round =>
  clear H;obtain ⟨k,rfl,rfl,hk,hall,inv⟩:=hrel;have H:=QQ inv;have c2:=inv.cell (i:=2) rfl;rw [show x.B.length=n from (QG HN).symm] at c2
  rcases Nat.lt_or_ge k n with hx | hx
  rotate_left
  ·have t1:decide ((k:Int)<(n:Int))=false:=by simp;omega
   have h8:(x.B.take k).all (fun q:Pp × (Option Addr × Nat)=>QbK q.1)=true:=hall;rw [List.take_of_length_le (by rw [← (QG HN)];exact hx)] at h8;have H8:=QQ h8;clear inv hall h8;go_wp2;refine (QG AK) _ _ ?_
   have hR2:R=(x.F.all Qce&&(x.K.all QbU)):=by rw [show R=_ from HR,show x.B.all (fun q:Pp × (Option Addr × Nat)=>QbK q.1)=true from H8];rfl
   rw [hR2];apply QqE W x s X B;exact H
  have t1:decide ((k:Int)<(n:Int))=true:=by simp;omega
  have t0:(k:Int)<(n:Int):=by omega
  have hx2:k<x.B.length:=by rw [← (QG HN)];exact hx
  obtain ⟨b,off,ha,hbn,e⟩:=(QG HP) wr inv.below k hx2;obtain ⟨sa,hsa⟩:∃ sa,sa=s.b.1:=⟨_,rfl⟩;rw [← hsa] at ha c2;have HSA:=QQ hsa;subst ha;clear hsa;have hsz:=inv.below.size;obtain ⟨q,hq⟩:∃ q,q=x.B[k]:=⟨_,rfl⟩;rw [← hq] at e
  have hmem:q∈x.B:=by rw [hq];exact List.getElem_mem hx2
  have hno:(fun q:Pp × (Option Addr × Nat)=>QbK q.1) q=false→R=false:=fun h=>by
   rw [show R=_ from HR,Qie hmem h] <;> rfl
  have hyes:(fun q:Pp × (Option Addr × Nat)=>QbK q.1) q=true→(x.B.take (k+1)).all (fun q:Pp × (Option Addr × Nat)=>QbK q.1)=true:=fun h=>Qe6 hx2 hall (by rw [← hq];exact h)
  have HNO:=QQ hno;have HYES:=QQ hyes;obtain ⟨⟨bs,rd,wt⟩,⟨qa,qc⟩⟩:=q;have e':∀ j v,([.slice qa bs.length qc,.int .i64 rd,.int .i64 wt]:List Value)[j]?=some v→wr.cell? ⟨b,off+k*3+j,none⟩=some v:=e;obtain ⟨m,hm⟩:∃ m,m=bs.length:=⟨_,rfl⟩;rw [← hm] at e'
  have hq1:QbK ⟨bs,rd,wt⟩=(!(decide ((m:Int) > 64))&&!(decide (rd<0))&&!(decide (rd > 64))&&!(decide (wt<0))&&!(decide (wt > 64))):=by
   unfold QbK;rw [Bool.eq_iff_iff];simp only [Bool.and_eq_true,Bool.not_eq_true',decide_eq_true_eq,decide_eq_false_iff_not];omega
  have HQ:=QQ hq1;clear hq hno hyes hall inv hq1 hmem e hm
  go_wp2_with first
   | (refine QaC (by rfl) 68 (.tmp 85) rfl b (off+k*3) rfl [.slice qa m qc,.int .i64 rd,.int .i64 wt] _ e' Tryz.underlying68 rfl Qds ?_)
   | ((fail_if_success (unfold Qag));refine Qan (t:=68) rfl ?_)
  unfold Qag;refine Qab rfl 68 (.tmp 7) (.tmp 86) rfl wr.heap.size #[.slice qa m qc,.int .i64 rd,.int .i64 wt] rfl rfl 68 _ (QW _ _) Qds rfl (by simp [Value.oneCell']) ?_;rw [World.setRow_alloc_new];obtain ⟨V1,hV1⟩:∃ V,V=wr.alloc (.cells #[.slice qa m qc,.int .i64 rd,.int .i64 wt] 68):=⟨_,rfl⟩
  have eV1:V1.heap[wr.heap.size]?=some (.cells #[.slice qa m qc,.int .i64 rd,.int .i64 wt] 68):=by rw [hV1];exact QW _ _
  have bV1:Below wr.heap.size wr V1:=by rw [hV1];exact (QB _ _).alloc (QN _) _
  have H2:=QQ (Qa1.grow (QG H) bV1);rw [← hV1]
  have d0:V1.cell? ⟨wr.heap.size,0,none⟩=some (.slice qa m qc):=by rw [cell_of_row V1 _ 0 _ _ _ eV1];rfl
  have d1:V1.cell? ⟨wr.heap.size,1,none⟩=some (.int .i64 rd):=by rw [cell_of_row V1 _ 1 _ _ _ eV1];rfl
  have d2:V1.cell? ⟨wr.heap.size,2,none⟩=some (.int .i64 wt):=by rw [cell_of_row V1 _ 2 _ _ _ eV1];rfl
  clear hV1 eV1 bV1 e' c2
  cases t2:decide ((m:Int) > 64) with
  | true =>
   go_wp2;go_ret;exact ⟨by rw [(QG HNO) (by show QbK ⟨bs,rd,wt⟩=_;rw [show QbK ⟨bs,rd,wt⟩=_ from HQ,t2] <;> rfl)] <;> rfl,Qa1.below (QG H2)⟩
  | false =>
   cases t3':decide (rd<0) with
   | true =>
    go_wp2;go_ret;exact ⟨by rw [(QG HNO) (by show QbK ⟨bs,rd,wt⟩=_;rw [show QbK ⟨bs,rd,wt⟩=_ from HQ,t2,t3'] <;> rfl)] <;> rfl,Qa1.below (QG H2)⟩
   | false =>
    cases t4':decide (rd > 64) with
    | true =>
     go_wp2;go_ret;exact ⟨by rw [(QG HNO) (by show QbK ⟨bs,rd,wt⟩=_;rw [show QbK ⟨bs,rd,wt⟩=_ from HQ,t2,t3',t4'] <;> rfl)] <;> rfl,Qa1.below (QG H2)⟩
    | false =>
     cases t5':decide (wt<0) with
     | true =>
      go_wp2;go_ret;exact ⟨by rw [(QG HNO) (by show QbK ⟨bs,rd,wt⟩=_;rw [show QbK ⟨bs,rd,wt⟩=_ from HQ,t2,t3',t4',t5'] <;> rfl)] <;> rfl,Qa1.below (QG H2)⟩
     | false =>
      cases t6':decide (wt > 64) with
      | true =>
       go_wp2;go_ret;exact ⟨by rw [(QG HNO) (by show QbK ⟨bs,rd,wt⟩=_;rw [show QbK ⟨bs,rd,wt⟩=_ from HQ,t2,t3',t4',t5',t6'] <;> rfl)] <;> rfl,Qa1.below (QG H2)⟩
      | false =>
       go_wp2;go_roundw
       case rel=>exact ⟨k+1,rfl,by go_num,by omega,(QG HYES) (by show QbK ⟨bs,rd,wt⟩=_;rw [show QbK ⟨bs,rd,wt⟩=_ from HQ,t2,t3',t4',t5',t6'] <;> rfl),(QG H2)⟩
       case measure=>simp [intOf];omega
theorem QqC (W:World) (x:Mem) (s:Sl5) (X:Array Value) (B:Nat) :
  Qhd W x s X B (tl 3 (Tryz.f69.body.getD .skip)) (x.O.all (fun o:List Int=>o.length == 64)&&(x.B.all (fun q:Pp × (Option Addr × Nat)=>QbK q.1)&&(x.F.all Qce&&(x.K.all QbU)))):=by
 iterate 164 intro
 intro V h;have H:=QQ h;obtain ⟨R,hR⟩:∃ R,R=(x.O.all (fun o:List Int=>o.length == 64)&&(x.B.all (fun q:Pp × (Option Addr × Nat)=>QbK q.1)&&(x.F.all Qce&&(x.K.all QbU)))):=⟨_,rfl⟩;rw [← hR];have HR:=QQ hR
 have hsm:x.O.length≤20000:=by have:=h.fine.small;simp only [Mem.im,QM] at this;exact this.2.1
 have HP:=QQ (fun (V:World) (hV:Below W.heap.size W V) (k:Nat) (hk:k<x.O.length)=>QbP (m:=1) h.at_.O rfl (fun _ _=>rfl) hV k hk);clear hR h;obtain ⟨n,hn⟩:∃ n,n=x.O.length:=⟨_,rfl⟩;have HN:=QQ hn;rw [← hn] at hsm;clear hn
 conv=>arg 2;whnf
 refine wp_seq_k (fun K aK=>?_);have AK:=QQ aK;clear aK;go_wp2;go_loopw [2,5] (fun r0 i  wr=>∃ (k:Nat),r0=.bool false∧i=.int .i64 (k:Int)∧k≤n∧Hid ((x.O.take k).all (fun o:List Int=>o.length == 64)=true)∧Qa1 W x s X B wr) (fun _ i  _=>n-(intOf i).toNat)
 case atStart=>exact ⟨0,rfl,rfl,Nat.zero_le _,rfl,H⟩
 case round =>
  clear H;obtain ⟨k,rfl,rfl,hk,hall,inv⟩:=hrel;have H:=QQ inv;have c1:=inv.cell (i:=1) rfl;rw [show x.O.length=n from (QG HN).symm] at c1
  rcases Nat.lt_or_ge k n with hx | hx
  rotate_left
  ·have t1:decide ((k:Int)<(n:Int))=false:=by simp;omega
   have h8:(x.O.take k).all (fun o:List Int=>o.length == 64)=true:=hall;rw [List.take_of_length_le (by rw [← (QG HN)];exact hx)] at h8;have H8:=QQ h8;clear inv hall h8;go_wp2;refine (QG AK) _ _ ?_
   have hR2:R=(x.B.all (fun q:Pp × (Option Addr × Nat)=>QbK q.1)&&(x.F.all Qce&&(x.K.all QbU))):=by rw [show R=_ from HR,show x.O.all (fun o:List Int=>o.length == 64)=true from H8];rfl
   rw [hR2];apply QqD W x s X B;exact H
  have t1:decide ((k:Int)<(n:Int))=true:=by simp;omega
  have t0:(k:Int)<(n:Int):=by omega
  have hx2:k<x.O.length:=by rw [← (QG HN)];exact hx
  obtain ⟨b,off,ha,hbn,e⟩:=(QG HP) wr inv.below k hx2;obtain ⟨sa,hsa⟩:∃ sa,sa=s.o.1:=⟨_,rfl⟩;rw [← hsa] at ha c1;have HSA:=QQ hsa;subst ha;clear hsa;have hsz:=inv.below.size;obtain ⟨q,hq⟩:∃ q,q=x.O[k]:=⟨_,rfl⟩;rw [← hq] at e
  have hmem:q∈x.O:=by rw [hq];exact List.getElem_mem hx2
  have hno:(fun o:List Int=>o.length == 64) q=false→R=false:=fun h=>by
   rw [show R=_ from HR,Qie hmem h] <;> rfl
  have hyes:(fun o:List Int=>o.length == 64) q=true→(x.O.take (k+1)).all (fun o:List Int=>o.length == 64)=true:=fun h=>Qe6 hx2 hall (by rw [← hq];exact h)
  have HNO:=QQ hno;have HYES:=QQ hyes
  have e0:wr.cell? ⟨b,off+k,none⟩=some (.string (strOfNums q)):=by
   have:=e 0 _ rfl;rw [Nat.mul_one,Nat.add_zero] at this;exact this
  obtain ⟨st,hst⟩:∃ st,st=strOfNums q:=⟨_,rfl⟩
  have hs:st.size=q.length:=by rw [hst];exact Qc2 q
  rw [← hst] at e0
  have hq1:(q.length == 64) = !((st.size:Int) != 64):=by rw [← hs,Bool.eq_iff_iff];simp;omega
  have HQ:=QQ hq1;clear hq hno hyes hall inv hst hs hq1 hmem e
  cases t2:((st.size:Int) != 64) with
  | true =>
   go_wp2;go_ret;exact ⟨by rw [(QG HNO) (show (q.length == 64)=false by rw [show (q.length == 64)=_ from HQ,t2];rfl)] <;> rfl,Qa1.below (QG H)⟩
  | false =>
   go_wp2;go_roundw
   case rel=>exact ⟨k+1,rfl,by go_num,by omega,(QG HYES) (show (q.length == 64)=true by rw [show (q.length == 64)=_ from HQ,t2];rfl),(QG H)⟩
   case measure=>simp [intOf];omega
theorem QqB (W:World) (x:Mem) (s:Sl5) (X:Array Value) (B:Nat) :
  Qhd W x s X B (tl 2 (Tryz.f69.body.getD .skip)) (x.P.all (fun q:Pr × QcJ=>Qbj q.1)&&(x.O.all (fun o:List Int=>o.length == 64)&&(x.B.all (fun q:Pp × (Option Addr × Nat)=>QbK q.1)&&(x.F.all Qce&&(x.K.all QbU))))):=by
 iterate 164 intro
 intro V h;have H:=QQ h;obtain ⟨R,hR⟩:∃ R,R=(x.P.all (fun q:Pr × QcJ=>Qbj q.1)&&(x.O.all (fun o:List Int=>o.length == 64)&&(x.B.all (fun q:Pp × (Option Addr × Nat)=>QbK q.1)&&(x.F.all Qce&&(x.K.all QbU))))):=⟨_,rfl⟩;rw [← hR];have HR:=QQ hR
 have hsm:x.P.length≤20000:=by have:=h.fine.small;simp only [Mem.im,QM] at this;exact this.1
 have HP:=QQ (fun (V:World) (hV:Below W.heap.size W V) (k:Nat) (hk:k<x.P.length)=>QbP (m:=55) h.at_.P rfl (fun q hq=>Pr.vals_length (h.fine.procs q.1 (List.mem_map.2 ⟨q,hq,rfl⟩)).ok _ _ _ _) hV k hk);clear hR h;obtain ⟨n,hn⟩:∃ n,n=x.P.length:=⟨_,rfl⟩;have HN:=QQ hn;rw [← hn] at hsm;clear hn
 conv=>arg 2;whnf
 refine wp_seq_k (fun K aK=>?_);have AK:=QQ aK;clear aK;go_wp2;go_loopw [2,3,4] (fun r0 i _ wr=>∃ (k:Nat),r0=.bool false∧i=.int .i64 (k:Int)∧k≤n∧Hid ((x.P.take k).all (fun q:Pr × QcJ=>Qbj q.1)=true)∧Qa1 W x s X B wr) (fun _ i _ _=>n-(intOf i).toNat)
 case atStart=>exact ⟨0,rfl,rfl,Nat.zero_le _,rfl,H⟩
 case round =>
  clear H;obtain ⟨k,rfl,rfl,hk,hall,inv⟩:=hrel;have H:=QQ inv;have c0:=inv.cell (i:=0) rfl;rw [show x.P.length=n from (QG HN).symm] at c0
  rcases Nat.lt_or_ge k n with hx | hx
  rotate_left
  ·have t1:decide ((k:Int)<(n:Int))=false:=by simp;omega
   have h8:(x.P.take k).all (fun q:Pr × QcJ=>Qbj q.1)=true:=hall;rw [List.take_of_length_le (by rw [← (QG HN)];exact hx)] at h8;have H8:=QQ h8;clear inv hall h8;go_wp2;refine (QG AK) _ _ ?_
   have hR2:R=(x.O.all (fun o:List Int=>o.length == 64)&&(x.B.all (fun q:Pp × (Option Addr × Nat)=>QbK q.1)&&(x.F.all Qce&&(x.K.all QbU)))):=by rw [show R=_ from HR,show x.P.all (fun q:Pr × QcJ=>Qbj q.1)=true from H8];rfl
   rw [hR2];apply QqC W x s X B;exact H
  have t1:decide ((k:Int)<(n:Int))=true:=by simp;omega
  have t0:(k:Int)<(n:Int):=by omega
  have hx2:k<x.P.length:=by rw [← (QG HN)];exact hx
  obtain ⟨b,off,ha,hbn,e⟩:=(QG HP) wr inv.below k hx2;obtain ⟨sa,hsa⟩:∃ sa,sa=s.p.1:=⟨_,rfl⟩;rw [← hsa] at ha c0;have HSA:=QQ hsa;subst ha;clear hsa;have hsz:=inv.below.size;obtain ⟨q,hq⟩:∃ q,q=x.P[k]:=⟨_,rfl⟩;rw [← hq] at e
  have hmem:q∈x.P:=by rw [hq];exact List.getElem_mem hx2
  have hno:(fun q:Pr × QcJ=>Qbj q.1) q=false→R=false:=fun h=>by
   rw [show R=_ from HR,Qie hmem h] <;> rfl
  have hyes:(fun q:Pr × QcJ=>Qbj q.1) q=true→(x.P.take (k+1)).all (fun q:Pr × QcJ=>Qbj q.1)=true:=fun h=>Qe6 hx2 hall (by rw [← hq];exact h)
  have HNO:=QQ hno;have HYES:=QQ hyes;have hqf:q.1.Fine:=inv.fine.procs q.1 (List.mem_map.2 ⟨q,hmem,rfl⟩);have kp:=Qio q hqf wr (((inv.at_.fds q hmem).below inv.below).mono hsz) (((inv.at_.pages q hmem).below inv.below).mono hsz);have hl:(QaP q).length=55:=Pr.vals_length hqf.ok _ _ _ _
  have hi:(Tryz.prog.info? 54).map (·.size)=some (QaP q).length:=by rw [hl];exact QdY
  obtain ⟨CL,hCL⟩:∃ CL,CL=QaP q:=⟨_,rfl⟩;obtain ⟨r,hr⟩:∃ r,r=Qbj q.1:=⟨_,rfl⟩;rw [← hCL] at e kp hi;rw [← hr] at kp;have HRR:=QQ hr;clear hq hno hyes hall inv hqf hl hCL hr hmem
  go_wp2_with first
   | (go_at_call 100;refine Qau ?_)
   | (refine QaC (by rfl) 54 (.tmp 56) rfl b (off+k*55) rfl CL _ e Tryz.underlying54 rfl hi ?_)
  unfold Qag;refine kp.mono ?_;rintro e' w2 ⟨rfl,b2⟩;have H2:=QQ (Qa1.grow (QG H) b2);clear kp b2 e c0
  cases r with
  | false =>
   go_wp2;go_ret;exact ⟨by rw [(QG HNO) (show Qbj q.1=false from (QG HRR).symm)] <;> rfl,Qa1.below (QG H2)⟩
  | true =>
   go_wp2;go_roundw
   case rel=>exact ⟨k+1,rfl,by go_num,by omega,(QG HYES) (show Qbj q.1=true from (QG HRR).symm),(QG H2)⟩
   case measure=>simp [intOf];omega
theorem Qnn (x:Mem) (s:Sl5) (W:World) (h:Qb2 W.heap.size W x s) (hf:x.im.Fine) :
  Calls Tryz.prog 69 #[.agg (x.cells s).toArray] W fun e W'=>e=.returned (.bool (Qcb x.im))∧Below W.heap.size W W':=by
 obtain ⟨X,hX⟩:∃ X,X=(x.cells s).toArray:=⟨_,rfl⟩;obtain ⟨R,hR⟩:∃ R,R=Qcb x.im:=⟨_,rfl⟩;obtain ⟨rest,hrest⟩:∃ b,b=(x.P.all (fun q:Pr × QcJ=>Qbj q.1)&&(x.O.all (fun o:List Int=>o.length == 64)&&(x.B.all (fun q:Pp × (Option Addr × Nat)=>QbK q.1)&&(x.F.all Qce&&(x.K.all QbU))))):=⟨_,rfl⟩;rw [← hX,← hR];have hs:=hf.small;simp only [Mem.im,QM] at hs;obtain ⟨nP,hnP⟩:∃ n,n=x.P.length:=⟨_,rfl⟩;obtain ⟨nO,hnO⟩:∃ n,n=x.O.length:=⟨_,rfl⟩;obtain ⟨nB,hnB⟩:∃ n,n=x.B.length:=⟨_,rfl⟩;obtain ⟨nF,hnF⟩:∃ n,n=x.F.length:=⟨_,rfl⟩;obtain ⟨nK,hnK⟩:∃ n,n=x.K.length:=⟨_,rfl⟩
 have hR2:R=(!(decide ((nP:Int)<1))&&!(decide ((nP:Int) > 32))&&!(decide ((nO:Int) > 256))&&!(decide ((nB:Int) > 16))&&!(decide ((nF:Int) > 64))&&!(decide ((nK:Int) > 32))&&rest):=by
  rw [hR,hrest,hnP,hnO,hnB,hnF,hnK];unfold Qcb Mem.im;simp only [QM,List.all_map];rw [Bool.eq_iff_iff];simp only [Bool.and_eq_true,Bool.not_eq_true',decide_eq_true_eq,decide_eq_false_iff_not];constructor
  ·rintro ⟨⟨⟨⟨⟨⟨⟨⟨⟨h1,h2⟩,h3⟩,h4⟩,h5⟩,a1⟩,a2⟩,a3⟩,a4⟩,a5⟩
   exact ⟨⟨⟨⟨⟨⟨by omega,by omega⟩,by omega⟩,by omega⟩,by omega⟩,by omega⟩,a1,a2,a3,a4,a5⟩
  ·rintro ⟨⟨⟨⟨⟨⟨h1,h2⟩,h3⟩,h4⟩,h5⟩,h6⟩,a1,a2,a3,a4,a5⟩
   exact ⟨⟨⟨⟨⟨⟨⟨⟨⟨by omega,by omega⟩,by omega⟩,by omega⟩,by omega⟩,a1⟩,a2⟩,a3⟩,a4⟩,a5⟩
 have HR:=QQ hR2;have HREST:=QQ hrest;obtain ⟨V,hV⟩:∃ V,V=W.alloc (.cells X 29):=⟨_,rfl⟩;have H0:Qa1 W x s X W.heap.size V:=⟨hX,rfl,by rw [hV];exact QW _ _,by rw [hV];exact (QB _ _).alloc (QN _) _,h,hf⟩;have H:=QQ H0;have c0:=H0.cell (i:=0) rfl;have c1:=H0.cell (i:=1) rfl;have c2:=H0.cell (i:=2) rfl;have c3:=H0.cell (i:=3) rfl;have c4:=H0.cell (i:=4) rfl;rw [← hnP] at c0;rw [← hnO] at c1;rw [← hnB] at c2;rw [← hnF] at c3;rw [← hnK] at c4;rw [← hnP,← hnO,← hnB,← hnF,← hnK] at hs;have HV:=QQ hV;clear hR hR2 hrest hX h hf H0 hnP hnO hnB hnF hnK hV;go_enter Tryz.func69,Tryz.ntmps69;refine wp_seq_k (fun K aK=>?_);have AK:=QQ aK;clear aK;go_wp2;refine (QG AK) _ _ ?_;clear AK K;refine wp_seq_k (fun K aK=>?_);have AK:=QQ aK;clear aK;rw [show W.alloc (.cells X 29)=V from (QG HV).symm];clear HV
 cases t1:decide ((nP:Int)<1) with
 | true =>
  go_wp2;go_ret;exact ⟨by rw [show R=_ from HR,t1] <;> rfl,Qa1.below (QG H)⟩
 | false =>
  cases t2:decide ((nP:Int) > 32) with
  | true =>
   go_wp2;go_ret;exact ⟨by rw [show R=_ from HR,t1,t2] <;> rfl,Qa1.below (QG H)⟩
  | false =>
   cases t3:decide ((nO:Int) > 256) with
   | true =>
    go_wp2;go_ret;exact ⟨by rw [show R=_ from HR,t1,t2,t3] <;> rfl,Qa1.below (QG H)⟩
   | false =>
    cases t4:decide ((nB:Int) > 16) with
    | true =>
     go_wp2;go_ret;exact ⟨by rw [show R=_ from HR,t1,t2,t3,t4] <;> rfl,Qa1.below (QG H)⟩
    | false =>
     cases t5:decide ((nF:Int) > 64) with
     | true =>
      go_wp2;go_ret;exact ⟨by rw [show R=_ from HR,t1,t2,t3,t4,t5] <;> rfl,Qa1.below (QG H)⟩
     | false =>
      cases t6:decide ((nK:Int) > 32) with
      | true =>
       go_wp2;go_ret;exact ⟨by rw [show R=_ from HR,t1,t2,t3,t4,t5,t6] <;> rfl,Qa1.below (QG H)⟩
      | false =>
       go_wp2;refine (QG AK) _ _ ?_
       have hR3:rest=R:=by rw [show R=_ from HR,t1,t2,t3,t4,t5,t6] <;> rfl
       have hg:=QqB W x s X W.heap.size;unfold Qhd at hg;rw [← (QG HREST),hR3] at hg;apply hg;exact (QG H)
section
attribute [local go_sem] QaB QaJ QaA
theorem Qix {α β:Type} (g:β→Forest) (f:α→β):∀ l:List α,Qay g (l.map f)=Qay (fun a=>g (f a)) l
 | []=>rfl
 | x::l=>by rw [List.map_cons,Qay,Qay,Qix g f l]
theorem Qma (x:Mem):(Qb1 x.im).layF=((((Qa5 1 (Qa7 1)++(Qay QeG x.O).layF)++(Qay (fun q:Pp × (Option Addr × Nat)=>Qct q.1) x.B).layF)++(Qay Qb9 x.F).layF)++(Qay (fun q:Pr × QcJ=>Qcj q.1) x.P).layF)++(Qay Qck x.K).layF:=by
 unfold Qb1;simp only [Forest.layF_app,Mem.im,Qix];rw [Qbi _ _ _ (by decide) (Qdg _),Forest.layF,List.append_nil]
theorem Qj6 (X:Im) (hf:X.Fine) (h:Qcb X=true):QiM (Qb1 X):=by
 obtain ⟨_,h6,h7,h8,h9,h10⟩:=Qc7 h;unfold Qb1;refine Qdj _ _ (Qdj _ _ (Qdj _ _ (Qdj _ _ (Qdj _ _ ⟨Qbr _ (by decide),trivial,trivial⟩ (QdF _ _ fun o ho=>?_)) (QdF _ _ fun p hp=>?_)) (QdF _ _ fun f hff=>?_)) (QdF _ _ fun p hp=>?_)) (QdF _ _ fun w hw=>?_)
 ·exact ⟨(hf.objs o ho).2,trivial,trivial⟩
 ·have hb:=h8 p hp
  unfold QbK at hb;simp only [Bool.and_eq_true,decide_eq_true_eq] at hb;exact ⟨fun z hz=>(by cases hz),⟨(hf.pipes p hp).2,trivial,Qbr _ (by omega),trivial,Qbr _ (by omega),trivial,trivial⟩,trivial⟩
 ·have hb:=h9 f hff
  unfold Qce at hb;simp only [decide_eq_true_eq] at hb;have:=QdL f.2;exact ⟨Qbr _ (by omega),trivial,trivial⟩
 ·exact ⟨fun z hz=>(by cases hz),QiN p (hf.procs p hp) (h6 p hp),trivial⟩
 ·exact ⟨Qfy _,trivial,trivial⟩
theorem QoJ:Qla imB:=by
 intro W x s hat hf;obtain ⟨X,hX⟩:∃ X,X=(x.cells s).toArray:=⟨_,rfl⟩;obtain ⟨m,hm⟩:∃ m,m=Qcb x.im:=⟨_,rfl⟩;obtain ⟨F,hF⟩:∃ F,F=(Qb1 x.im).layF:=⟨_,rfl⟩
 have hout:m=true→QeI (Qb1 x.im)=F:=fun h=>by rw [hF];exact (QhU x.im hf (hm▸h)).1
 have hB:imB x.im=if m=true then some (F++QaE (Qe3 F)) else none:=by
  unfold imB;rw [← hm];by_cases h:m=true
  ·rw [if_pos h,if_pos h,hout h]
  ·rw [if_neg h,if_neg h]
 have hgo:m=true→∀ B,QcP W x s X B (tl 4 (Tryz.f28.body.getD .skip)) (Qa5 1 (Qa7 1)) F:=fun h B=>by
  have hm':Qcb x.im=true:=hm▸h;have hL:=QhR x.im hf hm'
  have hby:∀ z∈F,0≤z∧z≤255:=by rw [hF];exact Qfl _ (Qj6 x.im hf hm')
  have hFF:F=((((Qa5 1 (Qa7 1)++(Qay QeG x.O).layF)++(Qay (fun q:Pp × (Option Addr × Nat)=>Qct q.1) x.B).layF)++(Qay Qb9 x.F).layF)++(Qay (fun q:Pr × QcJ=>Qcj q.1) x.P).layF)++(Qay Qck x.K).layF:=hF.trans (Qma x)
  have hL2:F.length≤38400:=by rw [hF];exact hL
  have hL3:=hL2;rw [hFF] at hL3;simp only [QL] at hL3;refine Qqk W x s X B _ F (by omega) hm' ?_;refine Qql W x s X B _ F (by simp only [QL];omega) hm' ?_;refine Qqm W x s X B _ F (by simp only [QL];omega) hm' ?_;refine Qqn W x s X B _ F (by simp only [QL];omega) hm' ?_;refine Qqo W x s X B _ F (by simp only [QL];omega) hm' ?_;rw [← hFF];exact QpL W x s X B F (by omega) hby
 have hby2:m=true→∀ z∈F++QaE (Qe3 F),0≤z∧z≤255:=fun h z hz=>by
  have hby:∀ z∈F,0≤z∧z≤255:=by rw [hF];exact Qfl _ (Qj6 x.im hf (hm▸h))
  rcases List.mem_append.1 hz with hz | hz
  ·exact hby z hz
  ·exact QhF _ (QfQ F hby) z hz
 have km:=fun (V:World) (hV:Below W.heap.size W V)=>Qnn x s V ((hat.below hV).mono hV.size) hf
 rw [← hX,hB];rw [← hX,← hm] at km;have HX:=QQ hX;have HAT:=QQ hat;have HF:=QQ hf;have HGO:=QQ hgo;have HBY:=QQ hby2;have KM:=QQ km;clear hX hat hf hgo hby2 hB hout hF hm km;go_enter Tryz.func28,Tryz.ntmps28;refine wp_seq_k (fun K aK=>?_);have AK:=QQ aK;clear aK;go_wp2;refine (QG AK) _ _ ?_;clear AK K;refine wp_seq_k (fun K aK=>?_);have AK:=QQ aK;clear aK;obtain ⟨V,hV⟩:∃ V,V=W.alloc (.cells X 29):=⟨_,rfl⟩;have H0:Qa1 W x s X W.heap.size V:=⟨HX,rfl,by rw [hV];exact QW _ _,by rw [hV];exact (QB _ _).alloc (QN _) _,HAT,HF⟩;rw [← hV];have eV:=H0.eB;have kmV:=(QG KM) V H0.below;have H:=QQ H0
 have eXP:(X.toList.drop 0).take X.size=X.toList:=by rw [List.drop_zero,List.take_of_length_le (by simp)]
 have hsz:X.size=5:=by rw [show X=_ from HX];rfl
 have hXi:(Tryz.prog.info? 29).map (·.size)=some X.size:=by rw [hsz];exact QbT
 clear hV H0
 go_wp2_with first
  | (go_at_call 69;refine Qau ?_)
  | (refine Qai (by rfl) 29 (.tmp 1) rfl W.heap.size 0 rfl _ X _ eV eXP _ Tryz.underlying29 rfl hXi ?_)
 unfold Qag;refine kmV.mono ?_;rintro e w1 ⟨rfl,b1⟩;have H1:=QQ ((QG H).grow b1);clear b1 kmV eV;go_wp2;refine (QG AK) _ _ ?_;clear AK K;refine wp_seq_k (fun K aK=>?_);have AK:=QQ aK;clear aK
 cases m with
 | false =>
  go_wp2;go_ret2;exact ⟨(QG H1).below,rfl⟩
 | true =>
  go_wp2;refine (QG AK) _ _ ?_;clear AK K;refine wp_seq_k (fun K aK=>?_);have AK:=QQ aK;clear aK;go_wp2_with (go_at_call 70;refine Qau ?_);unfold Qag;refine (QdX 1 (by decide) 1 (by decide) w1).mono ?_;rintro e w2 ⟨v2,rfl,o2,b2⟩;have h1:=(QG H1)
  have o3:=QaI o2 (show W.heap.size+1≤w1.heap.size from h1.lB) fun _ _=>rfl
  have INV:=QQ (show QbH W x s X W.heap.size v2 (Qa5 1 (Qa7 1)) w2 from ⟨h1.grow b2,o3⟩);clear o2 b2 h1 o3;go_wp2;refine (QG AK) _ _ ?_;refine Code.wp_mono (Q:=DbQ W F) (Qe8 fun e W' hI=>?_) ((QG HGO) trivial W.heap.size _ _ _ _ _ _ _ _ _ _ _ _ _ _ _ _ _ _ _ _ _ _ _ _ _ _ _ _ _ _ _ _ _ _ _ _ _ _ _ _ _ _ _ _ _ _ _ _ _ _ _ _ _ _ _ _ _ _ _ _ _ _ _ _ _ _ _ _ _ _ _ _ _ _ _ _ _ _ _ _ _ _ _ _ _ _ _ _ _ _ _ _ _ _ _ _ _ _ _ _ _ _ _ _ _ _ _ _ _ _ _ _ _ _ _ _ _ _ _ _ _ _ _ _ _ _ _ _ _ _ _ _ _ _ _ _ _ _ _ _ _ _ _ _ _ _ _ _ _ _ _ _ _ _ w2 INV);obtain ⟨v,rfl,ho,hb⟩:=hI;exact ⟨hb,(QG HBY) trivial,v,rfl,ho⟩
end
theorem QgQ:Mem.none.im.Fine:=by
 refine ⟨?_,?_,?_,by decide⟩ <;> (intro p hp;cases hp)
theorem Qmy {zs:List Int} {e e':Ending} {W W1 V V1:World} (hb:∀ z∈zs,0≤z∧z≤255) (hl:zs.length≤20000) (h1:QhX imB zs e W W1) (h2:QlM imB zs e' V V1) :
  ∃ (x:Mem) (s:Sl5) (y:Mem) (r:Sl5) (E:Int),e=.returned (.tuple #[.agg (x.cells s).toArray,.int .i64 E])∧e'=.returned (.tuple #[.agg (y.cells r).toArray,.int .i64 E])∧Below W.heap.size W W1∧Below V.heap.size V V1 ∧
   Qb2 W1.heap.size W1 x s∧Qb2 V1.heap.size V1 y r∧x.im=y.im∧x.im.Fine:=by
 obtain ⟨x,s,E,rfl,b1,m1,d1⟩:=h1;obtain ⟨y,r,E',rfl,b2,m2,d2⟩:=h2
 have fin:∀ f,Qa9 1 (zs.take (zs.length-4))=some f→(QcV f).Fine:=fun f hr =>
  (Qpr (Qfm _ 1 _ f (QN _) (fun z hz=>hb z (List.mem_of_mem_take hz)) hr) (Nat.le_trans (Qet _ 1 _ f (QN _) hr) (by rw [List.length_take];omega))).1
 rcases d1 with ⟨f,o1,r1,q1,rfl,hx⟩ | ⟨f,o1,r1,q1,rfl,rfl,rfl⟩ | ⟨o1,r1,rfl,rfl,rfl⟩ | ⟨o1,rfl,rfl,rfl⟩
 ·rcases d2 with ⟨f',o2,r2,q2,rfl,hy⟩ | ⟨f',o2,r2,q2,rfl,rfl,rfl⟩ | ⟨o2,r2,rfl,rfl,rfl⟩ | ⟨o2,rfl,rfl,rfl⟩
  ·rw [r1] at r2;injection r2 with r2;subst r2
   exact ⟨x,s,y,r,0,rfl,rfl,b1,b2,m1,m2,by rw [hx,hy];exact (QfO hb hl r1).2 q1,by rw [hx];exact fin f r1⟩
  ·rw [r1] at r2;injection r2 with r2;subst r2
   exact absurd ((QfO hb hl r1).1.1 q1) q2
  ·rw [r1] at r2;cases r2
  ·exact absurd o1 o2
 ·rcases d2 with ⟨f',o2,r2,q2,rfl,hy⟩ | ⟨f',o2,r2,q2,rfl,rfl,rfl⟩ | ⟨o2,r2,rfl,rfl,rfl⟩ | ⟨o2,rfl,rfl,rfl⟩
  ·rw [r1] at r2;injection r2 with r2;subst r2
   exact absurd ((QfO hb hl r1).1.2 q2) q1
  ·exact ⟨_,_,_,_,240,rfl,rfl,b1,b2,m1,m2,rfl,QgQ⟩
  ·rw [r1] at r2;cases r2
  ·exact absurd o1 o2
 ·rcases d2 with ⟨f',o2,r2,q2,rfl,hy⟩ | ⟨f',o2,r2,q2,rfl,rfl,rfl⟩ | ⟨o2,r2,rfl,rfl,rfl⟩ | ⟨o2,rfl,rfl,rfl⟩
  ·rw [r1] at r2;cases r2
  ·rw [r1] at r2;cases r2
  ·exact ⟨_,_,_,_,220,rfl,rfl,b1,b2,m1,m2,rfl,QgQ⟩
  ·exact absurd o1 o2
 ·rcases d2 with ⟨f',o2,r2,q2,rfl,hy⟩ | ⟨f',o2,r2,q2,rfl,rfl,rfl⟩ | ⟨o2,r2,rfl,rfl,rfl⟩ | ⟨o2,rfl,rfl,rfl⟩
  ·exact absurd o2 o1
  ·exact absurd o2 o1
  ·exact absurd o2 o1
  ·exact ⟨_,_,_,_,230,rfl,rfl,b1,b2,m1,m2,rfl,QgQ⟩
theorem imageReads_any (W:World) (a0:Option Addr) (len0 cap0:Nat) (zs:List Int) (hz:QaL W.heap.size W (.slice a0 len0 cap0) zs) :
  Calls Tryz.prog 3 #[.slice a0 len0 cap0] W fun e W'=>e=.returned (.bool true)∧Below W.heap.size W W':=by
 have hl:=hz.1.open.1;by_cases hsm:zs.length≤20000
 rotate_left
 ·have t1:decide ((len0:Int) > 20000)=true:=by simp;omega
  clear hz hsm hl;go_enter Tryz.func3,Tryz.ntmps3;go_wp2;go_ret;exact ⟨rfl,QB _ _⟩
 have t1:decide ((len0:Int) > 20000)=false:=by simp;omega
 have k1:=Ql9 imB Qls W a0 len0 cap0 zs hz hsm
 have k2:=fun (V:World) (hV:Below W.heap.size W V)=>QlO imB QoJ V a0 len0 cap0 zs ((hz.below hV).mono hV.size) hsm
 have HB:=QQ hz.2;have K1:=QQ k1;have K2:=QQ k2;have HS:=QQ hsm;clear k1 k2 hz hl hsm;go_enter Tryz.func3,Tryz.ntmps3;go_wp2_with (go_at_call 5;refine Qau ?_);unfold Qag;refine Calls.mono K1 ?_;rintro e w1 h1;have H1:=QQ h1;obtain ⟨x,s,E,rfl,b1,_⟩:=h1;obtain ⟨X,hX⟩:∃ X,X=(x.cells s).toArray:=⟨_,rfl⟩
 have hXs:(Tryz.prog.info? 29).map (·.size)=some X.size:=by rw [hX];exact QbT
 have hX5:imZ.size=X.size:=by rw [hX];rfl
 have hX1:X.all (·.oneCell')=true:=by rw [hX];exact Qf x s
 have HX:=QQ hX;have HB1:=QQ b1;rw [← hX];clear hX b1;dsimp only;go_wp2_with ((fail_if_success (unfold Qag));refine Qan (t:=29) rfl ?_);unfold Qag;refine Qab rfl 29 (.tmp 3) (.tmp 13) rfl w1.heap.size X rfl rfl 29 _ (QW _ _) hXs hX5 hX1 ?_;rw [World.setRow_alloc_new];obtain ⟨V,hV⟩:∃ V,V=w1.alloc (.cells X 29):=⟨_,rfl⟩
 have eV:V.heap[w1.heap.size]?=some (.cells X 29):=by rw [hV];exact QW _ _
 have bV:Below w1.heap.size w1 V:=by rw [hV];exact (QB _ _).alloc (QN _) _
 rw [← hV];have lV:w1.heap.size<V.heap.size:=(QI.1 eV).1;have bWV:=(QG HB1).trans (bV.mono (QG HB1).size);have k3:=(QG K2) V bWV;have K3:=QQ k3;have EV:=QQ eV;have HV:=QQ (QA bV bWV);clear hV eV bV bWV k3 hX5;go_wp2_with (go_at_call 6;refine Qau ?_);unfold Qag;refine Calls.mono K3 ?_;rintro e' w2 h2;obtain ⟨x',s',y,r,E',he,rfl,_,b2,m1,m2,him,hf⟩:=Qmy (QG HB) (QG HS) (QG H1) h2;obtain ⟨bV,bWV⟩:=(QG HV)
 injection he with he
 injection he with he
 have he1:X=(x'.cells s').toArray:=by
  have:=congrArg (fun (z:Array Value)=>z[0]?) he;simp only [List.getElem?_toArray,List.getElem?_cons_zero,Option.some.injEq,Value.agg.injEq] at this;rw [show X=_ from HX];exact this
 have he2:E=E':=by
  have:=congrArg (fun (z:Array Value)=>z[1]?) he;simpa using this
 subst he2;clear he h2;obtain ⟨Y,hY⟩:∃ Y,Y=(y.cells r).toArray:=⟨_,rfl⟩
 have hYs:(Tryz.prog.info? 29).map (·.size)=some Y.size:=by rw [hY];exact QbT
 have hY5:imZ.size=Y.size:=by rw [hY];rfl
 have hY1:Y.all (·.oneCell')=true:=by rw [hY];exact Qf y r
 have HH:=QQ (QA he1 (QA hY (QA b2 (QA m1 (QA m2 (QA him (QA hf (QA bV bWV))))))));have E2:=QQ ((b2.block _ lV).trans (QG EV));have l2:w1.heap.size<w2.heap.size:=Nat.lt_of_lt_of_le lV b2.size;rw [← hY];clear he1 hY b2 m1 m2 him hf bV bWV;dsimp only;go_wp2_with ((fail_if_success (unfold Qag));refine Qan (t:=29) rfl ?_);unfold Qag;refine Qab rfl 29 (.tmp 5) (.tmp 18) rfl w2.heap.size Y rfl rfl 29 _ (QW _ _) hYs hY5 hY1 ?_;rw [World.setRow_alloc_new];obtain ⟨U,hU⟩:∃ U,U=w2.alloc (.cells Y 29):=⟨_,rfl⟩
 have eU:U.heap[w2.heap.size]?=some (.cells Y 29):=by rw [hU];exact QW _ _
 have bU:Below w2.heap.size w2 U:=by rw [hU];exact (QB _ _).alloc (QN _) _
 rw [← hU];obtain ⟨he1,hY,b2,m1,m2,him,hf,bV,bWV⟩:=(QG HH);have eX:U.heap[w1.heap.size]?=some (.cells X 29):=(bU.block _ l2).trans (QG E2);have b1U:Below w1.heap.size w1 U:=bV.trans ((b2.mono bV.size).trans (bU.mono (Nat.le_of_lt l2)));have bWU:Below W.heap.size W U:=bWV.trans ((b2.mono bWV.size).trans (bU.mono (Nat.le_trans bWV.size b2.size)));have ks:=QlP x' y s' r U ((m1.below b1U).mono b1U.size) ((m2.below bU).mono bU.size) him hf;rw [← he1,← hY] at ks;have KS:=QQ ks;have EX:=QQ eX;have EU:=QQ eU;have BU:=QQ bWU;clear he1 hY b2 m1 m2 him hf bV bWV hU eU bU eX b1U bWU ks hX1 hY1 hY5
 go_wp2_with first
  | (go_at_call 7;refine Qau ?_)
  | (refine Qai (by rfl) 29 (.tmp 3) rfl w1.heap.size 0 rfl X X _ (QG EX) (by rw [List.drop_zero,List.take_of_length_le (by simp)]) _ Tryz.underlying29 rfl hXs ?_)
  | (refine Qai (by rfl) 29 (.tmp 5) rfl w2.heap.size 0 rfl Y Y _ (QG EU) (by rw [List.drop_zero,List.take_of_length_le (by simp)]) _ Tryz.underlying29 rfl hYs ?_)
 unfold Qag;refine Calls.mono KS ?_;rintro e9 w3 ⟨rfl,b3⟩;have HB3:=QQ ((QG BU).trans (b3.mono (QG BU).size));clear b3;go_wp2;go_ret;exact ⟨rfl,HB3⟩
end Go.Proofs.YtejcandhijdnhaaGreat
