/- Own texts of this seat, one behind the other, without needless spaces (part 22 of 26). -/
import Derived.Test.YtejcandhijdnhaaGreatMR01
import Derived.Test.YtejcandhijdnhaaGreatMR21
namespace Go.Proofs.YtejcandhijdnhaaGreat
open Go Go.RowKit
set_option linter.unusedVariables false
set_option linter.unusedSimpArgs false
set_option linter.unnecessarySimpa false
set_option maxRecDepth 100000
set_option maxHeartbeats 16000000
section
theorem Qgu {P:Program} {ops:Array Oper} {rest:List Oper} {o:Oper} {a:Act} {w:World} {Q:Exit→Act→World→Prop} {n:Nat} (ho:o.dst=some n) (h:Qag (wpList P ops Q (o::rest) a w)):wpList P ops Q (o::rest) a w:=h
theorem QpJ (n:Nat) (t:((n:Int) != 8)=false):n=8:=by
 have h:(n:Int)=8:=by simpa [bne] using t
 omega
structure D6 (W:World) (p:Pr) (fa:Option Addr) (fc:Nat) (pa:Option Addr) (pc:Nat) (X:Array Value) (B:Nat) (st su wt pi lf:Int) (n:Nat) (b5 rest R:Bool):Prop where
 c:∀ V,Qad W (p,⟨fa,fc,pa,pc⟩) X B V→V.cell? ⟨B,2,none⟩=some (.int .i64 st)∧V.cell? ⟨B,3,none⟩=some (.int .u32 su)∧V.cell? ⟨B,45,none⟩=some (.int .i64 wt)∧V.cell? ⟨B,46,none⟩=some (.int .i64 pi)∧V.cell? ⟨B,50,none⟩=some (.int .u32 lf)∧V.cell? ⟨B,51,none⟩=some (.slice fa n fc)
 hR:R=(!(st != 1)&&!(su != 0)&&b5&&!(decide (wt<0))&&!(decide (wt > 5))&&!(decide (pi<0))&&!(decide (pi > 15))&&!(decide (pi > 0)&&(wt != 2)&&(wt != 3))&&!((wt == 5) != decide (lf > 0))&&!((n:Int) != 8)&&rest)
 hN:n=p.fds.length
 hE:rest=(p.fds.all Qf1&&Qbc (-1) p.pages)
section
variable {W : World} {p : Pr} {fa : Option Addr} {fc : Nat} {pa : Option Addr} {pc : Nat} {X : Array Value} {B : Nat} {st su wt pi lf : Int} {n : Nat} {b5 rest R : Bool}
theorem QpP (D:D6 W p fa fc pa pc X B st su wt pi lf n true rest R) (t1:(st != 1)=false) (t2:(su != 0)=false) (t3:decide (wt<0)=false) (t4:decide (wt > 5)=false) (t5:decide (pi<0)=false) (t6':decide (pi > 15)=false) (p1:decide (pi > 0)=false) :
  Qc4 W (p,⟨fa,fc,pa,pc⟩) X B (tl 6 (Tryz.f100.body.getD .skip)) (.bool true) (.bool true) (.bool true) R:=by
 intro t6 t7 t8
 iterate 226 intro
 intro V h;have H:=QQ h;have HR:=QQ D.hR;have HN:=QQ D.hN;have HREST:=QQ D.hE;obtain ⟨c2,c3,c45,c46,c50,c51⟩:=D.c V h;clear D h
 conv=>arg 2;whnf
 refine wp_seq_k (fun K aK=>?_);have AK:=QQ aK;clear aK;go_wp2_with ((fail_if_success (unfold Qag));refine Qgu (n:=161) rfl ?_);unfold Qag
 cases e1:(wt == 5) with
 | false =>
  cases e2:decide (lf > 0) with
  | false =>
   go_wp2_with ((fail_if_success (unfold Qag));refine Qgu (n:=164) rfl ?_);unfold Qag
   cases t8:((n:Int) != 8) with
   | true =>
    as_aux_lemma =>
     go_wp2
     all_goals go_ret
     all_goals exact ⟨by rw [show R=_ from HR,t1,t2,t3,t4,t5,t6',p1,e1,e2,t8] <;> rfl,Qad.below (QG H)⟩
   | false =>
    as_aux_lemma =>
     go_wp2
     all_goals refine (QG AK) _ _ ?_
     all_goals rw [show R=rest by rw [show R=_ from HR,t1,t2,t3,t4,t5,t6',p1,e1,e2,t8] <;> rfl,show rest=_ from HREST]
     all_goals exact QpI W p fa fc pa pc X B _ _ _ ((QG HN).symm.trans (QpJ n t8)) _ _ _ _ _ _ _ _ _ _ _ _ _ _ _ _ _ _ _ _ _ _ _ _ _ _ _ _ _ _ _ _ _ _ _ _ _ _ _ _ _ _ _ _ _ _ _ _ _ _ _ _ _ _ _ _ _ _ _ _ _ _ _ _ _ _ _ _ _ _ _ _ _ _ _ _ _ _ _ _ _ _ _ _ _ _ _ _ _ _ _ _ _ _ _ _ _ _ _ _ _ _ _ _ _ _ _ _ _ _ _ _ _ _ _ _ _ _ _ _ _ _ _ _ _ _ _ _ _ _ _ _ _ _ _ _ _ _ _ _ _ _ _ _ _ _ _ _ _ _ _ _ _ _ _ _ _ _ _ _ _ _ _ _ _ _ _ _ _ _ _ _ _ _ _ _ _ _ _ _ _ _ _ _ _ _ _ _ _ _ _ _ _ _ _ _ _ _ _ _ _ _ _ _ _ _ _ _ _ _ _ _ _ _ _ _ _ _ _ _ _ _ _ _ _ _ _ _ _ V (QG H)
  | true =>
   as_aux_lemma =>
    go_wp2
    all_goals go_ret
    all_goals exact ⟨by rw [show R=_ from HR,t1,t2,t3,t4,t5,t6',p1,e1,e2] <;> rfl,Qad.below (QG H)⟩
 | true =>
  cases e2:decide (lf > 0) with
  | false =>
   as_aux_lemma =>
    go_wp2
    all_goals go_ret
    all_goals exact ⟨by rw [show R=_ from HR,t1,t2,t3,t4,t5,t6',p1,e1,e2] <;> rfl,Qad.below (QG H)⟩
  | true =>
   go_wp2_with ((fail_if_success (unfold Qag));refine Qgu (n:=164) rfl ?_);unfold Qag
   cases t8:((n:Int) != 8) with
   | true =>
    as_aux_lemma =>
     go_wp2
     all_goals go_ret
     all_goals exact ⟨by rw [show R=_ from HR,t1,t2,t3,t4,t5,t6',p1,e1,e2,t8] <;> rfl,Qad.below (QG H)⟩
   | false =>
    as_aux_lemma =>
     go_wp2
     all_goals refine (QG AK) _ _ ?_
     all_goals rw [show R=rest by rw [show R=_ from HR,t1,t2,t3,t4,t5,t6',p1,e1,e2,t8] <;> rfl,show rest=_ from HREST]
     all_goals exact QpI W p fa fc pa pc X B _ _ _ ((QG HN).symm.trans (QpJ n t8)) _ _ _ _ _ _ _ _ _ _ _ _ _ _ _ _ _ _ _ _ _ _ _ _ _ _ _ _ _ _ _ _ _ _ _ _ _ _ _ _ _ _ _ _ _ _ _ _ _ _ _ _ _ _ _ _ _ _ _ _ _ _ _ _ _ _ _ _ _ _ _ _ _ _ _ _ _ _ _ _ _ _ _ _ _ _ _ _ _ _ _ _ _ _ _ _ _ _ _ _ _ _ _ _ _ _ _ _ _ _ _ _ _ _ _ _ _ _ _ _ _ _ _ _ _ _ _ _ _ _ _ _ _ _ _ _ _ _ _ _ _ _ _ _ _ _ _ _ _ _ _ _ _ _ _ _ _ _ _ _ _ _ _ _ _ _ _ _ _ _ _ _ _ _ _ _ _ _ _ _ _ _ _ _ _ _ _ _ _ _ _ _ _ _ _ _ _ _ _ _ _ _ _ _ _ _ _ _ _ _ _ _ _ _ _ _ _ _ _ _ _ _ _ _ _ _ _ _ _ V (QG H)
end
end
end Go.Proofs.YtejcandhijdnhaaGreat
