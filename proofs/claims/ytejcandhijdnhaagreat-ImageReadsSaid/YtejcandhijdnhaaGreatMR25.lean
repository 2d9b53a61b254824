/- Own texts of this seat, one behind the other, without needless spaces (part 25 of 26). -/
import Derived.Test.YtejcandhijdnhaaGreatMR01
import Derived.Test.YtejcandhijdnhaaGreatMR22
namespace Go.Proofs.YtejcandhijdnhaaGreat
open Go Go.RowKit
set_option linter.unusedVariables false
set_option linter.unusedSimpArgs false
set_option linter.unnecessarySimpa false
set_option maxRecDepth 100000
set_option maxHeartbeats 16000000
section
section
variable {W : World} {p : Pr} {fa : Option Addr} {fc : Nat} {pa : Option Addr} {pc : Nat} {X : Array Value} {B : Nat} {st su wt pi lf : Int} {n : Nat} {b5 rest R : Bool}
theorem Qpj (D:D6 W p fa fc pa pc X B st su wt pi lf n b5 rest R) (t1:(st != 1)=true) :
  Qc4 W (p,⟨fa,fc,pa,pc⟩) X B (tl 6 (Tryz.f100.body.getD .skip)) (.bool true) (.bool true) (.bool b5) R:=by
 iterate 229 intro
 intro V h;have H:=QQ h;have HR:=QQ D.hR;have HN:=QQ D.hN;have HREST:=QQ D.hE;obtain ⟨c2,c3,c45,c46,c50,c51⟩:=D.c V h;clear D h
 conv=>arg 2;whnf
 refine wp_seq_k (fun K aK=>?_);have AK:=QQ aK;clear aK
 as_aux_lemma =>
  go_wp2
  all_goals go_ret
  all_goals exact ⟨by rw [show R=_ from HR,t1] <;> rfl,Qad.below (QG H)⟩
theorem Qpk (D:D6 W p fa fc pa pc X B st su wt pi lf n b5 rest R) (t1:(st != 1)=false) (t2:(su != 0)=true) :
  Qc4 W (p,⟨fa,fc,pa,pc⟩) X B (tl 6 (Tryz.f100.body.getD .skip)) (.bool true) (.bool true) (.bool b5) R:=by
 iterate 229 intro
 intro V h;have H:=QQ h;have HR:=QQ D.hR;have HN:=QQ D.hN;have HREST:=QQ D.hE;obtain ⟨c2,c3,c45,c46,c50,c51⟩:=D.c V h;clear D h
 conv=>arg 2;whnf
 refine wp_seq_k (fun K aK=>?_);have AK:=QQ aK;clear aK
 as_aux_lemma =>
  go_wp2
  all_goals go_ret
  all_goals exact ⟨by rw [show R=_ from HR,t1,t2] <;> rfl,Qad.below (QG H)⟩
theorem QpO (D:D6 W p fa fc pa pc X B st su wt pi lf n false rest R) (t1:(st != 1)=false) (t2:(su != 0)=false) :
  Qc4 W (p,⟨fa,fc,pa,pc⟩) X B (tl 6 (Tryz.f100.body.getD .skip)) (.bool true) (.bool true) (.bool false) R:=by
 iterate 229 intro
 intro V h;have H:=QQ h;have HR:=QQ D.hR;have HN:=QQ D.hN;have HREST:=QQ D.hE;obtain ⟨c2,c3,c45,c46,c50,c51⟩:=D.c V h;clear D h
 conv=>arg 2;whnf
 refine wp_seq_k (fun K aK=>?_);have AK:=QQ aK;clear aK
 as_aux_lemma =>
  go_wp2
  all_goals go_ret
  all_goals exact ⟨by rw [show R=_ from HR,t1,t2] <;> rfl,Qad.below (QG H)⟩
end
end
end Go.Proofs.YtejcandhijdnhaaGreat
