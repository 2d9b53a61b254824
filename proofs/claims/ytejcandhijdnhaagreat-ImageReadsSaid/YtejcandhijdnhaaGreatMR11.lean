/- Own texts of this seat, one behind the other, without needless spaces (part 11 of 26). -/
import Derived.Test.YtejcandhijdnhaaGreatMR01
import Derived.Test.YtejcandhijdnhaaGreatMR10
namespace Go.Proofs.YtejcandhijdnhaaGreat
open Go Go.RowKit
set_option linter.unusedVariables false
set_option linter.unusedSimpArgs false
set_option linter.unnecessarySimpa false
set_option maxRecDepth 100000
set_option maxHeartbeats 16000000
section
section
variable {P : Program} {ops : Array Oper} {Q : Exit → Act → World → Prop} {a : Act} {w : World} {rest : List Oper} {o : Oper}
theorem QaC (hw:Region.wanted o (yielded ops a.tmps)=true) (ty:TypeId) (x:Operand) (ho:o.op=.load ty x)
  (g off:Nat) (hx:a.eval x=.pointer (some ⟨g,off,none⟩)) (cs:List Value) (d:TypeDesc) (hc:∀ j v,cs[j]?=some v→w.cell? ⟨g,off+j,none⟩=some v)
  (hu:P.underlying ty=some d) (hd:(match d with | .struct _ | .array _ _=>true | _=>false)=true) (hi:(P.info? ty).map (·.size)=some cs.length)
  (h:wpList P ops Q rest (a.put o.dst (.agg cs.toArray)) w):wpList P ops Q (o::rest) a w:=by
 refine BigFrame.wpList_want hw fun K hK=>?_
 unfold Oper.wp execOp;simp only [ho,hx,Instr.loadAt,Instr.sureAddr,Sem.run_bind,Sem.run_pure,Result.andThen_ok,Qa2 w g off ty cs d hc hu hd hi];exact hK _ _ h
end
theorem Qb {α:Type} (f:α→List Value) (c:Nat):∀ (xs:List α) (hf:∀ x∈xs,(f x).length=c) (k:Nat) (h:k<xs.length) (j:Nat) (v:Value),(f xs[k])[j]?=some v→(xs.flatMap f)[k*c+j]?=some v
 | [],_,k,h,_,_,_=>absurd h (Nat.not_lt_zero k)
 | x::xs,hf,0,h,j,v,hj=>by
  have hl:=(List.getElem?_eq_some_iff.1 hj).1;rw [List.flatMap_cons,Nat.zero_mul,Nat.zero_add,List.getElem?_append_left (show j<(f x).length from hl)];exact hj
 | x::xs,hf,k+1,h,j,v,hj=>by
  have hx:=hf x (List.mem_cons_self ..);rw [List.flatMap_cons,List.getElem?_append_right (by rw [hx,Nat.succ_mul];omega),hx,show (k+1)*c+j-c=k*c+j by rw [Nat.succ_mul];omega];exact Qb f c xs (fun y hy=>hf y (List.mem_cons_of_mem _ hy)) k (by simpa using h) j v (by simpa using hj)
theorem Qcs {α:Type} (p:α→Bool) (xs:List α) (k:Nat) (h:k<xs.length):(xs.take (k+1)).any p=((xs.take k).any p || p xs[k]):=by
 rw [List.take_succ_eq_append_getElem h,List.any_append];simp
theorem Qdn {α:Type} (p:α→Bool) (xs:List α) (k:Nat) (h:k<xs.length) (hp:p xs[k]=true):xs.any p=true:=List.any_eq_true.2 ⟨_,List.getElem_mem h,hp⟩
theorem Qea:(Tryz.prog.info? 76).map (·.size)=some 2:=by kernel_rfl
theorem QcL:(Tryz.prog.info? 80).map (·.size)=some 4:=by kernel_rfl
theorem Qnt (p:Int→Bool) (xs:List Int) (W:World) (a:Option Addr) (len cap:Nat) (h:Qc W.heap.size W a len cap (xs.flatMap (fun x=>[Value.int .i64 x]))) (hl:xs.length=len) (hs:len≤20000) (hfc:∀ x∈xs,((fun x=>[Value.int .i64 x]) x).length=1)
  (kc:∀ x∈xs,∀ V:World,Below W.heap.size W V→Calls Tryz.prog 78 #[(Value.int .i64 x)] V fun e W'=>e=.returned (.bool (p x))∧Below V.heap.size V W') :
  Calls Tryz.prog 105 #[.slice a len cap,.func (.func 78) #[] #[]] W fun e W'=>(∃ r:Int,e=.returned (.int .i64 r)∧decide (r ≥ 0)=xs.any p)∧Below W.heap.size W W':=by
 subst hl;have KC:=QQ kc;have HFC:=QQ hfc;have HR:=QQ h;clear kc h hfc;go_enter Tryz.func105,Tryz.ntmps105;go_wp2;go_loopw [5,8] (fun _ i wr=>∃ k:Nat,i=.int .i64 (k:Int)∧k≤xs.length∧(xs.take k).any p=false∧Below W.heap.size W wr) (fun _ i _=>xs.length-(intOf i).toNat)
 case atStart=>exact ⟨0,rfl,Nat.zero_le _,by simp,QB _ _⟩
 case round =>
  obtain ⟨k,rfl,hk,hany,hb⟩:=hrel;have HANY:=QQ hany;clear hany
  rcases Nat.lt_or_ge k xs.length with hx | hx
  ·rcases (QG HR) with h0 | ⟨b,off,rfl,hbn,hlc,hcm,hc⟩
   ·omega
   have hfc:=(QG HFC)
   have e:∀ j v,((fun x=>[Value.int .i64 x]) xs[k])[j]?=some v→wr.cell? ⟨b,off+k*1+j,none⟩=some v:=fun j v hj=>by
    have:=hc (k*1+j) v (Qb (fun x=>[Value.int .i64 x]) 1 xs hfc k hx j v hj);rw [show off+k*1+j=off+(k*1+j) by omega];exact (hb.cell (p:=⟨b,off+(k*1+j),none⟩) hbn).trans this
   have hsz:=hb.size;clear hc
   have t0:((k:Int)<(xs.length:Int)):=by omega
   obtain ⟨x,hxx⟩:∃ x,x=xs[k]:=⟨_,rfl⟩;have e0:=e 0 _ rfl;rw [Nat.add_zero,Nat.mul_one] at e0;clear e;go_wp2_with (go_at_call 78;refine Qau ?_);unfold Qag;refine ((QG KC) xs[k] (List.getElem_mem hx) wr hb).mono ?_;rintro e' w' ⟨rfl,b2⟩;have b3:=Qbg hb b2
   cases hp:p xs[k] with
   | true =>
    go_wp2;go_ret;exact ⟨⟨(k:Int),rfl,by rw [Qdn p xs k hx hp];exact decide_eq_true (by omega)⟩,b3⟩
   | false =>
    go_wp2;go_roundw
    case rel=>exact ⟨k+1,by go_num,by omega,by rw [Qcs p xs k hx,show (xs.take k).any p=false from HANY,hp];rfl,b3⟩
    case measure=>simp [intOf];omega
  ·have hk2:k=xs.length:=by omega
   subst hk2;clear hx hk;go_wp2;go_ret;exact ⟨⟨-1,rfl,by have:=(QG HANY);rw [List.take_length] at this;rw [this];rfl⟩,hb⟩
theorem Qjc (p:Int→Bool) (xs:List Int) (W:World) (a:Option Addr) (len cap:Nat) (h:Qc W.heap.size W a len cap (xs.flatMap (fun x=>[Value.int .i64 x]))) (hl:xs.length=len) (hs:len≤20000) (hfc:∀ x∈xs,((fun x=>[Value.int .i64 x]) x).length=1)
  (kc:∀ x∈xs,∀ V:World,Below W.heap.size W V→Calls Tryz.prog 78 #[(Value.int .i64 x)] V fun e W'=>e=.returned (.bool (p x))∧Below V.heap.size V W') :
  Calls Tryz.prog 77 #[.slice a len cap,.func (.func 78) #[] #[]] W fun e W'=>e=.returned (.bool (xs.any p))∧Below W.heap.size W W':=by
 have ki:=Qnt p xs W a len cap h hl hs hfc kc;clear kc h hfc;obtain ⟨b,hb⟩:∃ b,b=xs.any p:=⟨_,rfl⟩;rw [← hb] at ki ⊢;clear hb;go_enter Tryz.func77,Tryz.ntmps77;go_wp2_with (go_at_call 105;refine Qau ?_);unfold Qag;refine ki.mono ?_;rintro e w' ⟨⟨r,rfl,hr⟩,b1⟩;clear ki;go_wp2;go_ret;exact ⟨rfl,b1⟩
theorem Ql6 (p:(Pr × QcJ)→Bool) (xs:List (Pr × QcJ)) (W:World) (a:Option Addr) (len cap:Nat) (h:Qc W.heap.size W a len cap (xs.flatMap QaP)) (hl:xs.length=len) (hs:len≤20000) (hfc:∀ x∈xs,(QaP x).length=55)
  (kc:∀ x∈xs,∀ V:World,Below W.heap.size W V→Calls Tryz.prog 35 #[(.agg (QaP x).toArray)] V fun e W'=>e=.returned (.bool (p x))∧Below V.heap.size V W') :
  Calls Tryz.prog 76 #[.slice a len cap,.func (.func 35) #[] #[]] W fun e W'=>(∃ r:Int,e=.returned (.int .i64 r)∧decide (r ≥ 0)=xs.any p)∧Below W.heap.size W W':=by
 subst hl;have KC:=QQ kc;have HFC:=QQ hfc;have HR:=QQ h;clear kc h hfc;go_enter Tryz.func76,Tryz.ntmps76;go_wp2;go_loopw [5,8] (fun _ i wr=>∃ k:Nat,i=.int .i64 (k:Int)∧k≤xs.length∧(xs.take k).any p=false∧Below W.heap.size W wr) (fun _ i _=>xs.length-(intOf i).toNat)
 case atStart=>exact ⟨0,rfl,Nat.zero_le _,by simp,QB _ _⟩
 case round =>
  obtain ⟨k,rfl,hk,hany,hb⟩:=hrel;have HANY:=QQ hany;clear hany
  rcases Nat.lt_or_ge k xs.length with hx | hx
  ·rcases (QG HR) with h0 | ⟨b,off,rfl,hbn,hlc,hcm,hc⟩
   ·omega
   have hfc:=(QG HFC)
   have e:∀ j v,(QaP xs[k])[j]?=some v→wr.cell? ⟨b,off+k*55+j,none⟩=some v:=fun j v hj=>by
    have:=hc (k*55+j) v (Qb QaP 55 xs hfc k hx j v hj);rw [show off+k*55+j=off+(k*55+j) by omega];exact (hb.cell (p:=⟨b,off+(k*55+j),none⟩) hbn).trans this
   have hsz:=hb.size;clear hc
   have t0:((k:Int)<(xs.length:Int)):=by omega
   obtain ⟨x,hxx⟩:∃ x,x=xs[k]:=⟨_,rfl⟩
   go_wp2_with first
    | (go_at_call 35;refine Qau ?_)
    | (refine QaC (by rfl) 54 (.tmp 14) rfl b (off+k*55) rfl (QaP xs[k]) _ e Tryz.underlying54 rfl (by rw [hfc _ (List.getElem_mem hx)];exact QdY) ?_)
   unfold Qag;refine ((QG KC) xs[k] (List.getElem_mem hx) wr hb).mono ?_;rintro e' w' ⟨rfl,b2⟩;have b3:=Qbg hb b2
   cases hp:p xs[k] with
   | true =>
    go_wp2;go_ret;exact ⟨⟨(k:Int),rfl,by rw [Qdn p xs k hx hp];exact decide_eq_true (by omega)⟩,b3⟩
   | false =>
    go_wp2;go_roundw
    case rel=>exact ⟨k+1,by go_num,by omega,by rw [Qcs p xs k hx,show (xs.take k).any p=false from HANY,hp];rfl,b3⟩
    case measure=>simp [intOf];omega
  ·have hk2:k=xs.length:=by omega
   subst hk2;clear hx hk;go_wp2;go_ret;exact ⟨⟨-1,rfl,by have:=(QG HANY);rw [List.take_length] at this;rw [this];rfl⟩,hb⟩
theorem Qij (p:(Pr × QcJ)→Bool) (xs:List (Pr × QcJ)) (W:World) (a:Option Addr) (len cap:Nat) (h:Qc W.heap.size W a len cap (xs.flatMap QaP)) (hl:xs.length=len) (hs:len≤20000) (hfc:∀ x∈xs,(QaP x).length=55)
  (kc:∀ x∈xs,∀ V:World,Below W.heap.size W V→Calls Tryz.prog 35 #[(.agg (QaP x).toArray)] V fun e W'=>e=.returned (.bool (p x))∧Below V.heap.size V W') :
  Calls Tryz.prog 34 #[.slice a len cap,.func (.func 35) #[] #[]] W fun e W'=>e=.returned (.bool (xs.any p))∧Below W.heap.size W W':=by
 have ki:=Ql6 p xs W a len cap h hl hs hfc kc;clear kc h hfc;obtain ⟨b,hb⟩:∃ b,b=xs.any p:=⟨_,rfl⟩;rw [← hb] at ki ⊢;clear hb;go_enter Tryz.func34,Tryz.ntmps34;go_wp2_with (go_at_call 76;refine Qau ?_);unfold Qag;refine ki.mono ?_;rintro e w' ⟨⟨r,rfl,hr⟩,b1⟩;clear ki;go_wp2;go_ret;exact ⟨rfl,b1⟩
theorem Qnu (p:(List Int)→Bool) (xs:List (List Int)) (W:World) (a:Option Addr) (len cap:Nat) (h:Qc W.heap.size W a len cap (xs.flatMap QbQ)) (hl:xs.length=len) (hs:len≤20000) (hfc:∀ x∈xs,(QbQ x).length=1)
  (kc:∀ x∈xs,∀ V:World,Below W.heap.size W V→Calls Tryz.prog 38 #[(.string (strOfNums x))] V fun e W'=>e=.returned (.bool (p x))∧Below V.heap.size V W') :
  Calls Tryz.prog 82 #[.slice a len cap,.func (.func 38) #[] #[]] W fun e W'=>(∃ r:Int,e=.returned (.int .i64 r)∧decide (r ≥ 0)=xs.any p)∧Below W.heap.size W W':=by
 subst hl;have KC:=QQ kc;have HFC:=QQ hfc;have HR:=QQ h;clear kc h hfc;go_enter Tryz.func82,Tryz.ntmps82;go_wp2;go_loopw [5,8] (fun _ i wr=>∃ k:Nat,i=.int .i64 (k:Int)∧k≤xs.length∧(xs.take k).any p=false∧Below W.heap.size W wr) (fun _ i _=>xs.length-(intOf i).toNat)
 case atStart=>exact ⟨0,rfl,Nat.zero_le _,by simp,QB _ _⟩
 case round =>
  obtain ⟨k,rfl,hk,hany,hb⟩:=hrel;have HANY:=QQ hany;clear hany
  rcases Nat.lt_or_ge k xs.length with hx | hx
  ·rcases (QG HR) with h0 | ⟨b,off,rfl,hbn,hlc,hcm,hc⟩
   ·omega
   have hfc:=(QG HFC)
   have e:∀ j v,(QbQ xs[k])[j]?=some v→wr.cell? ⟨b,off+k*1+j,none⟩=some v:=fun j v hj=>by
    have:=hc (k*1+j) v (Qb QbQ 1 xs hfc k hx j v hj);rw [show off+k*1+j=off+(k*1+j) by omega];exact (hb.cell (p:=⟨b,off+(k*1+j),none⟩) hbn).trans this
   have hsz:=hb.size;clear hc
   have t0:((k:Int)<(xs.length:Int)):=by omega
   obtain ⟨x,hxx⟩:∃ x,x=xs[k]:=⟨_,rfl⟩;have e0:=e 0 _ rfl;rw [Nat.add_zero,Nat.mul_one] at e0;clear e;go_wp2_with (go_at_call 38;refine Qau ?_);unfold Qag;refine ((QG KC) xs[k] (List.getElem_mem hx) wr hb).mono ?_;rintro e' w' ⟨rfl,b2⟩;have b3:=Qbg hb b2
   cases hp:p xs[k] with
   | true =>
    go_wp2;go_ret;exact ⟨⟨(k:Int),rfl,by rw [Qdn p xs k hx hp];exact decide_eq_true (by omega)⟩,b3⟩
   | false =>
    go_wp2;go_roundw
    case rel=>exact ⟨k+1,by go_num,by omega,by rw [Qcs p xs k hx,show (xs.take k).any p=false from HANY,hp];rfl,b3⟩
    case measure=>simp [intOf];omega
  ·have hk2:k=xs.length:=by omega
   subst hk2;clear hx hk;go_wp2;go_ret;exact ⟨⟨-1,rfl,by have:=(QG HANY);rw [List.take_length] at this;rw [this];rfl⟩,hb⟩
theorem Qjd (p:(List Int)→Bool) (xs:List (List Int)) (W:World) (a:Option Addr) (len cap:Nat) (h:Qc W.heap.size W a len cap (xs.flatMap QbQ)) (hl:xs.length=len) (hs:len≤20000) (hfc:∀ x∈xs,(QbQ x).length=1)
  (kc:∀ x∈xs,∀ V:World,Below W.heap.size W V→Calls Tryz.prog 38 #[(.string (strOfNums x))] V fun e W'=>e=.returned (.bool (p x))∧Below V.heap.size V W') :
  Calls Tryz.prog 37 #[.slice a len cap,.func (.func 38) #[] #[]] W fun e W'=>e=.returned (.bool (xs.any p))∧Below W.heap.size W W':=by
 have ki:=Qnu p xs W a len cap h hl hs hfc kc;clear kc h hfc;obtain ⟨b,hb⟩:∃ b,b=xs.any p:=⟨_,rfl⟩;rw [← hb] at ki ⊢;clear hb;go_enter Tryz.func37,Tryz.ntmps37;go_wp2_with (go_at_call 82;refine Qau ?_);unfold Qag;refine ki.mono ?_;rintro e w' ⟨⟨r,rfl,hr⟩,b1⟩;clear ki;go_wp2;go_ret;exact ⟨rfl,b1⟩
theorem Ql5 (p:(Pp × (Option Addr × Nat))→Bool) (xs:List (Pp × (Option Addr × Nat))) (W:World) (a:Option Addr) (len cap:Nat) (h:Qc W.heap.size W a len cap (xs.flatMap QbN)) (hl:xs.length=len) (hs:len≤20000) (hfc:∀ x∈xs,(QbN x).length=3)
  (kc:∀ x∈xs,∀ V:World,Below W.heap.size W V→Calls Tryz.prog 40 #[(.agg (QbN x).toArray)] V fun e W'=>e=.returned (.bool (p x))∧Below V.heap.size V W') :
  Calls Tryz.prog 83 #[.slice a len cap,.func (.func 40) #[] #[]] W fun e W'=>(∃ r:Int,e=.returned (.int .i64 r)∧decide (r ≥ 0)=xs.any p)∧Below W.heap.size W W':=by
 subst hl;have KC:=QQ kc;have HFC:=QQ hfc;have HR:=QQ h;clear kc h hfc;go_enter Tryz.func83,Tryz.ntmps83;go_wp2;go_loopw [5,8] (fun _ i wr=>∃ k:Nat,i=.int .i64 (k:Int)∧k≤xs.length∧(xs.take k).any p=false∧Below W.heap.size W wr) (fun _ i _=>xs.length-(intOf i).toNat)
 case atStart=>exact ⟨0,rfl,Nat.zero_le _,by simp,QB _ _⟩
 case round =>
  obtain ⟨k,rfl,hk,hany,hb⟩:=hrel;have HANY:=QQ hany;clear hany
  rcases Nat.lt_or_ge k xs.length with hx | hx
  ·rcases (QG HR) with h0 | ⟨b,off,rfl,hbn,hlc,hcm,hc⟩
   ·omega
   have hfc:=(QG HFC)
   have e:∀ j v,(QbN xs[k])[j]?=some v→wr.cell? ⟨b,off+k*3+j,none⟩=some v:=fun j v hj=>by
    have:=hc (k*3+j) v (Qb QbN 3 xs hfc k hx j v hj);rw [show off+k*3+j=off+(k*3+j) by omega];exact (hb.cell (p:=⟨b,off+(k*3+j),none⟩) hbn).trans this
   have hsz:=hb.size;clear hc
   have t0:((k:Int)<(xs.length:Int)):=by omega
   obtain ⟨x,hxx⟩:∃ x,x=xs[k]:=⟨_,rfl⟩
   go_wp2_with first
    | (go_at_call 40;refine Qau ?_)
    | (refine QaC (by rfl) 68 (.tmp 14) rfl b (off+k*3) rfl (QbN xs[k]) _ e Tryz.underlying68 rfl (by rw [hfc _ (List.getElem_mem hx)];exact Qds) ?_)
   unfold Qag;refine ((QG KC) xs[k] (List.getElem_mem hx) wr hb).mono ?_;rintro e' w' ⟨rfl,b2⟩;have b3:=Qbg hb b2
   cases hp:p xs[k] with
   | true =>
    go_wp2;go_ret;exact ⟨⟨(k:Int),rfl,by rw [Qdn p xs k hx hp];exact decide_eq_true (by omega)⟩,b3⟩
   | false =>
    go_wp2;go_roundw
    case rel=>exact ⟨k+1,by go_num,by omega,by rw [Qcs p xs k hx,show (xs.take k).any p=false from HANY,hp];rfl,b3⟩
    case measure=>simp [intOf];omega
  ·have hk2:k=xs.length:=by omega
   subst hk2;clear hx hk;go_wp2;go_ret;exact ⟨⟨-1,rfl,by have:=(QG HANY);rw [List.take_length] at this;rw [this];rfl⟩,hb⟩
theorem Qii (p:(Pp × (Option Addr × Nat))→Bool) (xs:List (Pp × (Option Addr × Nat))) (W:World) (a:Option Addr) (len cap:Nat) (h:Qc W.heap.size W a len cap (xs.flatMap QbN)) (hl:xs.length=len) (hs:len≤20000) (hfc:∀ x∈xs,(QbN x).length=3)
  (kc:∀ x∈xs,∀ V:World,Below W.heap.size W V→Calls Tryz.prog 40 #[(.agg (QbN x).toArray)] V fun e W'=>e=.returned (.bool (p x))∧Below V.heap.size V W') :
  Calls Tryz.prog 39 #[.slice a len cap,.func (.func 40) #[] #[]] W fun e W'=>e=.returned (.bool (xs.any p))∧Below W.heap.size W W':=by
 have ki:=Ql5 p xs W a len cap h hl hs hfc kc;clear kc h hfc;obtain ⟨b,hb⟩:∃ b,b=xs.any p:=⟨_,rfl⟩;rw [← hb] at ki ⊢;clear hb;go_enter Tryz.func39,Tryz.ntmps39;go_wp2_with (go_at_call 83;refine Qau ?_);unfold Qag;refine ki.mono ?_;rintro e w' ⟨⟨r,rfl,hr⟩,b1⟩;clear ki;go_wp2;go_ret;exact ⟨rfl,b1⟩
theorem Ql4 (p:(Int × Bool)→Bool) (xs:List (Int × Bool)) (W:World) (a:Option Addr) (len cap:Nat) (h:Qc W.heap.size W a len cap (xs.flatMap Qbm)) (hl:xs.length=len) (hs:len≤20000) (hfc:∀ x∈xs,(Qbm x).length=2)
  (kc:∀ x∈xs,∀ V:World,Below W.heap.size W V→Calls Tryz.prog 42 #[(.agg (Qbm x).toArray)] V fun e W'=>e=.returned (.bool (p x))∧Below V.heap.size V W') :
  Calls Tryz.prog 84 #[.slice a len cap,.func (.func 42) #[] #[]] W fun e W'=>(∃ r:Int,e=.returned (.int .i64 r)∧decide (r ≥ 0)=xs.any p)∧Below W.heap.size W W':=by
 subst hl;have KC:=QQ kc;have HFC:=QQ hfc;have HR:=QQ h;clear kc h hfc;go_enter Tryz.func84,Tryz.ntmps84;go_wp2;go_loopw [5,8] (fun _ i wr=>∃ k:Nat,i=.int .i64 (k:Int)∧k≤xs.length∧(xs.take k).any p=false∧Below W.heap.size W wr) (fun _ i _=>xs.length-(intOf i).toNat)
 case atStart=>exact ⟨0,rfl,Nat.zero_le _,by simp,QB _ _⟩
 case round =>
  obtain ⟨k,rfl,hk,hany,hb⟩:=hrel;have HANY:=QQ hany;clear hany
  rcases Nat.lt_or_ge k xs.length with hx | hx
  ·rcases (QG HR) with h0 | ⟨b,off,rfl,hbn,hlc,hcm,hc⟩
   ·omega
   have hfc:=(QG HFC)
   have e:∀ j v,(Qbm xs[k])[j]?=some v→wr.cell? ⟨b,off+k*2+j,none⟩=some v:=fun j v hj=>by
    have:=hc (k*2+j) v (Qb Qbm 2 xs hfc k hx j v hj);rw [show off+k*2+j=off+(k*2+j) by omega];exact (hb.cell (p:=⟨b,off+(k*2+j),none⟩) hbn).trans this
   have hsz:=hb.size;clear hc
   have t0:((k:Int)<(xs.length:Int)):=by omega
   obtain ⟨x,hxx⟩:∃ x,x=xs[k]:=⟨_,rfl⟩
   go_wp2_with first
    | (go_at_call 42;refine Qau ?_)
    | (refine QaC (by rfl) 76 (.tmp 14) rfl b (off+k*2) rfl (Qbm xs[k]) _ e Tryz.underlying76 rfl (by rw [hfc _ (List.getElem_mem hx)];exact Qea) ?_)
   unfold Qag;refine ((QG KC) xs[k] (List.getElem_mem hx) wr hb).mono ?_;rintro e' w' ⟨rfl,b2⟩;have b3:=Qbg hb b2
   cases hp:p xs[k] with
   | true =>
    go_wp2;go_ret;exact ⟨⟨(k:Int),rfl,by rw [Qdn p xs k hx hp];exact decide_eq_true (by omega)⟩,b3⟩
   | false =>
    go_wp2;go_roundw
    case rel=>exact ⟨k+1,by go_num,by omega,by rw [Qcs p xs k hx,show (xs.take k).any p=false from HANY,hp];rfl,b3⟩
    case measure=>simp [intOf];omega
  ·have hk2:k=xs.length:=by omega
   subst hk2;clear hx hk;go_wp2;go_ret;exact ⟨⟨-1,rfl,by have:=(QG HANY);rw [List.take_length] at this;rw [this];rfl⟩,hb⟩
theorem Qih (p:(Int × Bool)→Bool) (xs:List (Int × Bool)) (W:World) (a:Option Addr) (len cap:Nat) (h:Qc W.heap.size W a len cap (xs.flatMap Qbm)) (hl:xs.length=len) (hs:len≤20000) (hfc:∀ x∈xs,(Qbm x).length=2)
  (kc:∀ x∈xs,∀ V:World,Below W.heap.size W V→Calls Tryz.prog 42 #[(.agg (Qbm x).toArray)] V fun e W'=>e=.returned (.bool (p x))∧Below V.heap.size V W') :
  Calls Tryz.prog 41 #[.slice a len cap,.func (.func 42) #[] #[]] W fun e W'=>e=.returned (.bool (xs.any p))∧Below W.heap.size W W':=by
 have ki:=Ql4 p xs W a len cap h hl hs hfc kc;clear kc h hfc;obtain ⟨b,hb⟩:∃ b,b=xs.any p:=⟨_,rfl⟩;rw [← hb] at ki ⊢;clear hb;go_enter Tryz.func41,Tryz.ntmps41;go_wp2_with (go_at_call 84;refine Qau ?_);unfold Qag;refine ki.mono ?_;rintro e w' ⟨⟨r,rfl,hr⟩,b1⟩;clear ki;go_wp2;go_ret;exact ⟨rfl,b1⟩
theorem Ql7 (p:Wt→Bool) (xs:List Wt) (W:World) (a:Option Addr) (len cap:Nat) (h:Qc W.heap.size W a len cap (xs.flatMap Qbp)) (hl:xs.length=len) (hs:len≤20000) (hfc:∀ x∈xs,(Qbp x).length=4)
  (kc:∀ x∈xs,∀ V:World,Below W.heap.size W V→Calls Tryz.prog 44 #[(.agg (Qbp x).toArray)] V fun e W'=>e=.returned (.bool (p x))∧Below V.heap.size V W') :
  Calls Tryz.prog 85 #[.slice a len cap,.func (.func 44) #[] #[]] W fun e W'=>(∃ r:Int,e=.returned (.int .i64 r)∧decide (r ≥ 0)=xs.any p)∧Below W.heap.size W W':=by
 subst hl;have KC:=QQ kc;have HFC:=QQ hfc;have HR:=QQ h;clear kc h hfc;go_enter Tryz.func85,Tryz.ntmps85;go_wp2;go_loopw [5,8] (fun _ i wr=>∃ k:Nat,i=.int .i64 (k:Int)∧k≤xs.length∧(xs.take k).any p=false∧Below W.heap.size W wr) (fun _ i _=>xs.length-(intOf i).toNat)
 case atStart=>exact ⟨0,rfl,Nat.zero_le _,by simp,QB _ _⟩
 case round =>
  obtain ⟨k,rfl,hk,hany,hb⟩:=hrel;have HANY:=QQ hany;clear hany
  rcases Nat.lt_or_ge k xs.length with hx | hx
  ·rcases (QG HR) with h0 | ⟨b,off,rfl,hbn,hlc,hcm,hc⟩
   ·omega
   have hfc:=(QG HFC)
   have e:∀ j v,(Qbp xs[k])[j]?=some v→wr.cell? ⟨b,off+k*4+j,none⟩=some v:=fun j v hj=>by
    have:=hc (k*4+j) v (Qb Qbp 4 xs hfc k hx j v hj);rw [show off+k*4+j=off+(k*4+j) by omega];exact (hb.cell (p:=⟨b,off+(k*4+j),none⟩) hbn).trans this
   have hsz:=hb.size;clear hc
   have t0:((k:Int)<(xs.length:Int)):=by omega
   obtain ⟨x,hxx⟩:∃ x,x=xs[k]:=⟨_,rfl⟩
   go_wp2_with first
    | (go_at_call 44;refine Qau ?_)
    | (refine QaC (by rfl) 80 (.tmp 14) rfl b (off+k*4) rfl (Qbp xs[k]) _ e Tryz.underlying80 rfl (by rw [hfc _ (List.getElem_mem hx)];exact QcL) ?_)
   unfold Qag;refine ((QG KC) xs[k] (List.getElem_mem hx) wr hb).mono ?_;rintro e' w' ⟨rfl,b2⟩;have b3:=Qbg hb b2
   cases hp:p xs[k] with
   | true =>
    go_wp2;go_ret;exact ⟨⟨(k:Int),rfl,by rw [Qdn p xs k hx hp];exact decide_eq_true (by omega)⟩,b3⟩
   | false =>
    go_wp2;go_roundw
    case rel=>exact ⟨k+1,by go_num,by omega,by rw [Qcs p xs k hx,show (xs.take k).any p=false from HANY,hp];rfl,b3⟩
    case measure=>simp [intOf];omega
  ·have hk2:k=xs.length:=by omega
   subst hk2;clear hx hk;go_wp2;go_ret;exact ⟨⟨-1,rfl,by have:=(QG HANY);rw [List.take_length] at this;rw [this];rfl⟩,hb⟩
theorem Qik (p:Wt→Bool) (xs:List Wt) (W:World) (a:Option Addr) (len cap:Nat) (h:Qc W.heap.size W a len cap (xs.flatMap Qbp)) (hl:xs.length=len) (hs:len≤20000) (hfc:∀ x∈xs,(Qbp x).length=4)
  (kc:∀ x∈xs,∀ V:World,Below W.heap.size W V→Calls Tryz.prog 44 #[(.agg (Qbp x).toArray)] V fun e W'=>e=.returned (.bool (p x))∧Below V.heap.size V W') :
  Calls Tryz.prog 43 #[.slice a len cap,.func (.func 44) #[] #[]] W fun e W'=>e=.returned (.bool (xs.any p))∧Below W.heap.size W W':=by
 have ki:=Ql7 p xs W a len cap h hl hs hfc kc;clear kc h hfc;obtain ⟨b,hb⟩:∃ b,b=xs.any p:=⟨_,rfl⟩;rw [← hb] at ki ⊢;clear hb;go_enter Tryz.func43,Tryz.ntmps43;go_wp2_with (go_at_call 85;refine Qau ?_);unfold Qag;refine ki.mono ?_;rintro e w' ⟨⟨r,rfl,hr⟩,b1⟩;clear ki;go_wp2;go_ret;exact ⟨rfl,b1⟩
end
theorem QfK:(Tryz.prog.info? 108).map (·.size)=some 5:=by kernel_rfl
theorem Qeb:(Tryz.prog.info? 110).map (·.size)=some 6:=by kernel_rfl
theorem QiJ (last:Int) (l:List Pg) (k:Nat) (h:k<l.length):Qbc last (l.drop k)=(!(decide (l[k].page≤last) || decide (l[k].page ≥ 64) || !Qfk l[k])&&Qbc l[k].page (l.drop (k+1))):=by
 rw [List.drop_eq_getElem_cons h];show (decide (last<l[k].page)&&decide (l[k].page<64)&&Qfk l[k]&&Qbc l[k].page (l.drop (k+1)))=_
 have e1:decide (last<l[k].page) = !decide (l[k].page≤last):=by by_cases h:l[k].page≤last <;> simp [h] <;> omega
 have e2:decide (l[k].page<64) = !decide (l[k].page ≥ 64):=by by_cases h:l[k].page<64 <;> simp [h] <;> omega
 rw [e1,e2,Bool.not_or,Bool.not_or,Bool.not_not]
theorem QkT (l:List Pg) (W:World) (a:Option Addr) (len cap:Nat) (h:Qc W.heap.size W a len cap (l.flatMap Pg.vals)) (hl:l.length=len) (hs:len≤20000) :
  Calls Tryz.prog 81 #[.slice a len cap] W fun e W'=>e=.returned (.bool (Qbc (-1) l))∧Below W.heap.size W W':=by
 subst hl;have HR:=QQ h;clear h;obtain ⟨res,hres⟩:∃ b,b=Qbc (-1) l:=⟨_,rfl⟩;rw [← hres];have HB:=QQ hres;clear hres;go_enter Tryz.func81,Tryz.ntmps81;go_wp2;go_loopw [3,5,8] (fun la _ i wr=>∃ (k:Nat) (v:Int),i=.int .i64 (k:Int)∧la=.int .i64 v∧k≤l.length∧res=Qbc v (l.drop k)∧Below W.heap.size W wr) (fun _ _ i _=>l.length-(intOf i).toNat)
 case atStart=>exact ⟨0,-1,rfl,rfl,Nat.zero_le _,HB,QB _ _⟩
 case round =>
  obtain ⟨k,last,rfl,rfl,hk,hany,hb⟩:=hrel;have HANY:=QQ hany;clear hany
  rcases Nat.lt_or_ge k l.length with hx | hx
  ·rcases (QG HR) with h0 | ⟨b,off,rfl,hbn,hlc,hcm,hc⟩
   ·omega
   have e:∀ j v,(Pg.vals l[k])[j]?=some v→wr.cell? ⟨b,off+k*6+j,none⟩=some v:=fun j v hj=>by
    have:=hc (k*6+j) v (Qb Pg.vals 6 l (fun _ _=>rfl) k hx j v hj);rw [show off+k*6+j=off+(k*6+j) by omega];exact (hb.cell (p:=⟨b,off+(k*6+j),none⟩) hbn).trans this
   have hsz:=hb.size;clear hc;have hm:=QiJ last l k hx;rw [show Qbc last (l.drop k)=res from (QG HANY).symm] at hm;obtain ⟨mg,hmg⟩:∃ mg,mg=l[k]:=⟨_,rfl⟩;rw [← hmg] at e hm;clear hmg;obtain ⟨pg,f,w,s,c⟩:=mg;have HM:=QQ hm;clear hm
   have t0:((k:Int)<(l.length:Int)):=by omega
   go_wp2_with first
    | (refine QaC (by rfl) 110 (.tmp 10) rfl b (off+k*6) rfl (Pg.vals ⟨pg,f,w,s,c⟩) _ e Tryz.underlying110 rfl Qeb ?_)
    | ((fail_if_success (unfold Qag));refine Qan (t:=110) rfl ?_)
   unfold Qag;refine Qab rfl 110 (.tmp 5) (.tmp 11) rfl wr.heap.size #[.int .i64 pg,.int .i64 f,.bool w,.bool s,.bool c,.bool false] rfl rfl 110 _ (QW _ _) Qeb rfl (by simp [Value.oneCell']) ?_;rw [World.setRow_alloc_new];obtain ⟨V,hV⟩:∃ V,V=wr.alloc (.cells #[.int .i64 pg,.int .i64 f,.bool w,.bool s,.bool c,.bool false] 110):=⟨_,rfl⟩
   have eV:V.heap[wr.heap.size]?=some (.cells #[.int .i64 pg,.int .i64 f,.bool w,.bool s,.bool c,.bool false] 110):=by rw [hV];exact QW _ _
   have bV:Below W.heap.size W V:=hb.trans (by rw [hV];exact (QB _ _).alloc hsz _);have sV:wr.heap.size<V.heap.size:=(QI.1 eV).1;rw [← hV];clear hV e
   have c0:V.cell? ⟨wr.heap.size,0,none⟩=some (.int .i64 pg):=by rw [cell_of_row V _ 0 _ _ _ eV];rfl
   have c5:V.cell? ⟨wr.heap.size,5,none⟩=some (.bool false):=by rw [cell_of_row V _ 5 _ _ _ eV];rfl
   have hcE:∀ j v,([.int .i64 f,.bool w,.bool s,.bool c,.bool false]:List Value)[j]?=some v→V.cell? ⟨wr.heap.size,1+j,none⟩=some v:=fun j v hj=>by
    have hlt:=(List.getElem?_eq_some_iff.1 hj).1;rw [cell_of_row V _ (1+j) _ _ _ eV,List.getElem?_toArray,Nat.add_comm,List.getElem?_cons_succ];exact hj
   have ke:=QlS ⟨pg,f,w,s,c⟩ V
   obtain ⟨E,hE⟩:∃ E:Int,E=if Qfk ⟨pg,f,w,s,c⟩ then 0 else 50:=⟨_,rfl⟩
   rw [← hE] at ke;have HE:=QQ hE;clear hE eV
   cases t1:decide (pg≤last) with
   | true =>
    go_wp2;go_ret;exact ⟨by rw [show res=_ from HM,t1];rfl,bV⟩
   | false =>
    cases t2:decide (pg ≥ 64) with
    | true =>
     go_wp2;go_ret;exact ⟨by rw [show res=_ from HM,t1,t2];rfl,bV⟩
    | false =>
     go_wp2_with first
      | (go_at_call 107;refine Qau ?_)
      | (refine QaC (by rfl) 108 (.tmp 27) rfl wr.heap.size 1 rfl [.int .i64 f,.bool w,.bool s,.bool c,.bool false] _ hcE Tryz.underlying108 rfl QfK ?_)
     unfold Qag;refine ke.mono ?_;rintro e' w2 ⟨rfl,b2⟩;have b3:=bV.trans (b2.mono (Nat.le_trans hsz (Nat.le_of_lt sV)));have c0':w2.cell? ⟨wr.heap.size,0,none⟩=some (.int .i64 pg):=(b2.cell (p:=⟨wr.heap.size,0,none⟩) sV).trans c0;clear ke hcE c0 c5 b2
     cases t3:Qfk ⟨pg,f,w,s,c⟩ with
     | false =>
      have hE2:E=50:=by rw [show E=_ from HE,t3];rfl
      clear HE;subst hE2;go_wp2;go_ret;exact ⟨by rw [show res=_ from HM,t1,t2,t3];rfl,b3⟩
     | true =>
      have hE2:E=0:=by rw [show E=_ from HE,t3];rfl
      clear HE;subst hE2;go_wp2;go_roundw
      case rel=>exact ⟨k+1,pg,by go_num,rfl,by omega,by rw [show res=_ from HM,t1,t2,t3];rfl,b3⟩
      case measure=>simp [intOf];omega
  ·have hk2:k=l.length:=by omega
   subst hk2;clear hx hk;go_wp2;go_ret;exact ⟨by rw [show res=_ from HANY,List.drop_length];rfl,hb⟩
theorem QlU (n:Int) (W:World):Calls Tryz.prog 78 #[.int .i64 n] W fun e W'=>e=.returned (.bool (!Qf1 n))∧Below W.heap.size W W':=by
 have kw:=QhC n (-1) 63 W;rw [show decide (-1≤n∧n≤63)=Qf1 n from rfl] at kw;obtain ⟨b,hb⟩:∃ b,b=Qf1 n:=⟨_,rfl⟩;rw [← hb] at kw ⊢;clear hb;go_enter Tryz.func78,Tryz.ntmps78;go_wp2_with (go_at_call 33;refine Qau ?_);unfold Qag;refine kw.mono ?_;rintro e w' ⟨rfl,rfl⟩;clear kw;go_wp2;go_ret;exact ⟨rfl,QB _ _⟩
theorem Qox (n:Nat) (r s:List Int) (hr:r.length=n) (hs:s.length=n):(List.range n).all (fun i=>r.getD i 0 == s.getD i 0)=(r == s):=by
 rw [Bool.eq_iff_iff,List.all_eq_true];simp only [List.mem_range,beq_iff_eq];constructor
 ·intro h
  refine List.ext_getElem (by omega) fun i h1 h2=>?_
  have:=h i (by omega);simpa [List.getD,List.getElem?_eq_getElem h1,List.getElem?_eq_getElem h2] using this
 ·rintro rfl i _;rfl
theorem QgE (d:Nat) (t:TypeId) (n:Nat) (r s:List Int) (hr:r.length=n) (hs:s.length=n) (ht:Tryz.prog.underlying t=some (.array n 40)) (w:World) :
  (Op.equalIn (d+2) t (.agg (r.map (Value.int .u32)).toArray) (.agg (s.map (Value.int .u32)).toArray)).run Tryz.prog w=.ok (r == s) w:=by
 rw [← Qox n r s hr hs]
 refine QdH (d+1) t n 40 _ _ _ w ht (Tryz.sizeOf40 w) fun i hi=>?_
 have hp:∀ l:List Int,l.length=n→(part 40 (l.map (Value.int .u32)).toArray i).run Tryz.prog w=.ok (.int .u32 (l.getD i 0)) w:=fun l hl=>by
  have:(l.map (Value.int .u32)).toArray[i]?=some (.int .u32 (l.getD i 0)):=by
   rw [List.getElem?_toArray,List.getElem?_map,List.getElem?_eq_getElem (by omega)];simp [List.getD,List.getElem?_eq_getElem (show i<l.length by omega)]
  simp [part,Sem.run_bind,Tryz.isAgg40 w,this]
 exact ⟨_,_,hp r hr,hp s hs,run_equalIn_int w d 40 _ _ _ _ Tryz.underlying40⟩
theorem Qho (a b:Int) (ha:a.natAbs<2 ^ 40) (hb:b.natAbs<2 ^ 40):Op.floatEq .f64 (fl a) (fl b)=(a == b):=by
 have ho:FloatKind.f64.format.order (fl a) (fl b)=some (compare a b):=QjV a b ha hb;unfold Op.floatEq;rw [ho,Bool.eq_iff_iff];simp only [beq_iff_eq,Option.some.injEq];constructor
 ·intro h;exact Int.compare_eq_eq.1 h
 ·rintro rfl;simp
theorem Qhl (d:Nat) (a b a' b':Int) (h1:a.natAbs<2 ^ 40) (h2:b.natAbs<2 ^ 40) (h3:a'.natAbs<2 ^ 40) (h4:b'.natAbs<2 ^ 40) (w:World) :
  (Op.equalIn (d+1) 42 (.complex .f64 (fl a) (fl b)) (.complex .f64 (fl a') (fl b'))).run Tryz.prog w=.ok ((a == a')&&(b == b')) w:=by
 rw [← Qho a a' h1 h3,← Qho b b' h2 h4];simp [Op.equalIn,run_underlying Tryz.underlying42]
theorem QlT (d:Nat) (a b c e a' b' c' e':Int) (h1:a.natAbs<2 ^ 40) (h2:b.natAbs<2 ^ 40) (h3:c.natAbs<2 ^ 40) (h4:e.natAbs<2 ^ 40) (g1:a'.natAbs<2 ^ 40) (g2:b'.natAbs<2 ^ 40) (g3:c'.natAbs<2 ^ 40) (g4:e'.natAbs<2 ^ 40) (w:World) :
  (Op.equalIn (d+2) 43 (.agg #[.complex .f64 (fl a) (fl b),.complex .f64 (fl c) (fl e)]) (.agg #[.complex .f64 (fl a') (fl b'),.complex .f64 (fl c') (fl e')])).run Tryz.prog w=.ok (((a == a')&&(b == b'))&&((c == c')&&(e == e'))) w:=by
 have h:=QdH (P:=Tryz.prog) (d+1) 43 2 42 #[.complex .f64 (fl a) (fl b),.complex .f64 (fl c) (fl e)] #[.complex .f64 (fl a') (fl b'),.complex .f64 (fl c') (fl e')]
  (fun i=>if i=0 then (a == a')&&(b == b') else (c == c')&&(e == e')) w Tryz.underlying43 (Tryz.sizeOf42 w) fun i hi=>by
   have hp:∀ (x y:Value) (j:Nat),j<2→(part 42 #[x,y] j).run Tryz.prog w=.ok (if j=0 then x else y) w:=fun x y j hj=>by
    rcases (by omega:j=0∨j=1) with rfl | rfl
    ·simp [part,Sem.run_bind,Tryz.isAgg42 w]
    ·simp [part,Sem.run_bind,Tryz.isAgg42 w]
   refine ⟨_,_,hp _ _ i hi,hp _ _ i hi,?_⟩
   rcases (by omega:i=0∨i=1) with rfl | rfl
   ·simpa using Qhl d a b a' b' h1 h2 g1 g2 w
   ·simpa using Qhl d c e c' e' h3 h4 g3 g4 w
 rw [h,show List.range 2=[0,1] from rfl];simp [Bool.and_assoc]
theorem QgD (c d:Cp) (hc:c.Ok) (hd:d.Ok) (w:World):(binOp .eql 45 (.agg c.vals.toArray) (.agg d.vals.toArray)).run Tryz.prog w=.ok (.bool (c.eq d)) w:=by
 obtain ⟨r,za,zb,zc,zd,pc⟩:=c;obtain ⟨r',za',zb',zc',zd',pc'⟩:=d;obtain ⟨h1,h2,h3,h4,h5,h6,h7⟩:=hc;obtain ⟨g1,g2,g3,g4,g5,g6,g7⟩:=hd;simp only at h1 h3 h4 h5 h6 g1 g3 g4 g5 g6
 have hS:Tryz.prog.underlying 45=some (.struct (Tryz.prog.fieldsOf 45)):=by kernel_rfl
 have hp:Tryz.prog.stoodInHeld 45=false:=by kernel_rfl
 have p1:∀ (l:List Int) (a b c e f:Int),l.length=8→(part 41 (Cp.vals ⟨l,a,b,c,e,f⟩).toArray 0).run Tryz.prog w=.ok (.agg (l.map (Value.int .u32)).toArray) w:=fun l a b c e f hl=>by
  match l,hl with
  | [r0,r1,r2,r3,r4,r5,r6,r7],_=>simp [part,Sem.run_bind,Tryz.isAgg41 w,Tryz.sizeOf41 w,Cp.vals]
 have p2:∀ (l:List Int) (a b c e f:Int),l.length=8→(part 43 (Cp.vals ⟨l,a,b,c,e,f⟩).toArray 8).run Tryz.prog w=.ok (.agg #[.complex .f64 (fl a) (fl b),.complex .f64 (fl c) (fl e)]) w:=fun l a b c e f hl=>by
  match l,hl with
  | [r0,r1,r2,r3,r4,r5,r6,r7],_=>simp [part,Sem.run_bind,Tryz.isAgg43 w,Tryz.sizeOf43 w,Cp.vals]
 have p3:∀ (l:List Int) (a b c e f:Int),l.length=8→(part 40 (Cp.vals ⟨l,a,b,c,e,f⟩).toArray 10).run Tryz.prog w=.ok (.int .u32 f) w:=fun l a b c e f hl=>by
  match l,hl with
  | [r0,r1,r2,r3,r4,r5,r6,r7],_=>simp [part,Sem.run_bind,Tryz.isAgg40 w,Cp.vals]
 rw [run_eql_struct,show (10000:Nat)=9999+1 from rfl,run_equalIn_agg w 9999 _ _ _ hS hp];have q1:=QgE 9997 41 8 r r' h1 g1 Tryz.underlying41 w;have q2:=QlT 9997 za zb zc zd za' zb' zc' zd' (by omega) (by omega) (by omega) (by omega) (by omega) (by omega) (by omega) (by omega) w;have q3:=run_equalIn_int (P:=Tryz.prog) w 9998 40 .u32 .u32 pc pc' Tryz.underlying40;simp only [Nat.reduceAdd] at q1 q2 q3;have a1:=p1 r za zb zc zd pc h1;have a2:=p1 r' za' zb' zc' zd' pc' g1;have a3:=p2 r za zb zc zd pc h1;have a4:=p2 r' za' zb' zc' zd' pc' g1;have a5:=p3 r za zb zc zd pc h1;have a6:=p3 r' za' zb' zc' zd' pc' g1;clear p1 p2 p3;generalize (Cp.vals ⟨r,za,zb,zc,zd,pc⟩).toArray=X at a1 a3 a5 ⊢;generalize (Cp.vals ⟨r',za',zb',zc',zd',pc'⟩).toArray=Y at a2 a4 a6 ⊢;simp only [Program.fieldsOf,Tryz.underlying45];unfold Cp.eq;simp [Op.eqFields,Sem.run_bind,Sem.run_ite,a1,a2,a3,a4,a5,a6,q1,q2,q3]
 by_cases e1:r=r' <;> by_cases e2:za=za' <;> by_cases e3:zb=zb' <;> by_cases e4:zc=zc' <;> by_cases e5:zd=zd' <;> by_cases e6:pc=pc' <;> simp [e1,e2,e3,e4,e5,e6]
theorem eqFields_step {P : Program} {d : Nat} {xs ys : Array Value} {f : Field} {fs : List Field} {w : World} {a b : Value} {r s : Bool} (h : f.name ≠ "_") (h1 : (part f.type xs f.offset).run P w = .ok a w) (h2 : (part f.type ys f.offset).run P w = .ok b w)
  (h3:(Op.equalIn d f.type a b).run P w=.ok r w) (h4:(Op.eqFields d xs ys fs).run P w=.ok s w):(Op.eqFields d xs ys (f::fs)).run P w=.ok (r&&s) w:=by
 rw [Op.eqFields,if_pos h];simp only [Sem.run_bind,h1,h2,h3,Result.andThen_ok,Sem.run_ite]
 cases r
 ·simp only [Bool.not_false,if_true,Sem.run_pure,Bool.false_and]
 ·simpa using h4
theorem Qiq (c d:Sg) (hc:c.Ok) (hd:d.Ok) (w:World):(binOp .eql 48 (.agg c.vals.toArray) (.agg d.vals.toArray)).run Tryz.prog w=.ok (.bool (c.eq d)) w:=by
 obtain ⟨p,m,r,z⟩:=c;obtain ⟨p',m',r',z'⟩:=d;have h1:r.length=16:=hc.2.2.1;have g1:r'.length=16:=hd.2.2.1
 have hS:Tryz.prog.underlying 48=some (.struct (Tryz.prog.fieldsOf 48)):=by kernel_rfl
 have hp:Tryz.prog.stoodInHeld 48=false:=by kernel_rfl
 have pp:∀ (p m:Int) (l:List Int) (z:Bool),l.length=16→(part 40 (Sg.vals ⟨p,m,l,z⟩).toArray 0).run Tryz.prog w=.ok (.int .u32 p) w∧(part 40 (Sg.vals ⟨p,m,l,z⟩).toArray 1).run Tryz.prog w=.ok (.int .u32 m) w ∧
   (part 46 (Sg.vals ⟨p,m,l,z⟩).toArray 2).run Tryz.prog w=.ok (.agg (l.map (Value.int .u32)).toArray) w∧(part 4 (Sg.vals ⟨p,m,l,z⟩).toArray 18).run Tryz.prog w=.ok (.bool z) w:=fun p m l z hl=>by
  match l,hl with
  | [r0,r1,r2,r3,r4,r5,r6,r7,r8,r9,r10,r11,r12,r13,r14,r15],_ =>
   refine ⟨?_,?_,?_,?_⟩ <;> simp [part,Sem.run_bind,Tryz.isAgg40 w,Tryz.isAgg4 w,Tryz.isAgg46 w,Tryz.sizeOf46 w,Sg.vals]
 obtain ⟨a1,a2,a3,a4⟩:=pp p m r z h1;obtain ⟨b1,b2,b3,b4⟩:=pp p' m' r' z' g1;clear pp;generalize (Sg.vals ⟨p,m,r,z⟩).toArray=X at a1 a2 a3 a4 ⊢;generalize (Sg.vals ⟨p',m',r',z'⟩).toArray=Y at b1 b2 b3 b4 ⊢
 have hf : (Tryz.prog.fieldsOf 48).toList = [⟨ "Pending", 40, 0, false, "", "", 0⟩, ⟨ "Mask", 40, 1, false, "", "", 4⟩, ⟨ "Handlers", 46, 2, false, "", "", 8⟩, ⟨ "Busy", 4, 18, false, "", "", 72⟩] := by kernel_rfl
 have q2:=run_equalIn_int (P:=Tryz.prog) w 9998 40 .u32 .u32 p p' Tryz.underlying40;have q3:=run_equalIn_int (P:=Tryz.prog) w 9998 40 .u32 .u32 m m' Tryz.underlying40;have q1:=QgE 9997 46 16 r r' h1 g1 Tryz.underlying46 w;have q4:=run_equalIn_bool' (P:=Tryz.prog) w 9998 4 z z' Tryz.underlying4;have hall := eqFields_step (P := Tryz.prog) (d := 9999) (f := ⟨ "Pending", 40, 0, false, "", "", 0⟩) (by decide) a1 b1 q2 (eqFields_step (f := ⟨ "Mask", 40, 1, false, "", "", 4⟩) (by decide) a2 b2 q3 (eqFields_step (f := ⟨ "Handlers", 46, 2, false, "", "", 8⟩) (by decide) a3 b3 q1 (eqFields_step (f := ⟨ "Busy", 4, 18, false, "", "", 72⟩) (s := true) (fs := []) (by decide) a4 b4 q4 rfl)));have he:=run_equalIn_agg (P:=Tryz.prog) w 9999 48 X Y hS hp;rw [hf] at he;rw [run_eql_struct];refine (congrArg (fun r:Result Bool=>r.andThen fun b w'=>Result.ok (Value.bool b) w') (he.trans hall)).trans ?_;show Result.ok (Value.bool _) w=_;unfold Sg.eq;simp [Bool.and_assoc]
theorem Qjf:Cp.zero.vals.toArray=QeQ:=by simp [Cp.zero,Cp.vals,QhN,QeQ]
theorem QjC:Sg.zero.vals.toArray=QpE:=by simp [Sg.zero,Sg.vals,QpE]
theorem QdU (n a b:Int) (W:World) (r:Bool) (h:decide (a≤n∧n≤b)=r):Calls Tryz.prog 33 #[.int .i64 n,.int .i64 a,.int .i64 b] W fun e W'=>e=.returned (.bool r)∧W'=W:=by
 rw [← h];exact QhC n a b W
theorem Qaf (p:Pr) (h:p.Ok) (fa:Option Addr) (fc:Nat) (pa:Option Addr) (pc:Nat) :
  ((p.vals fa fc pa pc)[0]?=some (.int .i64 p.pid)∧(p.vals fa fc pa pc)[1]?=some (.int .i64 p.parent)∧(p.vals fa fc pa pc)[2]?=some (.int .i64 p.state)∧(p.vals fa fc pa pc)[3]?=some (.int .u32 p.status)) ∧
  ((p.vals fa fc pa pc)[45]?=some (.int .i64 p.wait)∧(p.vals fa fc pa pc)[46]?=some (.int .i64 p.pipe)∧(p.vals fa fc pa pc)[47]?=some (.int .i64 0)∧(p.vals fa fc pa pc)[48]?=some (.int .i64 0)∧(p.vals fa fc pa pc)[49]?=some (.int .i64 0)) ∧
  ((p.vals fa fc pa pc)[50]?=some (.int .u32 p.left)∧(p.vals fa fc pa pc)[51]?=some (.slice fa p.fds.length fc)∧(p.vals fa fc pa pc)[52]?=some (.int .u32 0)∧(p.vals fa fc pa pc)[53]?=some (.int .i64 0)∧(p.vals fa fc pa pc)[54]?=some (.slice pa p.pages.length pc)) ∧
  ((p.vals fa fc pa pc).drop 4).take 11=p.cpu.vals∧((p.vals fa fc pa pc).drop 15).take 11=p.saved.vals∧((p.vals fa fc pa pc).drop 26).take 19=p.sig.vals:=by
 obtain ⟨pid,parent,state,status,⟨r,za,zb,zc,zd,pc1⟩,⟨r',za',zb',zc',zd',pc2⟩,⟨pe,mk,hd,bz⟩,wt,pi,lf,fds,pages⟩:=p;obtain ⟨h1,h2,h3⟩:=h;have l1:r.length=8:=h1.1;have l2:r'.length=8:=h2.1;have l3:hd.length=16:=h3.2.2.1;clear h1 h2 h3
 match r,l1,r',l2,hd,l3 with
 | [r0,r1,r2,r3,r4,r5,r6,r7],_,[q0,q1,q2,q3,q4,q5,q6,q7],_,[d0,d1,d2,d3,d4,d5,d6,d7,d8,d9,d10,d11,d12,d13,d14,d15],_ =>
  exact ⟨⟨rfl,rfl,rfl,rfl⟩,⟨rfl,rfl,rfl,rfl,rfl⟩,⟨rfl,rfl,rfl,rfl,rfl⟩,rfl,rfl,rfl⟩
structure Qad (W:World) (q:Pr × QcJ) (X:Array Value) (B:Nat) (V:World):Prop where
 fine:q.1.Fine
 hX:X=(QaP q).toArray
 hB:B=W.heap.size
 eB:V.heap[B]?=some (.cells X 54)
 below:Below W.heap.size W V
 fds:Qc W.heap.size W q.2.fa q.1.fds.length q.2.fc (q.1.fds.map (Value.int .i64))
 pages:Qc W.heap.size W q.2.pa q.1.pages.length q.2.pc (q.1.pages.flatMap Pg.vals)
theorem Qad.grow {W:World} {q:Pr × QcJ} {X:Array Value} {B:Nat} {V V':World} (h:Qad W q X B V) (b:Below V.heap.size V V'):Qad W q X B V' :=
 ⟨h.fine,h.hX,h.hB,(b.block _ (QI.1 h.eB).1).trans h.eB,h.below.trans (b.mono h.below.size),h.fds,h.pages⟩
theorem Qad.cell {W:World} {q:Pr × QcJ} {X:Array Value} {B:Nat} {V:World} (h:Qad W q X B V) {i:Nat} {v:Value} (hv:(q.1.vals q.2.fa q.2.fc q.2.pa q.2.pc)[i]?=some v):V.cell? ⟨B,i,none⟩=some v:=by
 rw [cell_of_row V _ i _ _ _ h.eB,h.hX,List.getElem?_toArray];exact hv
def PcQ (W:World) (R:Bool):Exit→Act→World→Prop:=bodyPost Tryz.prog Tryz.f36 fun e W'=>e=.returned (.bool R)∧Below W.heap.size W W'
def Qhe (W:World) (q:Pr × QcJ) (X:Array Value) (B:Nat) (c:Code) (t3 t4 t5 t6:Value) (R:Bool):Prop :=
 ∀ (u7 u8 u9 u10 u11 u12 u13 u14 u15 u16 u17 u18 u19 u20 u21 u22 u23 u24 u25 u26 u27 u28 u29 u30 u31 u32 u33 u34 u35 u36 u37 u38 u39 u40 u41 u42 u43 u44 u45 u46 u47 u48 u49 u50 u51 u52 u53 u54 u55 u56 u57 u58 u59 u60 u61 u62 u63 u64 u65 u66 u67 u68 u69 u70 u71 u72 u73 u74 u75 u76 u77 u78 u79 u80 u81 u82 u83 u84 u85 u86 u87 u88 u89 u90 u91 u92 u93 u94 u95 u96 u97 u98 u99 u100 u101 u102 u103 u104 u105 u106 u107 u108 u109 u110 u111 u112 u113 u114 u115 u116 u117 u118 u119 u120 u121 u122 u123 u124 u125 u126 u127 u128 u129 u130 u131 u132 u133 u134 u135 u136 u137 u138 u139 u140 u141 u142 u143 u144 u145 u146 u147 u148 u149 u150 u151 u152 u153 u154 u155 u156 u157 u158 u159 u160:Value) (V:World),Qad W q X B V→c.wp Tryz.prog (PcQ W R) { tmps:=#[.agg X,.pointer (some ⟨B,0,none⟩),.bool false,t3,t4,t5,t6,u7,u8,u9,u10,u11,u12,u13,u14,u15,u16,u17,u18,u19,u20,u21,u22,u23,u24,u25,u26,u27,u28,u29,u30,u31,u32,u33,u34,u35,u36,u37,u38,u39,u40,u41,u42,u43,u44,u45,u46,u47,u48,u49,u50,u51,u52,u53,u54,u55,u56,u57,u58,u59,u60,u61,u62,u63,u64,u65,u66,u67,u68,u69,u70,u71,u72,u73,u74,u75,u76,u77,u78,u79,u80,u81,u82,u83,u84,u85,u86,u87,u88,u89,u90,u91,u92,u93,u94,u95,u96,u97,u98,u99,u100,u101,u102,u103,u104,u105,u106,u107,u108,u109,u110,u111,u112,u113,u114,u115,u116,u117,u118,u119,u120,u121,u122,u123,u124,u125,u126,u127,u128,u129,u130,u131,u132,u133,u134,u135,u136,u137,u138,u139,u140,u141,u142,u143,u144,u145,u146,u147,u148,u149,u150,u151,u152,u153,u154,u155,u156,u157,u158,u159,u160],defers:=[] } V
theorem Qqb (W:World) (p:Pr) (fa:Option Addr) (fc:Nat) (pa:Option Addr) (pc:Nat) (X:Array Value) (B:Nat) (t4:Value) (b5 b6:Bool) :
  Qhe W (p,⟨fa,fc,pa,pc⟩) X B (tl 7 (Tryz.f36.body.getD .skip)) (.bool true) t4 (.bool b5) (.bool b6) ((p.state == 1)&&(p.status == 0)&&QdN p.sig&&b5&&b6&&Qbc (-1) p.pages):=by
 iterate 154 intro
 intro V h;have H:=QQ h;obtain ⟨R,hR⟩:∃ R,R=((p.state == 1)&&(p.status == 0)&&QdN p.sig&&b5&&b6&&Qbc (-1) p.pages):=⟨_,rfl⟩;rw [← hR];have HR:=QQ hR;clear h hR;have H0:=(QG H);have c2:=Qad.cell H0 (Qaf p (show (Pr.Fine p) from (Qad.fine H0)).ok fa fc pa pc).1.2.2.1;have c3:=Qad.cell H0 (Qaf p (show (Pr.Fine p) from (Qad.fine H0)).ok fa fc pa pc).1.2.2.2
 have eP1:(X.toList.drop 4).take p.cpu.vals.toArray.size=p.cpu.vals.toArray.toList:=by
  rw [QS,Cp.vals_length H0.fine.ok.1,H0.hX];exact (Qaf p H0.fine.ok fa fc pa pc).2.2.2.1
 have eP2:(X.toList.drop 15).take p.saved.vals.toArray.size=p.saved.vals.toArray.toList:=by
  rw [QS,Cp.vals_length H0.fine.ok.2.1,H0.hX];exact (Qaf p H0.fine.ok fa fc pa pc).2.2.2.2.1
 have eP3:(X.toList.drop 26).take p.sig.vals.toArray.size=p.sig.vals.toArray.toList:=by
  rw [QS,Sg.vals_length H0.fine.ok.2.2,H0.hX];exact (Qaf p H0.fine.ok fa fc pa pc).2.2.2.2.2
 have i1:(Tryz.prog.info? 45).map (·.size)=some p.cpu.vals.toArray.size:=by rw [QS,Cp.vals_length H0.fine.ok.1];exact Qbv
 have i2:(Tryz.prog.info? 45).map (·.size)=some p.saved.vals.toArray.size:=by rw [QS,Cp.vals_length H0.fine.ok.2.1];exact Qbv
 have i3:(Tryz.prog.info? 48).map (·.size)=some p.sig.vals.toArray.size:=by rw [QS,Sg.vals_length H0.fine.ok.2.2];exact Qez
 have e:=H0.eB;have k1:=QgR p.cpu H0.fine.ok.1;have k2:=QgR p.saved H0.fine.ok.2.1;have k3:=Qo5 p.sig H0.fine.ok.2.2;obtain ⟨v1,hv1⟩:∃ v,v=p.cpu.vals.toArray:=⟨_,rfl⟩;obtain ⟨v2,hv2⟩:∃ v,v=p.saved.vals.toArray:=⟨_,rfl⟩;obtain ⟨v3,hv3⟩:∃ v,v=p.sig.vals.toArray:=⟨_,rfl⟩;rw [← hv1] at eP1 i1 k1;rw [← hv2] at eP2 i2 k2;rw [← hv3] at eP3 i3 k3;clear hv1 hv2 hv3;have EP:=QQ (QA eP1 (QA eP2 eP3));have KK:=QQ (QA k1 (QA k2 k3));have EE:=QQ e;clear eP1 eP2 eP3 k1 k2 k3 e;have HB0:=QQ H0.below;obtain ⟨HB0w,HHH⟩:∃ H1:Qad W (p,⟨fa,fc,pa,pc⟩) X B V,True:=⟨H0,trivial⟩;clear HHH HB0w H0
 conv=>arg 2;whnf
 cases t1:(p.state == 1) with
 | false =>
  go_wp2;go_ret;exact ⟨by rw [show R=_ from HR,t1];rfl,Qad.below (QG H)⟩
 | true =>
  cases t2:(p.status == 0) with
  | false =>
   go_wp2;go_ret;exact ⟨by rw [show R=_ from HR,t1,t2];rfl,Qad.below (QG H)⟩
  | true =>
   go_wp2_with first
    | (go_at_call 79;refine Qau ?_)
    | (refine Qai (by rfl) 45 (.tmp 135) rfl B 4 rfl _ v1 _ (QG EE) (QG EP).1 _ Tryz.underlying45 rfl i1 ?_)
   unfold Qag;refine ((QG KK).1 V).mono ?_;rintro e' w1 ⟨rfl,b1⟩;have H1:=QQ (Qad.grow (QG H) b1);have EE1:=QQ (Qad.eB (QG H1));clear b1 c2 c3
   go_wp2_with first
    | (go_at_call 79;refine Qau ?_)
    | (refine Qai (by rfl) 45 (.tmp 140) rfl B 15 rfl _ v2 _ (QG EE1) (QG EP).2.1 _ Tryz.underlying45 rfl i2 ?_)
   unfold Qag;refine ((QG KK).2.1 w1).mono ?_;rintro e' w2 ⟨rfl,b2⟩;have H2:=QQ (Qad.grow (QG H1) b2);have EE2:=QQ (Qad.eB (QG H2));clear b2
   go_wp2_with first
    | (go_at_call 80;refine Qau ?_)
    | (refine Qai (by rfl) 48 (.tmp 145) rfl B 26 rfl _ v3 _ (QG EE2) (QG EP).2.2 _ Tryz.underlying48 rfl i3 ?_)
   unfold Qag;refine ((QG KK).2.2 w2).mono ?_;rintro e' w3 ⟨rfl,b3⟩;have H3:=QQ (Qad.grow (QG H2) b3);clear b3
   cases t3:QdN p.sig with
   | false =>
    simp only [Bool.false_eq_true,if_false];go_wp2;go_ret;exact ⟨by rw [show R=_ from HR,t1,t2,t3];rfl,Qad.below (QG H3)⟩
   | true =>
    simp only [if_true]
    cases b5 with
    | false =>
     go_wp2;go_ret;exact ⟨by rw [show R=_ from HR,t1,t2,t3];rfl,Qad.below (QG H3)⟩
    | true =>
     cases b6 with
     | false =>
      go_wp2;go_ret;exact ⟨by rw [show R=_ from HR,t1,t2,t3];rfl,Qad.below (QG H3)⟩
     | true =>
      have H4:=(QG H3);have c54:=Qad.cell H4 (Qaf p (show (Pr.Fine p) from (Qad.fine H4)).ok fa fc pa pc).2.2.1.2.2.2.2;have km:=QkT p.pages w3 pa p.pages.length pc ((H4.pages.below H4.below).mono H4.below.size) rfl H4.fine.pages;clear H4;go_wp2_with (go_at_call 81;refine Qau ?_);unfold Qag;refine km.mono ?_;rintro e' w4 ⟨rfl,b4⟩;have B4:=(QG H3).below.trans (b4.mono (QG H3).below.size);clear km b4 c54;obtain ⟨b7,hb7⟩:∃ b,b=Qbc (-1) p.pages:=⟨_,rfl⟩;rw [← hb7];have HB7:=QQ hb7;clear hb7;go_wp2;go_ret;exact ⟨by rw [show R=_ from HR,t1,t2,t3,← (QG HB7)];rfl,B4⟩
theorem QgJ {α:Type} (f:α→Value):∀ l:List α,l.flatMap (fun x=>[f x])=l.map f
 | []=>rfl
 | x::l=>by rw [List.flatMap_cons,QgJ f l];rfl
theorem QkU (p:Pr) (h:p.fds.length=8):Qci p = !(p.fds.any fun n=>!Qf1 n):=by
 unfold Qci;rw [h,List.not_any_eq_all_not];simp
theorem Qmn (W:World) (p:Pr) (fa:Option Addr) (fc:Nat) (pa:Option Addr) (pc:Nat) (X:Array Value) (B:Nat) (t4 t6:Value) (b5:Bool) :
  Qhe W (p,⟨fa,fc,pa,pc⟩) X B (tl 6 (Tryz.f36.body.getD .skip)) (.bool true) t4 (.bool b5) t6 ((p.state == 1)&&(p.status == 0)&&QdN p.sig&&b5&&Qci p&&Qbc (-1) p.pages):=by
 iterate 154 intro
 intro V h;have H:=QQ h;obtain ⟨R,hR⟩:∃ R,R=((p.state == 1)&&(p.status == 0)&&QdN p.sig&&b5&&Qci p&&Qbc (-1) p.pages):=⟨_,rfl⟩;rw [← hR];have HR:=QQ hR;clear hR
 have kc:=Qjc (fun n=>!Qf1 n) p.fds V fa p.fds.length fc (by rw [QgJ];exact (h.fds.below h.below).mono h.below.size) rfl h.fine.fds (fun _ _=>rfl) fun x _ V' _=>QlU x V'
 have c51:=Qad.cell h (Qaf p (show (Pr.Fine p) from (Qad.fine h)).ok fa fc pa pc).2.2.1.2.1;obtain ⟨n,hn⟩:∃ n,n=p.fds.length:=⟨_,rfl⟩;rw [← hn] at kc c51;obtain ⟨g,hg⟩:∃ g,g=p.fds.any (fun n=>!Qf1 n):=⟨_,rfl⟩;rw [← hg] at kc;have HG:=QQ hg;have HN:=QQ hn;clear h hg hn
 conv=>arg 2;whnf
 refine wp_seq_k (fun K' aK=>?_);have AK:=QQ aK;clear aK;by_cases hl:n=8
 ·have t1:((n:Int) == 8)=true:=by simp [hl]
  have hm:Qci p = !g:=by rw [show g=_ from HG];exact QkU p ((QG HN).symm.trans hl)
  have HM:=QQ hm;clear hm hl;go_wp2_with (go_at_call 77;refine Qau ?_);unfold Qag;refine kc.mono ?_;rintro e' w1 ⟨rfl,b1⟩;have H1:=QQ (Qad.grow (QG H) b1);clear kc b1 c51
  cases g with
  | true =>
   go_wp2;refine (QG AK) _ _ ?_;rw [show R=_ from HR,show Qci p=_ from HM];apply Qqb W p fa fc pa pc X B t4 b5 false;exact (QG H1)
  | false =>
   go_wp2;refine (QG AK) _ _ ?_;rw [show R=_ from HR,show Qci p=_ from HM];apply Qqb W p fa fc pa pc X B t4 b5 true;exact (QG H1)
 ·have t1:((n:Int) == 8)=false:=by simp;omega
  have hm:Qci p=false:=by unfold Qci;rw [show (p.fds.length == 8)=false by simpa using fun e=>hl ((QG HN).trans e)];rfl
  have HM:=QQ hm;clear hm hl kc;go_wp2;refine (QG AK) _ _ ?_;rw [show R=_ from HR,show Qci p=_ from HM];apply Qqb W p fa fc pa pc X B t4 b5 false;exact (QG H)
theorem Qqa (W:World) (p:Pr) (fa:Option Addr) (fc:Nat) (pa:Option Addr) (pc:Nat) (X:Array Value) (B:Nat) (t5 t6:Value) (b4:Bool) :
  Qhe W (p,⟨fa,fc,pa,pc⟩) X B (tl 5 (Tryz.f36.body.getD .skip)) (.bool true) (.bool b4) t5 t6 ((p.state == 1)&&(p.status == 0)&&QdN p.sig&&(decide (0≤p.wait∧p.wait≤5)&&decide (0≤p.pipe∧p.pipe≤15)&&(b4 || (p.pipe == 0))&&((p.wait == 5) == decide (p.left > 0)))&&Qci p&&Qbc (-1) p.pages):=by
 iterate 154 intro
 intro V h;have H:=QQ h;obtain ⟨R,hR⟩:∃ R,R=((p.state == 1)&&(p.status == 0)&&QdN p.sig&&(decide (0≤p.wait∧p.wait≤5)&&decide (0≤p.pipe∧p.pipe≤15)&&(b4 || (p.pipe == 0))&&((p.wait == 5) == decide (p.left > 0)))&&Qci p&&Qbc (-1) p.pages):=⟨_,rfl⟩;rw [← hR];have HR:=QQ hR;clear hR;have c45:=Qad.cell h (Qaf p (show (Pr.Fine p) from (Qad.fine h)).ok fa fc pa pc).2.1.1;have c46:=Qad.cell h (Qaf p (show (Pr.Fine p) from (Qad.fine h)).ok fa fc pa pc).2.1.2.1;have c50:=Qad.cell h (Qaf p (show (Pr.Fine p) from (Qad.fine h)).ok fa fc pa pc).2.2.1.1;obtain ⟨wt,hwt⟩:∃ x,x=p.wait:=⟨_,rfl⟩;obtain ⟨pi,hpi⟩:∃ x,x=p.pipe:=⟨_,rfl⟩;obtain ⟨lf,hlf⟩:∃ x,x=p.left:=⟨_,rfl⟩;rw [← hwt] at c45;rw [← hpi] at c46;rw [← hlf] at c50;have HR2:Hid (R=((p.state == 1)&&(p.status == 0)&&QdN p.sig&&(decide (0≤wt∧wt≤5)&&decide (0≤pi∧pi≤15)&&(b4 || (pi == 0))&&((wt == 5) == decide (lf > 0)))&&Qci p&&Qbc (-1) p.pages)):=QQ (by rw [hwt,hpi,hlf];exact HR);clear HR hwt hpi hlf h;have HR:=HR2;clear HR2;obtain ⟨a1,ha1⟩:∃ a,decide (0≤wt∧wt≤5)=a:=⟨_,rfl⟩;obtain ⟨a2,ha2⟩:∃ a,decide (0≤pi∧pi≤15)=a:=⟨_,rfl⟩;have A1:=QQ ha1;have A2:=QQ ha2;clear ha1 ha2
 conv=>arg 2;whnf
 refine wp_seq_k (fun K' aK=>?_);have AK:=QQ aK;clear aK;go_wp2_with (go_at_call 33;refine Qau ?_);unfold Qag;refine (QdU _ _ _ _ a1 (QG A1)).mono ?_;rintro e' w' ⟨rfl,hw⟩;rw [hw];clear hw w'
 cases a1 with
 | false =>
  go_wp2;refine (QG AK) _ _ ?_;rw [show R=_ from HR,show decide (0≤wt∧wt≤5)=_ from A1];apply Qmn W p fa fc pa pc X B _ t6 false;exact (QG H)
 | true =>
  go_wp2_with (go_at_call 33;refine Qau ?_);unfold Qag;refine (QdU _ _ _ _ a2 (QG A2)).mono ?_;rintro e' w' ⟨rfl,hw⟩;rw [hw];clear hw w'
  cases a2 with
  | false =>
   go_wp2;refine (QG AK) _ _ ?_;rw [show R=_ from HR,show decide (0≤wt∧wt≤5)=_ from A1,show decide (0≤pi∧pi≤15)=_ from A2];apply Qmn W p fa fc pa pc X B _ t6 false;exact (QG H)
  | true =>
   cases b4 with
   | true =>
    cases t2:(wt == 5) with
    | true =>
     cases t3:decide (lf > 0) with
     | true =>
      go_wp2;refine (QG AK) _ _ ?_;rw [show R=_ from HR,show decide (0≤wt∧wt≤5)=_ from A1,show decide (0≤pi∧pi≤15)=_ from A2,t2,t3];apply Qmn W p fa fc pa pc X B _ t6 true;exact (QG H)
     | false =>
      go_wp2;refine (QG AK) _ _ ?_;rw [show R=_ from HR,show decide (0≤wt∧wt≤5)=_ from A1,show decide (0≤pi∧pi≤15)=_ from A2,t2,t3];apply Qmn W p fa fc pa pc X B _ t6 false;exact (QG H)
    | false =>
     cases t3:decide (lf > 0) with
     | true =>
      go_wp2;refine (QG AK) _ _ ?_;rw [show R=_ from HR,show decide (0≤wt∧wt≤5)=_ from A1,show decide (0≤pi∧pi≤15)=_ from A2,t2,t3];apply Qmn W p fa fc pa pc X B _ t6 false;exact (QG H)
     | false =>
      go_wp2;refine (QG AK) _ _ ?_;rw [show R=_ from HR,show decide (0≤wt∧wt≤5)=_ from A1,show decide (0≤pi∧pi≤15)=_ from A2,t2,t3];apply Qmn W p fa fc pa pc X B _ t6 true;exact (QG H)
   | false =>
    cases t1:(pi == 0) with
    | false =>
     go_wp2;refine (QG AK) _ _ ?_;rw [show R=_ from HR,show decide (0≤wt∧wt≤5)=_ from A1,show decide (0≤pi∧pi≤15)=_ from A2,t1];apply Qmn W p fa fc pa pc X B _ t6 false;exact (QG H)
    | true =>
     cases t2:(wt == 5) with
     | true =>
      cases t3:decide (lf > 0) with
      | true =>
       go_wp2;refine (QG AK) _ _ ?_;rw [show R=_ from HR,show decide (0≤wt∧wt≤5)=_ from A1,show decide (0≤pi∧pi≤15)=_ from A2,t1,t2,t3];apply Qmn W p fa fc pa pc X B _ t6 true;exact (QG H)
      | false =>
       go_wp2;refine (QG AK) _ _ ?_;rw [show R=_ from HR,show decide (0≤wt∧wt≤5)=_ from A1,show decide (0≤pi∧pi≤15)=_ from A2,t1,t2,t3];apply Qmn W p fa fc pa pc X B _ t6 false;exact (QG H)
     | false =>
      cases t3:decide (lf > 0) with
      | true =>
       go_wp2;refine (QG AK) _ _ ?_;rw [show R=_ from HR,show decide (0≤wt∧wt≤5)=_ from A1,show decide (0≤pi∧pi≤15)=_ from A2,t1,t2,t3];apply Qmn W p fa fc pa pc X B _ t6 false;exact (QG H)
      | false =>
       go_wp2;refine (QG AK) _ _ ?_;rw [show R=_ from HR,show decide (0≤wt∧wt≤5)=_ from A1,show decide (0≤pi∧pi≤15)=_ from A2,t1,t2,t3];apply Qmn W p fa fc pa pc X B _ t6 true;exact (QG H)
theorem QqS (W:World) (p:Pr) (fa:Option Addr) (fc:Nat) (pa:Option Addr) (pc:Nat) (X:Array Value) (B:Nat) (t4 t5 t6:Value) :
  Qhe W (p,⟨fa,fc,pa,pc⟩) X B (tl 4 (Tryz.f36.body.getD .skip)) (.bool true) t4 t5 t6 (Qbq p):=by
 iterate 154 intro
 intro V h;have H:=QQ h;obtain ⟨R,hR⟩:∃ R,R=(Qbq p):=⟨_,rfl⟩;rw [← hR];have HR:=QQ hR;clear hR;have c45:=Qad.cell h (Qaf p (show (Pr.Fine p) from (Qad.fine h)).ok fa fc pa pc).2.1.1;obtain ⟨wt,hwt⟩:∃ x,x=p.wait:=⟨_,rfl⟩;rw [← hwt] at c45;have HW:=QQ hwt;clear h hwt
 conv=>arg 2;whnf
 refine wp_seq_k (fun K' aK=>?_);have AK:=QQ aK;clear aK
 cases t1:(wt == 2) with
 | true =>
  go_wp2;refine (QG AK) _ _ ?_;rw [show R=_ from HR,show Qbq p=((p.state == 1)&&(p.status == 0)&&QdN p.sig&&(decide (0≤p.wait∧p.wait≤5)&&decide (0≤p.pipe∧p.pipe≤15)&&(true || (p.pipe == 0))&&((p.wait == 5) == decide (p.left > 0)))&&Qci p&&Qbc (-1) p.pages) by unfold Qbq Qdc;rw [show ((p.wait == 2) || (p.wait == 3))=true by rw [← (QG HW),t1];rfl]];apply Qqa W p fa fc pa pc X B _ _ true;exact (QG H)
 | false =>
  cases t2:(wt == 3) with
  | true =>
   go_wp2;refine (QG AK) _ _ ?_;rw [show R=_ from HR,show Qbq p=((p.state == 1)&&(p.status == 0)&&QdN p.sig&&(decide (0≤p.wait∧p.wait≤5)&&decide (0≤p.pipe∧p.pipe≤15)&&(true || (p.pipe == 0))&&((p.wait == 5) == decide (p.left > 0)))&&Qci p&&Qbc (-1) p.pages) by unfold Qbq Qdc;rw [show ((p.wait == 2) || (p.wait == 3))=true by rw [← (QG HW),t1,t2];rfl]];apply Qqa W p fa fc pa pc X B _ _ true;exact (QG H)
  | false =>
   go_wp2;refine (QG AK) _ _ ?_;rw [show R=_ from HR,show Qbq p=((p.state == 1)&&(p.status == 0)&&QdN p.sig&&(decide (0≤p.wait∧p.wait≤5)&&decide (0≤p.pipe∧p.pipe≤15)&&(false || (p.pipe == 0))&&((p.wait == 5) == decide (p.left > 0)))&&Qci p&&Qbc (-1) p.pages) by unfold Qbq Qdc;rw [show ((p.wait == 2) || (p.wait == 3))=false by rw [← (QG HW),t1,t2];rfl]];apply Qqa W p fa fc pa pc X B _ _ false;exact (QG H)
theorem QjT (c:Cp) (h:c.Ok) (w:World):(binOp .eql 45 (.agg c.vals.toArray) (.agg QeQ)).run Tryz.prog w=.ok (.bool (c.eq Cp.zero)) w:=by rw [← Qjf];exact QgD c Cp.zero h Cp.zero_ok w
theorem Qof (c:Sg) (h:c.Ok) (w:World):(binOp .eql 48 (.agg c.vals.toArray) (.agg QpE)).run Tryz.prog w=.ok (.bool (c.eq Sg.zero)) w:=by rw [← QjC];exact Qiq c Sg.zero h Sg.zero_ok w
theorem QqR (W:World) (p:Pr) (fa:Option Addr) (fc:Nat) (pa:Option Addr) (pc:Nat) (X:Array Value) (B:Nat) (t4 t5 t6:Value) :
  Qhe W (p,⟨fa,fc,pa,pc⟩) X B (tl 3 (Tryz.f36.body.getD .skip)) (.bool true) t4 t5 t6 (if p.state=2 then Qa8 p else Qbq p):=by
 iterate 154 intro
 intro V h;have H:=QQ h;obtain ⟨R,hR⟩:∃ R,R=(if p.state=2 then Qa8 p else Qbq p):=⟨_,rfl⟩;rw [← hR];have HR:=QQ hR;clear hR;have H0:=h;have c2:=Qad.cell H0 (Qaf p (show (Pr.Fine p) from (Qad.fine H0)).ok fa fc pa pc).1.2.2.1;have c45:=Qad.cell H0 (Qaf p (show (Pr.Fine p) from (Qad.fine H0)).ok fa fc pa pc).2.1.1;have c46:=Qad.cell H0 (Qaf p (show (Pr.Fine p) from (Qad.fine H0)).ok fa fc pa pc).2.1.2.1;have c50:=Qad.cell H0 (Qaf p (show (Pr.Fine p) from (Qad.fine H0)).ok fa fc pa pc).2.2.1.1;have c51:=Qad.cell H0 (Qaf p (show (Pr.Fine p) from (Qad.fine H0)).ok fa fc pa pc).2.2.1.2.1;have c54:=Qad.cell H0 (Qaf p (show (Pr.Fine p) from (Qad.fine H0)).ok fa fc pa pc).2.2.1.2.2.2.2
 have eP1:(X.toList.drop 4).take p.cpu.vals.toArray.size=p.cpu.vals.toArray.toList:=by
  rw [QS,Cp.vals_length H0.fine.ok.1,H0.hX];exact (Qaf p H0.fine.ok fa fc pa pc).2.2.2.1
 have eP2:(X.toList.drop 15).take p.saved.vals.toArray.size=p.saved.vals.toArray.toList:=by
  rw [QS,Cp.vals_length H0.fine.ok.2.1,H0.hX];exact (Qaf p H0.fine.ok fa fc pa pc).2.2.2.2.1
 have eP3:(X.toList.drop 26).take p.sig.vals.toArray.size=p.sig.vals.toArray.toList:=by
  rw [QS,Sg.vals_length H0.fine.ok.2.2,H0.hX];exact (Qaf p H0.fine.ok fa fc pa pc).2.2.2.2.2
 have i1:(Tryz.prog.info? 45).map (·.size)=some p.cpu.vals.toArray.size:=by rw [QS,Cp.vals_length H0.fine.ok.1];exact Qbv
 have i2:(Tryz.prog.info? 45).map (·.size)=some p.saved.vals.toArray.size:=by rw [QS,Cp.vals_length H0.fine.ok.2.1];exact Qbv
 have i3:(Tryz.prog.info? 48).map (·.size)=some p.sig.vals.toArray.size:=by rw [QS,Sg.vals_length H0.fine.ok.2.2];exact Qez
 have e:=H0.eB;have k1:=QjT p.cpu H0.fine.ok.1;have k2:=QjT p.saved H0.fine.ok.2.1;have k3:=Qof p.sig H0.fine.ok.2.2;obtain ⟨v1,hv1⟩:∃ v,v=p.cpu.vals.toArray:=⟨_,rfl⟩;obtain ⟨v2,hv2⟩:∃ v,v=p.saved.vals.toArray:=⟨_,rfl⟩;obtain ⟨v3,hv3⟩:∃ v,v=p.sig.vals.toArray:=⟨_,rfl⟩;obtain ⟨z1,hz1⟩:∃ z,z=p.cpu.eq Cp.zero:=⟨_,rfl⟩;obtain ⟨z2,hz2⟩:∃ z,z=p.saved.eq Cp.zero:=⟨_,rfl⟩;obtain ⟨z3,hz3⟩:∃ z,z=p.sig.eq Sg.zero:=⟨_,rfl⟩;rw [← hv1] at eP1 i1 k1;rw [← hv2] at eP2 i2 k2;rw [← hv3] at eP3 i3 k3;rw [← hz1] at k1;rw [← hz2] at k2;rw [← hz3] at k3;obtain ⟨st,hst⟩:∃ x,x=p.state:=⟨_,rfl⟩;obtain ⟨wt,hwt⟩:∃ x,x=p.wait:=⟨_,rfl⟩;obtain ⟨pi,hpi⟩:∃ x,x=p.pipe:=⟨_,rfl⟩;obtain ⟨lf,hlf⟩:∃ x,x=p.left:=⟨_,rfl⟩;obtain ⟨n,hn⟩:∃ x,x=p.fds.length:=⟨_,rfl⟩;obtain ⟨m,hm⟩:∃ x,x=p.pages.length:=⟨_,rfl⟩;rw [← hst] at c2;rw [← hwt] at c45;rw [← hpi] at c46;rw [← hlf] at c50;rw [← hn] at c51;rw [← hm] at c54;have HG:Hid (Qa8 p=(z1&&z2&&z3&&(wt == 0)&&(pi == 0)&&(lf == 0)&&(n == 0)&&(m == 0))):=QQ (by unfold Qa8;rw [hz1,hz2,hz3,hwt,hpi,hlf,hn,hm]);have HST:=QQ hst;have EP:=QQ (QA eP1 (QA eP2 eP3));have KK:=QQ (QA k1 (QA k2 k3));have EE:=QQ e
 have nn:∀ x:Nat,((x:Int) == 0)=(x == 0):=fun x=>by rw [Bool.eq_iff_iff,beq_iff_eq,beq_iff_eq];omega
 have tn:=nn n;have tm:=nn m;clear hv1 hv2 hv3 hz1 hz2 hz3 hst hwt hpi hlf hn hm eP1 eP2 eP3 k1 k2 k3 e h H0 nn
 conv=>arg 2;whnf
 refine wp_seq_k (fun K' aK=>?_);have AK:=QQ aK;clear aK
 cases t1:(st == 2) with
 | true =>
  have hs2:p.state=2:=by rw [← (QG HST)];simpa using t1
  have HS2:=QQ hs2;clear hs2
  go_wp2_with first
   | (refine Qai (by rfl) 45 (.tmp 36) rfl B 4 rfl _ v1 _ (QG EE) (QG EP).1 _ Tryz.underlying45 rfl i1 ?_)
   | (refine QcN (by rfl) .eql 45 _ (.tmp 37) (.tmp 38) rfl _ (run_eqGuard_agg _ _ _ _ _ _ _ QfH) ((QG KK).1 _) ?_;refine Qau ?_)
  unfold Qag
  cases z1 with
  | false =>
   go_wp2;go_ret;exact ⟨by rw [show R=_ from HR,if_pos (QG HS2),show Qa8 p=_ from HG] <;> rfl,Qad.below (QG H)⟩
  | true =>
   go_wp2_with first
    | (refine Qai (by rfl) 45 (.tmp 42) rfl B 15 rfl _ v2 _ (QG EE) (QG EP).2.1 _ Tryz.underlying45 rfl i2 ?_)
    | (refine QcN (by rfl) .eql 45 _ (.tmp 43) (.tmp 44) rfl _ (run_eqGuard_agg _ _ _ _ _ _ _ QfH) ((QG KK).2.1 _) ?_;refine Qau ?_)
   unfold Qag
   cases z2 with
   | false =>
    go_wp2;go_ret;exact ⟨by rw [show R=_ from HR,if_pos (QG HS2),show Qa8 p=_ from HG] <;> rfl,Qad.below (QG H)⟩
   | true =>
    go_wp2_with first
     | (refine Qai (by rfl) 48 (.tmp 48) rfl B 26 rfl _ v3 _ (QG EE) (QG EP).2.2 _ Tryz.underlying48 rfl i3 ?_)
     | (refine QcN (by rfl) .eql 48 _ (.tmp 49) (.tmp 50) rfl _ (run_eqGuard_agg _ _ _ _ _ _ _ Qjk) ((QG KK).2.2 _) ?_;refine Qau ?_)
    unfold Qag
    cases z3 with
    | false =>
     go_wp2;go_ret;exact ⟨by rw [show R=_ from HR,if_pos (QG HS2),show Qa8 p=_ from HG] <;> rfl,Qad.below (QG H)⟩
    | true =>
     cases t4':(wt == 0) with
     | false =>
      go_wp2;go_ret;exact ⟨by rw [show R=_ from HR,if_pos (QG HS2),show Qa8 p=_ from HG,t4'] <;> rfl,Qad.below (QG H)⟩
     | true =>
      cases t5':(pi == 0) with
      | false =>
       go_wp2;go_ret;exact ⟨by rw [show R=_ from HR,if_pos (QG HS2),show Qa8 p=_ from HG,t4',t5'] <;> rfl,Qad.below (QG H)⟩
      | true =>
       cases t6':(lf == 0) with
       | false =>
        go_wp2;go_ret;exact ⟨by rw [show R=_ from HR,if_pos (QG HS2),show Qa8 p=_ from HG,t4',t5',t6'] <;> rfl,Qad.below (QG H)⟩
       | true =>
        cases t7':(n == 0) with
        | false =>
         rw [t7'] at tn;go_wp2;go_ret;exact ⟨by rw [show R=_ from HR,if_pos (QG HS2),show Qa8 p=_ from HG,t4',t5',t6',t7'] <;> rfl,Qad.below (QG H)⟩
        | true =>
         rw [t7'] at tn
         cases t8':(m == 0) with
         | false =>
          rw [t8'] at tm;go_wp2;go_ret;exact ⟨by rw [show R=_ from HR,if_pos (QG HS2),show Qa8 p=_ from HG,t4',t5',t6',t7',t8'] <;> rfl,Qad.below (QG H)⟩
         | true =>
          rw [t8'] at tm;go_wp2;go_ret;exact ⟨by rw [show R=_ from HR,if_pos (QG HS2),show Qa8 p=_ from HG,t4',t5',t6',t7',t8'] <;> rfl,Qad.below (QG H)⟩
 | false =>
  have hs2:¬ p.state=2:=by rw [← (QG HST)];simpa using t1
  have HS2:=QQ hs2;clear hs2;go_wp2;refine (QG AK) _ _ ?_;rw [show R=_ from HR,if_neg (QG HS2)];apply QqS W p fa fc pa pc X B;exact (QG H)
theorem Qju (q:Pr × QcJ) (hf:q.1.Fine) (W:World) (h1:Qc W.heap.size W q.2.fa q.1.fds.length q.2.fc (q.1.fds.map (Value.int .i64))) (h2:Qc W.heap.size W q.2.pa q.1.pages.length q.2.pc (q.1.pages.flatMap Pg.vals)) :
  Calls Tryz.prog 36 #[.agg (QaP q).toArray] W fun e W'=>e=.returned (.bool (Qbj q.1))∧Below W.heap.size W W':=by
 obtain ⟨p,⟨fa,fc,pa,pc⟩⟩:=q;obtain ⟨X,hX⟩:∃ X,X=(QaP (p,⟨fa,fc,pa,pc⟩)).toArray:=⟨_,rfl⟩;obtain ⟨R,hR⟩:∃ R,R=Qbj p:=⟨_,rfl⟩;rw [← hX,← hR];have HX:=QQ hX;have HR:=QQ hR;have HF:=QQ hf;have HH:=QQ (QA h1 h2);obtain ⟨a1,ha1⟩:∃ a,decide (1≤p.pid∧p.pid≤65535)=a:=⟨_,rfl⟩;obtain ⟨a2,ha2⟩:∃ a,decide (0≤p.parent∧p.parent≤65535)=a:=⟨_,rfl⟩;have A1:=QQ ha1;have A2:=QQ ha2;clear hX hR hf h1 h2 ha1 ha2;go_enter Tryz.func36,Tryz.ntmps36
 go_upto_region 1 with fail
 generalize hV':World.alloc _ _=V;have hV:V=W.alloc (.cells X 54):=hV'.symm;clear hV';have H0:Qad W (p,⟨fa,fc,pa,pc⟩) X W.heap.size V:=⟨HF,HX,rfl,by rw [hV];exact QW _ _,by rw [hV];exact (QB _ _).alloc (QN _) _,(QG HH).1,(QG HH).2⟩;clear hV;have H:=QQ H0;have c0:=Qad.cell H0 (Qaf p (show (Pr.Fine p) from (Qad.fine H0)).ok fa fc pa pc).1.1;have c1:=Qad.cell H0 (Qaf p (show (Pr.Fine p) from (Qad.fine H0)).ok fa fc pa pc).1.2.1;have c47:=Qad.cell H0 (Qaf p (show (Pr.Fine p) from (Qad.fine H0)).ok fa fc pa pc).2.1.2.2.1;have c48:=Qad.cell H0 (Qaf p (show (Pr.Fine p) from (Qad.fine H0)).ok fa fc pa pc).2.1.2.2.2.1;have c49:=Qad.cell H0 (Qaf p (show (Pr.Fine p) from (Qad.fine H0)).ok fa fc pa pc).2.1.2.2.2.2;have c52:=Qad.cell H0 (Qaf p (show (Pr.Fine p) from (Qad.fine H0)).ok fa fc pa pc).2.2.1.2.2.1;have c53:=Qad.cell H0 (Qaf p (show (Pr.Fine p) from (Qad.fine H0)).ok fa fc pa pc).2.2.1.2.2.2.1;obtain ⟨pid,hpid⟩:∃ x,x=p.pid:=⟨_,rfl⟩;obtain ⟨par,hpar⟩:∃ x,x=p.parent:=⟨_,rfl⟩;rw [← hpid] at c0;rw [← hpar] at c1;have HPID:=QQ hpid;have HPAR:=QQ hpar;clear H0 hpid hpar;go_wp2_with (go_at_call 33;refine Qau ?_);unfold Qag;refine (QdU _ _ _ _ a1 (by rw [show pid=_ from HPID];exact A1)).mono ?_;rintro e' w' ⟨rfl,hw⟩;rw [hw];clear hw w'
 cases a1 with
 | false =>
  go_wp2;go_ret;exact ⟨by rw [show R=_ from HR];unfold Qbj;rw [show decide (1≤p.pid∧p.pid≤65535)=_ from A1] <;> rfl,Qad.below (QG H)⟩
 | true =>
  go_wp2_with (go_at_call 33;refine Qau ?_);unfold Qag;refine (QdU _ _ _ _ a2 (by rw [show par=_ from HPAR];exact A2)).mono ?_;rintro e' w' ⟨rfl,hw⟩;rw [hw];clear hw w'
  cases a2 with
  | false =>
   go_wp2;go_ret;exact ⟨by rw [show R=_ from HR];unfold Qbj;rw [show decide (1≤p.pid∧p.pid≤65535)=_ from A1,show decide (0≤p.parent∧p.parent≤65535)=_ from A2] <;> rfl,Qad.below (QG H)⟩
  | true =>
   rename_i K1 k1 K2 k2 K3 k3;have AK1:=QQ k1;clear k1;go_wp2;refine (QG AK1) _ _ ?_;clear AK1;refine wp_seq_k (fun K' aK=>?_);have AK:=QQ aK;clear aK;go_wp2;refine (QG AK) _ _ ?_
   have hR2:(if p.state=2 then Qa8 p else Qbq p)=R:=by
    rw [show R=_ from HR];unfold Qbj;rw [show decide (1≤p.pid∧p.pid≤65535)=_ from A1,show decide (0≤p.parent∧p.parent≤65535)=_ from A2] <;> rfl
   have hg:=QqR W p fa fc pa pc X W.heap.size undef undef undef;unfold Qhe at hg;rw [hR2] at hg;apply hg;exact (QG H)
theorem Qkv (q:Pr × QcJ) (hf:q.1.Fine) (W:World) (h1:Qc W.heap.size W q.2.fa q.1.fds.length q.2.fc (q.1.fds.map (Value.int .i64))) (h2:Qc W.heap.size W q.2.pa q.1.pages.length q.2.pc (q.1.pages.flatMap Pg.vals)) :
  Calls Tryz.prog 35 #[.agg (QaP q).toArray] W fun e W'=>e=.returned (.bool (!Qbj q.1))∧Below W.heap.size W W':=by
 have kp:=fun (V:World) (hV:Below W.heap.size W V)=>Qju q hf V ((h1.below hV).mono hV.size) ((h2.below hV).mono hV.size)
 have hl:(QaP q).length=55:=Pr.vals_length hf.ok _ _ _ _;obtain ⟨X,hX⟩:∃ X,X=(QaP q).toArray:=⟨_,rfl⟩;obtain ⟨b,hb⟩:∃ b,b=Qbj q.1:=⟨_,rfl⟩;rw [← hX,← hb] at kp;rw [← hX,← hb]
 have hi:(Tryz.prog.info? 54).map (·.size)=some X.size:=by rw [hX,QS,hl];exact QdY
 have KP:=QQ kp;clear hX hb kp h1 h2 hl hf;go_enter Tryz.func35,Tryz.ntmps35
 go_upto_region 1 with fail
 generalize hV':World.alloc _ _=V;have hV:V=W.alloc (.cells X 54):=hV'.symm;clear hV'
 have bV:Below W.heap.size W V:=by rw [hV];exact (QB _ _).alloc (QN _) _
 have e:V.heap[W.heap.size]?=some (.cells X 54):=by rw [hV];exact QW _ _
 clear hV
 go_wp2_with first
  | (go_at_call 36;refine Qau ?_)
  | (refine Qai (by rfl) 54 (.tmp 1) rfl W.heap.size 0 rfl _ X _ e (by rw [List.drop_zero,List.take_of_length_le (by simp)]) _ Tryz.underlying54 rfl hi ?_)
 unfold Qag;refine ((QG KP) V bV).mono ?_;rintro e' w' ⟨rfl,b2⟩;have b3:=Qbg bV b2;clear hi KP e bV b2
 cases b with
 | true=>go_wp2;go_ret;exact ⟨rfl,b3⟩
 | false=>go_wp2;go_ret;exact ⟨rfl,b3⟩
theorem Qc2 (l:List Int):(strOfNums l).size=l.length:=by
 have:=congrArg List.length (strOfNums_data l);rw [QM,Array.length_toList] at this;exact this
theorem Qku (l:List Int) (W:World):Calls Tryz.prog 38 #[.string (strOfNums l)] W fun e W'=>e=.returned (.bool (!(l.length == 64)))∧Below W.heap.size W W':=by
 obtain ⟨st,hst⟩:∃ st,st=strOfNums l:=⟨_,rfl⟩
 have hs:st.size=l.length:=by rw [hst];exact Qc2 l
 rw [← hst];clear hst;rw [← hs];clear hs;go_enter Tryz.func38,Tryz.ntmps38
 have hq:((st.size:Int) != 64) = !(st.size == 64):=by rw [Bool.eq_iff_iff];simp;omega
 obtain ⟨r,hr⟩:∃ r,r = !(st.size == 64):=⟨_,rfl⟩;rw [← hr] at hq ⊢;clear hr;go_wp2;go_ret;exact ⟨rfl,QB _ _⟩
theorem Qkr (q:Pp × (Option Addr × Nat)) (W:World):Calls Tryz.prog 40 #[.agg (QbN q).toArray] W fun e W'=>e=.returned (.bool (!QbK q.1))∧Below W.heap.size W W':=by
 obtain ⟨⟨bs,rd,wr⟩,⟨a,c⟩⟩:=q;show Calls Tryz.prog _ #[.agg #[.slice a bs.length c,.int .i64 rd,.int .i64 wr]] W _;obtain ⟨R,hR⟩:∃ R,R = !QbK ⟨bs,rd,wr⟩:=⟨_,rfl⟩;rw [← hR];obtain ⟨n,hn⟩:∃ n,n=bs.length:=⟨_,rfl⟩;obtain ⟨a1,ha1⟩:∃ a,decide (0≤rd∧rd≤64)=a:=⟨_,rfl⟩;obtain ⟨a2,ha2⟩:∃ a,decide (0≤wr∧wr≤64)=a:=⟨_,rfl⟩
 have hR2:R = !(!(decide ((n:Int) > 64))&&a1&&a2):=by
  rw [hR];unfold QbK;show (!(decide (bs.length≤64)&&decide (0≤rd∧rd≤64)&&decide (0≤wr∧wr≤64)))=_;rw [ha1,ha2,hn,show decide (bs.length≤64) = !decide ((bs.length:Int) > 64) by by_cases h:bs.length≤64 <;> simp [h] <;> omega]
 rw [← hn];have HR:=QQ hR2;have A1:=QQ ha1;have A2:=QQ ha2;clear hR hR2 hn ha1 ha2
 have bX:∀ X:Obj,Below W.heap.size W (W.alloc X):=fun X=>(QB _ W).alloc (QN _) X
 go_enter Tryz.func40,Tryz.ntmps40
 cases t0:decide ((n:Int) > 64) with
 | true =>
  go_wp2;go_ret;exact ⟨by rw [show R=_ from HR,t0] <;> rfl,bX _⟩
 | false =>
  go_wp2_with (go_at_call 33;refine Qau ?_);unfold Qag;refine (QdU _ _ _ _ a1 A1).mono ?_;rintro e' w' ⟨rfl,hw⟩;rw [hw];clear hw w'
  cases a1 with
  | false =>
   go_wp2;go_ret;exact ⟨by rw [show R=_ from HR,t0] <;> rfl,bX _⟩
  | true =>
   go_wp2_with (go_at_call 33;refine Qau ?_);unfold Qag;refine (QdU _ _ _ _ a2 A2).mono ?_;rintro e' w' ⟨rfl,hw⟩;rw [hw];clear hw w'
   cases a2 with
   | false =>
    go_wp2;go_ret;exact ⟨by rw [show R=_ from HR,t0] <;> rfl,bX _⟩
   | true =>
    go_wp2;go_ret;exact ⟨by rw [show R=_ from HR,t0] <;> rfl,bX _⟩
theorem Qks (f:Int × Bool) (W:World):Calls Tryz.prog 42 #[.agg (Qbm f).toArray] W fun e W'=>e=.returned (.bool (!Qce f))∧Below W.heap.size W W':=by
 obtain ⟨n,b⟩:=f;show Calls Tryz.prog _ #[.agg #[.int .i64 n,.bool b]] W _;obtain ⟨a1,ha1⟩:∃ a,decide (0≤n∧n≤15)=a:=⟨_,rfl⟩;rw [show Qce (n,b)=a1 from ha1];have A1:=QQ ha1;clear ha1
 have bX:∀ X:Obj,Below W.heap.size W (W.alloc X):=fun X=>(QB _ W).alloc (QN _) X
 go_enter Tryz.func42,Tryz.ntmps42;go_wp2_with (go_at_call 33;refine Qau ?_);unfold Qag;refine (QdU _ _ _ _ a1 A1).mono ?_;rintro e' w' ⟨rfl,hw⟩;rw [hw];clear hw w'
 cases a1 with
 | false=>go_wp2;go_ret;exact ⟨rfl,bX _⟩
 | true=>go_wp2;go_ret;exact ⟨rfl,bX _⟩
theorem Qkt (w:Wt) (W:World):Calls Tryz.prog 44 #[.agg (Qbp w).toArray] W fun e W'=>e=.returned (.bool (!QbU w))∧Below W.heap.size W W':=by
 obtain ⟨pid,kp,kf,ko⟩:=w;show Calls Tryz.prog _ #[.agg #[.int .i64 pid,.int .i64 kp,.int .i64 kf,.int .i64 ko]] W _;obtain ⟨R,hR⟩:∃ R,R = !QbU ⟨pid,kp,kf,ko⟩:=⟨_,rfl⟩;rw [← hR];obtain ⟨a1,ha1⟩:∃ a,decide (1≤pid∧pid≤65535)=a:=⟨_,rfl⟩;obtain ⟨a3,ha3⟩:∃ a,Qed kp kf ko=a:=⟨_,rfl⟩
 have hR2:R = !(a1&&!(decide (kp > 65535))&&a3):=by
  rw [hR];unfold QbU;show (!(decide (1≤pid∧pid≤65535)&&decide (kp≤65535)&&Qed kp kf ko))=_;rw [ha1,ha3,show decide (kp≤65535) = !decide (kp > 65535) by by_cases h:kp≤65535 <;> simp [h] <;> omega]
 have kk:=fun V=>QoV kp kf ko V
 rw [ha3] at kk;have HR:=QQ hR2;have A1:=QQ ha1;have KK:=QQ kk;clear hR hR2 ha1 ha3 kk
 have bX:∀ X:Obj,Below W.heap.size W (W.alloc X):=fun X=>(QB _ W).alloc (QN _) X
 have bY:∀ X:Obj,(W.alloc X).heap.size=W.heap.size+1:=fun X=>by simp
 go_enter Tryz.func44,Tryz.ntmps44;go_wp2_with (go_at_call 33;refine Qau ?_);unfold Qag;refine (QdU _ _ _ _ a1 A1).mono ?_;rintro e' w' ⟨rfl,hw⟩;rw [hw];clear hw w'
 cases a1 with
 | false =>
  go_wp2;go_ret;exact ⟨by rw [show R=_ from HR] <;> rfl,bX _⟩
 | true =>
  cases t1:decide (kp > 65535) with
  | true =>
   go_wp2;go_ret;exact ⟨by rw [show R=_ from HR,t1] <;> rfl,bX _⟩
  | false =>
   go_wp2_with (go_at_call 45;refine Qau ?_);unfold Qag;refine ((QG KK) _).mono ?_;rintro e' w2 ⟨rfl,b2⟩;have b3:Below W.heap.size W w2:=(bX _).trans (b2.mono (by rw [bY];omega));clear b2 KK
   cases a3 with
   | false =>
    simp only [Bool.false_eq_true,if_false];go_wp2;go_ret;exact ⟨by rw [show R=_ from HR,t1] <;> rfl,b3⟩
   | true =>
    simp only [if_true];go_wp2;go_ret;exact ⟨by rw [show R=_ from HR,t1] <;> rfl,b3⟩
end Go.Proofs.YtejcandhijdnhaaGreat
