/- A region that draws: two operations that make memory may come up in either order (two, or one beside a chain of two); what comes behind is walked once. -/
import Derived.Test.YtdlhnipkhlihjaaTlvS
namespace Go.Proofs.Ytdlhnipkhlihjaa
open Go Go.RowKit
set_option linter.unusedVariables false
section
variable {P : Program} {ops : Array Oper} {md : Region.Mode} {R : World → World → Prop} {a : Act} {w : World}
theorem anyV_pair {L : Act → World → Prop} (C : Value → Value → World → Prop) (i j : Nat) {oi oj : Oper} {fuel : Nat} {listed : Array Bool} (hi : ops[i]? = some oi) (hj : ops[j]? = some oj) (hij : i ≠ j)
    (hr : Region.ready md ops listed = [i, j]) (hri : Region.ready md ops (listed.setIfInBounds i true) = [j]) (hrj : Region.ready md ops (listed.setIfInBounds j true) = [i])
    (hd : ∀ d, oi.dst = some d → oj.dst ≠ some d)
    (hwi : Region.wanted oi (yielded ops a.tmps) = true) (hwj : Region.wanted oj (yielded ops a.tmps) = true)
    (hwj' : ∀ v, Region.wanted oj (yielded ops (a.put oi.dst v).tmps) = true) (hwi' : ∀ v, Region.wanted oi (yielded ops (a.put oj.dst v).tmps) = true)
    (h1 : ∀ K : Value → World → Prop, (∀ v1 w1, R w w1 → upV P (fun v2 w2 => R w1 w2 ∧ C v1 v2 w2) ((execOp (a.put oi.dst v1).eval oj).run P w1) → K v1 w1) → upV P K ((execOp a.eval oi).run P w))
    (h2 : ∀ K : Value → World → Prop, (∀ v2 w1, R w w1 → upV P (fun v1 w2 => R w1 w2 ∧ C v1 v2 w2) ((execOp (a.put oj.dst v2).eval oi).run P w1) → K v2 w1) → upV P K ((execOp a.eval oj).run P w))
    (h : ∀ v1 v2 w2, C v1 v2 w2 → anyV R P md ops L fuel ((listed.setIfInBounds i true).setIfInBounds j true) ((a.put oi.dst v1).put oj.dst v2) w2) : anyV R P md ops L (fuel + 2) listed a w := by
  refine anyV_two i j hi hj hr hwi hwj (fun K hK => h1 K fun v1 w1 hR hu => hK v1 w1 hR ?_) (fun K hK => h2 K fun v2 w1 hR hu => hK v2 w1 hR ?_)
  · refine anyV_only j hj hri (hwj' v1) fun K2 hK2 => ?_
    exact upV_mono (fun v2 w2 hc => hK2 v2 w2 hc.1 (h v1 v2 w2 hc.2)) hu
  · refine anyV_only i hi hrj (hwi' v2) fun K2 hK2 => ?_
    refine upV_mono (fun v1 w2 hc => hK2 v1 w2 hc.1 ?_) hu
    rw [Array.setIfInBounds_comm _ _ (Ne.symm hij), ← Act.put_comm a v1 v2 hd]
    exact h v1 v2 w2 hc.2
/-- one beside a chain of two -/
theorem anyV_tri {L : Act → World → Prop} (C : Value → Value → Value → World → Prop) (i j k : Nat) {oi oj ok : Oper} {fuel : Nat} {listed : Array Bool} (hi : ops[i]? = some oi) (hj : ops[j]? = some oj) (hk : ops[k]? = some ok) (hij : i ≠ j) (hik : i ≠ k)
    (hr : Region.ready md ops listed = [i, j]) (hri : Region.ready md ops (listed.setIfInBounds i true) = [j]) (hrij : Region.ready md ops ((listed.setIfInBounds i true).setIfInBounds j true) = [k])
    (hrj : Region.ready md ops (listed.setIfInBounds j true) = [i, k]) (hrji : Region.ready md ops ((listed.setIfInBounds j true).setIfInBounds i true) = [k]) (hrjk : Region.ready md ops ((listed.setIfInBounds j true).setIfInBounds k true) = [i])
    (hd : ∀ d, oi.dst = some d → oj.dst ≠ some d) (hd2 : ∀ d, oi.dst = some d → ok.dst ≠ some d)
    (hwi : Region.wanted oi (yielded ops a.tmps) = true) (hwj : Region.wanted oj (yielded ops a.tmps) = true)
    (hw1 : ∀ v, Region.wanted oj (yielded ops (a.put oi.dst v).tmps) = true) (hw2 : ∀ v u, Region.wanted ok (yielded ops ((a.put oi.dst v).put oj.dst u).tmps) = true)
    (hw3 : ∀ v, Region.wanted oi (yielded ops (a.put oj.dst v).tmps) = true) (hw4 : ∀ v, Region.wanted ok (yielded ops (a.put oj.dst v).tmps) = true) (hw5 : ∀ v u, Region.wanted oi (yielded ops ((a.put oj.dst v).put ok.dst u).tmps) = true)
    (h1 : ∀ K : Value → World → Prop, (∀ vi w1, R w w1 → upV P (fun vj w2 => R w1 w2 ∧ upV P (fun vk w3 => R w2 w3 ∧ C vi vj vk w3) ((execOp ((a.put oi.dst vi).put oj.dst vj).eval ok).run P w2)) ((execOp (a.put oi.dst vi).eval oj).run P w1) → K vi w1) → upV P K ((execOp a.eval oi).run P w))
    (h2 : ∀ K : Value → World → Prop, (∀ vj w1, R w w1 → upV P (fun vi w2 => R w1 w2 ∧ upV P (fun vk w3 => R w2 w3 ∧ C vi vj vk w3) ((execOp ((a.put oi.dst vi).put oj.dst vj).eval ok).run P w2)) ((execOp (a.put oj.dst vj).eval oi).run P w1) →
      upV P (fun vk w2 => R w1 w2 ∧ upV P (fun vi w3 => R w2 w3 ∧ C vi vj vk w3) ((execOp ((a.put oj.dst vj).put ok.dst vk).eval oi).run P w2)) ((execOp (a.put oj.dst vj).eval ok).run P w1) → K vj w1) → upV P K ((execOp a.eval oj).run P w))
    (h : ∀ vi vj vk w3, C vi vj vk w3 → anyV R P md ops L fuel (((listed.setIfInBounds i true).setIfInBounds j true).setIfInBounds k true) (((a.put oi.dst vi).put oj.dst vj).put ok.dst vk) w3) : anyV R P md ops L (fuel + 3) listed a w := by
  refine anyV_two i j hi hj hr hwi hwj (fun K hK => h1 K fun vi w1 hR hu => hK vi w1 hR ?_) (fun K hK => h2 K fun vj w1 hR hu hu2 => hK vj w1 hR ?_)
  · refine anyV_only j hj hri (hw1 vi) fun K2 hK2 => ?_
    refine upV_mono (fun vj w2 hc => hK2 vj w2 hc.1 ?_) hu
    refine anyV_only k hk hrij (hw2 vi vj) fun K3 hK3 => ?_
    exact upV_mono (fun vk w3 hc2 => hK3 vk w3 hc2.1 (h vi vj vk w3 hc2.2)) hc.2
  · refine anyV_two i k hi hk hrj (hw3 vj) (hw4 vj) (fun K2 hK2 => ?_) (fun K2 hK2 => ?_)
    · refine upV_mono (fun vi w2 hc => hK2 vi w2 hc.1 ?_) hu
      rw [Array.setIfInBounds_comm _ _ (Ne.symm hij), ← Act.put_comm a vi vj hd]
      refine anyV_only k hk hrij (hw2 vi vj) fun K3 hK3 => ?_
      exact upV_mono (fun vk w3 hc2 => hK3 vk w3 hc2.1 (h vi vj vk w3 hc2.2)) hc.2
    · refine upV_mono (fun vk w2 hc => hK2 vk w2 hc.1 ?_) hu2
      refine anyV_only i hi hrjk (hw5 vj vk) fun K3 hK3 => ?_
      refine upV_mono (fun vi w3 hc2 => hK3 vi w3 hc2.1 ?_) hc.2
      rw [← Act.put_comm _ vi vk hd2, ← Act.put_comm a vi vj hd]
      rw [Array.setIfInBounds_comm _ _ (Ne.symm hik), Array.setIfInBounds_comm _ _ (Ne.symm hij)]
      exact h vi vj vk w3 hc2.2
end
end Go.Proofs.Ytdlhnipkhlihjaa
