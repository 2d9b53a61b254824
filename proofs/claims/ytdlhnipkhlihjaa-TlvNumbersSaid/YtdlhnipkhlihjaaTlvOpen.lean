/- The law's arguments: fields within fields, as the walk is told of them. -/
import Derived.Test.YtdlhnipkhlihjaaOpenBytes
import Derived.Test.YtdlhnipkhlihjaaTlvA
import Derived.SizedLaws
namespace Go.Proofs.Ytdlhnipkhlihjaa
open Go Go.RowKit Go.ChangeShapes Go.WideShapes Go.ChangeAt Go.Deep
set_option linter.unusedVariables false
section
variable {H : Type} {enc : TypeId × Value → H} {w : World} {held : Bool}
theorem weightsAll_mem {P : Program} {e : TypeId} : ∀ {l : List (DataW H)} {d : DataW H}, d ∈ l → ∀ n ∈ d.weights P e, n ∈ DataW.weightsAll P e l
  | x :: r, d, hd, n, hn => by
    rw [DataW.weightsAll]
    rcases List.mem_cons.1 hd with rfl | h
    · exact List.mem_append_left _ hn
    · exact List.mem_append_right _ (weightsAll_mem h n hn)
/-- the reach of a datum -/
def Reach (t : TypeId) (d : DataW H) : Prop := ∀ n ∈ d.weights Try.prog t, n ≤ 140737488351232
theorem reach_slice {t e : TypeId} (ht : Try.prog.underlying t = some (.slice e)) {l s : List (DataW H)} (h : Reach t (.slice l s)) :
    (l.length + s.length) * Try.prog.bytesOf e ≤ 140737488351232 ∧ ∀ d ∈ l, Reach e d := by
  unfold Reach at h
  rw [DataW.weights, ht] at h
  refine ⟨h _ (List.mem_cons_self ..), fun d hd n hn => h n ?_⟩
  exact List.mem_cons_of_mem _ (List.mem_append_left _ (weightsAll_mem hd n hn))
theorem open_field (N : Nat) (ih : ∀ (fuel : Nat) (v : Value) (x : DataW H × List MemPlace), DataW.trod enc Try.prog w 0 (fun _ => true) held fuel 22 [v] = some x → SizeOf.sizeOf x.1 ≤ N → Reach 22 x.1 → ∃ a len cap f, v = .slice a len cap ∧ SlF w.heap.size w a len cap f)
    {fuel : Nat} {cs : List Value} {x : DataW H × List MemPlace} (h : DataW.trod enc Try.prog w 0 (fun _ => true) held fuel 30 cs = some x) (hN : SizeOf.sizeOf x.1 ≤ N) (hr : Reach 30 x.1) :
    ∃ (t : Int) (a : Option Addr) (len cap : Nat) (bs : List Int) (ka : Option Addr) (kl kc : Nat) (k : Forest), cs = [.int .i64 t, .slice a len cap, .slice ka kl kc] ∧ -9223372036854775808 ≤ t ∧ t ≤ 9223372036854775807 ∧ (Row8 w.heap.size w (.slice a len cap) bs ∧ bs.length ≤ 140737488351232) ∧ SlF w.heap.size w ka kl kc k := by
  obtain ⟨xs, n, _, hx, hlen, hxl, hf⟩ := DataW.trod_struct Try.underlying30 h
  rw [show Try.prog.cellsOf 30 = 3 from by kernel_rfl] at hlen
  have l3 : xs.length = 3 := hxl
  match cs, hlen with
  | [v0, v1, v2], _ =>
    have k3 : Try.prog.cellsOf 3 = 1 := by kernel_rfl
    have k22 : Try.prog.cellsOf 25 = 1 := by kernel_rfl
    have k23 : Try.prog.cellsOf 22 = 1 := by kernel_rfl
    have h0 : DataW.trod enc Try.prog w 0 (fun _ => true) held n 3 (([v0, v1, v2].drop 0).take (Try.prog.cellsOf 3)) = xs[0]? := hf 0 _ rfl
    have h1 : DataW.trod enc Try.prog w 0 (fun _ => true) held n 25 (([v0, v1, v2].drop 1).take (Try.prog.cellsOf 25)) = xs[1]? := hf 1 _ rfl
    have h2 : DataW.trod enc Try.prog w 0 (fun _ => true) held n 22 (([v0, v1, v2].drop 2).take (Try.prog.cellsOf 22)) = xs[2]? := hf 2 _ rfl
    rw [k3, List.getElem?_eq_getElem (by omega)] at h0
    rw [k22, List.getElem?_eq_getElem (by omega)] at h1
    rw [k23, List.getElem?_eq_getElem (by omega)] at h2
    simp only [List.drop_zero, List.drop_succ_cons, List.take_succ_cons, List.take_zero] at h0 h1 h2
    obtain ⟨t, e0, _, w0⟩ := DataW.trod_int Try.underlying3 h0
    obtain ⟨a, len, cap, bs, e1, hb⟩ := open_bytes h1
    injection e0 with e0
    have b0 := bounds_i64 w0
    have hx1 : x.1 = .agg (xs.map (·.1)) := by rw [hx]
    have hreach : ∀ (j : Nat) (tj : TypeId) (hj : j < xs.length), ([3, 25, 22] : List TypeId)[j]? = some tj → Reach tj xs[j].1 := fun j tj hj htj m hm => by
      refine hr m ?_
      rw [hx1, DataW.weights, Try.underlying30]
      exact DataW.weights_mem_each (j := j) htj (by rw [List.getElem?_map, List.getElem?_eq_getElem hj]; rfl) m hm
    have hsz : ∀ (j : Nat) (hj : j < xs.length), SizeOf.sizeOf xs[j].1 ≤ N := fun j hj => by
      have hm : xs[j].1 ∈ xs.map (·.1) := List.mem_map.2 ⟨_, List.getElem_mem hj, rfl⟩
      have := List.sizeOf_lt_of_mem hm
      rw [hx1] at hN
      simp at hN
      omega
    have hbl : bs.length ≤ 140737488351232 := by
      rcases open_slice Try.underlying25 h1 with ⟨h', _⟩ | ⟨a', len', cap', m, n', D, Pl, hcs, _, _, _, _, hx', _⟩
      · injection h' with h'
        rw [e1] at h'; injection h' with _ h' _
        have := hb.1.open.1; omega
      · injection hcs with hcs
        rw [e1] at hcs; injection hcs with _ hcs _
        have hrr := hreach 1 _ (by omega) rfl
        rw [hx'] at hrr
        have := (reach_slice Try.underlying25 hrr).1
        rw [show Try.prog.bytesOf 5 = 1 from by kernel_rfl] at this
        simp only [List.length_map, List.length_range] at this
        have := hb.1.open.1
        omega
    obtain ⟨ka, kl, kc, k, e2, hk⟩ := ih n v2 xs[2] h2 (hsz 2 (by omega)) (hreach 2 _ (by omega) rfl)
    subst e0 e1 e2
    exact ⟨t, a, len, cap, bs, ka, kl, kc, k, rfl, by simpa using b0.1, by simpa using b0.2, ⟨hb, hbl⟩, hk⟩
theorem open_tlvs : ∀ (N fuel : Nat) (v : Value) (x : DataW H × List MemPlace), DataW.trod enc Try.prog w 0 (fun _ => true) held fuel 22 [v] = some x → SizeOf.sizeOf x.1 ≤ N → Reach 22 x.1 → ∃ a len cap f, v = .slice a len cap ∧ SlF w.heap.size w a len cap f := by
  intro N
  induction N with
  | zero =>
    intro fuel v x h hN hr
    exfalso
    cases hx : x.1 <;> simp [hx] at hN
  | succ N ih =>
    intro fuel v x h hN hr
    rcases open_slice Try.underlying22 h with ⟨h0, _⟩ | ⟨a', len, cap, m, n, D, Pl, hcs, hb, hl, hm, hmm, hx, hi⟩
    · injection h0 with h0
      exact ⟨none, 0, 0, .nil, h0, rfl, .inl rfl⟩
    · injection hcs with hcs
      subst hcs
      rw [show Try.prog.cellsOf 30 = 3 from by kernel_rfl] at hi
      have hml : len ≤ m := by rw [hmm]; split <;> omega
      by_cases hz : len = 0
      · exact ⟨_, len, cap, .nil, rfl, hz.symm, .inl hz⟩
      · rw [hx] at hr hN
        obtain ⟨_, hre⟩ := reach_slice Try.underlying22 hr
        have hsz : ∀ i, i < len → SizeOf.sizeOf (D i) ≤ N := fun i hil => by
          have := List.sizeOf_lt_of_mem (show D i ∈ (List.range len).map D from List.mem_map.2 ⟨i, List.mem_range.2 hil, rfl⟩)
          simp at hN
          omega
        have hfield : ∀ i, i < len → ∃ cs', w.cells? 0 (a'.add (i * 3)) 3 = some cs' ∧ ∃ (t : Int) (a : Option Addr) (len cap : Nat) (bs : List Int) (ka : Option Addr) (kl kc : Nat) (k : Forest), cs' = [.int .i64 t, .slice a len cap, .slice ka kl kc] ∧ -9223372036854775808 ≤ t ∧ t ≤ 9223372036854775807 ∧ (Row8 w.heap.size w (.slice a len cap) bs ∧ bs.length ≤ 140737488351232) ∧ SlF w.heap.size w ka kl kc k := fun i hil => by
          obtain ⟨cs', hc, ht⟩ := hi i (by omega)
          exact ⟨cs', hc, open_field N (fun fu v x h1 h2 h3 => ih fu v x h1 h2 h3) ht (hsz i hil) (hre _ (List.mem_map.2 ⟨i, List.mem_range.2 hil, rfl⟩))⟩
        obtain ⟨b, off, spot⟩ := a'
        have hspot : spot = none := by
          obtain ⟨cs', hc, t, a, l2, c2, bs, ka, kl, kc, k, rfl, _⟩ := hfield 0 (by omega)
          have := World.cell?_spot ((World.cells?_some hc).2.2 0 (by omega))
          simpa [Addr.add] using this
        subst hspot
        have hadd : ∀ k, (⟨b, off, none⟩ : Addr).add k = ⟨b, off + k, none⟩ := fun k => by unfold Addr.add; split <;> simp_all
        have key : ∀ q j, j + q = len → ∃ f : Forest, f.length = q ∧ RowF w.heap.size w f b (off + j * 3) := by
          intro q
          induction q with
          | zero => intro j _; exact ⟨.nil, rfl, trivial⟩
          | succ q ihq =>
            intro j hj
            obtain ⟨f, hf, hrow⟩ := ihq (j + 1) (by omega)
            obtain ⟨cs', hc, t, a, l2, c2, bs, ka, kl, kc, k, rfl, ht1, ht2, hbs, hk⟩ := hfield j (by omega)
            obtain ⟨_, _, hat⟩ := World.cells?_some hc
            have d0 := hat 0 (by omega)
            have d1 := hat 1 (by omega)
            have d2 := hat 2 (by omega)
            rw [add_add, hadd] at d0 d1 d2
            refine ⟨.cons t bs k f, by rw [Forest.length, hf], a, l2, c2, ka, kl, kc, d0, d1, d2, ht1, ht2, hbs, hk.1, hk.2, ?_⟩
            rw [show off + j * 3 + 3 = off + (j + 1) * 3 by omega]; exact hrow
        obtain ⟨f, hf, hrow⟩ := key len 0 (by omega)
        refine ⟨_, len, cap, f, rfl, hf, .inr ⟨b, off, rfl, ?_, hl, hm, by simpa using hrow⟩⟩
        obtain ⟨cs', hc, t, a, l2, c2, bs, ka, kl, kc, k, rfl, _⟩ := hfield 0 (by omega)
        have d0 := (World.cells?_some hc).2.2 0 (by omega)
        rw [add_add, hadd] at d0
        exact World.block_lt_of_cell? w _ d0
end
end Go.Proofs.Ytdlhnipkhlihjaa
