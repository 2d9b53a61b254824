/- Plain lemmas on the texts of words. -/
import Derived.Test.YtkagconllphdiaaWordText
import Derived.Test.YtkagconllphdiaaWordParse
namespace Go.Proofs.Ytkagconllphdiaa
open Go.RowKit
theorem textS_size (x : Nat) : (textS x).size = 8 := by unfold textS; rw [strOfNums_size]; rfl
theorem textL_length (x : Nat) : (textL x).length = 8 := rfl
theorem data_strOfNums (l : List Int) : (strOfNums l).data.toList = l.map fun n => UInt8.ofNat n.toNat := rfl
theorem extract_strOfNums (l : List Int) (i j : Nat) : (strOfNums l).extract i j = strOfNums ((l.take j).drop i) := by
  apply WideShapes.bytes_inj
  rw [ByteArray.data_extract, Array.toList_extract, data_strOfNums, data_strOfNums]
  rw [List.extract_eq_take_drop, List.map_drop, List.map_take, List.take_drop]
  by_cases h : i ≤ j
  · rw [show i + (j - i) = j by omega]
  · rw [List.drop_of_length_le (by simp; omega), List.drop_of_length_le (by simp; omega)]
/-- a text with another byte at one place -/
def setL (x m c : Nat) : List Int := (textL x).set m c
def setS (x m c : Nat) : ByteArray := strOfNums (setL x m c)
theorem setS_eq (x m c : Nat) (hm : m < 8) : (textS x).extract 0 m ++ strOfNums [(c : Int)] ++ (textS x).extract (m + 1) 8 = setS x m c := by
  unfold textS setS setL
  rw [extract_strOfNums, extract_strOfNums, strOfNums_append, strOfNums_append, List.drop_zero, show (textL x).take 8 = textL x from rfl,
    List.set_eq_take_append_cons_drop, if_pos (by rw [textL_length]; exact hm), List.append_assoc]
  rfl
theorem setS_size (x m c : Nat) : (setS x m c).size = 8 := by unfold setS setL; rw [strOfNums_size, List.length_set]; rfl
/-- a byte's number as a digit, off its number -/
def hexI (n : Int) : Int := hexV (UInt8.ofNat n.toNat)
theorem hexV_hexN : ∀ k : Fin 16, hexV (UInt8.ofNat (hexN k.val)) = k.val := by decide +kernel
theorem hexN_hexV : ∀ c : Fin 256, 0 ≤ hexV (UInt8.ofNat c.val) → hexN (hexU (UInt8.ofNat c.val)) = c.val := by decide +kernel
theorem hexI_text (x : Nat) : ∀ n ∈ textL x, 0 ≤ hexI n := by
  intro n hn
  have key : ∀ k, k < 16 → 0 ≤ hexI (hexN k : Int) := fun k hk => by
    have := hexV_hexN ⟨k, hk⟩
    show 0 ≤ hexV (UInt8.ofNat (hexN k))
    rw [this]; exact Int.natCast_nonneg _
  simp only [textL, List.mem_cons, List.not_mem_nil, or_false] at hn
  rcases hn with rfl | rfl | rfl | rfl | rfl | rfl | rfl | rfl <;> exact key _ (Nat.mod_lt _ (by omega))
theorem data_at (l : List Int) (j : Nat) (h : j < (strOfNums l).size) : (strOfNums l).data[j] = UInt8.ofNat (l[j]'(by rwa [strOfNums_size] at h)).toNat := by
  simp [strOfNums]
theorem hex_all (l : List Int) (h : ∀ n ∈ l, 0 ≤ hexI n) (j : Nat) (hj : j < (strOfNums l).size) : 0 ≤ hexV (strOfNums l).data[j] := by
  rw [data_at]; exact h _ (List.getElem_mem _)
theorem hexI_set (x m c : Nat) (hc : 0 ≤ hexV (UInt8.ofNat c)) : ∀ n ∈ setL x m c, 0 ≤ hexI n := by
  intro n hn
  rcases List.mem_or_eq_of_mem_set hn with h1 | h1
  · exact hexI_text x _ h1
  · rw [h1]; exact hc
theorem set_good (x m c : Nat) (hc : 0 ≤ hexV (UInt8.ofNat c)) : parseA (setS x m c) = accN (setS x m c).data.toList ∧ parseE (setS x m c) = 0 := by
  refine parse_good _ (setS_size x m c) fun j h => ?_
  exact hex_all _ (hexI_set x m c hc) j h
theorem set_bad (x m c : Nat) (hm : m < 8) (hc : hexV (UInt8.ofNat c) < 0) : parseA (setS x m c) = 0 ∧ parseE (setS x m c) = 10 := by
  refine parse_bad _ m (by rw [setS_size]; exact hm) ?_
  unfold setS
  rw [data_at]
  unfold setL
  rw [List.getElem_set_self]
  exact hc
theorem long_bad (x : Nat) : parseE (textS x ++ { data := #[48] }) = 10 := (parse_short _ (by
  rw [show ({ data := #[48] } : ByteArray) = strOfNums [48] from rfl]
  unfold textS
  rw [strOfNums_append, strOfNums_size, List.length_append, textL_length]; decide)).2
theorem short_bad (x : Nat) : parseE ((textS x).extract 0 7) = 10 := (parse_short _ (by
  unfold textS
  rw [extract_strOfNums, strOfNums_size, List.drop_zero, List.length_take, textL_length]; decide)).2
/-- eight digits, as a word -/
theorem accN_eight (a b c d e f g h : UInt8) : accN [a, b, c, d, e, f, g, h] =
    hexU a * 268435456 + hexU b * 16777216 + hexU c * 1048576 + hexU d * 65536 + hexU e * 4096 + hexU f * 256 + hexU g * 16 + hexU h := by
  have h1 := hexU_lt a; have h2 := hexU_lt b; have h3 := hexU_lt c; have h4 := hexU_lt d
  have h5 := hexU_lt e; have h6 := hexU_lt f; have h7 := hexU_lt g; have h8 := hexU_lt h
  simp only [accN, List.foldl]
  omega
theorem text_acc (s : ByteArray) (h8 : s.size = 8) (h : ∀ j (h : j < s.size), 0 ≤ hexV s.data[j]) : textS (accN s.data.toList) = s := by
  apply WideShapes.bytes_inj
  have hl : s.data.toList.length = 8 := by simpa using h8
  have hall : ∀ c ∈ s.data.toList, 0 ≤ hexV c := by
    intro c hc
    obtain ⟨j, hj, rfl⟩ := List.mem_iff_getElem.1 hc
    exact h j (by simpa using hj)
  generalize s.data.toList = l at hl hall
  match l, hl with
  | [a, b, c, d, e, f, g, k], _ =>
    have hx : ∀ u ∈ [a, b, c, d, e, f, g, k], hexN (hexU u) = u.toNat := by
      intro u hu
      have := hexN_hexV ⟨u.toNat, u.toNat_lt⟩
      rw [show UInt8.ofNat (⟨u.toNat, u.toNat_lt⟩ : Fin 256).val = u from UInt8.ofNat_toNat] at this
      exact this (hall u hu)
    rw [accN_eight]
    have h1 := hexU_lt a; have h2 := hexU_lt b; have h3 := hexU_lt c; have h4 := hexU_lt d
    have h5 := hexU_lt e; have h6 := hexU_lt f; have h7 := hexU_lt g; have h8 := hexU_lt k
    unfold textS textL
    rw [data_strOfNums]
    have key : ∀ (x : Nat) (u : UInt8), x = hexU u → hexN (hexU u) = u.toNat → UInt8.ofNat ((hexN x : Nat) : Int).toNat = u := by
      intro x u hxu hu
      rw [hxu, Int.toNat_natCast, hu]; exact UInt8.ofNat_toNat
    simp only [List.map_cons, List.map_nil, List.cons.injEq, and_true]
    exact ⟨key _ a (by omega) (hx a (by simp)), key _ b (by omega) (hx b (by simp)), key _ c (by omega) (hx c (by simp)), key _ d (by omega) (hx d (by simp)),
      key _ e (by omega) (hx e (by simp)), key _ f (by omega) (hx f (by simp)), key _ g (by omega) (hx g (by simp)), key _ k (by omega) (hx k (by simp))⟩
theorem text_set (x m c : Nat) (hc : 0 ≤ hexV (UInt8.ofNat c)) : textS (accN (setS x m c).data.toList) = setS x m c := by
  refine text_acc _ (setS_size x m c) fun j h => ?_
  exact hex_all _ (hexI_set x m c hc) j h
/-- a text's word is that word -/
theorem acc_text (x : Nat) (hx : x < 4294967296) : accN (textS x).data.toList = x := by
  unfold textS textL
  rw [data_strOfNums]
  simp only [List.map_cons, List.map_nil, Int.toNat_natCast]
  rw [accN_eight]
  have key : ∀ k, k < 16 → hexU (UInt8.ofNat (hexN k)) = k := fun k hk => by
    have := hexV_hexN ⟨k, hk⟩
    unfold hexU; rw [this]; rfl
  rw [key _ (Nat.mod_lt _ (by omega)), key _ (Nat.mod_lt _ (by omega)), key _ (Nat.mod_lt _ (by omega)), key _ (Nat.mod_lt _ (by omega)), key _ (Nat.mod_lt _ (by omega)), key _ (Nat.mod_lt _ (by omega)), key _ (Nat.mod_lt _ (by omega)), key _ (Nat.mod_lt _ (by omega))]
  omega
theorem parse_text (x : Nat) (hx : x < 4294967296) : parseA (textS x) = x ∧ parseE (textS x) = 0 := by
  have := parse_good (textS x) (textS_size x) fun j h => by
    exact hex_all _ (hexI_text x) j h
  rw [acc_text x hx] at this
  exact this
theorem hexN_mono (a b : Nat) (ha : a < 16) (hb : b < 16) : hexN a < hexN b ↔ a < b := by unfold hexN; split <;> split <;> omega
theorem less_cons (a b : Nat) (x y : List UInt8) (ha : a < 16) (hb : b < 16) : Op.bytesLess (UInt8.ofNat (hexN a) :: x) (UInt8.ofNat (hexN b) :: y) = (decide (a < b) || (decide (a = b) && Op.bytesLess x y)) := by
  have e1 : (UInt8.ofNat (hexN a) < UInt8.ofNat (hexN b)) ↔ a < b := by
    rw [UInt8.lt_iff_toNat_lt, UInt8.toNat_ofNat', UInt8.toNat_ofNat', Nat.mod_eq_of_lt (hexN_lt a ha), Nat.mod_eq_of_lt (hexN_lt b hb), hexN_mono a b ha hb]
  have e2 : (UInt8.ofNat (hexN a) = UInt8.ofNat (hexN b)) ↔ a = b := by
    constructor
    · intro h
      have := congrArg UInt8.toNat h
      rw [UInt8.toNat_ofNat', UInt8.toNat_ofNat', Nat.mod_eq_of_lt (hexN_lt a ha), Nat.mod_eq_of_lt (hexN_lt b hb)] at this
      have h1 := hexN_mono a b ha hb
      have h2 := hexN_mono b a hb ha
      omega
    · rintro rfl; rfl
  rw [Op.bytesLess]
  rw [show (decide (UInt8.ofNat (hexN a) < UInt8.ofNat (hexN b))) = decide (a < b) from decide_eq_decide.2 e1,
    show (UInt8.ofNat (hexN a) == UInt8.ofNat (hexN b)) = decide (a = b) from by rw [Bool.eq_iff_iff]; simp only [beq_iff_eq, decide_eq_true_eq]; exact e2]
/-- digits' number -/
def valN : List Nat → Nat
  | [] => 0
  | d :: l => d * 16 ^ l.length + valN l
theorem valN_lt : ∀ l : List Nat, (∀ d ∈ l, d < 16) → valN l < 16 ^ l.length
  | [], _ => by simp [valN]
  | d :: l, h => by
    have h1 := valN_lt l fun x hx => h x (List.mem_cons_of_mem _ hx)
    have h2 := h d List.mem_cons_self
    have h3 : d * 16 ^ l.length + 16 ^ l.length ≤ 16 * 16 ^ l.length := by
      rw [← Nat.succ_mul]; exact Nat.mul_le_mul_right _ h2
    rw [valN, List.length_cons, Nat.pow_succ, Nat.mul_comm _ 16]
    omega
theorem less_val : ∀ (x y : List Nat), x.length = y.length → (∀ d ∈ x, d < 16) → (∀ d ∈ y, d < 16) →
    Op.bytesLess (x.map fun d => UInt8.ofNat (hexN d)) (y.map fun d => UInt8.ofNat (hexN d)) = decide (valN x < valN y)
  | [], [], _, _, _ => by simp [Op.bytesLess, valN]
  | a :: x, b :: y, hl, ha, hb => by
    have hl' : x.length = y.length := by simpa using hl
    have ih := less_val x y hl' (fun d hd => ha d (List.mem_cons_of_mem _ hd)) (fun d hd => hb d (List.mem_cons_of_mem _ hd))
    have h1 := valN_lt x fun d hd => ha d (List.mem_cons_of_mem _ hd)
    have h2 := valN_lt y fun d hd => hb d (List.mem_cons_of_mem _ hd)
    rw [List.map_cons, List.map_cons, less_cons _ _ _ _ (ha a List.mem_cons_self) (hb b List.mem_cons_self), ih, valN, valN, hl']
    rw [hl'] at h1
    generalize 16 ^ y.length = p at *
    rw [Bool.eq_iff_iff]
    simp only [Bool.or_eq_true, Bool.and_eq_true, decide_eq_true_eq]
    rcases Nat.lt_trichotomy a b with h | h | h
    · have : a * p + p ≤ b * p := by rw [← Nat.succ_mul]; exact Nat.mul_le_mul_right _ h
      constructor
      · intro _; omega
      · intro _; exact .inl h
    · subst h
      constructor
      · rintro (h3 | ⟨_, h3⟩) <;> omega
      · intro h3; exact .inr ⟨rfl, by omega⟩
    · have : b * p + p ≤ a * p := by rw [← Nat.succ_mul]; exact Nat.mul_le_mul_right _ h
      constructor
      · rintro (h3 | ⟨h3, _⟩) <;> omega
      · intro h3; omega
def digs (x : Nat) : List Nat := [x / 268435456 % 16, x / 16777216 % 16, x / 1048576 % 16, x / 65536 % 16, x / 4096 % 16, x / 256 % 16, x / 16 % 16, x % 16]
theorem digs_lt (x : Nat) : ∀ d ∈ digs x, d < 16 := by
  intro d hd
  simp only [digs, List.mem_cons, List.not_mem_nil, or_false] at hd
  rcases hd with rfl | rfl | rfl | rfl | rfl | rfl | rfl | rfl <;> exact Nat.mod_lt _ (by omega)
theorem digs_val (x : Nat) (h : x < 4294967296) : valN (digs x) = x := by
  simp only [digs, valN, List.length_cons, List.length_nil]
  omega
theorem textS_digs (x : Nat) : (textS x).data.toList = (digs x).map fun d => UInt8.ofNat (hexN d) := rfl
theorem text_less (a b : Nat) (ha : a < 4294967296) (hb : b < 4294967296) : Op.bytesLess (textS a).toList (textS b).toList = decide (a < b) := by
  rw [ByteArray.toList_eq, ByteArray.toList_eq, textS_digs, textS_digs, less_val (digs a) (digs b) rfl (digs_lt a) (digs_lt b), digs_val a ha, digs_val b hb]
end Go.Proofs.Ytkagconllphdiaa
