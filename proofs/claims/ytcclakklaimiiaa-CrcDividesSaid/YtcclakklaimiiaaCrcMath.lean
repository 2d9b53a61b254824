/- Numbers whose digits are 0 and 1, added without a carry, divided by 104C11DB7, all turned about: what is left is a word. -/
import Derived.WalkKit
namespace Go.Proofs.Ytcclakklaimiiaa
def divisorN : Nat := 0xedb88320
def oneN : Nat := 2 ^ 31
def onesN : Nat := 2 ^ 32 - 1
/-- a number times x -/
def crcT (n : Nat) : Nat := n / 2 ^^^ (if n % 2 = 1 then divisorN else 0)
/-- so often -/
def crcTs : Nat → Nat → Nat
  | 0, n => n
  | k + 1, n => crcTs k (crcT n)
theorem crcT_zero : crcT 0 = 0 := by decide
theorem crcT_xor (a b : Nat) : crcT (a ^^^ b) = crcT a ^^^ crcT b := by
  have h1 : (a ^^^ b) / 2 = a / 2 ^^^ b / 2 := Nat.xor_div_two
  have hd : ∀ x y : Nat, x ^^^ y ^^^ divisorN = x ^^^ (y ^^^ divisorN) := fun x y => Nat.xor_assoc ..
  unfold crcT
  rw [h1]
  by_cases ha : a % 2 = 1 <;> by_cases hb : b % 2 = 1
  · have : ¬ (a ^^^ b) % 2 = 1 := by simp [ha, hb]
    rw [if_pos ha, if_pos hb, if_neg this, Nat.xor_zero, ← hd, Nat.xor_assoc (a / 2), Nat.xor_comm divisorN, ← Nat.xor_assoc, Nat.xor_assoc, Nat.xor_self, Nat.xor_zero]
  · have : (a ^^^ b) % 2 = 1 := by simp [ha, hb]
    rw [if_pos ha, if_neg hb, if_pos this, Nat.xor_zero, Nat.xor_assoc, Nat.xor_comm (b / 2), ← Nat.xor_assoc]
  · have : (a ^^^ b) % 2 = 1 := by simp [ha, hb]
    rw [if_neg ha, if_pos hb, if_pos this, Nat.xor_zero, Nat.xor_assoc]
  · have : ¬ (a ^^^ b) % 2 = 1 := by simp [ha, hb]
    rw [if_neg ha, if_neg hb, if_neg this, Nat.xor_zero, Nat.xor_zero, Nat.xor_zero]
theorem crcT_lt {n : Nat} (h : n < 4294967296) : crcT n < 4294967296 := by
  unfold crcT
  exact Nat.xor_lt_two_pow (n := 32) (by omega) (by split <;> decide)
theorem crcT_even (n : Nat) : crcT (2 * n) = n := by
  unfold crcT
  rw [Nat.mul_mod_right, if_neg (by decide), Nat.xor_zero, Nat.mul_div_cancel_left _ (by decide)]
theorem crcTs_lt (k : Nat) : ∀ {n : Nat}, n < 4294967296 → crcTs k n < 4294967296 := by
  induction k with
  | zero => intro n h; exact h
  | succ k ih => intro n h; exact ih (crcT_lt h)
theorem crcTs_zero (k : Nat) : crcTs k 0 = 0 := by
  induction k with
  | zero => rfl
  | succ k ih => rw [crcTs, crcT_zero, ih]
theorem crcTs_xor (k : Nat) : ∀ a b : Nat, crcTs k (a ^^^ b) = crcTs k a ^^^ crcTs k b := by
  induction k with
  | zero => intro a b; rfl
  | succ k ih => intro a b; rw [crcTs, crcT_xor, ih]; rfl
theorem crcTs_add (j : Nat) : ∀ k n : Nat, crcTs (j + k) n = crcTs k (crcTs j n) := by
  induction j with
  | zero => intro k n; rw [Nat.zero_add]; rfl
  | succ j ih => intro k n; rw [Nat.succ_add, crcTs, ih]; rfl
theorem crcTs_succ (k n : Nat) : crcTs (k + 1) n = crcT (crcTs k n) := by rw [crcTs_add]; rfl
theorem crcTs_even (k : Nat) : ∀ n : Nat, crcTs k (2 ^ k * n) = n := by
  induction k with
  | zero => intro n; rw [Nat.pow_zero, Nat.one_mul]; rfl
  | succ k ih => intro n; rw [crcTs, Nat.pow_succ, Nat.mul_comm (2 ^ k) 2, Nat.mul_assoc, crcT_even, ih]
theorem crcTs_pow (k i : Nat) (h : k ≤ i) : crcTs k (2 ^ i) = 2 ^ (i - k) := by
  have : 2 ^ i = 2 ^ k * 2 ^ (i - k) := by rw [← Nat.pow_add]; congr 1; omega
  rw [this, crcTs_even]
theorem bit_split (n k : Nat) (h : n < 2 ^ (k + 1)) : n = n % 2 ^ k ^^^ (if n.testBit k then 2 ^ k else 0) := by
  refine Nat.eq_of_testBit_eq fun i => ?_
  rw [Nat.testBit_xor, Nat.testBit_mod_two_pow]
  have h0 : (if n.testBit k then 2 ^ k else 0).testBit i = (n.testBit k && decide (k = i)) := by
    split
    · next h => rw [Nat.testBit_two_pow, h, Bool.true_and]
    · next h => rw [Nat.zero_testBit]; simp [h]
  rw [h0]
  by_cases h1 : i < k
  · have : k ≠ i := by omega
    simp [h1, this]
  · by_cases h2 : k = i
    · subst h2; simp
    · have h3 : n.testBit i = false := Nat.testBit_lt_two_pow (Nat.lt_of_lt_of_le h (Nat.pow_le_pow_right (by decide) (by omega)))
      simp [h1, h2, h3]
/-- words are made of 1, x and addition -/
theorem crc_span (P : Nat → Prop) (h0 : P 0) (h1 : P oneN) (hT : ∀ a, a < 4294967296 → P a → P (crcT a)) (hx : ∀ a b, a < 4294967296 → b < 4294967296 → P a → P b → P (a ^^^ b)) (n : Nat) (hn : n < 4294967296) : P n := by
  have hp : ∀ k, k ≤ 31 → P (crcTs k oneN) := by
    intro k
    induction k with
    | zero => intro _; exact h1
    | succ k ih => intro hk; rw [crcTs_succ]; exact hT _ (crcTs_lt k (by decide)) (ih (by omega))
  have hb : ∀ k, k < 32 → P (2 ^ k) := by
    intro k hk
    have := hp (31 - k) (by omega)
    rw [oneN, crcTs_pow _ _ (by omega), show 31 - (31 - k) = k by omega] at this
    exact this
  have : ∀ k, k ≤ 32 → ∀ n, n < 2 ^ k → P n := by
    intro k
    induction k with
    | zero => intro _ n hn; rw [show n = 0 by omega]; exact h0
    | succ k ih =>
      intro hk n hn
      have h5 : 2 ^ k < 4294967296 := Nat.pow_lt_pow_right (n := 32) (by decide) (by omega)
      rw [bit_split n k hn]
      have h2 := Nat.mod_lt n (Nat.two_pow_pos k)
      refine hx _ _ (by omega) (by split <;> omega) (ih (by omega) _ h2) ?_
      split
      · exact hb k (by omega)
      · exact h0
  exact this 32 (Nat.le_refl _) n hn
/-- the product, up to a digit -/
def crcS (a b : Nat) : Nat → Nat
  | 0 => 0
  | k + 1 => crcS a b k ^^^ (if a.testBit (31 - k) then crcTs k b else 0)
def crcMul (a b : Nat) : Nat := crcS a b 32
theorem xor4 (a b c d : Nat) : a ^^^ b ^^^ (c ^^^ d) = a ^^^ c ^^^ (b ^^^ d) := by
  rw [Nat.xor_assoc, ← Nat.xor_assoc b, Nat.xor_comm b c, Nat.xor_assoc c, ← Nat.xor_assoc a]
theorem crcS_xor_left (a c b k : Nat) : crcS (a ^^^ c) b k = crcS a b k ^^^ crcS c b k := by
  induction k with
  | zero => simp only [crcS, Nat.xor_self]
  | succ k ih =>
    simp only [crcS]
    rw [ih, xor4, Nat.testBit_xor]
    congr 1
    cases a.testBit (31 - k) <;> cases c.testBit (31 - k) <;> simp
theorem crcS_xor_right (a b c k : Nat) : crcS a (b ^^^ c) k = crcS a b k ^^^ crcS a c k := by
  induction k with
  | zero => simp only [crcS, Nat.xor_self]
  | succ k ih =>
    simp only [crcS]
    rw [ih, xor4, crcTs_xor]
    congr 1
    cases a.testBit (31 - k) <;> simp
theorem crcS_zero_left (b k : Nat) : crcS 0 b k = 0 := by
  induction k with
  | zero => rfl
  | succ k ih => simp only [crcS]; rw [ih, Nat.zero_testBit]; simp
theorem crcS_zero_right (a k : Nat) : crcS a 0 k = 0 := by
  induction k with
  | zero => rfl
  | succ k ih => simp only [crcS]; rw [ih, crcTs_zero]; simp
theorem crcS_lt (a b k : Nat) (hb : b < 4294967296) : crcS a b k < 4294967296 := by
  induction k with
  | zero => exact (by decide : 0 < 4294967296)
  | succ k ih =>
    simp only [crcS]
    refine Nat.xor_lt_two_pow (n := 32) ih ?_
    split
    · exact crcTs_lt k hb
    · decide
theorem crcMul_lt (a b : Nat) (hb : b < 4294967296) : crcMul a b < 4294967296 := crcS_lt a b 32 hb
theorem crcS_T (a b k : Nat) : crcS a (crcT b) k = crcT (crcS a b k) := by
  induction k with
  | zero => simp only [crcS, crcT_zero]
  | succ k ih =>
    simp only [crcS]
    rw [ih, crcT_xor]
    congr 1
    cases a.testBit (31 - k)
    · simp [crcT_zero]
    · simp only [↓reduceIte]; rw [← crcTs_succ]; rfl
theorem crcMul_T (a b : Nat) : crcMul a (crcT b) = crcT (crcMul a b) := crcS_T a b 32
theorem crcMul_Ts (a : Nat) (k : Nat) : ∀ b, crcMul a (crcTs k b) = crcTs k (crcMul a b) := by
  induction k with
  | zero => intro b; rfl
  | succ k ih => intro b; rw [crcTs, ih, crcMul_T]; rfl
theorem crcS_one (a k : Nat) (hk : k ≤ 32) (i : Nat) (hi : i < 32) : (crcS a oneN k).testBit i = (a.testBit i && decide (32 ≤ i + k)) := by
  induction k with
  | zero => simp only [crcS, Nat.zero_testBit]; have : ¬ 32 ≤ i := by omega
            simp [this]
  | succ k ih =>
    simp only [crcS]
    rw [Nat.testBit_xor, ih (by omega), oneN, crcTs_pow _ _ (by omega)]
    have h0 : (if a.testBit (31 - k) then 2 ^ (31 - k) else 0).testBit i = (a.testBit (31 - k) && decide (31 - k = i)) := by
      split
      · next h => rw [Nat.testBit_two_pow, h, Bool.true_and]
      · next h => rw [Nat.zero_testBit]; simp [h]
    rw [h0]
    by_cases h1 : 31 - k = i
    · rw [h1]
      have h2 : ¬ 32 ≤ i + k := by omega
      have h3 : 32 ≤ i + (k + 1) := by omega
      simp [h2, h3]
    · by_cases h2 : 32 ≤ i + k
      · have h3 : 32 ≤ i + (k + 1) := by omega
        simp [h1, h2, h3]
      · have h3 : ¬ 32 ≤ i + (k + 1) := by omega
        simp [h1, h2, h3]
theorem crcMul_one (a : Nat) (ha : a < 4294967296) : crcMul a oneN = a := by
  refine Nat.eq_of_testBit_eq fun i => ?_
  by_cases h : i < 32
  · rw [crcMul, crcS_one a 32 (Nat.le_refl _) i h]
    have : 32 ≤ i + 32 := by omega
    simp [this]
  · have hp : 2 ^ 32 ≤ 2 ^ i := Nat.pow_le_pow_right (by decide) (by omega)
    have h1 := crcMul_lt a oneN (by decide)
    rw [Nat.testBit_lt_two_pow (by omega), Nat.testBit_lt_two_pow (by omega)]
theorem crcMul_D (b : Nat) (hb : b < 4294967296) : crcMul divisorN b = crcTs 32 b := by
  refine crc_span (fun b => crcMul divisorN b = crcTs 32 b) ?_ ?_ ?_ ?_ b hb
  · rw [crcMul, crcS_zero_right, crcTs_zero]
  · rw [crcMul_one _ (by decide)]; decide
  · intro a _ h; rw [crcMul_T, h, ← crcTs_succ]; rfl
  · intro a c _ _ h1 h2; rw [crcMul, crcS_xor_right, crcTs_xor]; exact congr (congrArg _ h1) h2
theorem crcS_half (a b k : Nat) (ha : a < 4294967296) (hk : k < 32) : crcS (a / 2) b (k + 1) = crcT (crcS a b k) := by
  induction k with
  | zero =>
    simp only [crcS]
    rw [Nat.testBit_lt_two_pow (by simp; omega), crcT_zero]; simp
  | succ k ih =>
    rw [crcS, ih (by omega), crcS, crcT_xor]
    congr 1
    rw [Nat.testBit_div_two, show 31 - (k + 1) + 1 = 31 - k by omega]
    cases a.testBit (31 - k)
    · simp [crcT_zero]
    · simp only [↓reduceIte]; exact crcTs_succ k b
theorem crcT_mul (a b : Nat) (ha : a < 4294967296) (hb : b < 4294967296) : crcMul (crcT a) b = crcT (crcMul a b) := by
  have h0 : crcMul (crcT a) b = crcMul (a / 2) b ^^^ crcMul (if a % 2 = 1 then divisorN else 0) b := crcS_xor_left _ _ _ _
  have h1 : crcMul (a / 2) b = crcT (crcS a b 31) := crcS_half a b 31 ha (by decide)
  have h2 : crcMul a b = crcS a b 31 ^^^ (if a.testBit 0 then crcTs 31 b else 0) := rfl
  rw [h0, h1, h2, crcT_xor]
  congr 1
  rw [Nat.testBit_zero]
  by_cases h : a % 2 = 1
  · simp only [h, ↓reduceIte, decide_true]; rw [crcMul_D b hb, ← crcTs_succ]
  · simp only [h, ↓reduceIte, decide_false]; rw [crcMul, crcS_zero_left]; simp [crcT_zero]
theorem one_crcMul (b : Nat) : crcMul oneN b = b := by
  have : ∀ k, crcS oneN b (k + 1) = b ∨ 31 < k := by
    intro k
    induction k with
    | zero => left; simp only [crcS]; rw [show oneN.testBit (31 - 0) = true by decide, Nat.zero_xor]; rfl
    | succ k ih =>
      by_cases hk : 31 < k + 1
      · exact .inr hk
      · rcases ih with ih | ih
        · left
          rw [crcS, ih, oneN, Nat.testBit_two_pow, decide_eq_false (by omega : ¬ 31 = 31 - (k + 1))]
          simp
        · omega
  rcases this 31 with h | h
  · exact h
  · omega
theorem crcMul_comm (a b : Nat) (ha : a < 4294967296) (hb : b < 4294967296) : crcMul a b = crcMul b a := by
  refine crc_span (fun a => crcMul a b = crcMul b a) ?_ ?_ ?_ ?_ a ha
  · rw [crcMul, crcMul, crcS_zero_left, crcS_zero_right]
  · rw [one_crcMul, crcMul_one b hb]
  · intro a ha h; rw [crcT_mul a b ha hb, crcMul_T, h]
  · intro a c _ _ h1 h2
    show crcS _ _ _ = crcS _ _ _
    rw [crcS_xor_left, crcS_xor_right]; exact congr (congrArg _ h1) h2
theorem crcMul_assoc (a b c : Nat) (ha : a < 4294967296) (hb : b < 4294967296) (hc : c < 4294967296) : crcMul (crcMul a b) c = crcMul a (crcMul b c) := by
  refine crc_span (fun a => crcMul (crcMul a b) c = crcMul a (crcMul b c)) ?_ ?_ ?_ ?_ a ha
  · simp only [crcMul, crcS_zero_left]
  · rw [one_crcMul, one_crcMul]
  · intro a ha h; rw [crcT_mul a b ha hb, crcT_mul _ c (crcMul_lt a b hb) hc, crcT_mul a _ ha (crcMul_lt b c hc), h]
  · intro a d _ _ h1 h2
    show crcS (crcS (a ^^^ d) b 32) c 32 = crcS (a ^^^ d) (crcMul b c) 32
    rw [crcS_xor_left, crcS_xor_left, crcS_xor_left]
    exact congr (congrArg _ h1) h2
/-- x to the power of eight times a number -/
def crcP (n : Nat) : Nat := crcTs (8 * n) oneN
theorem crcP_lt (n : Nat) : crcP n < 4294967296 := crcTs_lt _ (by decide)
theorem crcMul_P (a n : Nat) (ha : a < 4294967296) : crcMul a (crcP n) = crcTs (8 * n) a := by
  rw [crcP, crcMul_Ts, crcMul_one a ha]
theorem crcP_mul (a b : Nat) : crcMul (crcP a) (crcP b) = crcP (a + b) := by
  rw [crcMul_P _ _ (crcP_lt a), crcP, crcP, ← crcTs_add, Nat.mul_add]
/-- what some bytes leave, behind what is there -/
def crcF (s : Nat) : List Nat → Nat
  | [] => s
  | c :: r => crcF (crcTs 8 (s ^^^ c)) r
theorem crcF_append (b c : List Nat) : ∀ s, crcF s (b ++ c) = crcF (crcF s b) c := by
  induction b with
  | nil => intro s; rfl
  | cons x r ih => intro s; exact ih _
theorem crcF_xor (b : List Nat) : ∀ s t, crcF (s ^^^ t) b = crcF s b ^^^ crcTs (8 * b.length) t := by
  induction b with
  | nil => intro s t; rfl
  | cons x r ih =>
    intro s t
    have h : s ^^^ t ^^^ x = s ^^^ x ^^^ t := by rw [Nat.xor_assoc, Nat.xor_comm t, ← Nat.xor_assoc]
    rw [crcF, h, crcTs_xor, ih, List.length_cons, Nat.mul_add, Nat.add_comm, crcTs_add]; rfl
theorem crcF_lt (b : List Nat) (hb : ∀ x ∈ b, x < 256) : ∀ s, s < 4294967296 → crcF s b < 4294967296 := by
  induction b with
  | nil => intro s h; exact h
  | cons x r ih =>
    intro s h
    have hx := hb x (List.mem_cons_self ..)
    exact ih (fun y hy => hb y (List.mem_cons_of_mem _ hy)) _ (crcTs_lt 8 (Nat.xor_lt_two_pow (n := 32) h (by omega)))
/-- the sum of some, and more -/
def moreN (n : Nat) (b : List Nat) : Nat := crcF (n ^^^ onesN) b ^^^ onesN
theorem xor_back (a b : Nat) : a ^^^ b ^^^ b = a := by rw [Nat.xor_assoc, Nat.xor_self, Nat.xor_zero]
theorem ones_lt {n : Nat} (h : n < 4294967296) : n ^^^ onesN < 4294967296 := Nat.xor_lt_two_pow (n := 32) h (by decide)
theorem moreN_lt {n : Nat} (h : n < 4294967296) (b : List Nat) (hb : ∀ x ∈ b, x < 256) : moreN n b < 4294967296 := ones_lt (crcF_lt b hb _ (ones_lt h))
theorem moreN_append (n : Nat) (b c : List Nat) : moreN n (b ++ c) = moreN (moreN n b) c := by
  unfold moreN; rw [crcF_append, xor_back]
def sumN (b : List Nat) : Nat := moreN 0 b
theorem sumN_append (b c : List Nat) : sumN (b ++ c) = crcTs (8 * c.length) (sumN b) ^^^ sumN c := by
  have h : moreN 0 b ^^^ onesN = 0 ^^^ onesN ^^^ moreN 0 b := by rw [Nat.zero_xor, Nat.xor_comm]
  show moreN 0 (b ++ c) = crcTs _ (moreN 0 b) ^^^ moreN 0 c
  rw [moreN_append]
  show crcF (moreN 0 b ^^^ onesN) c ^^^ onesN = crcTs _ (moreN 0 b) ^^^ (crcF (0 ^^^ onesN) c ^^^ onesN)
  rw [h, crcF_xor, Nat.xor_comm (crcF _ c), Nat.xor_assoc]
def shiftN (n z : Nat) : Nat := crcMul (n ^^^ onesN) (crcP z) ^^^ onesN
def joinN (a b l : Nat) : Nat := crcMul a (crcP l) ^^^ b
theorem shiftN_lt (n z : Nat) : shiftN n z < 4294967296 := ones_lt (crcMul_lt _ _ (crcP_lt z))
theorem joinN_lt (a b l : Nat) (h : b < 4294967296) : joinN a b l < 4294967296 := Nat.xor_lt_two_pow (n := 32) (crcMul_lt _ _ (crcP_lt l)) h
theorem shiftN_zero (n : Nat) (h : n < 4294967296) : shiftN n 0 = n := by
  unfold shiftN; rw [crcMul_P _ _ (ones_lt h)]; exact xor_back n onesN
theorem shiftN_add (n a b : Nat) (h : n < 4294967296) : shiftN (shiftN n a) b = shiftN n (a + b) := by
  have h1 := ones_lt h
  unfold shiftN
  rw [xor_back, crcMul_assoc _ _ _ h1 (crcP_lt a) (crcP_lt b), crcP_mul]
theorem joinN_sum (b c : List Nat) (hb : ∀ x ∈ b, x < 256) : joinN (sumN b) (sumN c) c.length = sumN (b ++ c) := by
  have h : crcMul (sumN b) (crcP c.length) = _ := crcMul_P (moreN 0 b) c.length (moreN_lt (by decide) b hb)
  unfold joinN; rw [h, sumN_append]; rfl
theorem joinN_assoc (x y z l m : Nat) (hx : x < 4294967296) : joinN (joinN x y l) z m = joinN x (joinN y z m) (l + m) := by
  unfold joinN
  rw [show crcMul (crcMul x (crcP l) ^^^ y) (crcP m) = crcMul (crcMul x (crcP l)) (crcP m) ^^^ crcMul y (crcP m) from crcS_xor_left _ _ _ _, crcMul_assoc _ _ _ hx (crcP_lt l) (crcP_lt m), crcP_mul, Nat.xor_assoc]
/-- half a byte -/
theorem crc_half (s h : Nat) (hh : h < 16) : s / 16 ^^^ crcTs 4 ((s ^^^ h) % 16) = crcTs 4 (s ^^^ h) := by
  have h1 : (s ^^^ h) / 16 = s / 16 := by
    have h0 := Nat.xor_div_two_pow (a := s) (b := h) (n := 4)
    rw [show h / 2 ^ 4 = 0 by omega, Nat.xor_zero] at h0
    exact h0
  have h2 : s ^^^ h = 2 ^ 4 * (s / 16) ^^^ (s ^^^ h) % 16 := by
    refine Nat.eq_of_testBit_eq fun i => ?_
    have e : (s ^^^ h) % 16 = (s ^^^ h) % 2 ^ 4 := rfl
    rw [e, Nat.testBit_xor (2 ^ 4 * (s / 16)), Nat.testBit_mod_two_pow, ← h1, Nat.testBit_two_pow_mul]
    by_cases hi : i < 4
    · have : ¬ 4 ≤ i := by omega
      simp [hi, this]
    · have h4 : 4 ≤ i := by omega
      rw [show (s ^^^ h) / 16 = (s ^^^ h) / 2 ^ 4 from rfl, Nat.testBit_div_two_pow, show i - 4 + 4 = i by omega]
      simp [hi, h4]
  conv => rhs; rw [h2, crcTs_xor, crcTs_even]
theorem crc_byte (s c : Nat) : crcTs 4 (crcTs 4 (s ^^^ c % 16) ^^^ c / 16) = crcTs 8 (s ^^^ c) := by
  have h2 : c = c % 16 ^^^ 2 ^ 4 * (c / 16) := by
    refine Nat.eq_of_testBit_eq fun i => ?_
    have e : c % 16 = c % 2 ^ 4 := rfl
    rw [Nat.testBit_xor, e, Nat.testBit_mod_two_pow, Nat.testBit_two_pow_mul]
    by_cases hi : i < 4
    · have : ¬ 4 ≤ i := by omega
      simp [hi, this]
    · have h4 : 4 ≤ i := by omega
      rw [show c / 16 = c / 2 ^ 4 from rfl, Nat.testBit_div_two_pow, show i - 4 + 4 = i by omega]
      simp [hi, h4]
  have h3 : crcTs 8 (s ^^^ c) = crcTs 4 (crcTs 4 (s ^^^ c)) := crcTs_add 4 4 _
  rw [h3]
  congr 1
  conv => rhs; rw [h2, ← Nat.xor_assoc, crcTs_xor 4 (s ^^^ c % 16), crcTs_even]
theorem alive_sum : moreN 0 [49, 50, 51, 52, 53, 54, 55, 56, 57] = 3421780262 := by kernel_rfl
theorem alive_shift : shiftN 0 1 = 3523407757 := by
  unfold shiftN; rw [crcMul_P _ _ (by decide)]; decide
end Go.Proofs.Ytcclakklaimiiaa
