/-
  Words as sets of frames: plain numbers: which bit is the lowest, how many are 1, a bit struck, a bit set.
-/
import Derived.Test.YtiaebfccgolbgaaDoorFrBase
namespace Go.Proofs.YtiaebfccgolbgaaDoor
set_option linter.unusedVariables false
set_option linter.unusedSimpArgs false

/-- The word whose bits below k are those of p. -/
def mk (p : Nat → Bool) : Nat → Nat
  | 0 => 0
  | k + 1 => mk p k + if p k then 2 ^ k else 0
theorem mk_lt (p : Nat → Bool) : ∀ k, mk p k < 2 ^ k
  | 0 => by simp [mk]
  | k + 1 => by
    have := mk_lt p k
    unfold mk
    rw [Nat.pow_succ]
    split <;> omega
theorem mk_bit (p : Nat → Bool) : ∀ k i, (mk p k).testBit i = (decide (i < k) && p i)
  | 0, i => by simp [mk]
  | k + 1, i => by
    have hl := mk_lt p k
    have ih := mk_bit p k i
    unfold mk
    rcases hp : p k with _ | _
    · simp only [Bool.false_eq_true, if_false, Nat.add_zero]
      rw [ih]
      by_cases e : i = k
      · subst e; simp [hp]
      · congr 1
        simp only [decide_eq_decide]
        omega
    · simp only [if_true]
      rw [Nat.add_comm]
      rcases Nat.lt_trichotomy i k with h | h | h
      · rw [Nat.testBit_two_pow_add_gt h, ih]
        simp [h, Nat.lt_succ_of_lt h]
      · subst h
        rw [Nat.testBit_two_pow_add_eq, ih]
        simp [hp]
      · have h1 : 2 ^ k + mk p k < 2 ^ i := by
          have : 2 ^ (k + 1) ≤ 2 ^ i := Nat.pow_le_pow_right (by omega) (by omega)
          rw [Nat.pow_succ] at this
          omega
        rw [Nat.testBit_lt_two_pow h1]
        simp
        omega
theorem mk_congr {p q : Nat → Bool} : ∀ k, (∀ i, i < k → p i = q i) → mk p k = mk q k
  | 0, _ => rfl
  | k + 1, h => by rw [mk, mk, h k (by omega), mk_congr k (fun i hi => h i (by omega))]
theorem mk_zero {p : Nat → Bool} (k : Nat) (h : ∀ i, i < k → p i = false) : mk p k = 0 := by
  induction k with
  | zero => rfl
  | succ k ih => rw [mk, h k (by omega), ih (fun i hi => h i (by omega))]; simp
theorem mk_ne_zero {p : Nat → Bool} {i : Nat} (k : Nat) (hi : i < k) (h : p i = true) : mk p k ≠ 0 := by
  intro e
  have := mk_bit p k i
  rw [e] at this
  simp [hi, h] at this
theorem mk_u64 (p : Nat → Bool) : mk p 64 < 18446744073709551616 := mk_lt p 64
theorem pow_u64 {k : Nat} (hk : k < 64) : 2 ^ k < 18446744073709551616 := Nat.pow_lt_pow_right (by omega) (show k < 64 from hk)
theorem wrap_pow {k : Nat} (hk : k < 64) : IntKind.u64.wrap (2 ^ k) = ((2 ^ k : Nat) : Int) := by
  have := pow_u64 hk
  rw [IntKind.wrap_u64]
  have e : (2 : Int) ^ k = ((2 ^ k : Nat) : Int) := by simp
  rw [e]
  generalize 2 ^ k = m at *
  omega
theorem clr_mk (p : Nat → Bool) {k : Nat} (hk : k < 64) : clrB (mk p 64) k = (mk (fun i => p i && !decide (i = k)) 64 : Nat) := by
  unfold clrB
  rw [wrap_pow hk, u64_andNot_nat _ _ (mk_u64 p) (pow_u64 hk)]
  congr 1
  apply Nat.eq_of_testBit_eq
  intro i
  rw [Nat.testBit_and, mk_bit, mk_bit]
  have e : 18446744073709551615 - 2 ^ k = 2 ^ 64 - (2 ^ k + 1) := by have := pow_u64 hk; omega
  rw [e, Nat.testBit_two_pow_sub_succ (pow_u64 hk), Nat.testBit_two_pow]
  by_cases h1 : i < 64 <;> by_cases h2 : k = i <;> simp [h1, h2, eq_comm]
theorem set_mk (p : Nat → Bool) {k : Nat} (hk : k < 64) : setB (mk p 64) k = (mk (fun i => p i || decide (i = k)) 64 : Nat) := by
  unfold setB
  rw [wrap_pow hk, u64_or_nat _ _ (mk_u64 p) (pow_u64 hk)]
  congr 1
  apply Nat.eq_of_testBit_eq
  intro i
  rw [Nat.testBit_or, mk_bit, mk_bit, Nat.testBit_two_pow]
  by_cases h2 : k = i
  · subst h2; simp [hk]
  · have : ¬ i = k := fun e => h2 e.symm
    simp [h2, this]
/-- One less: the lowest bit goes, all below it come. -/
def predP (p : Nat → Bool) (k : Nat) : Nat → Bool := fun i => if i < k then true else if i = k then false else p i
theorem mk_low {p : Nat → Bool} {k : Nat} (hl : ∀ i, i < k → p i = false) : ∀ K, K ≤ k → mk (predP p k) K + 1 = 2 ^ K ∧ mk p K = 0
  | 0, _ => by simp [mk]
  | K + 1, h => by
    obtain ⟨a, b⟩ := mk_low hl K (by omega)
    have e : predP p k K = true := by simp [predP]; omega
    rw [mk, mk, e, hl K (by omega), b, Nat.pow_succ]
    simp
    omega
theorem mk_pred {p : Nat → Bool} {k : Nat} (hk : p k = true) (hl : ∀ i, i < k → p i = false) : ∀ d, mk (predP p k) (k + 1 + d) + 1 = mk p (k + 1 + d)
  | 0 => by
    obtain ⟨a, b⟩ := mk_low hl k (Nat.le_refl _)
    have e : predP p k k = false := by simp [predP]
    show mk (predP p k) (k + 1) + 1 = mk p (k + 1)
    rw [mk, mk, e, hk, b]
    simp
    omega
  | d + 1 => by
    have ih := mk_pred hk hl d
    have e : predP p k (k + 1 + d) = p (k + 1 + d) := by
      unfold predP
      rw [if_neg (by omega), if_neg (by omega)]
    show mk (predP p k) (k + 1 + d + 1) + 1 = mk p (k + 1 + d + 1)
    rw [mk, mk, e]
    omega
theorem low_and (p : Nat → Bool) {k : Nat} (hk64 : k < 64) (hk : p k = true) (hl : ∀ i, i < k → p i = false) : mk p 64 &&& (18446744073709551616 - mk p 64) = 2 ^ k := by
  have h := mk_pred hk hl (63 - k)
  rw [show k + 1 + (63 - k) = 64 by omega] at h
  have hlt : mk (predP p k) 64 < 2 ^ 64 := mk_lt _ 64
  rw [show 18446744073709551616 - mk p 64 = 2 ^ 64 - (mk (predP p k) 64 + 1) by rw [h]]
  apply Nat.eq_of_testBit_eq
  intro i
  rw [Nat.testBit_and, mk_bit, Nat.testBit_two_pow_sub_succ hlt, mk_bit, Nat.testBit_two_pow]
  by_cases h1 : i < 64
  · by_cases h2 : i < k
    · simp [h1, hl i h2]; omega
    · by_cases h3 : i = k
      · subst h3; simp [h1, hk, predP]
      · have : ¬ k = i := fun e => h3 e.symm
        simp [h1, predP, h2, h3, this]
  · simp [h1]; omega
theorem tz_tab : ∀ k : Fin 64, tabN.getD (IntKind.u64.wrap (((2 ^ k.val : Nat) : Int) * 285870213051353865) / 288230376151711744).toNat 0 = (k.val : Int) := by decide +kernel
theorem tz_mk (p : Nat → Bool) {k : Nat} (hk64 : k < 64) (hk : p k = true) (hl : ∀ i, i < k → p i = false) : tzV (mk p 64) = k := by
  have hne := mk_ne_zero 64 hk64 hk
  have hlt := mk_u64 p
  have e : IntKind.u64.wrap (-((mk p 64 : Nat) : Int)) = ((18446744073709551616 - mk p 64 : Nat) : Int) := by
    rw [IntKind.wrap_u64]
    generalize mk p 64 = m at *
    omega
  unfold tzV tzI
  rw [e, u64_and_nat _ _ hlt (by omega), low_and p hk64 hk hl]
  exact tz_tab ⟨k, hk64⟩
/-- How many below k. -/
def cnt (p : Nat → Bool) : Nat → Nat
  | 0 => 0
  | k + 1 => cnt p k + if p k then 1 else 0
theorem cnt_le (p : Nat → Bool) : ∀ k, cnt p k ≤ k
  | 0 => Nat.le_refl _
  | k + 1 => by have := cnt_le p k; unfold cnt; split <;> omega
theorem cnt_add (p : Nat → Bool) (a : Nat) : ∀ b, cnt p (a + b) = cnt p a + cnt (fun i => p (a + i)) b
  | 0 => by simp [cnt]
  | b + 1 => by
    show cnt p (a + b + 1) = _
    rw [cnt, cnt_add p a b, cnt]
    omega
theorem mk_add (p : Nat → Bool) (a : Nat) : ∀ b, mk p (a + b) = mk p a + 2 ^ a * mk (fun i => p (a + i)) b
  | 0 => by simp [mk]
  | b + 1 => by
    show mk p (a + b + 1) = _
    rw [mk, mk_add p a b, mk, Nat.mul_add, Nat.add_assoc]
    congr 1
    congr 1
    split
    · rw [Nat.pow_add]
    · simp
/-- A byte's bits counted as math/bits counts them. -/
def f1 (d : Nat) : Nat := (d / 2 &&& 85) + (d &&& 85)
def f2 (d : Nat) : Nat := (d / 4 &&& 51) + (d &&& 51)
def f3 (d : Nat) : Nat := (d / 16 + d) &&& 15
theorem byte_cnt : ∀ b0 b1 b2 b3 b4 b5 b6 b7 : Bool, f3 (f2 (f1 (mk (fun i => [b0, b1, b2, b3, b4, b5, b6, b7].getD i false) 8))) = cnt (fun i => [b0, b1, b2, b3, b4, b5, b6, b7].getD i false) 8 := by decide +kernel
theorem byte_cnt' (q : Nat → Bool) : f3 (f2 (f1 (mk q 8))) = cnt q 8 := by
  have h := byte_cnt (q 0) (q 1) (q 2) (q 3) (q 4) (q 5) (q 6) (q 7)
  have e : ∀ i, i < 8 → (fun i => [q 0, q 1, q 2, q 3, q 4, q 5, q 6, q 7].getD i false) i = q i := by
    intro i hi
    have : i = 0 ∨ i = 1 ∨ i = 2 ∨ i = 3 ∨ i = 4 ∨ i = 5 ∨ i = 6 ∨ i = 7 := by omega
    rcases this with rfl | rfl | rfl | rfl | rfl | rfl | rfl | rfl <;> rfl
  rw [mk_congr 8 e] at h
  rw [h]
  clear h
  simp only [cnt]
  rfl
end Go.Proofs.YtiaebfccgolbgaaDoor
