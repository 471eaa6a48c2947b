/-
  The places of a word's bits that are 1, rising: plain law. A word as the set of its bits (mk), its lowest bit found and struck.
-/
import Derived.Test.YtiaebfccgolbgaaDoorFrPlain
namespace Go.Proofs.YtiaebfccgolbgaaDoor
set_option linter.unusedVariables false
set_option linter.unusedSimpArgs false
/-- The places of p below 64. -/
def onesL (p : Nat → Bool) (a n : Nat) : List Nat := (List.range' a n).filter fun i => p i
theorem onesL_none {p : Nat → Bool} : ∀ {n a : Nat}, onesL p a n = [] → ∀ i, a ≤ i → i < a + n → p i = false
  | 0, a, _, i, h1, h2 => by omega
  | n + 1, a, h, i, h1, h2 => by
    unfold onesL at h
    rw [List.range'_succ, List.filter_cons] at h
    rcases hp : p a with _ | _
    · rw [hp] at h
      by_cases e : i = a
      · rw [e]; exact hp
      · exact onesL_none (n := n) (a := a + 1) (by simpa [onesL] using h) i (by omega) (by omega)
    · rw [hp] at h; simp at h
theorem onesL_cons {p : Nat → Bool} : ∀ {n a k : Nat} {xs : List Nat}, onesL p a n = k :: xs → a ≤ k ∧ k < a + n ∧ p k = true ∧ (∀ i, a ≤ i → i < k → p i = false) ∧ onesL (fun i => p i && !decide (i = k)) a n = xs
  | 0, a, k, xs, h => by simp [onesL] at h
  | n + 1, a, k, xs, h => by
    unfold onesL at h
    rw [List.range'_succ, List.filter_cons] at h
    rcases hp : p a with _ | _
    · rw [hp] at h
      simp only [Bool.false_eq_true, if_false] at h
      obtain ⟨h1, h2, h3, h4, h5⟩ := onesL_cons (n := n) (a := a + 1) h
      refine ⟨by omega, by omega, h3, fun i hi hk => ?_, ?_⟩
      · by_cases e : i = a
        · rw [e]; exact hp
        · exact h4 i (by omega) hk
      · unfold onesL
        rw [List.range'_succ, List.filter_cons]
        simp only [hp, Bool.false_and, Bool.false_eq_true, if_false]
        exact h5
    · rw [hp] at h
      simp only [if_true, List.cons.injEq] at h
      obtain ⟨rfl, h⟩ := h
      refine ⟨Nat.le_refl _, by omega, hp, fun i hi hk => by omega, ?_⟩
      unfold onesL
      rw [List.range'_succ, List.filter_cons]
      simp only [decide_true, Bool.not_true, Bool.and_false, Bool.false_eq_true, if_false]
      rw [← h]
      apply List.filter_congr
      intro i hi
      have := (List.mem_range'_1.1 hi).1
      have : ¬ i = a := by omega
      simp [this]
theorem onesL_len (p : Nat → Bool) (a n : Nat) : (onesL p a n).length ≤ n := by
  have := List.length_filter_le (fun i => p i) (List.range' a n)
  simpa [onesL] using this
theorem onesL_snoc (p : Nat → Bool) (n : Nat) : onesL p 0 (n + 1) = onesL p 0 n ++ if p n then [n] else [] := by
  unfold onesL
  rw [List.range'_1_concat, List.filter_append, Nat.zero_add]
  congr 1
  simp [List.filter_cons]
theorem onesL_zero (p : Nat → Bool) : onesL p 0 0 = [] := rfl
/-- A word is the set of its bits. -/
theorem mk_of (x : Nat) (hx : x < 18446744073709551616) : x = mk x.testBit 64 := by
  apply Nat.eq_of_testBit_eq
  intro i
  rw [mk_bit]
  by_cases h : i < 64
  · simp [h]
  · have h2 : 2 ^ 64 ≤ 2 ^ i := Nat.pow_le_pow_right (by omega) (show 64 ≤ i from Nat.le_of_not_lt h)
    have : x < 2 ^ i := Nat.lt_of_lt_of_le hx h2
    rw [Nat.testBit_lt_two_pow this]; simp [h]
theorem strike_nat (p : Nat → Bool) {k : Nat} (hk64 : k < 64) (hk : p k = true) (hl : ∀ i, i < k → p i = false) :
    mk p 64 &&& mk (predP p k) 64 = mk (fun i => p i && !decide (i = k)) 64 := by
  apply Nat.eq_of_testBit_eq
  intro i
  rw [Nat.testBit_and, mk_bit, mk_bit, mk_bit]
  by_cases h1 : i < 64
  · by_cases h2 : i < k
    · simp [h1, hl i h2]
    · by_cases h3 : i = k
      · subst h3; simp [h1, predP]
      · simp [h1, predP, h2, h3]
  · simp [h1]
theorem strike_lt (p : Nat → Bool) {k : Nat} (hk64 : k < 64) (hk : p k = true) (hl : ∀ i, i < k → p i = false) :
    mk (fun i => p i && !decide (i = k)) 64 < mk p 64 := by
  have h := mk_pred hk hl (63 - k)
  rw [show k + 1 + (63 - k) = 64 by omega] at h
  have h2 : mk p 64 &&& mk (predP p k) 64 ≤ mk (predP p k) 64 := Nat.and_le_right
  rw [strike_nat p hk64 hk hl] at h2
  omega
/-- The lowest bit struck: x &= x - 1. -/
theorem strike_mk (p : Nat → Bool) {k : Nat} (hk64 : k < 64) (hk : p k = true) (hl : ∀ i, i < k → p i = false) :
    bits .and .u64 (mk p 64 : Nat) (IntKind.u64.wrap (((mk p 64 : Nat) : Int) - 1)) = ((mk (fun i => p i && !decide (i = k)) 64 : Nat) : Int) := by
  have h := mk_pred hk hl (63 - k)
  rw [show k + 1 + (63 - k) = 64 by omega] at h
  have hlt := mk_u64 p
  have hlt2 := mk_u64 (predP p k)
  have e : IntKind.u64.wrap (((mk p 64 : Nat) : Int) - 1) = ((mk (predP p k) 64 : Nat) : Int) := by
    rw [IntKind.wrap_u64]
    generalize mk p 64 = m at *
    generalize mk (predP p k) 64 = m' at *
    omega
  rw [e, u64_and_nat _ _ hlt hlt2, strike_nat p hk64 hk hl]
end Go.Proofs.YtiaebfccgolbgaaDoor
