/-
  desc.Encode joined, and desc.Decode: the descriptor of a word.
-/
import Derived.Test.YtappjiljmpgjcaaDoorDescEnc0
import Derived.Test.YtappjiljmpgjcaaDoorDescEnc1
import Derived.Test.YtappjiljmpgjcaaDoorDescEnc2
namespace Go.Proofs.YtappjiljmpgjcaaDoor
open Go.RowKit
set_option linter.unusedVariables false
set_option linter.unusedSimpArgs false

theorem dOk_iff (k f : Int) (af ro us ng : Bool) : dOk k f af ro us ng = true ↔ (0 ≤ f ∧ f ≤ 63) ∧ ((k = 0 ∧ f = 0 ∧ noFlag af ro us ng = true) ∨ (k = 1 ∧ noFlag af ro us ng = true) ∨ k = 2) := by
  simp [dOk]
/-! ### what a word's bits say -/
theorem and_ones_zero (x h l : Nat) (hlh : l ≤ h) : x &&& nOnes h l = 0 ↔ nGet x h l = 0 := by
  rw [← get_prog x h l hlh]
  constructor
  · intro e; rw [e]; simp
  · intro e
    apply Nat.eq_of_testBit_eq
    intro i
    rw [Nat.zero_testBit, Nat.testBit_and, ones_bit h l i hlh]
    by_cases hi : l ≤ i ∧ i ≤ h
    · have : ((x &&& nOnes h l) / 2 ^ l).testBit (i - l) = false := by rw [e]; simp
      rw [Nat.testBit_div_two_pow, Nat.testBit_and, ones_bit h l _ hlh, show i - l + l = i by omega] at this
      simpa [hi] using this
    · simp [hi]
theorem or_zero_iff (a b : Nat) : a ||| b = 0 ↔ a = 0 ∧ b = 0 := by
  constructor
  · intro h
    constructor
    · exact Nat.le_zero.1 (h ▸ Nat.left_le_or)
    · exact Nat.le_zero.1 (h ▸ Nat.right_le_or)
  · rintro ⟨rfl, rfl⟩; rfl
theorem named2_iff (x : Nat) (hx : x < 18446744073709551616) : bits .andNot .u64 (x : Int) 281474976709827 = 0 ↔ x / 4 % 16 = 0 ∧ x / 256 % 4 = 0 ∧ x / 281474976710656 = 0 := by
  rw [show (281474976709827 : Int) = ((281474976709827 : Nat) : Int) from rfl, u64_andNot_nat _ _ hx (by decide)]
  rw [show (18446744073709551615 - 281474976709827 : Nat) = nOnes 5 2 ||| (nOnes 9 8 ||| nOnes 63 48) by decide +kernel, Nat.and_or_distrib_left, Nat.and_or_distrib_left]
  have e1 : nGet x 5 2 = x / 4 % 16 := rfl
  have e2 : nGet x 9 8 = x / 256 % 4 := rfl
  have e3 : nGet x 63 48 = x / 281474976710656 % 65536 := rfl
  have := and_ones_zero x 5 2 (by omega)
  have := and_ones_zero x 9 8 (by omega)
  have := and_ones_zero x 63 48 (by omega)
  have h0 := or_zero_iff (x &&& nOnes 5 2) (x &&& nOnes 9 8 ||| x &&& nOnes 63 48)
  have h1 := or_zero_iff (x &&& nOnes 9 8) (x &&& nOnes 63 48)
  rw [e1] at *
  rw [e2] at *
  rw [e3] at *
  constructor
  · intro h
    have h' : (x &&& nOnes 5 2 ||| (x &&& nOnes 9 8 ||| x &&& nOnes 63 48)) = 0 := by omega
    omega
  · intro h
    have h' : (x &&& nOnes 5 2 ||| (x &&& nOnes 9 8 ||| x &&& nOnes 63 48)) = 0 := by omega
    omega
theorem named1_iff (x : Nat) (hx : x < 18446744073709551616) : bits .andNot .u64 (x : Int) 281474976706563 = 0 ↔ x / 4 % 1024 = 0 ∧ x / 281474976710656 = 0 := by
  rw [show (281474976706563 : Int) = ((281474976706563 : Nat) : Int) from rfl, u64_andNot_nat _ _ hx (by decide)]
  rw [show (18446744073709551615 - 281474976706563 : Nat) = nOnes 11 2 ||| nOnes 63 48 by decide +kernel, Nat.and_or_distrib_left]
  have e1 : nGet x 11 2 = x / 4 % 1024 := rfl
  have e3 : nGet x 63 48 = x / 281474976710656 % 65536 := rfl
  have := and_ones_zero x 11 2 (by omega)
  have := and_ones_zero x 63 48 (by omega)
  have h0 := or_zero_iff (x &&& nOnes 11 2) (x &&& nOnes 63 48)
  rw [e1] at *
  rw [e3] at *
  constructor
  · intro h
    have h' : (x &&& nOnes 11 2 ||| x &&& nOnes 63 48) = 0 := by omega
    omega
  · intro h
    have h' : (x &&& nOnes 11 2 ||| x &&& nOnes 63 48) = 0 := by omega
    omega
theorem and1 (x : Int) (hx : U64 x) : bits .and .u64 x 1 = x % 2 := by
  obtain ⟨x, rfl, hx'⟩ := u64_nat hx
  rw [show (1 : Int) = ((1 : Nat) : Int) from rfl, u64_and_nat _ _ hx' (by decide), nat_mask1]; omega
theorem and3' (x : Int) (hx : U64 x) : bits .and .u64 x 3 = x % 4 := by
  obtain ⟨x, rfl, hx'⟩ := u64_nat hx
  rw [show (3 : Int) = ((3 : Nat) : Int) from rfl, u64_and_nat _ _ hx' (by decide), nat_mask2]; omega
end Go.Proofs.YtappjiljmpgjcaaDoor
