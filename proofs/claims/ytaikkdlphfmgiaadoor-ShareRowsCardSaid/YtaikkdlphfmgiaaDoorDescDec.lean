/-
  desc.Encode joined, and desc.Decode: the descriptor of a word.
-/
import Derived.Test.YtaikkdlphfmgiaaDoorDescEnc0
import Derived.Test.YtaikkdlphfmgiaaDoorDescEnc1
import Derived.Test.YtaikkdlphfmgiaaDoorDescEnc2
namespace Go.Proofs.YtaikkdlphfmgiaaDoor
open Go.RowKit
set_option linter.unusedVariables false
set_option linter.unusedSimpArgs false

theorem dOk_iff (k f : Int) (af ro us ng : Bool) : dOk k f af ro us ng = true ↔ (0 ≤ f ∧ f ≤ 63) ∧ ((k = 0 ∧ f = 0 ∧ noFlag af ro us ng = true) ∨ (k = 1 ∧ noFlag af ro us ng = true) ∨ k = 2) := by
  simp [dOk]
set_option maxHeartbeats 2000000 in
theorem dEncode_out (k f : Int) (af ro us ng : Bool) (w : World) (h : k < 0 ∨ (0 ≤ k ∧ 2 < k) ∨ (0 ≤ k ∧ k ≤ 2 ∧ f < 0) ∨ (0 ≤ k ∧ k ≤ 2 ∧ 0 ≤ f ∧ 63 < f)) :
    Calls Tryd.prog 50 #[.agg #[.int .i8 k, .int .i64 f, .bool af, .bool ro, .bool us, .bool ng]] w fun e w' => e = .returned (.tuple #[.int .u64 0, .int .i64 30]) ∧ Below w.heap.size w w' := by
  rcases h with h1 | ⟨h1, h2⟩ | ⟨h1, h2, h3⟩ | ⟨h1, h2, h3, h4⟩
  all_goals
    go_enter Tryd.func50, Tryd.ntmps50
    go_wp2
    go_ret2
    exact ⟨rfl, ba (Below.refl _ _) _⟩
theorem dEncode_yes (k f : Int) (af ro us ng : Bool) (w : World) (hG : G w) (h : dOk k f af ro us ng = true) :
    Calls Tryd.prog 50 #[.agg #[.int .i8 k, .int .i64 f, .bool af, .bool ro, .bool us, .bool ng]] w fun e w' => e = .returned (.tuple #[.int .u64 (dV k f af ro us ng), .int .i64 0]) ∧ Below w.heap.size w w' := by
  rw [dOk_iff] at h
  obtain ⟨⟨h0, h1⟩, hk⟩ := h
  obtain ⟨n, rfl⟩ := fin_of h0 h1
  rcases hk with ⟨rfl, hf, hn⟩ | ⟨rfl, hn⟩ | rfl
  · refine dEncode_0 _ _ _ _ _ _ _ w hG h0 h1 (.inl ⟨?_, ?_, rfl⟩)
    · rw [orV_named0, hn, hf]; rfl
    · have e := orV_zero n af ro us ng
      rw [hn, hf] at e
      simp only [dV, if_true]
      rw [hf]
      have := (beq_iff_eq.1 (e.trans rfl))
      exact this.symm
  · refine dEncode_1 _ _ _ _ _ _ _ w hG h0 h1 (.inl ⟨?_, ?_, rfl⟩)
    · rw [orV_word, orV_named1, hn]; rfl
    · rw [orV_word]; simp [dV]
  · refine dEncode_2 _ _ _ _ _ _ _ w hG h0 h1 (.inl ⟨?_, ?_, rfl⟩)
    · rw [orV_word, orV_named2]
    · rw [orV_word]; simp [dV]
theorem dEncode_no (k f : Int) (af ro us ng : Bool) (w : World) (hG : G w) (h : dOk k f af ro us ng = false) :
    Calls Tryd.prog 50 #[.agg #[.int .i8 k, .int .i64 f, .bool af, .bool ro, .bool us, .bool ng]] w fun e w' => e = .returned (.tuple #[.int .u64 0, .int .i64 30]) ∧ Below w.heap.size w w' := by
  have h' : ¬ ((0 ≤ f ∧ f ≤ 63) ∧ ((k = 0 ∧ f = 0 ∧ noFlag af ro us ng = true) ∨ (k = 1 ∧ noFlag af ro us ng = true) ∨ k = 2)) := by rw [← dOk_iff]; simp [h]
  by_cases hin : (0 ≤ k ∧ k ≤ 2) ∧ (0 ≤ f ∧ f ≤ 63)
  · obtain ⟨⟨k0, k2⟩, h0, h1⟩ := hin
    obtain ⟨n, rfl⟩ := fin_of h0 h1
    have hk : k = 0 ∨ k = 1 ∨ k = 2 := by omega
    rcases hk with rfl | rfl | rfl
    · refine dEncode_0 _ _ _ _ _ _ _ w hG h0 h1 (.inr ⟨?_, rfl, rfl⟩)
      rw [orV_named0]
      simp only [Bool.not_eq_true', Bool.and_eq_false_iff, beq_eq_false_iff_ne]
      rcases hn : noFlag af ro us ng with _ | _
      · exact .inr rfl
      · exact .inl (fun e => h' ⟨⟨h0, h1⟩, .inl ⟨rfl, e, hn⟩⟩)
    · refine dEncode_1 _ _ _ _ _ _ _ w hG h0 h1 (.inr ⟨?_, rfl, rfl⟩)
      rw [orV_word, orV_named1]
      rcases hn : noFlag af ro us ng with _ | _
      · rfl
      · exact absurd ⟨⟨h0, h1⟩, .inr (.inl ⟨rfl, hn⟩)⟩ h'
    · exact absurd ⟨⟨h0, h1⟩, .inr (.inr rfl)⟩ h'
  · exact dEncode_out k f af ro us ng w (by omega)

/-! ### what a word's bits say -/
theorem and_ones_zero (x h l : Nat) (hlh : l ≤ h) : x &&& nOnes h l = 0 ↔ nGet x h l = 0 := by
  rw [← get_prog x h l hlh]
  constructor
  · intro e; rw [e]; simp
  · intro e
    apply Nat.eq_of_testBit_eq
    intro i
    rw [Nat.zero_testBit, Nat.testBit_and, ones_bit h l i hlh]
    by_cases hi : l ≤ i ∧ i ≤ h
    · have : ((x &&& nOnes h l) / 2 ^ l).testBit (i - l) = false := by rw [e]; simp
      rw [Nat.testBit_div_two_pow, Nat.testBit_and, ones_bit h l _ hlh, show i - l + l = i by omega] at this
      simpa [hi] using this
    · simp [hi]
theorem or_zero_iff (a b : Nat) : a ||| b = 0 ↔ a = 0 ∧ b = 0 := by
  constructor
  · intro h
    constructor
    · exact Nat.le_zero.1 (h ▸ Nat.left_le_or)
    · exact Nat.le_zero.1 (h ▸ Nat.right_le_or)
  · rintro ⟨rfl, rfl⟩; rfl
theorem named2_iff (x : Nat) (hx : x < 18446744073709551616) : bits .andNot .u64 (x : Int) 281474976709827 = 0 ↔ x / 4 % 16 = 0 ∧ x / 256 % 4 = 0 ∧ x / 281474976710656 = 0 := by
  rw [show (281474976709827 : Int) = ((281474976709827 : Nat) : Int) from rfl, u64_andNot_nat _ _ hx (by decide)]
  rw [show (18446744073709551615 - 281474976709827 : Nat) = nOnes 5 2 ||| (nOnes 9 8 ||| nOnes 63 48) by decide +kernel, Nat.and_or_distrib_left, Nat.and_or_distrib_left]
  have e1 : nGet x 5 2 = x / 4 % 16 := rfl
  have e2 : nGet x 9 8 = x / 256 % 4 := rfl
  have e3 : nGet x 63 48 = x / 281474976710656 % 65536 := rfl
  have := and_ones_zero x 5 2 (by omega)
  have := and_ones_zero x 9 8 (by omega)
  have := and_ones_zero x 63 48 (by omega)
  have h0 := or_zero_iff (x &&& nOnes 5 2) (x &&& nOnes 9 8 ||| x &&& nOnes 63 48)
  have h1 := or_zero_iff (x &&& nOnes 9 8) (x &&& nOnes 63 48)
  rw [e1] at *
  rw [e2] at *
  rw [e3] at *
  constructor
  · intro h
    have h' : (x &&& nOnes 5 2 ||| (x &&& nOnes 9 8 ||| x &&& nOnes 63 48)) = 0 := by omega
    omega
  · intro h
    have h' : (x &&& nOnes 5 2 ||| (x &&& nOnes 9 8 ||| x &&& nOnes 63 48)) = 0 := by omega
    omega
theorem named1_iff (x : Nat) (hx : x < 18446744073709551616) : bits .andNot .u64 (x : Int) 281474976706563 = 0 ↔ x / 4 % 1024 = 0 ∧ x / 281474976710656 = 0 := by
  rw [show (281474976706563 : Int) = ((281474976706563 : Nat) : Int) from rfl, u64_andNot_nat _ _ hx (by decide)]
  rw [show (18446744073709551615 - 281474976706563 : Nat) = nOnes 11 2 ||| nOnes 63 48 by decide +kernel, Nat.and_or_distrib_left]
  have e1 : nGet x 11 2 = x / 4 % 1024 := rfl
  have e3 : nGet x 63 48 = x / 281474976710656 % 65536 := rfl
  have := and_ones_zero x 11 2 (by omega)
  have := and_ones_zero x 63 48 (by omega)
  have h0 := or_zero_iff (x &&& nOnes 11 2) (x &&& nOnes 63 48)
  rw [e1] at *
  rw [e3] at *
  constructor
  · intro h
    have h' : (x &&& nOnes 11 2 ||| x &&& nOnes 63 48) = 0 := by omega
    omega
  · intro h
    have h' : (x &&& nOnes 11 2 ||| x &&& nOnes 63 48) = 0 := by omega
    omega
theorem and1 (x : Int) (hx : U64 x) : bits .and .u64 x 1 = x % 2 := by
  obtain ⟨x, rfl, hx'⟩ := u64_nat hx
  rw [show (1 : Int) = ((1 : Nat) : Int) from rfl, u64_and_nat _ _ hx' (by decide), nat_mask1]; omega
theorem and3' (x : Int) (hx : U64 x) : bits .and .u64 x 3 = x % 4 := by
  obtain ⟨x, rfl, hx'⟩ := u64_nat hx
  rw [show (3 : Int) = ((3 : Nat) : Int) from rfl, u64_and_nat _ _ hx' (by decide), nat_mask2]; omega
end Go.Proofs.YtaikkdlphfmgiaaDoor
