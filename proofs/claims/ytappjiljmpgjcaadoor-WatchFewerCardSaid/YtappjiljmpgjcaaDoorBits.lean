/-
  Plain arithmetic of bit fields of 64-bit words: no program in sight.
-/
import Derived.Laws.BitsAllLaws
import Derived.Laws.Bits64
namespace Go.Proofs.YtappjiljmpgjcaaDoor
open Go

/-- Is there such a field? -/
def fOk (hi lo : Int) : Bool := decide (0 ≤ lo ∧ lo ≤ hi ∧ hi ≤ 63)
def nOnes (h l : Nat) : Nat := (2 ^ (h - l + 1) - 1) * 2 ^ l
def nGet (x h l : Nat) : Nat := x / 2 ^ l % 2 ^ (h - l + 1)
def nPut (x h l v : Nat) : Nat := x / 2 ^ (h + 1) * 2 ^ (h + 1) + v * 2 ^ l + x % 2 ^ l
def fOnes (hi lo : Int) : Int := if fOk hi lo = true then ((nOnes hi.toNat lo.toNat : Nat) : Int) else 0
def fGet (x hi lo : Int) : Int := if fOk hi lo = true then ((nGet x.toNat hi.toNat lo.toNat : Nat) : Int) else 0
def fFits (v hi lo : Int) : Bool := fOk hi lo && decide (v < 2 ^ (hi.toNat - lo.toNat + 1))
def fPut (x hi lo v : Int) : Int := ((nPut x.toNat hi.toNat lo.toNat v.toNat : Nat) : Int)
def fSign (x hi : Int) : Int := if 0 ≤ hi ∧ hi ≤ 63 then x % 2 ^ hi.toNat - x / 2 ^ hi.toNat % 2 * 2 ^ hi.toNat else 0

theorem fOk_iff (hi lo : Int) : fOk hi lo = true ↔ 0 ≤ lo ∧ lo ≤ hi ∧ hi ≤ 63 := by simp [fOk]
theorem fOk_nat (h l : Nat) : fOk h l = true ↔ l ≤ h ∧ h ≤ 63 := by rw [fOk_iff]; omega

theorem pow_le64 {k : Nat} (h : k ≤ 64) : 2 ^ k ≤ 18446744073709551616 := by
  have := Nat.pow_le_pow_right (n := 2) (by omega) h
  simpa using this
theorem pow_pos2 (k : Nat) : 0 < 2 ^ k := Nat.two_pow_pos k

/-! ### bits -/
theorem ones_bit (h l i : Nat) (hlh : l ≤ h) : (nOnes h l).testBit i = decide (l ≤ i ∧ i ≤ h) := by
  unfold nOnes
  rw [Nat.testBit_mul_two_pow]
  by_cases hi : l ≤ i
  · simp only [hi, decide_true, Bool.true_and, Nat.testBit_two_pow_sub_one, true_and, decide_eq_decide]
    omega
  · simp [hi]
theorem get_bit (x h l i : Nat) : (nGet x h l).testBit i = (decide (i < h - l + 1) && x.testBit (l + i)) := by
  unfold nGet
  rw [Nat.testBit_mod_two_pow, Nat.testBit_div_two_pow, Nat.add_comm i l]
theorem get_lt (x h l : Nat) : nGet x h l < 2 ^ (h - l + 1) := Nat.mod_lt _ (pow_pos2 _)
theorem put_eq_or (x h l v : Nat) (hlh : l ≤ h) (hv : v < 2 ^ (h - l + 1)) :
    nPut x h l v = (x / 2 ^ (h + 1)) * 2 ^ (h + 1) ||| (v * 2 ^ l ||| x % 2 ^ l) := by
  have hx : x % 2 ^ l < 2 ^ l := Nat.mod_lt _ (pow_pos2 _)
  have h1 : v * 2 ^ l ||| x % 2 ^ l = v * 2 ^ l + x % 2 ^ l := by
    rw [← Nat.shiftLeft_eq, Nat.shiftLeft_add_eq_or_of_lt hx]
  have h2 : v * 2 ^ l + x % 2 ^ l < 2 ^ (h + 1) := by
    have e : 2 ^ (h + 1) = 2 ^ (h - l + 1) * 2 ^ l := by rw [← Nat.pow_add]; congr 1; omega
    rw [e]
    have : (v + 1) * 2 ^ l ≤ 2 ^ (h - l + 1) * 2 ^ l := Nat.mul_le_mul_right _ hv
    rw [Nat.add_mul] at this
    omega
  rw [h1, ← Nat.shiftLeft_eq (x / 2 ^ (h + 1)), ← Nat.shiftLeft_add_eq_or_of_lt h2, Nat.shiftLeft_eq]
  unfold nPut
  omega
theorem put_bit (x h l v i : Nat) (hlh : l ≤ h) (hv : v < 2 ^ (h - l + 1)) :
    (nPut x h l v).testBit i = if l ≤ i ∧ i ≤ h then v.testBit (i - l) else x.testBit i := by
  rw [put_eq_or x h l v hlh hv, Nat.testBit_or, Nat.testBit_or, Nat.testBit_mul_two_pow, Nat.testBit_mul_two_pow, Nat.testBit_div_two_pow, Nat.testBit_mod_two_pow]
  by_cases h1 : i < l
  · have : ¬ (h + 1 ≤ i) := by omega
    have : ¬ (l ≤ i) := by omega
    simp [*]
  · by_cases h2 : i ≤ h
    · have : ¬ (h + 1 ≤ i) := by omega
      have : l ≤ i := by omega
      simp [*]
    · have a : h + 1 ≤ i := by omega
      have b : l ≤ i := by omega
      have c : v.testBit (i - l) = false := Nat.testBit_lt_two_pow (Nat.lt_of_lt_of_le hv (Nat.pow_le_pow_right (by omega) (by omega)))
      have d : i - (h + 1) + (h + 1) = i := by omega
      simp [h1, h2, a, b, c, d]
theorem put_lt (x h l v : Nat) (hx : x < 18446744073709551616) (hlh : l ≤ h) (hh : h ≤ 63) (hv : v < 2 ^ (h - l + 1)) : nPut x h l v < 18446744073709551616 := by
  have : nPut x h l v < 2 ^ 64 := by
    apply Nat.lt_pow_two_of_testBit
    intro i hi
    rw [put_bit x h l v i hlh hv, if_neg (by omega)]
    exact Nat.testBit_lt_two_pow (Nat.lt_of_lt_of_le (show x < 2 ^ 64 by simpa using hx) (Nat.pow_le_pow_right (by omega) hi))
  simpa using this
theorem ones_lt (h l : Nat) (hlh : l ≤ h) (hh : h ≤ 63) : nOnes h l < 18446744073709551616 := by
  have : nOnes h l < 2 ^ 64 := by
    apply Nat.lt_pow_two_of_testBit
    intro i hi
    rw [ones_bit h l i hlh]
    simp; omega
  simpa using this
theorem get_lt64 (x h l : Nat) (hx : x < 18446744073709551616) : nGet x h l < 18446744073709551616 := by
  unfold nGet
  have h1 := Nat.mod_le (x / 2 ^ l) (2 ^ (h - l + 1))
  have h2 := Nat.div_le_self x (2 ^ l)
  omega

/-! ### what the program reckons -/
/-- '^uint64(0) >> (63-(hi-lo)) << lo' -/
theorem ones_prog (h l : Nat) (hlh : l ≤ h) (hh : h ≤ 63) : 18446744073709551615 / 2 ^ (63 - (h - l)) * 2 ^ l % 18446744073709551616 = nOnes h l := by
  have e : 18446744073709551615 / 2 ^ (63 - (h - l)) = 2 ^ (h - l + 1) - 1 := by
    have a : 18446744073709551616 = 2 ^ (h - l + 1) * 2 ^ (63 - (h - l)) := by
      rw [← Nat.pow_add, show h - l + 1 + (63 - (h - l)) = 64 by omega]
    have p := pow_pos2 (63 - (h - l))
    have q := pow_pos2 (h - l + 1)
    rw [Nat.div_eq_iff p]
    have b : (2 ^ (h - l + 1) - 1) * 2 ^ (63 - (h - l)) + 2 ^ (63 - (h - l)) = 18446744073709551616 := by
      rw [a, Nat.sub_mul, Nat.one_mul, Nat.sub_add_cancel]
      exact Nat.le_mul_of_pos_left _ q
    omega
  rw [e]
  exact Nat.mod_eq_of_lt (ones_lt h l hlh hh)
theorem ones_progI (h l : Nat) (hlh : l ≤ h) (hh : h ≤ 63) : IntKind.u64.wrap (18446744073709551615 / 2 ^ (63 - (h - l)) * 2 ^ l) = (nOnes h l : Int) := by
  rw [IntKind.wrap_u64, ← ones_prog h l hlh hh]
  simp only [Int.natCast_emod, Int.natCast_mul, Int.natCast_ediv, Int.natCast_pow, Int.cast_ofNat_Int]
/-- 'x & ones >> lo' -/
theorem get_prog (x h l : Nat) (hlh : l ≤ h) : (x &&& nOnes h l) / 2 ^ l = nGet x h l := by
  apply Nat.eq_of_testBit_eq
  intro i
  rw [Nat.testBit_div_two_pow, Nat.testBit_and, ones_bit h l _ hlh, get_bit, Nat.add_comm i l]
  rw [Bool.and_comm]
  congr 1
  rw [decide_eq_decide]; omega
/-- 'x &^ ones | v << lo' -/
theorem put_prog (x h l v : Nat) (hx : x < 18446744073709551616) (hlh : l ≤ h) (hh : h ≤ 63) (hv : v < 2 ^ (h - l + 1)) :
    (x &&& (18446744073709551615 - nOnes h l)) ||| v * 2 ^ l % 18446744073709551616 = nPut x h l v := by
  apply Nat.eq_of_testBit_eq
  intro i
  have ho := ones_lt h l hlh hh
  have e : 18446744073709551615 - nOnes h l = 2 ^ 64 - (nOnes h l + 1) := by
    rw [show (2 : Nat) ^ 64 = 18446744073709551616 by decide]; omega
  have hm : v * 2 ^ l % 18446744073709551616 = v * 2 ^ l := by
    apply Nat.mod_eq_of_lt
    have : v * 2 ^ l < 2 ^ (h - l + 1) * 2 ^ l := Nat.mul_lt_mul_of_pos_right hv (pow_pos2 l)
    rw [← Nat.pow_add] at this
    have := pow_le64 (k := h - l + 1 + l) (by omega)
    omega
  rw [hm, Nat.testBit_or, Nat.testBit_and, e, Nat.testBit_two_pow_sub_succ (by simpa using ho), ones_bit h l i hlh, Nat.testBit_mul_two_pow, put_bit x h l v i hlh hv]
  have hb : 64 ≤ i → x.testBit i = false := fun hi => Nat.testBit_lt_two_pow (Nat.lt_of_lt_of_le (show x < 2 ^ 64 by simpa using hx) (Nat.pow_le_pow_right (by omega) hi))
  have hz : h < i → v.testBit (i - l) = false := fun hi => Nat.testBit_lt_two_pow (Nat.lt_of_lt_of_le hv (Nat.pow_le_pow_right (by omega) (by omega)))
  by_cases h1 : l ≤ i
  · by_cases h2 : i ≤ h
    · simp [h1, h2]
    · rw [hz (by omega)]
      by_cases h3 : i < 64
      · simp [h2, h3]
      · rw [hb (by omega)]; simp
  · by_cases h3 : i < 64
    · simp [h1, h3]
    · omega
/-- 'v<<lo>>lo == v && v<<lo&^ones == 0' -/
theorem fits_prog (h l v : Nat) (hlh : l ≤ h) (hh : h ≤ 63) :
    (v * 2 ^ l % 18446744073709551616 / 2 ^ l = v ∧ (v * 2 ^ l % 18446744073709551616) &&& (18446744073709551615 - nOnes h l) = 0) ↔ v < 2 ^ (h - l + 1) := by
  have ho := ones_lt h l hlh hh
  have e : 18446744073709551615 - nOnes h l = 2 ^ 64 - (nOnes h l + 1) := by
    rw [show (2 : Nat) ^ 64 = 18446744073709551616 by decide]; omega
  have hp := pow_pos2 l
  constructor
  · rintro ⟨h1, h2⟩
    have hlt : v * 2 ^ l % 18446744073709551616 < 18446744073709551616 := Nat.mod_lt _ (by omega)
    have h3 : v * 2 ^ l < 18446744073709551616 := by
      have := Nat.div_mul_le_self (v * 2 ^ l % 18446744073709551616) (2 ^ l)
      rw [h1] at this
      omega
    rw [Nat.mod_eq_of_lt h3] at h2
    apply Nat.lt_pow_two_of_testBit
    intro i hi
    have h4 : (v * 2 ^ l).testBit (i + l) = v.testBit i := by
      rw [Nat.testBit_mul_two_pow]; simp
    rw [← h4]
    by_cases hi2 : i + l < 64
    · have h5 : ((v * 2 ^ l) &&& (18446744073709551615 - nOnes h l)).testBit (i + l) = false := by rw [h2]; simp
      rw [Nat.testBit_and, e, Nat.testBit_two_pow_sub_succ (by simpa using ho), ones_bit h l _ hlh] at h5
      have h6 : decide (l ≤ i + l ∧ i + l ≤ h) = false := by simp; omega
      rw [h6] at h5
      simpa [hi2] using h5
    · exact Nat.testBit_lt_two_pow (Nat.lt_of_lt_of_le (show v * 2 ^ l < 2 ^ 64 by simpa using h3) (Nat.pow_le_pow_right (by omega) (by omega)))
  · intro h1
    have h3 : v * 2 ^ l < 18446744073709551616 := by
      have : v * 2 ^ l < 2 ^ (h - l + 1) * 2 ^ l := Nat.mul_lt_mul_of_pos_right h1 (pow_pos2 l)
      rw [← Nat.pow_add] at this
      have := pow_le64 (k := h - l + 1 + l) (by omega)
      omega
    rw [Nat.mod_eq_of_lt h3]
    refine ⟨Nat.mul_div_cancel _ hp, ?_⟩
    apply Nat.eq_of_testBit_eq
    intro i
    rw [Nat.testBit_and, e, Nat.testBit_two_pow_sub_succ (by simpa using ho), ones_bit h l _ hlh, Nat.testBit_mul_two_pow, Nat.zero_testBit]
    by_cases h4 : l ≤ i
    · by_cases h5 : i ≤ h
      · simp [h4, h5]
      · have : v.testBit (i - l) = false := Nat.testBit_lt_two_pow (Nat.lt_of_lt_of_le h1 (Nat.pow_le_pow_right (by omega) (by omega)))
        simp [this]
    · simp [h4]
/-- 'int64(x<<rest) >> rest' -/
theorem sign_prog (x h : Nat) (hh : h ≤ 63) :
    ((IntKind.u64.wrap ((x : Int) * 2 ^ (63 - h)) + 9223372036854775808) % 18446744073709551616 - 9223372036854775808) / 2 ^ (63 - h) = fSign x h := by
  unfold fSign
  rw [if_pos (by omega), IntKind.wrap_u64, Int.toNat_natCast]
  have e1 : (18446744073709551616 : Nat) = 2 ^ (h + 1) * 2 ^ (63 - h) := by rw [← Nat.pow_add, show h + 1 + (63 - h) = 64 by omega]
  have e2 : (x : Int) * 2 ^ (63 - h) % 18446744073709551616 = ((x % 2 ^ (h + 1) * 2 ^ (63 - h) : Nat) : Int) := by
    have : x * 2 ^ (63 - h) % 18446744073709551616 = x % 2 ^ (h + 1) * 2 ^ (63 - h) := by rw [e1, Nat.mul_mod_mul_right]
    rw [← this]
    simp only [Int.natCast_emod, Int.natCast_mul, Int.natCast_pow, Int.cast_ofNat_Int]
  rw [e2]
  have hm : x % 2 ^ (h + 1) = x % 2 ^ h + 2 ^ h * (x / 2 ^ h % 2) := Nat.mod_pow_succ
  have hr : x % 2 ^ h < 2 ^ h := Nat.mod_lt _ (pow_pos2 _)
  have hb : x / 2 ^ h % 2 < 2 := Nat.mod_lt _ (by omega)
  have e3 : (2 : Nat) ^ h * 2 ^ (63 - h) = 9223372036854775808 := by rw [← Nat.pow_add, show h + (63 - h) = 63 by omega]
  have e4 : (x : Int) % 2 ^ h - (x : Int) / 2 ^ h % 2 * 2 ^ h = ((x % 2 ^ h : Nat) : Int) - ((x / 2 ^ h % 2 : Nat) : Int) * ((2 ^ h : Nat) : Int) := by
    simp only [Int.natCast_emod, Int.natCast_ediv, Int.natCast_pow, Int.cast_ofNat_Int]
  have hq : (2 : Int) ^ (63 - h) = ((2 ^ (63 - h) : Nat) : Int) := by simp only [Int.natCast_pow, Int.cast_ofNat_Int]
  rw [e4, hm, hq]
  have qp := pow_pos2 (63 - h)
  generalize x / 2 ^ h % 2 = b at *
  generalize x % 2 ^ h = r at *
  generalize 2 ^ h = p at *
  generalize 2 ^ (63 - h) = q at *
  have hb2 : b = 0 ∨ b = 1 := by omega
  have hrq : r * q + q ≤ 9223372036854775808 := by
    rw [← e3, ← Nat.succ_mul]; exact Nat.mul_le_mul_right _ hr
  rcases hb2 with rfl | rfl
  · have a : (((r + p * 0) * q : Nat) : Int) + 9223372036854775808 = (r * q : Nat) + 9223372036854775808 := by simp
    rw [a]
    have : (((r * q : Nat) : Int) + 9223372036854775808) % 18446744073709551616 = (r * q : Nat) + 9223372036854775808 := by omega
    rw [this, show ((r * q : Nat) : Int) + 9223372036854775808 - 9223372036854775808 = (r * q : Nat) by omega]
    rw [Int.natCast_mul, Int.mul_ediv_cancel _ (by omega)]
    simp
  · have a : (((r + p * 1) * q : Nat) : Int) + 9223372036854775808 = (r * q : Nat) + 18446744073709551616 := by
      rw [Nat.mul_one, Nat.add_mul, e3]; omega
    rw [a]
    have : (((r * q : Nat) : Int) + 18446744073709551616) % 18446744073709551616 = (r * q : Nat) := by omega
    rw [this]
    have e5 : ((r * q : Nat) : Int) - 9223372036854775808 = ((r : Int) - p) * q := by
      rw [Int.sub_mul, ← Int.natCast_mul, ← Int.natCast_mul, e3]; rfl
    rw [e5, Int.mul_ediv_cancel _ (by omega)]
    simp

/-! ### the steps of the reference's loops -/
theorem join_bit (v b : Nat) (hb : b < 2) : (v * 2 ||| b) = 2 * v + b := by
  have := nat_join 1 (v * 2) b (by omega) (by omega)
  omega
theorem get_step (x h j : Nat) : x / 2 ^ (h - j) % 2 ^ (j + 1) = 2 * (x / 2 ^ (h - j + 1) % 2 ^ j) + x / 2 ^ (h - j) % 2 := by
  rw [Nat.pow_succ 2 j, Nat.mul_comm (2 ^ j) 2, Nat.mod_mul, Nat.pow_succ 2 (h - j), Nat.div_div_eq_div_mul]
  omega
theorem shr_step (y k : Nat) : y / 2 ^ k = 2 * (y / 2 ^ (k + 1)) + y / 2 ^ k % 2 := by
  rw [Nat.pow_succ, ← Nat.div_div_eq_div_mul]; omega
theorem ones_step (l k : Nat) (hk : l ≤ k) : (2 ^ (k - l) - 1) * 2 ^ l ||| 2 ^ k = (2 ^ (k + 1 - l) - 1) * 2 ^ l := by
  apply Nat.eq_of_testBit_eq
  intro i
  rw [Nat.testBit_or, Nat.testBit_mul_two_pow, Nat.testBit_mul_two_pow, Nat.testBit_two_pow_sub_one, Nat.testBit_two_pow_sub_one, Nat.testBit_two_pow]
  by_cases h1 : l ≤ i
  · rw [Bool.eq_iff_iff]; simp [h1]; omega
  · have : ¬ k = i := by omega
    simp [h1, this]
theorem bit_of (x i : Nat) : x / 2 ^ i % 2 = (x.testBit i).toNat := by
  rw [Nat.testBit_eq_decide_div_mod_eq]
  have := Nat.mod_lt (x / 2 ^ i) (show 0 < 2 by omega)
  by_cases h : x / 2 ^ i % 2 = 1
  · simp [h]
  · have : x / 2 ^ i % 2 = 0 := by omega
    simp [this]
theorem put_step (x h l v k : Nat) (hlh : l ≤ h) (hv : v < 2 ^ (h - l + 1)) :
    nPut x h l v / 2 ^ k = 2 * (nPut x h l v / 2 ^ (k + 1)) + (if l ≤ k ∧ k ≤ h then v / 2 ^ (k - l) % 2 else x / 2 ^ k % 2) := by
  rw [shr_step (nPut x h l v) k, bit_of, put_bit x h l v k hlh hv]
  split <;> rw [bit_of]
theorem lt_of_bits (v n : Nat) (hv : v < 18446744073709551616) (h : ∀ j, n ≤ j → j < 64 → v / 2 ^ j % 2 ≠ 1) : v < 2 ^ n := by
  apply Nat.lt_pow_two_of_testBit
  intro i hi
  by_cases h1 : i < 64
  · rw [Nat.testBit_eq_decide_div_mod_eq]; simpa using h i hi h1
  · exact Nat.testBit_lt_two_pow (Nat.lt_of_lt_of_le (show v < 2 ^ 64 by simpa using hv) (Nat.pow_le_pow_right (by omega) (by omega)))
theorem bits_of_lt (v n j : Nat) (h : v < 2 ^ n) (hj : n ≤ j) : v / 2 ^ j % 2 = 0 := by
  have : v < 2 ^ j := Nat.lt_of_lt_of_le h (Nat.pow_le_pow_right (by omega) hj)
  rw [Nat.div_eq_of_lt this]
end Go.Proofs.YtappjiljmpgjcaaDoor
