import Derived.Test.YtiaebfccgolbgaaFieldRef
import Derived.LoopTactic
namespace Go.Proofs.Ytiaebfccgolbgaa
open Go.RowKit

/-- What Sign's loop has at place k. -/
def signTo (x k : Nat) : Int := ((x % 2 ^ k : Nat) : Int)
theorem signTo_bd (x k : Nat) (hk : k ≤ 63) : 0 ≤ signTo x k ∧ signTo x k < 9223372036854775808 := by
  unfold signTo
  have a := Nat.mod_lt x (pow_pos2 k)
  have b := Nat.pow_le_pow_right (n := 2) (by omega) hk
  have e64 : (2 : Nat) ^ 63 = 9223372036854775808 := by decide
  omega
theorem sign_arith (r p b : Nat) (hr : r < p) (hb : b = 0 ∨ b = 1) (hp : p ≤ 4611686018427387904) :
    wrap64 ((r : Int) + wrap64 (wrap64 (b : Int) * (p : Int))) = ((r + p * b : Nat) : Int) := by
  rcases hb with rfl | rfl
  · rw [IntWalk.wrap64_in ((0 : Nat) : Int) (by omega)]
    simp only [Int.cast_ofNat_Int, Int.zero_mul, Nat.mul_zero, Nat.add_zero]
    rw [IntWalk.wrap64_in 0 (by omega), Int.add_zero, IntWalk.wrap64_in _ (by omega)]
  · rw [IntWalk.wrap64_in ((1 : Nat) : Int) (by omega)]
    simp only [Int.cast_ofNat_Int, Int.one_mul, Nat.mul_one]
    rw [IntWalk.wrap64_in (p : Int) (by omega), IntWalk.wrap64_in _ (by omega)]
    omega
theorem pow63 {k : Nat} (hk : k ≤ 63) : 2 ^ k ≤ 9223372036854775808 := Nat.pow_le_pow_right (n := 2) (by decide) hk
theorem pow62 {k : Nat} (hk : k ≤ 62) : 2 ^ k ≤ 4611686018427387904 := Nat.pow_le_pow_right (n := 2) (by decide) hk
theorem signTo_succ (x k : Nat) (hk : k ≤ 62) : wrap64 (signTo x k + wrap64 (wrap64 (bitI x k) * 2 ^ k)) = signTo x (k + 1) := by
  have hb : x / 2 ^ k % 2 < 2 := Nat.mod_lt _ (by decide)
  have hm : x % 2 ^ (k + 1) = x % 2 ^ k + 2 ^ k * (x / 2 ^ k % 2) := Nat.mod_pow_succ
  have hr := Nat.mod_lt x (pow_pos2 k)
  have hp := pow62 hk
  have e5 : (2 : Int) ^ k = ((2 ^ k : Nat) : Int) := by simp only [Int.natCast_pow, Int.cast_ofNat_Int]
  unfold signTo bitI
  rw [hm, e5]
  generalize x / 2 ^ k % 2 = b at *
  generalize x % 2 ^ k = r at *
  generalize 2 ^ k = p at *
  exact sign_arith r p b hr (by omega) hp
theorem sign_arith1 (r p : Nat) (hr : r < p) (hp : p ≤ 9223372036854775808) : wrap64 ((r : Int) - wrap64 (p : Int)) = (r : Int) - ((1 : Nat) : Int) * (p : Int) := by
  unfold wrap64
  omega
theorem signTo_end1 (x h : Nat) (hh : h ≤ 63) (hb : (bitI x h == 1) = true) : wrap64 (signTo x h - wrap64 (2 ^ h)) = fSign x h := by
  have hb' : x / 2 ^ h % 2 = 1 := by
    unfold bitI at hb
    rw [beq_iff_eq] at hb
    generalize x / 2 ^ h % 2 = b at *
    omega
  have hr := Nat.mod_lt x (pow_pos2 h)
  have hp := pow63 hh
  unfold fSign
  rw [if_pos (by omega), Int.toNat_natCast]
  have e4 : (x : Int) % 2 ^ h - (x : Int) / 2 ^ h % 2 * 2 ^ h = ((x % 2 ^ h : Nat) : Int) - ((x / 2 ^ h % 2 : Nat) : Int) * ((2 ^ h : Nat) : Int) := by
    simp only [Int.natCast_emod, Int.natCast_ediv, Int.natCast_pow, Int.cast_ofNat_Int]
  have e5 : (2 : Int) ^ h = ((2 ^ h : Nat) : Int) := by simp only [Int.natCast_pow, Int.cast_ofNat_Int]
  rw [e4, hb', e5]
  unfold signTo
  generalize x % 2 ^ h = r at *
  generalize 2 ^ h = p at *
  exact sign_arith1 r p hr hp
theorem signTo_end0 (x h : Nat) (hh : h ≤ 63) (hb : (bitI x h == 1) = false) : signTo x h = fSign x h := by
  have hb' : x / 2 ^ h % 2 = 0 := by
    have : x / 2 ^ h % 2 < 2 := Nat.mod_lt _ (by decide)
    unfold bitI at hb
    rw [beq_eq_false_iff_ne] at hb
    generalize x / 2 ^ h % 2 = b at *
    omega
  unfold fSign
  rw [if_pos (by omega), Int.toNat_natCast]
  have e4 : (x : Int) % 2 ^ h - (x : Int) / 2 ^ h % 2 * 2 ^ h = ((x % 2 ^ h : Nat) : Int) - ((x / 2 ^ h % 2 : Nat) : Int) * ((2 ^ h : Nat) : Int) := by
    simp only [Int.natCast_emod, Int.natCast_ediv, Int.natCast_pow, Int.cast_ofNat_Int]
  rw [e4, hb']
  unfold signTo
  generalize x % 2 ^ h = r at *
  generalize 2 ^ h = p at *
  omega
set_option maxHeartbeats 400000 in
theorem rsign_any (x hi : Int) (w : World) (hx : U64 x) :
    Calls Try.prog 21 #[.int .u64 x, .int .i64 hi] w fun e w' => e = .returned (.int .i64 (fSign x hi)) ∧ w = w' := by
  by_cases hk : 0 ≤ hi ∧ hi ≤ 63
  · obtain ⟨x, rfl, hx'⟩ := u64_nat hx
    obtain ⟨h, rfl⟩ := Int.eq_ofNat_of_zero_le hk.1
    have h2 : h ≤ 63 := by omega
    have HX := Lib.hid hx'
    clear hk hx hx'
    go_enter Try.func21, Try.ntmps21
    go_wp2
    go_loop [5, 6] (fun v k => ∃ j : Nat, j ≤ h ∧ k = .int .i64 j ∧ v = .int .i64 (signTo x j)) (fun _ k => (h - intOf k).toNat)
    case atStart => exact ⟨0, by omega, rfl, by simp [signTo, Nat.mod_one]⟩
    case round =>
      obtain ⟨j, hj, rfl, rfl⟩ := hrel
      by_cases hlt : j < h
      · have HO := Lib.hid (signTo_succ x j (by omega))
        go_wp2_with (go_at_call 45; refine (rbit_any _ _ _ HX.out (by omega) (by omega)).mono ?_; rintro e w1 ⟨rfl, rfl⟩; rw [Int.toNat_natCast])
        go_round
        case rel => exact ⟨j + 1, by omega, by go_num, by rw [← HO.out]⟩
        case measure => simp [intOf] <;> omega
      · obtain rfl : j = h := by omega
        by_cases hb : (bitI x j == 1) = true
        · have HR := Lib.hid (signTo_end1 x j h2 hb)
          go_wp2_with (go_at_call 45; refine (rbit_any _ _ _ HX.out (by omega) (by omega)).mono ?_; rintro e w1 ⟨rfl, rfl⟩; rw [Int.toNat_natCast])
          go_ret
          exact ⟨ret_int HR.out, rfl⟩
        · have hb' : (bitI x j == 1) = false := by simpa using hb
          clear hb
          have HR := Lib.hid (signTo_end0 x j h2 hb')
          go_wp2_with (go_at_call 45; refine (rbit_any _ _ _ HX.out (by omega) (by omega)).mono ?_; rintro e w1 ⟨rfl, rfl⟩; rw [Int.toNat_natCast])
          go_ret
          exact ⟨ret_int HR.out, rfl⟩
  · have e : fSign x hi = 0 := by unfold fSign; rw [if_neg hk]
    rw [e]
    by_cases h1 : hi < 0
    · clear hk e
      go_enter Try.func21, Try.ntmps21
      go_wp2
      go_ret
      exact ⟨rfl, rfl⟩
    · have h2 : 63 < hi := by omega
      clear hk e
      go_enter Try.func21, Try.ntmps21
      go_wp2
      go_ret
      exact ⟨rfl, rfl⟩
end Go.Proofs.Ytiaebfccgolbgaa
