import Derived.Test.YtiaebfccgolbgaaFieldRef
import Derived.LoopTactic
namespace Go.Proofs.Ytiaebfccgolbgaa
open Go.RowKit

/-- What Put's loop has when place k is next, of P. -/
def putTo (P k : Nat) : Int := ((P / 2 ^ k : Nat) : Int)
theorem putTo_in (x h l v k : Nat) (hx : x < 18446744073709551616) (hlh : l ≤ h) (hh : h ≤ 63) (hv : v < 2 ^ (h - l + 1)) (h1 : l ≤ k) (h2 : k ≤ h) :
    bits .or .u64 (IntKind.u64.wrap (putTo (nPut x h l v) (k + 1) * 2)) (bitI v (k - l)) = putTo (nPut x h l v) k := by
  have a := put_step x h l v k hlh hv
  have b := put_lt x h l v hx hlh hh hv
  have c := Nat.div_le_self (nPut x h l v) (2 ^ k)
  unfold putTo bitI
  rw [if_pos ⟨h1, h2⟩] at a
  rw [or_val _ _ (by omega) (Nat.mod_lt _ (by omega)), a]
theorem putTo_out (x h l v k : Nat) (hx : x < 18446744073709551616) (hlh : l ≤ h) (hh : h ≤ 63) (hv : v < 2 ^ (h - l + 1)) (h1 : ¬ (l ≤ k ∧ k ≤ h)) :
    bits .or .u64 (IntKind.u64.wrap (putTo (nPut x h l v) (k + 1) * 2)) (bitI x k) = putTo (nPut x h l v) k := by
  have a := put_step x h l v k hlh hv
  have b := put_lt x h l v hx hlh hh hv
  have c := Nat.div_le_self (nPut x h l v) (2 ^ k)
  unfold putTo bitI
  rw [if_neg h1] at a
  rw [or_val _ _ (by omega) (Nat.mod_lt _ (by omega)), a]
theorem putTo_top (x h l v : Nat) (hx : x < 18446744073709551616) (hlh : l ≤ h) (hh : h ≤ 63) (hv : v < 2 ^ (h - l + 1)) : putTo (nPut x h l v) 64 = 0 := by
  have b := put_lt x h l v hx hlh hh hv
  unfold putTo
  rw [Nat.div_eq_of_lt (by simpa using b)]; rfl
theorem putTo_end (x h l v : Nat) : putTo (nPut x h l v) 0 = fPut x h l v := by
  unfold putTo fPut; simp
set_option maxHeartbeats 1000000 in
theorem rput_yes (x hi lo v : Int) (w : World) (hx : U64 x) (hv : U64 v) (hft : fFits v hi lo = true) :
    Calls Try.prog 13 #[.int .u64 x, .int .i64 hi, .int .i64 lo, .int .u64 v] w fun e w' => e = .returned (.tuple #[.int .u64 (fPut x hi lo v), .int .i64 0]) ∧ w = w' := by
  obtain ⟨hk, hlt⟩ := fPut_ok hft
  have HF := Lib.hid hft
  clear hft
  obtain ⟨h, l, rfl, rfl, h1, h2⟩ := nat_of_ok hk
  obtain ⟨x, rfl, hx'⟩ := u64_nat hx
  have hv2 := hv
  obtain ⟨v, rfl, hv'⟩ := u64_nat hv
  have hlt' : v < 2 ^ (h - l + 1) := by
    simp only [Int.toNat_natCast] at hlt
    have e : (2 : Int) ^ (h - l + 1) = ((2 ^ (h - l + 1) : Nat) : Int) := by simp only [Int.natCast_pow, Int.cast_ofNat_Int]
    rw [e] at hlt; omega
  have HX := Lib.hid hx'
  have HY := Lib.hid hv'
  have HL := Lib.hid hlt'
  have HV := Lib.hid hv2
  clear hk hx hv hv2 hx' hv' hlt hlt'
  go_enter Try.func13, Try.ntmps13
  go_wp2_with (go_at_call 19; refine (rfits_any _ _ _ _ HV.out).mono ?_; rintro e w1 ⟨rfl, rfl⟩; rw [HF.out])
  go_loop [10, 11, 12] (fun out k _ => ∃ j : Nat, j ≤ 64 ∧ k = .int .i64 ((j : Int) - 1) ∧ out = .int .u64 (putTo (nPut x h l v) j)) (fun _ k _ => (intOf k + 1).toNat)
  case atStart => exact ⟨64, by omega, by simp, by rw [putTo_top x h l v HX.out h1 h2 HL.out]⟩
  case round =>
    obtain ⟨j, hj, rfl, rfl⟩ := hrel
    rcases Nat.eq_zero_or_pos j with h0 | h0
    · subst h0
      have HR := Lib.hid (putTo_end x h l v)
      go_wp2
      go_ret2
      exact ⟨by rw [← HR.out]; rfl, rfl⟩
    · obtain ⟨k, rfl⟩ : ∃ k, j = k + 1 := ⟨j - 1, by omega⟩
      have e0 : (((k + 1 : Nat) : Int) - 1) = (k : Int) := by omega
      rw [e0]
      clear e0
      by_cases a : l ≤ k
      · by_cases b : k ≤ h
        · have HO := Lib.hid (putTo_in x h l v k HX.out h1 h2 HL.out a b)
          have HE := Lib.hid (show ((k : Int) - l).toNat = k - l by omega)
          go_wp2_with (go_at_call 45; refine (rbit_any _ _ _ (by first | exact HX.out | exact HY.out) (by omega) (by omega)).mono ?_; rintro e w1 ⟨rfl, rfl⟩; (first | rw [HE.out] | rw [Int.toNat_natCast]))
          go_round
          case rel => exact ⟨k, by omega, by first | rfl | go_num, by rw [← HO.out]⟩
          case measure => simp [intOf] <;> omega
        · have HO := Lib.hid (putTo_out x h l v k HX.out h1 h2 HL.out (by omega))
          go_wp2_with (go_at_call 45; refine (rbit_any _ _ _ (by first | exact HX.out | exact HY.out) (by omega) (by omega)).mono ?_; rintro e w1 ⟨rfl, rfl⟩; rw [Int.toNat_natCast])
          go_round
          case rel => exact ⟨k, by omega, by first | rfl | go_num, by rw [← HO.out]⟩
          case measure => simp [intOf] <;> omega
      · have HO := Lib.hid (putTo_out x h l v k HX.out h1 h2 HL.out (by omega))
        go_wp2_with (go_at_call 45; refine (rbit_any _ _ _ (by first | exact HX.out | exact HY.out) (by omega) (by omega)).mono ?_; rintro e w1 ⟨rfl, rfl⟩; rw [Int.toNat_natCast])
        go_round
        case rel => exact ⟨k, by omega, by first | rfl | go_num, by rw [← HO.out]⟩
        case measure => simp [intOf] <;> omega
set_option maxHeartbeats 400000 in
theorem rput_no (x hi lo v : Int) (w : World) (hv : U64 v) (hft : fFits v hi lo = false) :
    Calls Try.prog 13 #[.int .u64 x, .int .i64 hi, .int .i64 lo, .int .u64 v] w fun e w' => e = .returned (.tuple #[.int .u64 x, .int .i64 2]) ∧ w = w' := by
  have HF := Lib.hid hft
  clear hft
  go_enter Try.func13, Try.ntmps13
  go_wp2_with (go_at_call 19; refine (rfits_any _ _ _ _ hv).mono ?_; rintro e w1 ⟨rfl, rfl⟩; rw [HF.out])
  go_ret2
  exact ⟨rfl, rfl⟩
end Go.Proofs.Ytiaebfccgolbgaa
