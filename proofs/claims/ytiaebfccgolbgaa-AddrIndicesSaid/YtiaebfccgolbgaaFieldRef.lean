import Derived.Test.YtiaebfccgolbgaaFieldWalks
import Derived.LoopTactic
namespace Go.Proofs.Ytiaebfccgolbgaa
open Go.RowKit

theorem is_any (hi lo : Int) (w : World) :
    Calls Try.prog 48 #[.int .i64 hi, .int .i64 lo] w fun e w' => e = .returned (.bool (fOk hi lo)) ∧ w = w' := by
  by_cases h0 : 0 ≤ lo
  · by_cases h1 : lo ≤ hi
    · by_cases h2 : hi ≤ 63
      · have e : fOk hi lo = true := (fOk_iff _ _).2 ⟨h0, h1, h2⟩
        rw [e]; clear e
        go_enter Try.func48, Try.ntmps48
        go_wp2
        go_ret
        exact ⟨rfl, rfl⟩
      · have e : fOk hi lo = false := by rw [← Bool.not_eq_true, fOk_iff]; omega
        rw [e]; clear e
        go_enter Try.func48, Try.ntmps48
        go_wp2
        go_ret
        exact ⟨rfl, rfl⟩
    · have e : fOk hi lo = false := by rw [← Bool.not_eq_true, fOk_iff]; omega
      rw [e]; clear e
      have h1' : hi < lo := by omega
      clear h1
      go_enter Try.func48, Try.ntmps48
      go_wp2
      go_ret
      exact ⟨rfl, rfl⟩
  · have e : fOk hi lo = false := by rw [← Bool.not_eq_true, fOk_iff]; omega
    rw [e]; clear e
    have h0' : lo < 0 := by omega
    clear h0
    go_enter Try.func48, Try.ntmps48
    go_wp2
    go_ret
    exact ⟨rfl, rfl⟩
/-- A bit. -/
def bitI (x k : Nat) : Int := ((x / 2 ^ k % 2 : Nat) : Int)
theorem bit_val (x k : Nat) (hx : x < 18446744073709551616) : bits .and .u64 ((x : Int) / 2 ^ k) 1 = bitI x k := by
  have e : (x : Int) / 2 ^ k = ((x / 2 ^ k : Nat) : Int) := by simp only [Int.natCast_ediv, Int.natCast_pow, Int.cast_ofNat_Int]
  have := Nat.div_le_self x (2 ^ k)
  rw [e, show (1 : Int) = ((1 : Nat) : Int) from rfl, u64_and_nat _ _ (by omega) (by omega), nat_mask1]
  rfl
theorem rbit_any (x : Nat) (k : Int) (w : World) (hx : x < 18446744073709551616) (h0 : 0 ≤ k) (h1 : k ≤ 63) :
    Calls Try.prog 45 #[.int .u64 x, .int .i64 k] w fun e w' => e = .returned (.int .u64 (bitI x k.toNat)) ∧ w = w' := by
  obtain ⟨k, rfl⟩ := Int.eq_ofNat_of_zero_le h0
  have HV := Lib.hid (bit_val x k hx)
  clear hx
  go_enter Try.func45, Try.ntmps45
  go_wp2
  go_ret
  exact ⟨ret_int HV.out, rfl⟩
theorem fOk_hid {hi lo : Int} (h : fOk hi lo = true) : 0 ≤ lo ∧ lo ≤ hi ∧ hi ≤ 63 := (fOk_iff _ _).1 h
theorem or_val (v b : Nat) (hv : v * 2 < 18446744073709551616) (hb : b < 2) : bits .or .u64 (IntKind.u64.wrap ((v : Int) * 2)) (b : Int) = ((2 * v + b : Nat) : Int) := by
  have e : IntKind.u64.wrap ((v : Int) * 2) = ((v * 2 : Nat) : Int) := by rw [IntKind.wrap_u64]; omega
  rw [e, u64_or_nat _ _ hv (by omega), join_bit v b hb]
/-- What Get's loop has behind j rounds. -/
def getTo (x h j : Nat) : Int := ((x / 2 ^ (h + 1 - j) % 2 ^ j : Nat) : Int)
theorem getTo_succ (x h j : Nat) (hj : j ≤ h) (hh : h ≤ 63) : bits .or .u64 (IntKind.u64.wrap (getTo x h j * 2)) (bitI x (h - j)) = getTo x h (j + 1) := by
  have hvb : x / 2 ^ (h + 1 - j) % 2 ^ j * 2 < 18446744073709551616 := by
    have a := Nat.mod_lt (x / 2 ^ (h + 1 - j)) (pow_pos2 j)
    have b := pow_le64 (k := j + 1) (by omega)
    rw [Nat.pow_succ] at b; omega
  have hbb : x / 2 ^ (h - j) % 2 < 2 := Nat.mod_lt _ (by omega)
  unfold getTo bitI
  rw [or_val _ _ hvb hbb, show h + 1 - (j + 1) = h - j by omega, get_step x h j, show h + 1 - j = h - j + 1 by omega]
theorem getTo_end (x h l : Nat) (h1 : l ≤ h) (h2 : h ≤ 63) : getTo x h (h - l + 1) = fGet x h l := by
  rw [fGet_nat x h l h1 h2]; unfold nGet getTo; rw [show h + 1 - (h - l + 1) = l by omega]
set_option maxHeartbeats 400000 in
theorem rget_any (x hi lo : Int) (w : World) (hx : U64 x) :
    Calls Try.prog 15 #[.int .u64 x, .int .i64 hi, .int .i64 lo] w fun e w' => e = .returned (.int .u64 (fGet x hi lo)) ∧ w = w' := by
  by_cases hk : fOk hi lo = true
  · have HK := Lib.hid hk
    obtain ⟨h, l, rfl, rfl, h1, h2⟩ := nat_of_ok (fOk_hid hk)
    obtain ⟨x, rfl, hx'⟩ := u64_nat hx
    have HX := Lib.hid hx'
    clear hk hx hx'
    go_enter Try.func15, Try.ntmps15
    go_wp2_with (go_at_call 48; refine (is_any _ _ _).mono ?_; rintro e w1 ⟨rfl, rfl⟩; rw [HK.out])
    go_loop [7, 8] (fun v k => ∃ j : Nat, j ≤ h - l + 1 ∧ k = .int .i64 ((h : Int) - j) ∧ v = .int .u64 (getTo x h j)) (fun _ k => (intOf k - l + 1).toNat)
    case atStart => exact ⟨0, by omega, by simp, by simp [getTo, Nat.mod_one]⟩
    case round =>
      obtain ⟨j, hj, rfl, rfl⟩ := hrel
      by_cases hlt : j < h - l + 1
      · have HO := Lib.hid (getTo_succ x h j (by omega) h2)
        have HE := Lib.hid (show ((h : Int) - j).toNat = h - j by omega)
        go_wp2_with (go_at_call 45; refine (rbit_any x _ _ HX.out (by omega) (by omega)).mono ?_; rintro e w1 ⟨rfl, rfl⟩; rw [HE.out])
        go_round
        case rel => exact ⟨j + 1, by omega, by go_num, by rw [← HO.out]⟩
        case measure => simp [intOf]; omega
      · have HR := Lib.hid (getTo_end x h l h1 h2)
        have HJ := Lib.hid (show h - l + 1 = j by omega)
        go_wp2
        go_ret
        exact ⟨ret_int (by rw [← HR.out, HJ.out]), rfl⟩
  · have HK := Lib.hid (show fOk hi lo = false by simpa using hk)
    have HR := Lib.hid (fGet_no (x := x) (show ¬ (0 ≤ lo ∧ lo ≤ hi ∧ hi ≤ 63) by rw [← fOk_iff]; exact hk))
    clear hk
    go_enter Try.func15, Try.ntmps15
    go_wp2_with (go_at_call 48; refine (is_any _ _ _).mono ?_; rintro e w1 ⟨rfl, rfl⟩; rw [HK.out])
    go_ret
    exact ⟨ret_int HR.out.symm, rfl⟩
/-- What Ones' loop has at place k. -/
def onesTo (l k : Nat) : Int := (((2 ^ (k - l) - 1) * 2 ^ l : Nat) : Int)
theorem onesTo_succ (l k : Nat) (hk : l ≤ k) (hh : k ≤ 63) : bits .or .u64 (onesTo l k) (IntKind.u64.wrap (2 ^ k)) = onesTo l (k + 1) := by
  have e : IntKind.u64.wrap (2 ^ k) = ((2 ^ k : Nat) : Int) := by
    have f := Nat.pow_lt_pow_right (a := 2) (by omega) (show k < 64 by omega)
    rw [IntKind.wrap_u64, show ((2 : Int) ^ k) = ((2 ^ k : Nat) : Int) by simp only [Int.natCast_pow, Int.cast_ofNat_Int]]
    have e64 : (2 : Nat) ^ 64 = 18446744073709551616 := by decide
    rw [e64] at f
    generalize 2 ^ k = p at f ⊢
    omega
  have a : (2 ^ (k - l) - 1) * 2 ^ l < 18446744073709551616 := by
    have e64 : (2 : Nat) ^ 64 = 18446744073709551616 := by decide
    have b : 2 ^ (k - l) * 2 ^ l = 2 ^ k := by rw [← Nat.pow_add]; congr 1; omega
    have c := Nat.pow_le_pow_right (n := 2) (by omega) (show k ≤ 64 by omega)
    have d : (2 ^ (k - l) - 1) * 2 ^ l < 2 ^ (k - l) * 2 ^ l := Nat.mul_lt_mul_of_pos_right (by have := pow_pos2 (k - l); omega) (pow_pos2 l)
    omega
  unfold onesTo
  have f := Nat.pow_lt_pow_right (a := 2) (by omega) (show k < 64 by omega)
  have e64 : (2 : Nat) ^ 64 = 18446744073709551616 := by decide
  rw [e, u64_or_nat _ _ a (by omega), ones_step l k hk]
theorem onesTo_end (h l : Nat) (h1 : l ≤ h) (h2 : h ≤ 63) : onesTo l (h + 1) = fOnes h l := by
  rw [fOnes_nat h l h1 h2]; unfold onesTo nOnes; rw [show h + 1 - l = h - l + 1 by omega]
set_option maxHeartbeats 400000 in
theorem rones_any (hi lo : Int) (w : World) :
    Calls Try.prog 17 #[.int .i64 hi, .int .i64 lo] w fun e w' => e = .returned (.int .u64 (fOnes hi lo)) ∧ w = w' := by
  by_cases hk : fOk hi lo = true
  · have HK := Lib.hid hk
    obtain ⟨h, l, rfl, rfl, h1, h2⟩ := nat_of_ok (fOk_hid hk)
    clear hk
    go_enter Try.func17, Try.ntmps17
    go_wp2_with (go_at_call 48; refine (is_any _ _ _).mono ?_; rintro e w1 ⟨rfl, rfl⟩; rw [HK.out])
    go_loop [5, 6] (fun v k => ∃ j : Nat, l ≤ j ∧ j ≤ h + 1 ∧ k = .int .i64 j ∧ v = .int .u64 (onesTo l j)) (fun _ k => (h + 1 - intOf k).toNat)
    case atStart => exact ⟨l, by omega, by omega, rfl, by simp [onesTo]⟩
    case round =>
      obtain ⟨j, hj0, hj, rfl, rfl⟩ := hrel
      by_cases hlt : j ≤ h
      · have HO := Lib.hid (onesTo_succ l j hj0 (by omega))
        go_wp2
        go_round
        case rel => exact ⟨j + 1, by omega, by omega, by go_num, by rw [← HO.out]⟩
        case measure => simp [intOf]; omega
      · have HR := Lib.hid (onesTo_end h l h1 h2)
        have HJ := Lib.hid (show h + 1 = j by omega)
        go_wp2
        go_ret
        exact ⟨ret_int (by rw [← HR.out, HJ.out]), rfl⟩
  · have HK := Lib.hid (show fOk hi lo = false by simpa using hk)
    have HR := Lib.hid (fOnes_no (show ¬ (0 ≤ lo ∧ lo ≤ hi ∧ hi ≤ 63) by rw [← fOk_iff]; exact hk))
    clear hk
    go_enter Try.func17, Try.ntmps17
    go_wp2_with (go_at_call 48; refine (is_any _ _ _).mono ?_; rintro e w1 ⟨rfl, rfl⟩; rw [HK.out])
    go_ret
    exact ⟨ret_int HR.out.symm, rfl⟩
theorem fFits_of_lt {v h l : Nat} (h1 : l ≤ h) (h2 : h ≤ 63) (hv : v < 18446744073709551616) (hb : ∀ j, h - l + 1 ≤ j → j < 64 → (bitI v j == 1) = false) : fFits v h l = true := by
  rw [fFits_nat v h l h1 h2]
  simp only [decide_eq_true_eq]
  refine lt_of_bits v _ hv fun j a b c => ?_
  have := hb j a b
  unfold bitI at this
  rw [c] at this
  simp at this
theorem fFits_of_bit {v h l j : Nat} (h1 : l ≤ h) (h2 : h ≤ 63) (hj : h - l + 1 ≤ j) (hb : (bitI v j == 1) = true) : fFits v h l = false := by
  rw [fFits_nat v h l h1 h2]
  simp only [decide_eq_false_iff_not]
  intro hlt
  have := bits_of_lt v _ j hlt hj
  unfold bitI at hb
  rw [this] at hb
  simp at hb
/-- No bit from n up to k is 1. -/
def NoBits (v n k : Nat) : Prop := ∀ j, n ≤ j → j < k → (bitI v j == 1) = false
set_option maxHeartbeats 400000 in
theorem rfits_any (v hi lo : Int) (w : World) (hv : U64 v) :
    Calls Try.prog 19 #[.int .u64 v, .int .i64 hi, .int .i64 lo] w fun e w' => e = .returned (.bool (fFits v hi lo)) ∧ w = w' := by
  by_cases hk : fOk hi lo = true
  · have HK := Lib.hid hk
    obtain ⟨h, l, rfl, rfl, h1, h2⟩ := nat_of_ok (fOk_hid hk)
    obtain ⟨v, rfl, hv'⟩ := u64_nat hv
    have HX := Lib.hid hv'
    clear hk hv hv'
    go_enter Try.func19, Try.ntmps19
    go_wp2_with (go_at_call 48; refine (is_any _ _ _).mono ?_; rintro e w1 ⟨rfl, rfl⟩; rw [HK.out])
    go_loop [7] (fun k => ∃ j : Nat, h - l + 1 ≤ j ∧ j ≤ 64 ∧ k = .int .i64 j ∧ NoBits v (h - l + 1) j) (fun k => (64 - intOf k).toNat)
    case atStart => exact ⟨h - l + 1, by omega, by omega, by congr 1; omega, fun j a b => by omega⟩
    case round =>
      obtain ⟨j, hj0, hj, rfl, hnb⟩ := hrel
      by_cases hlt : j ≤ 63
      · by_cases hb : (bitI v j == 1) = true
        · have HR := Lib.hid (fFits_of_bit h1 h2 hj0 hb)
          go_wp2_with (go_at_call 45; refine (rbit_any v _ _ HX.out (by omega) (by omega)).mono ?_; rintro e w1 ⟨rfl, rfl⟩; rw [Int.toNat_natCast])
          go_ret
          exact ⟨by rw [HR.out]; rfl, rfl⟩
        · have hb' : (bitI v j == 1) = false := by simpa using hb
          clear hb
          go_wp2_with (go_at_call 45; refine (rbit_any v _ _ HX.out (by omega) (by omega)).mono ?_; rintro e w1 ⟨rfl, rfl⟩; rw [Int.toNat_natCast])
          go_round
          case rel => exact ⟨j + 1, by omega, by omega, by go_num, fun i a b => if e : i = j then e ▸ hb' else hnb i a (by omega)⟩
          case measure => simp [intOf]; omega
      · have HR := Lib.hid (fFits_of_lt h1 h2 HX.out (fun i a b => hnb i a (by omega)))
        go_wp2
        go_ret
        exact ⟨by rw [HR.out]; rfl, rfl⟩
  · have HK := Lib.hid (show fOk hi lo = false by simpa using hk)
    have HR := Lib.hid (fFits_no (v := v) (show ¬ (0 ≤ lo ∧ lo ≤ hi ∧ hi ≤ 63) by rw [← fOk_iff]; exact hk))
    clear hk
    go_enter Try.func19, Try.ntmps19
    go_wp2_with (go_at_call 48; refine (is_any _ _ _).mono ?_; rintro e w1 ⟨rfl, rfl⟩; rw [HK.out])
    go_ret
    exact ⟨by rw [HR.out]; rfl, rfl⟩
end Go.Proofs.Ytiaebfccgolbgaa
