/-
  field.Sign, Fits, Put and the layer's wakes, over Common.
-/
import Derived.Test.YtiaebfccgolbgaaDoorFieldGet
import Derived.Deep.RegionHeld3
import Derived.Outline
namespace Go.Proofs.YtiaebfccgolbgaaDoor
open Go.RowKit
set_option linter.unusedVariables false
set_option linter.unusedSimpArgs false
theorem sign_prog' (x h : Nat) (hh : h ≤ 63) : wrap64 (IntKind.u64.wrap ((x : Int) * 2 ^ (63 - h))) / 2 ^ (63 - h) = fSign x h := by
  unfold wrap64; exact sign_prog x h hh
set_option maxHeartbeats 400000 in
theorem sign_any (x hi : Int) (w : World) (hx : U64 x) :
    Calls Tryd.prog 12 #[.int .u64 x, .int .i64 hi] w fun e w' => e = .returned (.int .i64 (fSign x hi)) ∧ w = w' := by
  by_cases hk : 0 ≤ hi ∧ hi ≤ 63
  · obtain ⟨x, rfl, hx'⟩ := u64_nat hx
    obtain ⟨h, rfl⟩ := Int.eq_ofNat_of_zero_le hk.1
    have h2 : h ≤ 63 := by omega
    clear hk hx hx'
    go_enter Tryd.func12, Tryd.ntmps12
    go_wp2
    go_ret
    exact ⟨ret_int (sign_prog' x h h2), rfl⟩
  · have e : fSign x hi = 0 := by unfold fSign; rw [if_neg hk]
    rw [e]
    by_cases h1 : hi < 0
    · clear hk e
      go_enter Tryd.func12, Tryd.ntmps12
      go_wp2
      go_ret
      exact ⟨rfl, rfl⟩
    · have h2 : 63 < hi := by omega
      clear hk e
      go_enter Tryd.func12, Tryd.ntmps12
      go_wp2
      go_ret
      exact ⟨rfl, rfl⟩
theorem fFits_no {v hi lo : Int} (h : ¬ (0 ≤ lo ∧ lo ≤ hi ∧ hi ≤ 63)) : fFits v hi lo = false := by
  have : fOk hi lo = false := by rw [← Bool.not_eq_true, fOk_iff]; exact h
  simp [fFits, this]
theorem fFits_nat (v h l : Nat) (h1 : l ≤ h) (h2 : h ≤ 63) : fFits v h l = decide (v < 2 ^ (h - l + 1)) := by
  have : fOk h l = true := (fOk_nat h l).2 ⟨h1, h2⟩
  simp only [fFits, this, Bool.true_and, Int.toNat_natCast, decide_eq_decide]
  have : (2 : Int) ^ (h - l + 1) = ((2 ^ (h - l + 1) : Nat) : Int) := by simp only [Int.natCast_pow, Int.cast_ofNat_Int]
  rw [this]; omega
theorem fits_bool (h l v : Nat) (hlh : l ≤ h) (hh : h ≤ 63) :
    (((IntKind.u64.wrap ((v : Int) * 2 ^ l) / 2 ^ l == (v : Int)) && (bits .andNot .u64 (IntKind.u64.wrap ((v : Int) * 2 ^ l)) (nOnes h l) == 0)) : Bool) = fFits v h l := by
  rw [fFits_nat v h l hlh hh]
  have e : IntKind.u64.wrap ((v : Int) * 2 ^ l) = ((v * 2 ^ l % 18446744073709551616 : Nat) : Int) := by
    rw [IntKind.wrap_u64]; simp only [Int.natCast_emod, Int.natCast_mul, Int.natCast_pow, Int.cast_ofNat_Int]
  have e2 : (2 : Int) ^ l = ((2 ^ l : Nat) : Int) := by simp only [Int.natCast_pow, Int.cast_ofNat_Int]
  rw [e, u64_andNot_nat _ _ (Nat.mod_lt _ (by omega)) (ones_lt h l hlh hh), e2, ← Int.natCast_ediv]
  have := fits_prog h l v hlh hh
  rw [Bool.eq_iff_iff]
  simp only [Bool.and_eq_true, beq_iff_eq, decide_eq_true_eq]
  rw [← this]
  omega
set_option maxHeartbeats 400000 in
theorem fits_any (v hi lo : Int) (w : World) (hv : U64 v) :
    Calls Tryd.prog 13 #[.int .u64 v, .int .i64 hi, .int .i64 lo] w fun e w' => e = .returned (.bool (fFits v hi lo)) ∧ Below w.heap.size w w' := by
  by_cases hk : 0 ≤ lo ∧ lo ≤ hi ∧ hi ≤ 63
  · obtain ⟨h, l, rfl, rfl, h1, h2⟩ := nat_of_ok hk
    obtain ⟨v, rfl, hv'⟩ := u64_nat hv
    clear hk hv hv'
    have HF := Lib.hid (fits_bool h l v h1 h2)
    by_cases hq : (IntKind.u64.wrap ((v : Int) * 2 ^ l) / 2 ^ l == (v : Int)) = true
    · go_enter Tryd.func13, Tryd.ntmps13
      go_wp2_with (first
        | (go_at_call 15; refine (there_yes _ _ _ (by omega) (by omega) (by omega)).mono ?_; rintro e w1 ⟨rfl, hb⟩; obtain ⟨hc, hf⟩ := bcell hb)
        | (go_at_call 16; refine (ones_yes h l _ h1 h2).mono ?_; rintro e w2 ⟨rfl, hb2⟩))
      go_ret
      refine ⟨?_, (((Below.refl _ _).alloc (Nat.le_refl _) _).trans (hb.mono (by simp))).trans (hb2.mono (by have := hb.size; simp at this; omega))⟩
      rw [← HF.out, hq]; simp
    · have hq' : (IntKind.u64.wrap ((v : Int) * 2 ^ l) / 2 ^ l == (v : Int)) = false := by simpa using hq
      clear hq
      go_enter Tryd.func13, Tryd.ntmps13
      go_wp2_with (first
        | (go_at_call 15; refine (there_yes _ _ _ (by omega) (by omega) (by omega)).mono ?_; rintro e w1 ⟨rfl, hb⟩; obtain ⟨hc, hf⟩ := bcell hb)
        | (go_at_call 16; refine (ones_yes h l _ h1 h2).mono ?_; rintro e w2 ⟨rfl, hb2⟩))
      go_ret
      refine ⟨?_, (((Below.refl _ _).alloc (Nat.le_refl _) _).trans (hb.mono (by simp)))⟩
      rw [← HF.out, hq']; simp
  · have H := Lib.hid hk
    have e := Lib.hid (fFits_no (v := v) hk)
    clear hk
    go_enter Tryd.func13, Tryd.ntmps13
    go_wp2_with (go_at_call 15; refine (there_no _ _ _ H.out).mono ?_; rintro e w1 ⟨rfl, hb⟩; obtain ⟨hc, hf⟩ := bcell hb)
    go_ret
    exact ⟨by rw [e.out]; rfl, ((Below.refl _ _).alloc (Nat.le_refl _) _).trans (hb.mono (by simp))⟩
theorem put_val (x h l v : Nat) (hx : x < 18446744073709551616) (hlh : l ≤ h) (hh : h ≤ 63) (hv : v < 2 ^ (h - l + 1)) :
    bits .or .u64 (bits .andNot .u64 (x : Int) (nOnes h l)) (IntKind.u64.wrap ((v : Int) * 2 ^ l)) = fPut x h l v := by
  have e : IntKind.u64.wrap ((v : Int) * 2 ^ l) = ((v * 2 ^ l % 18446744073709551616 : Nat) : Int) := by
    rw [IntKind.wrap_u64]; simp only [Int.natCast_emod, Int.natCast_mul, Int.natCast_pow, Int.cast_ofNat_Int]
  rw [e, u64_andNot_nat _ _ hx (ones_lt h l hlh hh), u64_or_nat _ _ (Nat.lt_of_le_of_lt Nat.and_le_left hx) (Nat.mod_lt _ (by omega)), put_prog x h l v hx hlh hh hv]
  rfl
theorem shl_amt (l : Nat) (h : l ≤ 63) : min (IntKind.u64.wrap (l : Int)).toNat 64 = l := by
  rw [IntKind.wrap_u64]; omega
set_option maxHeartbeats 400000 in
theorem sput_any (x h l v : Nat) (w : World) (hx : x < 18446744073709551616) (h1 : l ≤ h) (h2 : h ≤ 63) (hv : v < 2 ^ (h - l + 1)) :
    Calls Tryd.prog 14 #[.agg #[.int .i64 h, .int .i64 l], .int .u64 x, .int .u64 v] w fun e w' => e = .returned (.int .u64 (fPut x h l v)) ∧ Below w.heap.size w w' := by
  have HP := Lib.hid (put_val x h l v hx h1 h2 hv)
  clear hx hv
  go_enter Tryd.func14, Tryd.ntmps14
  go_wp2
  go_region_held3 (fun w' => w'.cell? ⟨w.heap.size, 0, none⟩ = some (.int .i64 h) ∧ w'.cell? ⟨w.heap.size, 1, none⟩ = some (.int .i64 l)) (go_keep)
    (first | (go_at_call 16; refine (ones_yes h l _ h1 h2).mono ?_; rintro e w2 ⟨rfl, hb2⟩; obtain ⟨hc, hf⟩ := bcell hb2))
  go_wp2
  go_ret
  refine ⟨ret_int ?_, bthen (bd (ba (Below.refl _ _) _)) hb2⟩
  rw [shl_amt l (by omega)]
  exact HP.out
theorem fPut_ok {v hi lo : Int} (h : fFits v hi lo = true) : (0 ≤ lo ∧ lo ≤ hi ∧ hi ≤ 63) ∧ v < 2 ^ (hi.toNat - lo.toNat + 1) := by
  simpa [fFits, fOk_iff] using h
set_option maxHeartbeats 400000 in
theorem put_yes (x hi lo v : Int) (w : World) (hx : U64 x) (hv : U64 v) (hft : fFits v hi lo = true) :
    Calls Tryd.prog 10 #[.int .u64 x, .int .i64 hi, .int .i64 lo, .int .u64 v] w fun e w' => e = .returned (.tuple #[.int .u64 (fPut x hi lo v), .int .i64 0]) ∧ Below w.heap.size w w' := by
  obtain ⟨hk, hlt⟩ := fPut_ok hft
  have HF := Lib.hid hft
  clear hft
  obtain ⟨h, l, rfl, rfl, h1, h2⟩ := nat_of_ok hk
  obtain ⟨x, rfl, hx'⟩ := u64_nat hx
  have hv2 := hv
  obtain ⟨v, rfl, hv'⟩ := u64_nat hv
  have hlt' : v < 2 ^ (h - l + 1) := by
    simp only [Int.toNat_natCast] at hlt
    have e : (2 : Int) ^ (h - l + 1) = ((2 ^ (h - l + 1) : Nat) : Int) := by simp only [Int.natCast_pow, Int.cast_ofNat_Int]
    rw [e] at hlt; omega
  have HX := Lib.hid hx'
  have HL := Lib.hid hlt'
  have HV := Lib.hid hv2
  clear hk hx hv hv2 hx' hv' hlt hlt'
  go_enter Tryd.func10, Tryd.ntmps10
  go_wp2_with (first
    | (go_at_call 13; refine (fits_any _ _ _ _ HV.out).mono ?_; rintro e w1 ⟨rfl, hb⟩; rw [HF.out])
    | (go_at_call 14; refine (sput_any x h l v _ HX.out h1 h2 HL.out).mono ?_; rintro e w2 ⟨rfl, hb2⟩))
  go_ret2
  exact ⟨rfl, hb.trans (hb2.mono hb.size)⟩
set_option maxHeartbeats 400000 in
theorem put_no (x hi lo v : Int) (w : World) (hv : U64 v) (hft : fFits v hi lo = false) :
    Calls Tryd.prog 10 #[.int .u64 x, .int .i64 hi, .int .i64 lo, .int .u64 v] w fun e w' => e = .returned (.tuple #[.int .u64 x, .int .i64 2]) ∧ Below w.heap.size w w' := by
  have HF := Lib.hid hft
  clear hft
  go_enter Tryd.func10, Tryd.ntmps10
  go_wp2_with (go_at_call 13; refine (fits_any _ _ _ _ hv).mono ?_; rintro e w1 ⟨rfl, hb⟩; rw [HF.out])
  go_ret2
  exact ⟨rfl, hb⟩

set_option maxHeartbeats 1000000 in
theorem wakes1_any (w : World) : Calls Tryd.prog 6 #[] w fun e w' => e = .returned (.bool true) ∧ Below w.heap.size w w' := by
  have HG := Lib.hid (show fGet 43981 11 4 = 188 by decide)
  have HP := Lib.hid (show fPut 0 7 4 15 = 240 by decide)
  have HS := Lib.hid (show fSign 15 3 = -1 by decide)
  go_enter Tryd.func6, Tryd.ntmps6
  go_wp2_with fail
  refine (put_no 0 7 4 16 _ (u64_lit (by decide)) (by decide)).mono ?_
  rintro e w1 ⟨rfl, hb1⟩
  go_wp2_with fail
  refine (put_yes 0 7 4 15 _ (u64_lit (by decide)) (u64_lit (by decide)) (by decide)).mono ?_
  rintro e w2 ⟨rfl, hb2⟩
  rw [HP.out]
  go_wp2_with fail
  refine (get_any 43981 11 4 _ (u64_lit (by decide))).mono ?_
  rintro e w3 ⟨rfl, hb3⟩
  rw [HG.out]
  go_wp2_with fail
  refine (sign_any 15 3 _ (u64_lit (by decide))).mono ?_
  rintro e w4 ⟨rfl, rfl⟩
  rw [HS.out]
  go_wp2_with fail
  go_ret
  exact ⟨rfl, bthen (bthen hb1 hb2) hb3⟩
end Go.Proofs.YtiaebfccgolbgaaDoor
