import Derived.Test.YtiaebfccgolbgaaRows
import Derived.Test.YtiaebfccgolbgaaBits
import Derived.WalkKit
import Derived.WalkSpells
import Derived.Lib.Hide
import Derived.Below
import Derived.Outline
import Derived.Deep.RegionHeld3
namespace Go.Proofs.Ytiaebfccgolbgaa
open Go.RowKit

theorem bcell {W w1 : World} (hb : Below W.heap.size W w1) : (∀ b o, b < W.heap.size → w1.cell? ⟨b, o, none⟩ = W.cell? ⟨b, o, none⟩) ∧ (∀ b o, b < W.heap.size → w1.frozen? ⟨b, o, none⟩ = W.frozen? ⟨b, o, none⟩) :=
  ⟨fun b o h => hb.cell (p := ⟨b, o, none⟩) h, fun b o h => hb.frozen (p := ⟨b, o, none⟩) h⟩
theorem bthen {a W c : World} (h : Below a.heap.size a W) (hb : Below W.heap.size W c) : Below a.heap.size a c := h.trans (hb.mono h.size)
theorem ba {a W : World} (h : Below a.heap.size a W) (o : Obj) : Below a.heap.size a (W.alloc o) := h.alloc h.size o
theorem bd {a W : World} (h : Below a.heap.size a W) : Below a.heap.size a W.drew := h.drew
theorem ret_int {k : IntKind} {a b : Int} (h : a = b) : Ending.returned (.int k a) = .returned (.int k b) := by rw [h]

set_option maxHeartbeats 400000 in
theorem there_yes (hi lo : Int) (w : World) (h0 : 0 ≤ lo) (h1 : lo ≤ hi) (h2 : hi ≤ 63) :
    Calls Try.prog 46 #[.agg #[.int .i64 hi, .int .i64 lo]] w fun e w' => e = .returned (.bool true) ∧ Below w.heap.size w w' := by
  go_enter Try.func46, Try.ntmps46
  go_wp2
  go_ret
  exact ⟨rfl, (Below.refl _ _).alloc (Nat.le_refl _) _⟩
set_option maxHeartbeats 400000 in
theorem there_no (hi lo : Int) (w : World) (h : ¬ (0 ≤ lo ∧ lo ≤ hi ∧ hi ≤ 63)) :
    Calls Try.prog 46 #[.agg #[.int .i64 hi, .int .i64 lo]] w fun e w' => e = .returned (.bool false) ∧ Below w.heap.size w w' := by
  by_cases h0 : lo < 0
  · go_enter Try.func46, Try.ntmps46
    go_wp2
    go_ret
    exact ⟨rfl, (Below.refl _ _).alloc (Nat.le_refl _) _⟩
  · by_cases h1 : hi < lo
    · clear h
      go_enter Try.func46, Try.ntmps46
      go_wp2
      go_ret
      exact ⟨rfl, (Below.refl _ _).alloc (Nat.le_refl _) _⟩
    · have h2 : 63 < hi := by omega
      clear h
      go_enter Try.func46, Try.ntmps46
      go_wp2
      go_ret
      exact ⟨rfl, (Below.refl _ _).alloc (Nat.le_refl _) _⟩
set_option maxHeartbeats 400000 in
theorem ones_yes (h l : Nat) (w : World) (h1 : l ≤ h) (h2 : h ≤ 63) :
    Calls Try.prog 47 #[.agg #[.int .i64 h, .int .i64 l]] w fun e w' => e = .returned (.int .u64 (nOnes h l)) ∧ Below w.heap.size w w' := by
  go_enter Try.func47, Try.ntmps47
  go_wp2_with (go_at_call 46; refine (there_yes _ _ _ (by omega) (by omega) (by omega)).mono ?_; rintro e w1 ⟨rfl, hb⟩; obtain ⟨hc, hf⟩ := bcell hb)
  go_ret
  refine ⟨ret_int ?_, ((Below.refl _ _).alloc (Nat.le_refl _) _).trans (hb.mono (by simp))⟩
  exact ones_progI h l h1 h2
set_option maxHeartbeats 400000 in
theorem ones_no (hi lo : Int) (w : World) (h : ¬ (0 ≤ lo ∧ lo ≤ hi ∧ hi ≤ 63)) :
    Calls Try.prog 47 #[.agg #[.int .i64 hi, .int .i64 lo]] w fun e w' => e = .returned (.int .u64 0) ∧ Below w.heap.size w w' := by
  have H := Lib.hid h
  clear h
  go_enter Try.func47, Try.ntmps47
  go_wp2_with (go_at_call 46; refine (there_no _ _ _ H.out).mono ?_; rintro e w1 ⟨rfl, hb⟩; obtain ⟨hc, hf⟩ := bcell hb)
  go_ret
  exact ⟨rfl, ((Below.refl _ _).alloc (Nat.le_refl _) _).trans (hb.mono (by simp))⟩
theorem nat_of_ok {hi lo : Int} (h : 0 ≤ lo ∧ lo ≤ hi ∧ hi ≤ 63) : ∃ h' l' : Nat, hi = h' ∧ lo = l' ∧ l' ≤ h' ∧ h' ≤ 63 :=
  ⟨hi.toNat, lo.toNat, by omega, by omega, by omega, by omega⟩
/-- A word. -/
def U64 (x : Int) : Prop := 0 ≤ x ∧ x < 18446744073709551616
theorem u64_nat {x : Int} (h : U64 x) : ∃ n : Nat, x = n ∧ n < 18446744073709551616 := ⟨x.toNat, by have := h.1; omega, by have := h.2; omega⟩
theorem fGet_nat (x h l : Nat) (h1 : l ≤ h) (h2 : h ≤ 63) : fGet x h l = nGet x h l := by
  unfold fGet; rw [if_pos ((fOk_nat h l).2 ⟨h1, h2⟩)]; simp
theorem fOnes_nat (h l : Nat) (h1 : l ≤ h) (h2 : h ≤ 63) : fOnes h l = nOnes h l := by
  unfold fOnes; rw [if_pos ((fOk_nat h l).2 ⟨h1, h2⟩)]; simp
theorem fGet_no {x hi lo : Int} (h : ¬ (0 ≤ lo ∧ lo ≤ hi ∧ hi ≤ 63)) : fGet x hi lo = 0 := by
  unfold fGet; rw [if_neg (by rw [fOk_iff]; exact h)]
theorem fOnes_no {hi lo : Int} (h : ¬ (0 ≤ lo ∧ lo ≤ hi ∧ hi ≤ 63)) : fOnes hi lo = 0 := by
  unfold fOnes; rw [if_neg (by rw [fOk_iff]; exact h)]
set_option maxHeartbeats 400000 in
theorem get_any (x hi lo : Int) (w : World) (hx : U64 x) :
    Calls Try.prog 14 #[.int .u64 x, .int .i64 hi, .int .i64 lo] w fun e w' => e = .returned (.int .u64 (fGet x hi lo)) ∧ Below w.heap.size w w' := by
  by_cases hk : 0 ≤ lo ∧ lo ≤ hi ∧ hi ≤ 63
  · obtain ⟨h, l, rfl, rfl, h1, h2⟩ := nat_of_ok hk
    clear hk
    obtain ⟨x, rfl, hx'⟩ := u64_nat hx
    have HX := Lib.hid hx'
    clear hx hx'
    go_enter Try.func14, Try.ntmps14
    go_wp2_with (first
      | (go_at_call 46; refine (there_yes _ _ _ (by omega) (by omega) (by omega)).mono ?_; rintro e w1 ⟨rfl, hb⟩; obtain ⟨hc, hf⟩ := bcell hb)
      | (go_at_call 47; refine (ones_yes h l _ h1 h2).mono ?_; rintro e w2 ⟨rfl, hb2⟩))
    go_ret
    refine ⟨ret_int ?_, (((Below.refl _ _).alloc (Nat.le_refl _) _).trans (hb.mono (by simp))).trans (hb2.mono ?_)⟩
    · rw [fGet_nat x h l h1 h2, ← get_prog x h l h1, u64_and_nat _ _ HX.out (ones_lt h l h1 h2)]
      norm_cast
    · have := hb.size; simp at this; omega
  · have H := Lib.hid hk
    clear hk
    go_enter Try.func14, Try.ntmps14
    go_wp2_with (go_at_call 46; refine (there_no _ _ _ H.out).mono ?_; rintro e w1 ⟨rfl, hb⟩; obtain ⟨hc, hf⟩ := bcell hb)
    go_ret
    refine ⟨ret_int (fGet_no H.out).symm, ((Below.refl _ _).alloc (Nat.le_refl _) _).trans (hb.mono (by simp))⟩
set_option maxHeartbeats 400000 in
theorem ones_any (hi lo : Int) (w : World) :
    Calls Try.prog 16 #[.int .i64 hi, .int .i64 lo] w fun e w' => e = .returned (.int .u64 (fOnes hi lo)) ∧ Below w.heap.size w w' := by
  by_cases hk : 0 ≤ lo ∧ lo ≤ hi ∧ hi ≤ 63
  · obtain ⟨h, l, rfl, rfl, h1, h2⟩ := nat_of_ok hk
    clear hk
    go_enter Try.func16, Try.ntmps16
    go_wp2_with (go_at_call 47; refine (ones_yes h l _ h1 h2).mono ?_; rintro e w2 ⟨rfl, hb2⟩)
    go_ret
    exact ⟨ret_int (fOnes_nat h l h1 h2).symm, hb2⟩
  · have H := Lib.hid hk
    clear hk
    go_enter Try.func16, Try.ntmps16
    go_wp2_with (go_at_call 47; refine (ones_no _ _ _ H.out).mono ?_; rintro e w2 ⟨rfl, hb2⟩)
    go_ret
    exact ⟨ret_int (fOnes_no H.out).symm, hb2⟩
theorem sign_prog' (x h : Nat) (hh : h ≤ 63) : wrap64 (IntKind.u64.wrap ((x : Int) * 2 ^ (63 - h))) / 2 ^ (63 - h) = fSign x h := by
  unfold wrap64; exact sign_prog x h hh
set_option maxHeartbeats 400000 in
theorem sign_any (x hi : Int) (w : World) (hx : U64 x) :
    Calls Try.prog 20 #[.int .u64 x, .int .i64 hi] w fun e w' => e = .returned (.int .i64 (fSign x hi)) ∧ w = w' := by
  by_cases hk : 0 ≤ hi ∧ hi ≤ 63
  · obtain ⟨x, rfl, hx'⟩ := u64_nat hx
    obtain ⟨h, rfl⟩ := Int.eq_ofNat_of_zero_le hk.1
    have h2 : h ≤ 63 := by omega
    clear hk hx hx'
    go_enter Try.func20, Try.ntmps20
    go_wp2
    go_ret
    exact ⟨ret_int (sign_prog' x h h2), rfl⟩
  · have e : fSign x hi = 0 := by unfold fSign; rw [if_neg hk]
    rw [e]
    by_cases h1 : hi < 0
    · clear hk e
      go_enter Try.func20, Try.ntmps20
      go_wp2
      go_ret
      exact ⟨rfl, rfl⟩
    · have h2 : 63 < hi := by omega
      clear hk e
      go_enter Try.func20, Try.ntmps20
      go_wp2
      go_ret
      exact ⟨rfl, rfl⟩
theorem fFits_no {v hi lo : Int} (h : ¬ (0 ≤ lo ∧ lo ≤ hi ∧ hi ≤ 63)) : fFits v hi lo = false := by
  have : fOk hi lo = false := by rw [← Bool.not_eq_true, fOk_iff]; exact h
  simp [fFits, this]
theorem fFits_nat (v h l : Nat) (h1 : l ≤ h) (h2 : h ≤ 63) : fFits v h l = decide (v < 2 ^ (h - l + 1)) := by
  have : fOk h l = true := (fOk_nat h l).2 ⟨h1, h2⟩
  simp only [fFits, this, Bool.true_and, Int.toNat_natCast, decide_eq_decide]
  have : (2 : Int) ^ (h - l + 1) = ((2 ^ (h - l + 1) : Nat) : Int) := by simp only [Int.natCast_pow, Int.cast_ofNat_Int]
  rw [this]; omega
theorem fits_bool (h l v : Nat) (hlh : l ≤ h) (hh : h ≤ 63) :
    (((IntKind.u64.wrap ((v : Int) * 2 ^ l) / 2 ^ l == (v : Int)) && (bits .andNot .u64 (IntKind.u64.wrap ((v : Int) * 2 ^ l)) (nOnes h l) == 0)) : Bool) = fFits v h l := by
  rw [fFits_nat v h l hlh hh]
  have e : IntKind.u64.wrap ((v : Int) * 2 ^ l) = ((v * 2 ^ l % 18446744073709551616 : Nat) : Int) := by
    rw [IntKind.wrap_u64]; simp only [Int.natCast_emod, Int.natCast_mul, Int.natCast_pow, Int.cast_ofNat_Int]
  have e2 : (2 : Int) ^ l = ((2 ^ l : Nat) : Int) := by simp only [Int.natCast_pow, Int.cast_ofNat_Int]
  rw [e, u64_andNot_nat _ _ (Nat.mod_lt _ (by omega)) (ones_lt h l hlh hh), e2, ← Int.natCast_ediv]
  have := fits_prog h l v hlh hh
  rw [Bool.eq_iff_iff]
  simp only [Bool.and_eq_true, beq_iff_eq, decide_eq_true_eq]
  rw [← this]
  omega
set_option maxHeartbeats 400000 in
theorem fits_any (v hi lo : Int) (w : World) (hv : U64 v) :
    Calls Try.prog 18 #[.int .u64 v, .int .i64 hi, .int .i64 lo] w fun e w' => e = .returned (.bool (fFits v hi lo)) ∧ Below w.heap.size w w' := by
  by_cases hk : 0 ≤ lo ∧ lo ≤ hi ∧ hi ≤ 63
  · obtain ⟨h, l, rfl, rfl, h1, h2⟩ := nat_of_ok hk
    obtain ⟨v, rfl, hv'⟩ := u64_nat hv
    clear hk hv hv'
    have HF := Lib.hid (fits_bool h l v h1 h2)
    by_cases hq : (IntKind.u64.wrap ((v : Int) * 2 ^ l) / 2 ^ l == (v : Int)) = true
    · go_enter Try.func18, Try.ntmps18
      go_wp2_with (first
        | (go_at_call 46; refine (there_yes _ _ _ (by omega) (by omega) (by omega)).mono ?_; rintro e w1 ⟨rfl, hb⟩; obtain ⟨hc, hf⟩ := bcell hb)
        | (go_at_call 47; refine (ones_yes h l _ h1 h2).mono ?_; rintro e w2 ⟨rfl, hb2⟩))
      go_ret
      refine ⟨?_, (((Below.refl _ _).alloc (Nat.le_refl _) _).trans (hb.mono (by simp))).trans (hb2.mono (by have := hb.size; simp at this; omega))⟩
      rw [← HF.out, hq]; simp
    · have hq' : (IntKind.u64.wrap ((v : Int) * 2 ^ l) / 2 ^ l == (v : Int)) = false := by simpa using hq
      clear hq
      go_enter Try.func18, Try.ntmps18
      go_wp2_with (first
        | (go_at_call 46; refine (there_yes _ _ _ (by omega) (by omega) (by omega)).mono ?_; rintro e w1 ⟨rfl, hb⟩; obtain ⟨hc, hf⟩ := bcell hb)
        | (go_at_call 47; refine (ones_yes h l _ h1 h2).mono ?_; rintro e w2 ⟨rfl, hb2⟩))
      go_ret
      refine ⟨?_, (((Below.refl _ _).alloc (Nat.le_refl _) _).trans (hb.mono (by simp)))⟩
      rw [← HF.out, hq']; simp
  · have H := Lib.hid hk
    have e := Lib.hid (fFits_no (v := v) hk)
    clear hk
    go_enter Try.func18, Try.ntmps18
    go_wp2_with (go_at_call 46; refine (there_no _ _ _ H.out).mono ?_; rintro e w1 ⟨rfl, hb⟩; obtain ⟨hc, hf⟩ := bcell hb)
    go_ret
    exact ⟨by rw [e.out]; rfl, ((Below.refl _ _).alloc (Nat.le_refl _) _).trans (hb.mono (by simp))⟩
theorem put_val (x h l v : Nat) (hx : x < 18446744073709551616) (hlh : l ≤ h) (hh : h ≤ 63) (hv : v < 2 ^ (h - l + 1)) :
    bits .or .u64 (bits .andNot .u64 (x : Int) (nOnes h l)) (IntKind.u64.wrap ((v : Int) * 2 ^ l)) = fPut x h l v := by
  have e : IntKind.u64.wrap ((v : Int) * 2 ^ l) = ((v * 2 ^ l % 18446744073709551616 : Nat) : Int) := by
    rw [IntKind.wrap_u64]; simp only [Int.natCast_emod, Int.natCast_mul, Int.natCast_pow, Int.cast_ofNat_Int]
  rw [e, u64_andNot_nat _ _ hx (ones_lt h l hlh hh), u64_or_nat _ _ (Nat.lt_of_le_of_lt Nat.and_le_left hx) (Nat.mod_lt _ (by omega)), put_prog x h l v hx hlh hh hv]
  rfl
theorem shl_amt (l : Nat) (h : l ≤ 63) : min (IntKind.u64.wrap (l : Int)).toNat 64 = l := by
  rw [IntKind.wrap_u64]; omega
set_option maxHeartbeats 400000 in
theorem sput_any (x h l v : Nat) (w : World) (hx : x < 18446744073709551616) (h1 : l ≤ h) (h2 : h ≤ 63) (hv : v < 2 ^ (h - l + 1)) :
    Calls Try.prog 44 #[.agg #[.int .i64 h, .int .i64 l], .int .u64 x, .int .u64 v] w fun e w' => e = .returned (.int .u64 (fPut x h l v)) ∧ Below w.heap.size w w' := by
  have HP := Lib.hid (put_val x h l v hx h1 h2 hv)
  clear hx hv
  go_enter Try.func44, Try.ntmps44
  go_wp2
  go_region_held3 (fun w' => w'.cell? ⟨w.heap.size, 0, none⟩ = some (.int .i64 h) ∧ w'.cell? ⟨w.heap.size, 1, none⟩ = some (.int .i64 l)) (go_keep)
    (first | (go_at_call 47; refine (ones_yes h l _ h1 h2).mono ?_; rintro e w2 ⟨rfl, hb2⟩; obtain ⟨hc, hf⟩ := bcell hb2))
  go_wp2
  go_ret
  refine ⟨ret_int ?_, bthen (bd (ba (Below.refl _ _) _)) hb2⟩
  rw [shl_amt l (by omega)]
  exact HP.out
theorem fPut_ok {v hi lo : Int} (h : fFits v hi lo = true) : (0 ≤ lo ∧ lo ≤ hi ∧ hi ≤ 63) ∧ v < 2 ^ (hi.toNat - lo.toNat + 1) := by
  simpa [fFits, fOk_iff] using h
set_option maxHeartbeats 400000 in
theorem put_yes (x hi lo v : Int) (w : World) (hx : U64 x) (hv : U64 v) (hft : fFits v hi lo = true) :
    Calls Try.prog 12 #[.int .u64 x, .int .i64 hi, .int .i64 lo, .int .u64 v] w fun e w' => e = .returned (.tuple #[.int .u64 (fPut x hi lo v), .int .i64 0]) ∧ Below w.heap.size w w' := by
  obtain ⟨hk, hlt⟩ := fPut_ok hft
  have HF := Lib.hid hft
  clear hft
  obtain ⟨h, l, rfl, rfl, h1, h2⟩ := nat_of_ok hk
  obtain ⟨x, rfl, hx'⟩ := u64_nat hx
  have hv2 := hv
  obtain ⟨v, rfl, hv'⟩ := u64_nat hv
  have hlt' : v < 2 ^ (h - l + 1) := by
    simp only [Int.toNat_natCast] at hlt
    have e : (2 : Int) ^ (h - l + 1) = ((2 ^ (h - l + 1) : Nat) : Int) := by simp only [Int.natCast_pow, Int.cast_ofNat_Int]
    rw [e] at hlt; omega
  have HX := Lib.hid hx'
  have HL := Lib.hid hlt'
  have HV := Lib.hid hv2
  clear hk hx hv hv2 hx' hv' hlt hlt'
  go_enter Try.func12, Try.ntmps12
  go_wp2_with (first
    | (go_at_call 18; refine (fits_any _ _ _ _ HV.out).mono ?_; rintro e w1 ⟨rfl, hb⟩; rw [HF.out])
    | (go_at_call 44; refine (sput_any x h l v _ HX.out h1 h2 HL.out).mono ?_; rintro e w2 ⟨rfl, hb2⟩))
  go_ret2
  exact ⟨rfl, hb.trans (hb2.mono hb.size)⟩
set_option maxHeartbeats 400000 in
theorem put_no (x hi lo v : Int) (w : World) (hv : U64 v) (hft : fFits v hi lo = false) :
    Calls Try.prog 12 #[.int .u64 x, .int .i64 hi, .int .i64 lo, .int .u64 v] w fun e w' => e = .returned (.tuple #[.int .u64 x, .int .i64 2]) ∧ Below w.heap.size w w' := by
  have HF := Lib.hid hft
  clear hft
  go_enter Try.func12, Try.ntmps12
  go_wp2_with (go_at_call 18; refine (fits_any _ _ _ _ hv).mono ?_; rintro e w1 ⟨rfl, hb⟩; rw [HF.out])
  go_ret2
  exact ⟨rfl, hb⟩
end Go.Proofs.Ytiaebfccgolbgaa
