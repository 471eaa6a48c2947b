/-
  The walks of field.Get and of the reference's Get.
-/
import Derived.Test.YtappjiljmpgjcaaDoorCommon
import Derived.Test.YtappjiljmpgjcaaDoorBits
namespace Go.Proofs.YtappjiljmpgjcaaDoor
open Go.RowKit
set_option linter.unusedVariables false

set_option maxHeartbeats 400000 in
theorem there_yes (hi lo : Int) (w : World) (h0 : 0 ≤ lo) (h1 : lo ≤ hi) (h2 : hi ≤ 63) :
    Calls Tryd.prog 42 #[.agg #[.int .i64 hi, .int .i64 lo]] w fun e w' => e = .returned (.bool true) ∧ Below w.heap.size w w' := by
  go_enter Tryd.func42, Tryd.ntmps42
  go_wp2
  go_ret
  exact ⟨rfl, (Below.refl _ _).alloc (Nat.le_refl _) _⟩
set_option maxHeartbeats 400000 in
theorem there_no (hi lo : Int) (w : World) (h : ¬ (0 ≤ lo ∧ lo ≤ hi ∧ hi ≤ 63)) :
    Calls Tryd.prog 42 #[.agg #[.int .i64 hi, .int .i64 lo]] w fun e w' => e = .returned (.bool false) ∧ Below w.heap.size w w' := by
  by_cases h0 : lo < 0
  · go_enter Tryd.func42, Tryd.ntmps42
    go_wp2
    go_ret
    exact ⟨rfl, (Below.refl _ _).alloc (Nat.le_refl _) _⟩
  · by_cases h1 : hi < lo
    · clear h
      go_enter Tryd.func42, Tryd.ntmps42
      go_wp2
      go_ret
      exact ⟨rfl, (Below.refl _ _).alloc (Nat.le_refl _) _⟩
    · have h2 : 63 < hi := by omega
      clear h
      go_enter Tryd.func42, Tryd.ntmps42
      go_wp2
      go_ret
      exact ⟨rfl, (Below.refl _ _).alloc (Nat.le_refl _) _⟩
set_option maxHeartbeats 400000 in
theorem ones_yes (h l : Nat) (w : World) (h1 : l ≤ h) (h2 : h ≤ 63) :
    Calls Tryd.prog 43 #[.agg #[.int .i64 h, .int .i64 l]] w fun e w' => e = .returned (.int .u64 (nOnes h l)) ∧ Below w.heap.size w w' := by
  go_enter Tryd.func43, Tryd.ntmps43
  go_wp2_with (go_at_call 42; refine (there_yes _ _ _ (by omega) (by omega) (by omega)).mono ?_; rintro e w1 ⟨rfl, hb⟩; obtain ⟨hc, hf⟩ := bcell hb)
  go_ret
  refine ⟨ret_int ?_, ((Below.refl _ _).alloc (Nat.le_refl _) _).trans (hb.mono (by simp))⟩
  exact ones_progI h l h1 h2
set_option maxHeartbeats 400000 in
theorem ones_no (hi lo : Int) (w : World) (h : ¬ (0 ≤ lo ∧ lo ≤ hi ∧ hi ≤ 63)) :
    Calls Tryd.prog 43 #[.agg #[.int .i64 hi, .int .i64 lo]] w fun e w' => e = .returned (.int .u64 0) ∧ Below w.heap.size w w' := by
  have H := Lib.hid h
  clear h
  go_enter Tryd.func43, Tryd.ntmps43
  go_wp2_with (go_at_call 42; refine (there_no _ _ _ H.out).mono ?_; rintro e w1 ⟨rfl, hb⟩; obtain ⟨hc, hf⟩ := bcell hb)
  go_ret
  exact ⟨rfl, ((Below.refl _ _).alloc (Nat.le_refl _) _).trans (hb.mono (by simp))⟩
theorem nat_of_ok {hi lo : Int} (h : 0 ≤ lo ∧ lo ≤ hi ∧ hi ≤ 63) : ∃ h' l' : Nat, hi = h' ∧ lo = l' ∧ l' ≤ h' ∧ h' ≤ 63 :=
  ⟨hi.toNat, lo.toNat, by omega, by omega, by omega, by omega⟩
theorem fGet_nat (x h l : Nat) (h1 : l ≤ h) (h2 : h ≤ 63) : fGet x h l = nGet x h l := by
  unfold fGet; rw [if_pos ((fOk_nat h l).2 ⟨h1, h2⟩)]; simp
theorem fOnes_nat (h l : Nat) (h1 : l ≤ h) (h2 : h ≤ 63) : fOnes h l = nOnes h l := by
  unfold fOnes; rw [if_pos ((fOk_nat h l).2 ⟨h1, h2⟩)]; simp
theorem fGet_no {x hi lo : Int} (h : ¬ (0 ≤ lo ∧ lo ≤ hi ∧ hi ≤ 63)) : fGet x hi lo = 0 := by
  unfold fGet; rw [if_neg (by rw [fOk_iff]; exact h)]
theorem fOnes_no {hi lo : Int} (h : ¬ (0 ≤ lo ∧ lo ≤ hi ∧ hi ≤ 63)) : fOnes hi lo = 0 := by
  unfold fOnes; rw [if_neg (by rw [fOk_iff]; exact h)]
set_option maxHeartbeats 400000 in
theorem get_any (x hi lo : Int) (w : World) (hx : U64 x) :
    Calls Tryd.prog 38 #[.int .u64 x, .int .i64 hi, .int .i64 lo] w fun e w' => e = .returned (.int .u64 (fGet x hi lo)) ∧ Below w.heap.size w w' := by
  by_cases hk : 0 ≤ lo ∧ lo ≤ hi ∧ hi ≤ 63
  · obtain ⟨h, l, rfl, rfl, h1, h2⟩ := nat_of_ok hk
    clear hk
    obtain ⟨x, rfl, hx'⟩ := u64_nat hx
    have HX := Lib.hid hx'
    clear hx hx'
    go_enter Tryd.func38, Tryd.ntmps38
    go_wp2_with (first
      | (go_at_call 42; refine (there_yes _ _ _ (by omega) (by omega) (by omega)).mono ?_; rintro e w1 ⟨rfl, hb⟩; obtain ⟨hc, hf⟩ := bcell hb)
      | (go_at_call 43; refine (ones_yes h l _ h1 h2).mono ?_; rintro e w2 ⟨rfl, hb2⟩))
    go_ret
    refine ⟨ret_int ?_, (((Below.refl _ _).alloc (Nat.le_refl _) _).trans (hb.mono (by simp))).trans (hb2.mono ?_)⟩
    · rw [fGet_nat x h l h1 h2, ← get_prog x h l h1, u64_and_nat _ _ HX.out (ones_lt h l h1 h2)]
      norm_cast
    · have := hb.size; simp at this; omega
  · have H := Lib.hid hk
    clear hk
    go_enter Tryd.func38, Tryd.ntmps38
    go_wp2_with (go_at_call 42; refine (there_no _ _ _ H.out).mono ?_; rintro e w1 ⟨rfl, hb⟩; obtain ⟨hc, hf⟩ := bcell hb)
    go_ret
    refine ⟨ret_int (fGet_no H.out).symm, ((Below.refl _ _).alloc (Nat.le_refl _) _).trans (hb.mono (by simp))⟩
/-- A bit. -/
def bitI (x k : Nat) : Int := ((x / 2 ^ k % 2 : Nat) : Int)
theorem bit_val (x k : Nat) (hx : x < 18446744073709551616) : bits .and .u64 ((x : Int) / 2 ^ k) 1 = bitI x k := by
  have e : (x : Int) / 2 ^ k = ((x / 2 ^ k : Nat) : Int) := by simp only [Int.natCast_ediv, Int.natCast_pow, Int.cast_ofNat_Int]
  have := Nat.div_le_self x (2 ^ k)
  rw [e, show (1 : Int) = ((1 : Nat) : Int) from rfl, u64_and_nat _ _ (by omega) (by omega), nat_mask1]
  rfl
theorem fOk_hid {hi lo : Int} (h : fOk hi lo = true) : 0 ≤ lo ∧ lo ≤ hi ∧ hi ≤ 63 := (fOk_iff _ _).1 h
theorem or_val (v b : Nat) (hv : v * 2 < 18446744073709551616) (hb : b < 2) : bits .or .u64 (IntKind.u64.wrap ((v : Int) * 2)) (b : Int) = ((2 * v + b : Nat) : Int) := by
  have e : IntKind.u64.wrap ((v : Int) * 2) = ((v * 2 : Nat) : Int) := by rw [IntKind.wrap_u64]; omega
  rw [e, u64_or_nat _ _ hv (by omega), join_bit v b hb]
/-- What Get's loop has behind j rounds. -/
def getTo (x h j : Nat) : Int := ((x / 2 ^ (h + 1 - j) % 2 ^ j : Nat) : Int)
theorem getTo_succ (x h j : Nat) (hj : j ≤ h) (hh : h ≤ 63) : bits .or .u64 (IntKind.u64.wrap (getTo x h j * 2)) (bitI x (h - j)) = getTo x h (j + 1) := by
  have hvb : x / 2 ^ (h + 1 - j) % 2 ^ j * 2 < 18446744073709551616 := by
    have a := Nat.mod_lt (x / 2 ^ (h + 1 - j)) (pow_pos2 j)
    have b := pow_le64 (k := j + 1) (by omega)
    rw [Nat.pow_succ] at b; omega
  have hbb : x / 2 ^ (h - j) % 2 < 2 := Nat.mod_lt _ (by omega)
  unfold getTo bitI
  rw [or_val _ _ hvb hbb, show h + 1 - (j + 1) = h - j by omega, get_step x h j, show h + 1 - j = h - j + 1 by omega]
theorem getTo_end (x h l : Nat) (h1 : l ≤ h) (h2 : h ≤ 63) : getTo x h (h - l + 1) = fGet x h l := by
  rw [fGet_nat x h l h1 h2]; unfold nGet getTo; rw [show h + 1 - (h - l + 1) = l by omega]
end Go.Proofs.YtappjiljmpgjcaaDoor
