/-
  Every call of a pool, whatever its argument.
-/
import Derived.Test.YtokmcelmodoeoaaDoorFrCopy
namespace Go.Proofs.YtokmcelmodoeoaaDoor
open Go.RowKit
set_option linter.unusedVariables false
set_option linter.unusedSimpArgs false
theorem gcopy (p n : Nat) (ct : Nat → Int) (w : World) (h : Good w p n ct) : Calls Tryd.prog 18 #[.pointer (some ⟨p, 0, none⟩)] w fun e w' => e = .returned (.pointer (some ⟨w.heap.size, 0, none⟩)) ∧ Good w' w.heap.size n ct ∧ Below w.heap.size w w' := by
  refine (pcopy_any p n ct _ w h.pool).mono ?_
  rintro e w' ⟨he, hP, hb⟩
  exact ⟨he, ⟨hP, h.n1, h.n64, h.bd⟩, hb⟩
theorem tkC_zero {n : Nat} {ct : Nat → Int} {f l : Int} (h : tkC n ct f l = 0) : l ≤ f ∧ f < n ∧ ct f.toNat ≠ 0 := by
  unfold tkC at h
  split at h
  · omega
  · split at h
    · omega
    · rename_i a b
      exact ⟨by omega, by omega, b⟩
theorem tkC_cases (n : Nat) (ct : Nat → Int) (f l : Int) : tkC n ct f l = 0 ∨ tkC n ct f l = 2 ∨ tkC n ct f l = 4 := by
  unfold tkC
  split
  · simp
  · split <;> simp
theorem gcount_no (p n : Nat) (f : Int) (ct : Nat → Int) (w : World) (h : Good w p n ct) (hc : tkC n ct f 0 ≠ 0) : Calls Tryd.prog 12 #[.pointer (some ⟨p, 0, none⟩), .int .i64 f] w fun e w' => e = .returned (.int .i64 0) ∧ w = w' := by
  have HT := gtaken p n ct f 0 w h (by omega)
  clear h
  rcases tkC_cases n ct f 0 with h | h | h
  · exact absurd h hc
  all_goals
    rw [h] at HT
    clear h hc
    have HT := Lib.hid HT
    go_enter Tryd.func12, Tryd.ntmps12
    go_wp2_with fail
    refine HT.out.mono ?_
    rintro e w1 ⟨rfl, rfl⟩
    go_wp2_with fail
    go_ret
    exact ⟨rfl, rfl⟩
theorem gdrop_no (p n : Nat) (f c : Int) (ct : Nat → Int) (w : World) (h : Good w p n ct) (hc : tkC n ct f 1 = c) (h0 : c ≠ 0) : Calls Tryd.prog 11 #[.pointer (some ⟨p, 0, none⟩), .int .i64 f] w fun e w' => e = .returned (.tuple #[.bool false, .int .i64 c]) ∧ w = w' := by
  have HT := gtaken p n ct f 1 w h (by omega)
  clear h
  subst hc
  rcases tkC_cases n ct f 1 with h | h | h
  · exact absurd h h0
  all_goals
    rw [h] at HT ⊢
    clear h h0
    have HT := Lib.hid HT
    go_enter Tryd.func11, Tryd.ntmps11
    go_wp2_with fail
    refine HT.out.mono ?_
    rintro e w1 ⟨rfl, rfl⟩
    go_wp2_with fail
    go_ret2
    exact ⟨rfl, rfl⟩
theorem gshare_no (p n : Nat) (f c : Int) (ct : Nat → Int) (w : World) (h : Good w p n ct) (hc : tkC n ct f 0 = c) (h0 : c ≠ 0) : Calls Tryd.prog 10 #[.pointer (some ⟨p, 0, none⟩), .int .i64 f] w fun e w' => e = .returned (.int .i64 c) ∧ w = w' := by
  have HT := gtaken p n ct f 0 w h (by omega)
  clear h
  subst hc
  rcases tkC_cases n ct f 0 with h | h | h
  · exact absurd h h0
  all_goals
    rw [h] at HT ⊢
    clear h h0
    have HT := Lib.hid HT
    go_enter Tryd.func10, Tryd.ntmps10
    go_wp2_with fail
    refine HT.out.mono ?_
    rintro e w1 ⟨rfl, rfl⟩
    go_wp2_with fail
    go_ret
    exact ⟨rfl, rfl⟩
/-- What Count answers. -/
def cntC (n : Nat) (ct : Nat → Int) (f : Int) : Int := if 0 ≤ f ∧ f < n then ct f.toNat else 0
theorem gcount_any (p n : Nat) (f : Int) (ct : Nat → Int) (w : World) (h : Good w p n ct) : Calls Tryd.prog 12 #[.pointer (some ⟨p, 0, none⟩), .int .i64 f] w fun e w' => e = .returned (.int .i64 (cntC n ct f)) ∧ w = w' := by
  unfold cntC
  by_cases hf : 0 ≤ f ∧ f < n
  · rw [if_pos hf]
    obtain ⟨k, rfl⟩ := Int.eq_ofNat_of_zero_le hf.1
    exact gcount p n k ct w h (by omega)
  · rw [if_neg hf]
    exact gcount_no p n f ct w h (by unfold tkC; rw [if_pos (by omega)]; omega)
/-- The counts behind a Drop. -/
def drC (n : Nat) (ct : Nat → Int) (f : Int) : Nat → Int := if tkC n ct f 1 = 0 then upd ct f.toNat (ct f.toNat - 1) else ct
/-- Whether a Drop tells that a frame is free now. -/
def drF (n : Nat) (ct : Nat → Int) (f : Int) : Bool := decide (tkC n ct f 1 = 0) && decide (ct f.toNat = 1)
theorem gdrop_any (p n : Nat) (f : Int) (ct : Nat → Int) (w : World) (h : Good w p n ct) : Calls Tryd.prog 11 #[.pointer (some ⟨p, 0, none⟩), .int .i64 f] w fun e w' => e = .returned (.tuple #[.bool (drF n ct f), .int .i64 (tkC n ct f 1)]) ∧ Good w' p n (drC n ct f) ∧ Keeps (fun y => y = p) w w' := by
  by_cases hc : tkC n ct f 1 = 0
  · obtain ⟨h1, h2, h3⟩ := tkC_zero hc
    obtain ⟨k, rfl⟩ := Int.eq_ofNat_of_zero_le (show 0 ≤ f by omega)
    have hb := h.bd k
    rw [Int.toNat_natCast] at h3
    unfold drF drC
    rw [hc, Int.toNat_natCast]
    by_cases h4 : ct k = 1
    · rw [h4]
      exact gdrop_last p n k ct w h (by omega) (by omega) h4
    · have e : (decide ((0 : Int) = 0) && decide (ct k = 1)) = false := by simp [h4]
      rw [e]
      exact gdrop_some p n k ct w h (by omega) (by omega) (by omega)
  · refine (gdrop_no p n f _ ct w h rfl hc).mono ?_
    rintro e w' ⟨he, rfl⟩
    unfold drF drC
    rw [if_neg hc, he]
    refine ⟨by simp [hc], h, Keeps.refl _ _⟩
end Go.Proofs.YtokmcelmodoeoaaDoor
