/-
  The walks of the reference of layer 5: what hits.
-/
import Derived.Test.YtencifnopfianaaInvalWalks
import Derived.Deep.QuietTactic
import Derived.BigQuiet
import Derived.Deep.Draws
namespace Go.Proofs.Ytencifnopfianaa
open Go.RowKit
set_option linter.unusedVariables false
set_option linter.unusedSimpArgs false

set_option maxHeartbeats 1000000 in
theorem rmay_any (k a p : Int) (w : World) :
    Calls Try.prog 38 #[.agg #[.int .i8 k, .int .i64 a, .int .u64 p]] w fun e w' => e = .returned (.bool (mayB k a p)) ∧ Below w.heap.size w w' := by
  go_enter Try.func38, Try.ntmps38
  go_wp2
  all_goals
    go_ret
    refine ⟨ret_bool (mayB_of ?_), ba (Below.refl _ _) _⟩
    simp at *
    omega
set_option maxHeartbeats 2000000 in
theorem rhits_any (k a p ea ep ef : Int) (ro : Bool) (w : World) :
    Calls Try.prog 12 #[.agg #[.int .i8 k, .int .i64 a, .int .u64 p], .agg #[.int .i64 ea, .int .u64 ep, .int .i64 ef, .bool ro]] w fun e w' => e = .returned (.bool (hitB k a p ea ep)) ∧ Below w.heap.size w w' := by
  have hcases : (mayB k a p = false ∧ hitB k a p ea ep = false) ∨ (mayB k a p = true ∧ (k == 0) = true ∧ hitB k a p ea ep = true) ∨ (mayB k a p = true ∧ (k == 0) = false ∧ (a == ea) = false ∧ hitB k a p ea ep = false) ∨
      (mayB k a p = true ∧ (k == 0) = false ∧ (a == ea) = true ∧ (k == 1) = true ∧ hitB k a p ea ep = true) ∨ (mayB k a p = true ∧ (k == 0) = false ∧ (a == ea) = true ∧ (k == 1) = false ∧ hitB k a p ea ep = (p == ep)) := by
    unfold hitB
    cases mayB k a p <;> cases (k == 0) <;> cases (a == ea) <;> cases (k == 1) <;> simp
  rcases hcases with ⟨hm, hR⟩ | ⟨hm, h0, hR⟩ | ⟨hm, h0, h1, hR⟩ | ⟨hm, h0, h1, h2, hR⟩ | ⟨hm, h0, h1, h2, hR⟩
  all_goals
    have HM := Lib.hid hm
    have HR := Lib.hid hR
    clear hm hR
    go_enter Try.func12, Try.ntmps12
    go_wp2_with (go_at_call 38; refine (rmay_any _ _ _ _).mono ?_; rintro e w1 ⟨rfl, hb1⟩; rw [HM.out]; obtain ⟨hc1, hf1⟩ := bcell hb1)
    go_ret
    exact ⟨ret_bool HR.out.symm, bthen (ba (ba (Below.refl _ _) _) _) hb1⟩
theorem rpre_any (p sl : Int) (w : World) (h1 : 1 ≤ sl) (h3 : sl ≤ 3) :
    Calls Try.prog 55 #[.int .u64 p, .int .i8 sl] w fun e w' => e = .returned (.int .u64 (p / 2 ^ (9 * (3 - sl)).toNat)) ∧ w = w' := by
  go_enter Try.func55, Try.ntmps55
  go_wp2
  go_ret
  exact ⟨rfl, rfl⟩
theorem rpre_q (p sl : Int) (w : World) (h1 : 1 ≤ sl) (h3 : sl ≤ 3) :
    Calls Try.prog 55 #[.int .u64 p, .int .i8 sl] w fun e w' => e = .returned (.int .u64 (p / 2 ^ (9 * (3 - sl)).toNat)) ∧ w' = w :=
  (rpre_any p sl w h1 h3).mono fun e w' ⟨a, b⟩ => ⟨a, b.symm⟩
theorem bdn {B : Nat} {a w : World} (h : Below B a w) (n : Nat) : Below B a (w.drewN n) := ⟨h.os, h.tape, h.output, h.size, h.block⟩
set_option maxHeartbeats 4000000 in
theorem rhitsStep_any (k a p sa sl sp sf : Int) (w : World) :
    Calls Try.prog 56 #[.agg #[.int .i8 k, .int .i64 a, .int .u64 p], .agg #[.int .i64 sa, .int .i8 sl, .int .u64 sp, .int .i64 sf]] w fun e w' => e = .returned (.bool (stepB k a p sa sl sp)) ∧ Below w.heap.size w w' := by
  have hcases : (mayB k a p = false ∧ stepB k a p sa sl sp = false) ∨ (mayB k a p = true ∧ (k == 0) = true ∧ stepB k a p sa sl sp = true) ∨
      (mayB k a p = true ∧ (k == 0) = false ∧ sl < 1 ∧ stepB k a p sa sl sp = false) ∨ (mayB k a p = true ∧ (k == 0) = false ∧ 3 < sl ∧ stepB k a p sa sl sp = false) ∨
      (mayB k a p = true ∧ (k == 0) = false ∧ 1 ≤ sl ∧ sl ≤ 3 ∧ (a == sa) = false ∧ stepB k a p sa sl sp = false) ∨
      (mayB k a p = true ∧ (k == 0) = false ∧ 1 ≤ sl ∧ sl ≤ 3 ∧ (a == sa) = true ∧ (k == 1) = true ∧ stepB k a p sa sl sp = true) ∨
      (mayB k a p = true ∧ (k == 0) = false ∧ 1 ≤ sl ∧ sl ≤ 3 ∧ (a == sa) = true ∧ (k == 1) = false ∧ stepB k a p sa sl sp = (p / 2 ^ (9 * (3 - sl)).toNat == sp)) := by
    unfold stepB
    by_cases hl : 1 ≤ sl
    · by_cases hl' : sl ≤ 3
      · have hd : decide (1 ≤ sl ∧ sl ≤ 3) = true := by simp [hl, hl']
        rw [hd]
        cases mayB k a p <;> cases (k == 0) <;> cases (a == sa) <;> cases (k == 1) <;> simp [hl, hl']
      · have hd : decide (1 ≤ sl ∧ sl ≤ 3) = false := by simp [hl']
        rw [hd]
        have : 3 < sl := by omega
        cases mayB k a p <;> cases (k == 0) <;> simp [this]
    · have hd : decide (1 ≤ sl ∧ sl ≤ 3) = false := by simp [hl]
      rw [hd]
      have : sl < 1 := by omega
      cases mayB k a p <;> cases (k == 0) <;> simp [this]
  rcases hcases with ⟨hm, hR⟩ | ⟨hm, h0, hR⟩ | ⟨hm, h0, h1, hR⟩ | ⟨hm, h0, h1, hR⟩ | ⟨hm, h0, h1, h2, h3, hR⟩ | ⟨hm, h0, h1, h2, h3, h4, hR⟩ | ⟨hm, h0, h1, h2, h3, h4, hR⟩
  · have HM := Lib.hid hm
    have HR := Lib.hid hR
    clear hm hR
    go_enter Try.func56, Try.ntmps56
    go_wp2_with (go_at_call 38; refine (rmay_any _ _ _ _).mono ?_; rintro e w1 ⟨rfl, hb1⟩; rw [HM.out]; obtain ⟨hc1, hf1⟩ := bcell hb1
                 have q0 : w1.cell? ⟨w.heap.size, 0, none⟩ = some (.int .i8 k) := by (rw [hc1 _ _ (by simp <;> omega)]; simp [go_sem])
                 have q1 : w1.cell? ⟨w.heap.size, 1, none⟩ = some (.int .i64 a) := by (rw [hc1 _ _ (by simp <;> omega)]; simp [go_sem])
                 have q2 : w1.cell? ⟨w.heap.size, 2, none⟩ = some (.int .u64 p) := by (rw [hc1 _ _ (by simp <;> omega)]; simp [go_sem])
                 have r0 : w1.cell? ⟨w.heap.size + 1, 0, none⟩ = some (.int .i64 sa) := by (rw [hc1 _ _ (by simp <;> omega)]; simp [go_sem])
                 have r1 : w1.cell? ⟨w.heap.size + 1, 1, none⟩ = some (.int .i8 sl) := by (rw [hc1 _ _ (by simp <;> omega)]; simp [go_sem])
                 have r2 : w1.cell? ⟨w.heap.size + 1, 2, none⟩ = some (.int .u64 sp) := by (rw [hc1 _ _ (by simp <;> omega)]; simp [go_sem])
                 clear hc1 hf1)
    go_ret
    exact ⟨ret_bool HR.out.symm, bthen (ba (ba (Below.refl _ _) _) _) hb1⟩
  · have HM := Lib.hid hm
    have HR := Lib.hid hR
    clear hm hR
    go_enter Try.func56, Try.ntmps56
    go_wp2_with (go_at_call 38; refine (rmay_any _ _ _ _).mono ?_; rintro e w1 ⟨rfl, hb1⟩; rw [HM.out]; obtain ⟨hc1, hf1⟩ := bcell hb1
                 have q0 : w1.cell? ⟨w.heap.size, 0, none⟩ = some (.int .i8 k) := by (rw [hc1 _ _ (by simp <;> omega)]; simp [go_sem])
                 have q1 : w1.cell? ⟨w.heap.size, 1, none⟩ = some (.int .i64 a) := by (rw [hc1 _ _ (by simp <;> omega)]; simp [go_sem])
                 have q2 : w1.cell? ⟨w.heap.size, 2, none⟩ = some (.int .u64 p) := by (rw [hc1 _ _ (by simp <;> omega)]; simp [go_sem])
                 have r0 : w1.cell? ⟨w.heap.size + 1, 0, none⟩ = some (.int .i64 sa) := by (rw [hc1 _ _ (by simp <;> omega)]; simp [go_sem])
                 have r1 : w1.cell? ⟨w.heap.size + 1, 1, none⟩ = some (.int .i8 sl) := by (rw [hc1 _ _ (by simp <;> omega)]; simp [go_sem])
                 have r2 : w1.cell? ⟨w.heap.size + 1, 2, none⟩ = some (.int .u64 sp) := by (rw [hc1 _ _ (by simp <;> omega)]; simp [go_sem])
                 clear hc1 hf1)
    go_ret
    exact ⟨ret_bool HR.out.symm, bthen (ba (ba (Below.refl _ _) _) _) hb1⟩
  · have e1 : decide (1 ≤ sl) = false := by simp; omega
    have HM := Lib.hid hm
    have HR := Lib.hid hR
    clear hm hR
    go_enter Try.func56, Try.ntmps56
    go_wp2_with (go_at_call 38; refine (rmay_any _ _ _ _).mono ?_; rintro e w1 ⟨rfl, hb1⟩; rw [HM.out]; obtain ⟨hc1, hf1⟩ := bcell hb1
                 have q0 : w1.cell? ⟨w.heap.size, 0, none⟩ = some (.int .i8 k) := by (rw [hc1 _ _ (by simp <;> omega)]; simp [go_sem])
                 have q1 : w1.cell? ⟨w.heap.size, 1, none⟩ = some (.int .i64 a) := by (rw [hc1 _ _ (by simp <;> omega)]; simp [go_sem])
                 have q2 : w1.cell? ⟨w.heap.size, 2, none⟩ = some (.int .u64 p) := by (rw [hc1 _ _ (by simp <;> omega)]; simp [go_sem])
                 have r0 : w1.cell? ⟨w.heap.size + 1, 0, none⟩ = some (.int .i64 sa) := by (rw [hc1 _ _ (by simp <;> omega)]; simp [go_sem])
                 have r1 : w1.cell? ⟨w.heap.size + 1, 1, none⟩ = some (.int .i8 sl) := by (rw [hc1 _ _ (by simp <;> omega)]; simp [go_sem])
                 have r2 : w1.cell? ⟨w.heap.size + 1, 2, none⟩ = some (.int .u64 sp) := by (rw [hc1 _ _ (by simp <;> omega)]; simp [go_sem])
                 clear hc1 hf1)
    go_quiet ((go_at_call 55; exact Calls.quiet_of_same (rpre_q _ _ _ (by omega) (by omega))))
    go_wp2
    go_ret
    exact ⟨ret_bool HR.out.symm, bthen (ba (ba (Below.refl _ _) _) _) (bdn hb1 _)⟩
  · have e1 : decide (1 ≤ sl) = true := by simp; omega
    have e2 : decide (sl ≤ 3) = false := by simp; omega
    have HM := Lib.hid hm
    have HR := Lib.hid hR
    clear hm hR
    go_enter Try.func56, Try.ntmps56
    go_wp2_with (go_at_call 38; refine (rmay_any _ _ _ _).mono ?_; rintro e w1 ⟨rfl, hb1⟩; rw [HM.out]; obtain ⟨hc1, hf1⟩ := bcell hb1
                 have q0 : w1.cell? ⟨w.heap.size, 0, none⟩ = some (.int .i8 k) := by (rw [hc1 _ _ (by simp <;> omega)]; simp [go_sem])
                 have q1 : w1.cell? ⟨w.heap.size, 1, none⟩ = some (.int .i64 a) := by (rw [hc1 _ _ (by simp <;> omega)]; simp [go_sem])
                 have q2 : w1.cell? ⟨w.heap.size, 2, none⟩ = some (.int .u64 p) := by (rw [hc1 _ _ (by simp <;> omega)]; simp [go_sem])
                 have r0 : w1.cell? ⟨w.heap.size + 1, 0, none⟩ = some (.int .i64 sa) := by (rw [hc1 _ _ (by simp <;> omega)]; simp [go_sem])
                 have r1 : w1.cell? ⟨w.heap.size + 1, 1, none⟩ = some (.int .i8 sl) := by (rw [hc1 _ _ (by simp <;> omega)]; simp [go_sem])
                 have r2 : w1.cell? ⟨w.heap.size + 1, 2, none⟩ = some (.int .u64 sp) := by (rw [hc1 _ _ (by simp <;> omega)]; simp [go_sem])
                 clear hc1 hf1)
    go_quiet ((go_at_call 55; exact Calls.quiet_of_same (rpre_q _ _ _ (by omega) (by omega))))
    go_wp2
    go_ret
    exact ⟨ret_bool HR.out.symm, bthen (ba (ba (Below.refl _ _) _) _) (bdn hb1 _)⟩
  · have e1 : decide (1 ≤ sl) = true := by simp; omega
    have e2 : decide (sl ≤ 3) = true := by simp; omega
    have HM := Lib.hid hm
    have HR := Lib.hid hR
    clear hm hR
    go_enter Try.func56, Try.ntmps56
    go_wp2_with (go_at_call 38; refine (rmay_any _ _ _ _).mono ?_; rintro e w1 ⟨rfl, hb1⟩; rw [HM.out]; obtain ⟨hc1, hf1⟩ := bcell hb1
                 have q0 : w1.cell? ⟨w.heap.size, 0, none⟩ = some (.int .i8 k) := by (rw [hc1 _ _ (by simp <;> omega)]; simp [go_sem])
                 have q1 : w1.cell? ⟨w.heap.size, 1, none⟩ = some (.int .i64 a) := by (rw [hc1 _ _ (by simp <;> omega)]; simp [go_sem])
                 have q2 : w1.cell? ⟨w.heap.size, 2, none⟩ = some (.int .u64 p) := by (rw [hc1 _ _ (by simp <;> omega)]; simp [go_sem])
                 have r0 : w1.cell? ⟨w.heap.size + 1, 0, none⟩ = some (.int .i64 sa) := by (rw [hc1 _ _ (by simp <;> omega)]; simp [go_sem])
                 have r1 : w1.cell? ⟨w.heap.size + 1, 1, none⟩ = some (.int .i8 sl) := by (rw [hc1 _ _ (by simp <;> omega)]; simp [go_sem])
                 have r2 : w1.cell? ⟨w.heap.size + 1, 2, none⟩ = some (.int .u64 sp) := by (rw [hc1 _ _ (by simp <;> omega)]; simp [go_sem])
                 clear hc1 hf1)
    go_quiet ((go_at_call 55; exact Calls.quiet_of_same (rpre_q _ _ _ (by omega) (by omega))))
    go_wp2
    go_ret
    exact ⟨ret_bool HR.out.symm, bthen (ba (ba (Below.refl _ _) _) _) (bdn hb1 _)⟩
  · have e1 : decide (1 ≤ sl) = true := by simp; omega
    have e2 : decide (sl ≤ 3) = true := by simp; omega
    have HM := Lib.hid hm
    have HR := Lib.hid hR
    clear hm hR
    go_enter Try.func56, Try.ntmps56
    go_wp2_with (go_at_call 38; refine (rmay_any _ _ _ _).mono ?_; rintro e w1 ⟨rfl, hb1⟩; rw [HM.out]; obtain ⟨hc1, hf1⟩ := bcell hb1
                 have q0 : w1.cell? ⟨w.heap.size, 0, none⟩ = some (.int .i8 k) := by (rw [hc1 _ _ (by simp <;> omega)]; simp [go_sem])
                 have q1 : w1.cell? ⟨w.heap.size, 1, none⟩ = some (.int .i64 a) := by (rw [hc1 _ _ (by simp <;> omega)]; simp [go_sem])
                 have q2 : w1.cell? ⟨w.heap.size, 2, none⟩ = some (.int .u64 p) := by (rw [hc1 _ _ (by simp <;> omega)]; simp [go_sem])
                 have r0 : w1.cell? ⟨w.heap.size + 1, 0, none⟩ = some (.int .i64 sa) := by (rw [hc1 _ _ (by simp <;> omega)]; simp [go_sem])
                 have r1 : w1.cell? ⟨w.heap.size + 1, 1, none⟩ = some (.int .i8 sl) := by (rw [hc1 _ _ (by simp <;> omega)]; simp [go_sem])
                 have r2 : w1.cell? ⟨w.heap.size + 1, 2, none⟩ = some (.int .u64 sp) := by (rw [hc1 _ _ (by simp <;> omega)]; simp [go_sem])
                 clear hc1 hf1)
    go_quiet ((go_at_call 55; exact Calls.quiet_of_same (rpre_q _ _ _ (by omega) (by omega))))
    go_wp2
    go_ret
    exact ⟨ret_bool HR.out.symm, bthen (ba (ba (Below.refl _ _) _) _) (bdn hb1 _)⟩
  · have e1 : decide (1 ≤ sl) = true := by simp; omega
    have e2 : decide (sl ≤ 3) = true := by simp; omega
    have HM := Lib.hid hm
    have HR := Lib.hid hR
    clear hm hR
    go_enter Try.func56, Try.ntmps56
    go_wp2_with (go_at_call 38; refine (rmay_any _ _ _ _).mono ?_; rintro e w1 ⟨rfl, hb1⟩; rw [HM.out]; obtain ⟨hc1, hf1⟩ := bcell hb1
                 have q0 : w1.cell? ⟨w.heap.size, 0, none⟩ = some (.int .i8 k) := by (rw [hc1 _ _ (by simp <;> omega)]; simp [go_sem])
                 have q1 : w1.cell? ⟨w.heap.size, 1, none⟩ = some (.int .i64 a) := by (rw [hc1 _ _ (by simp <;> omega)]; simp [go_sem])
                 have q2 : w1.cell? ⟨w.heap.size, 2, none⟩ = some (.int .u64 p) := by (rw [hc1 _ _ (by simp <;> omega)]; simp [go_sem])
                 have r0 : w1.cell? ⟨w.heap.size + 1, 0, none⟩ = some (.int .i64 sa) := by (rw [hc1 _ _ (by simp <;> omega)]; simp [go_sem])
                 have r1 : w1.cell? ⟨w.heap.size + 1, 1, none⟩ = some (.int .i8 sl) := by (rw [hc1 _ _ (by simp <;> omega)]; simp [go_sem])
                 have r2 : w1.cell? ⟨w.heap.size + 1, 2, none⟩ = some (.int .u64 sp) := by (rw [hc1 _ _ (by simp <;> omega)]; simp [go_sem])
                 clear hc1 hf1)
    go_quiet ((go_at_call 55; exact Calls.quiet_of_same (rpre_q _ _ _ (by omega) (by omega))))
    go_wp2
    go_ret
    exact ⟨ret_bool HR.out.symm, bthen (ba (ba (Below.refl _ _) _) _) (bdn hb1 _)⟩
end Go.Proofs.Ytencifnopfianaa
