/-
  The walks of the reference of layer 5 and of the laws' own 'wakes'.
-/
import Derived.Test.YtlmfmpmcgokbeaaInvalWalks2
import Derived.Deep.QuietTactic
import Derived.BigQuiet
import Derived.Deep.Draws
namespace Go.Proofs.Ytlmfmpmcgokbeaa
open Go.RowKit
set_option linter.unusedVariables false
set_option linter.unusedSimpArgs false

set_option maxHeartbeats 1000000 in
theorem rmay_any (k a p : Int) (w : World) :
    Calls Try.prog 21 #[.agg #[.int .i8 k, .int .i64 a, .int .u64 p]] w fun e w' => e = .returned (.bool (mayB k a p)) ∧ Below w.heap.size w w' := by
  go_enter Try.func21, Try.ntmps21
  go_wp2
  all_goals
    go_ret
    refine ⟨ret_bool (mayB_of ?_), ba (Below.refl _ _) _⟩
    simp at *
    omega
set_option maxHeartbeats 1000000 in
theorem rencode_yes (k a p : Int) (w : World) (hp : 0 ≤ p) (hm : mayB k a p = true) :
    Calls Try.prog 13 #[.agg #[.int .i8 k, .int .i64 a, .int .u64 p]] w fun e w' => e = .returned (.tuple #[.int .u64 (encV a p), .int .i64 0]) ∧ Below w.heap.size w w' := by
  obtain ⟨h0, h1, h2⟩ := mayB_p hm
  have HM := Lib.hid hm
  have HV := Lib.hid (enc_val a p h0 h1 hp h2)
  clear hm
  go_enter Try.func13, Try.ntmps13
  go_wp2_with (go_at_call 21; refine (rmay_any _ _ _ _).mono ?_; rintro e w1 ⟨rfl, hb1⟩; rw [HM.out]; obtain ⟨hc1, hf1⟩ := bcell hb1)
  go_ret2
  exact ⟨ret_two HV.out, bthen (ba (Below.refl _ _) _) hb1⟩
set_option maxHeartbeats 1000000 in
theorem rencode_no (k a p : Int) (w : World) (hm : mayB k a p = false) :
    Calls Try.prog 13 #[.agg #[.int .i8 k, .int .i64 a, .int .u64 p]] w fun e w' => e = .returned (.tuple #[.int .u64 0, .int .i64 2]) ∧ Below w.heap.size w w' := by
  have HM := Lib.hid hm
  clear hm
  go_enter Try.func13, Try.ntmps13
  go_wp2_with (go_at_call 21; refine (rmay_any _ _ _ _).mono ?_; rintro e w1 ⟨rfl, hb1⟩; rw [HM.out]; obtain ⟨hc1, hf1⟩ := bcell hb1)
  go_ret2
  exact ⟨rfl, bthen (ba (Below.refl _ _) _) hb1⟩
set_option maxHeartbeats 1000000 in
theorem rdecode_yes (k x : Int) (w : World) (hx : U64 x) (hd : decOk k x = true) :
    Calls Try.prog 14 #[.int .i8 k, .int .u64 x] w fun e w' => e = .returned (.tuple #[.agg #[.int .i8 k, .int .i64 (x / 281474976710656), .int .u64 (x % 17592186044416)], .int .i64 0]) ∧ Below w.heap.size w w' := by
  have hd' : mayB k (x / 281474976710656) (x % 17592186044416) = true ∧ encV (x / 281474976710656) (x % 17592186044416) = x := by simpa [decOk] using hd
  have HM := Lib.hid hd'.1
  have HE := Lib.hid hd'.2
  have HA := and44 x hx
  have x0 := hx.1
  have x1 : x ≤ 18446744073709551615 := by have := hx.2; omega
  have hne : (x != x) = false := bne_self_i x
  clear hd hd'
  go_enter Try.func14, Try.ntmps14
  go_wp2_with (go_at_call 13; refine (rencode_yes _ _ _ _ (by omega) HM.out).mono ?_; rintro e w1 ⟨rfl, hb1⟩; rw [HE.out]; obtain ⟨hc1, hf1⟩ := bcell hb1
               have hz : w.heap.size + 1 < w1.heap.size := by (have := hb1.size; simp at this; omega)
               have hy : w.heap.size < w1.heap.size := by omega)
  have q0 : w1.cell? ⟨w.heap.size, 0, none⟩ = some (.int .i8 0) := by rw [hc1 _ _ (by simp <;> omega)]; simp [go_sem]
  have q1 : w1.cell? ⟨w.heap.size, 1, none⟩ = some (.int .i64 0) := by rw [hc1 _ _ (by simp <;> omega)]; simp [go_sem]
  have q2 : w1.cell? ⟨w.heap.size, 2, none⟩ = some (.int .u64 0) := by rw [hc1 _ _ (by simp <;> omega)]; simp [go_sem]
  clear hc1 hf1
  refine bodyPost_ret (v := .tuple #[.agg #[.int .i8 k, .int .i64 (x / 281474976710656), .int .u64 (x % 17592186044416)], .int .i64 0]) (by simp [results, Try.results14, go_sem, q0, q1, q2]) rfl ⟨rfl, ?_⟩
  exact bs (bs (bs (bthen (ba (ba (Below.refl _ _) _) _) hb1) (by simp) _) (by simp) _) (by simp) _
set_option maxHeartbeats 1000000 in
theorem rdecode_no (k x : Int) (w : World) (hx : U64 x) (hd : decOk k x = false) :
    Calls Try.prog 14 #[.int .i8 k, .int .u64 x] w fun e w' => e = .returned (.tuple #[.agg #[.int .i8 0, .int .i64 0, .int .u64 0], .int .i64 2]) ∧ Below w.heap.size w w' := by
  have HA := and44 x hx
  have x0 := hx.1
  have x1 : x ≤ 18446744073709551615 := by have := hx.2; omega
  rcases hm : mayB k (x / 281474976710656) (x % 17592186044416) with _ | _
  · have HM := Lib.hid hm
    clear hd hm
    go_enter Try.func14, Try.ntmps14
    go_wp2_with (go_at_call 13; refine (rencode_no _ _ _ _ HM.out).mono ?_; rintro e w1 ⟨rfl, hb1⟩; obtain ⟨hc1, hf1⟩ := bcell hb1
                 have hz : w.heap.size + 1 < w1.heap.size := by (have := hb1.size; simp at this; omega)
                 have hy : w.heap.size < w1.heap.size := by omega)
    have q0 : w1.cell? ⟨w.heap.size, 0, none⟩ = some (.int .i8 0) := by rw [hc1 _ _ (by simp <;> omega)]; simp [go_sem]
    have q1 : w1.cell? ⟨w.heap.size, 1, none⟩ = some (.int .i64 0) := by rw [hc1 _ _ (by simp <;> omega)]; simp [go_sem]
    have q2 : w1.cell? ⟨w.heap.size, 2, none⟩ = some (.int .u64 0) := by rw [hc1 _ _ (by simp <;> omega)]; simp [go_sem]
    clear hc1 hf1
    refine bodyPost_ret (v := .tuple #[.agg #[.int .i8 0, .int .i64 0, .int .u64 0], .int .i64 2]) (by simp [results, Try.results14, go_sem, q0, q1, q2]) rfl ⟨rfl, ?_⟩
    exact bs (bs (bs (bthen (ba (ba (Below.refl _ _) _) _) hb1) (by simp) _) (by simp) _) (by simp) _
  · have HN := ne_of_dec hm hd
    have HM := Lib.hid hm
    clear hd hm
    go_enter Try.func14, Try.ntmps14
    go_wp2_with (go_at_call 13; refine (rencode_yes _ _ _ _ (by omega) HM.out).mono ?_; rintro e w1 ⟨rfl, hb1⟩; obtain ⟨hc1, hf1⟩ := bcell hb1
                 have hz : w.heap.size + 1 < w1.heap.size := by (have := hb1.size; simp at this; omega)
                 have hy : w.heap.size < w1.heap.size := by omega)
    have q0 : w1.cell? ⟨w.heap.size, 0, none⟩ = some (.int .i8 0) := by rw [hc1 _ _ (by simp <;> omega)]; simp [go_sem]
    have q1 : w1.cell? ⟨w.heap.size, 1, none⟩ = some (.int .i64 0) := by rw [hc1 _ _ (by simp <;> omega)]; simp [go_sem]
    have q2 : w1.cell? ⟨w.heap.size, 2, none⟩ = some (.int .u64 0) := by rw [hc1 _ _ (by simp <;> omega)]; simp [go_sem]
    clear hc1 hf1
    refine bodyPost_ret (v := .tuple #[.agg #[.int .i8 0, .int .i64 0, .int .u64 0], .int .i64 2]) (by simp [results, Try.results14, go_sem, q0, q1, q2]) rfl ⟨rfl, ?_⟩
    exact bs (bs (bs (bthen (ba (ba (Below.refl _ _) _) _) hb1) (by simp) _) (by simp) _) (by simp) _
set_option maxHeartbeats 2000000 in
theorem rhits_any (k a p ea ep ef : Int) (ro : Bool) (w : World) :
    Calls Try.prog 15 #[.agg #[.int .i8 k, .int .i64 a, .int .u64 p], .agg #[.int .i64 ea, .int .u64 ep, .int .i64 ef, .bool ro]] w fun e w' => e = .returned (.bool (hitB k a p ea ep)) ∧ Below w.heap.size w w' := by
  have hcases : (mayB k a p = false ∧ hitB k a p ea ep = false) ∨ (mayB k a p = true ∧ (k == 0) = true ∧ hitB k a p ea ep = true) ∨ (mayB k a p = true ∧ (k == 0) = false ∧ (a == ea) = false ∧ hitB k a p ea ep = false) ∨
      (mayB k a p = true ∧ (k == 0) = false ∧ (a == ea) = true ∧ (k == 1) = true ∧ hitB k a p ea ep = true) ∨ (mayB k a p = true ∧ (k == 0) = false ∧ (a == ea) = true ∧ (k == 1) = false ∧ hitB k a p ea ep = (p == ep)) := by
    unfold hitB
    cases mayB k a p <;> cases (k == 0) <;> cases (a == ea) <;> cases (k == 1) <;> simp
  rcases hcases with ⟨hm, hR⟩ | ⟨hm, h0, hR⟩ | ⟨hm, h0, h1, hR⟩ | ⟨hm, h0, h1, h2, hR⟩ | ⟨hm, h0, h1, h2, hR⟩
  all_goals
    have HM := Lib.hid hm
    have HR := Lib.hid hR
    clear hm hR
    go_enter Try.func15, Try.ntmps15
    go_wp2_with (go_at_call 21; refine (rmay_any _ _ _ _).mono ?_; rintro e w1 ⟨rfl, hb1⟩; rw [HM.out]; obtain ⟨hc1, hf1⟩ := bcell hb1)
    go_ret
    exact ⟨ret_bool HR.out.symm, bthen (ba (ba (Below.refl _ _) _) _) hb1⟩
theorem rpre_any (p sl : Int) (w : World) (h1 : 1 ≤ sl) (h3 : sl ≤ 3) :
    Calls Try.prog 22 #[.int .u64 p, .int .i8 sl] w fun e w' => e = .returned (.int .u64 (p / 2 ^ (9 * (3 - sl)).toNat)) ∧ w = w' := by
  go_enter Try.func22, Try.ntmps22
  go_wp2
  go_ret
  exact ⟨rfl, rfl⟩
theorem rpre_q (p sl : Int) (w : World) (h1 : 1 ≤ sl) (h3 : sl ≤ 3) :
    Calls Try.prog 22 #[.int .u64 p, .int .i8 sl] w fun e w' => e = .returned (.int .u64 (p / 2 ^ (9 * (3 - sl)).toNat)) ∧ w' = w :=
  (rpre_any p sl w h1 h3).mono fun e w' ⟨a, b⟩ => ⟨a, b.symm⟩
theorem bdn {B : Nat} {a w : World} (h : Below B a w) (n : Nat) : Below B a (w.drewN n) := ⟨h.os, h.tape, h.output, h.size, h.block⟩
set_option maxHeartbeats 4000000 in
theorem rhitsStep_any (k a p sa sl sp sf : Int) (w : World) :
    Calls Try.prog 16 #[.agg #[.int .i8 k, .int .i64 a, .int .u64 p], .agg #[.int .i64 sa, .int .i8 sl, .int .u64 sp, .int .i64 sf]] w fun e w' => e = .returned (.bool (stepB k a p sa sl sp)) ∧ Below w.heap.size w w' := by
  have hcases : (mayB k a p = false ∧ stepB k a p sa sl sp = false) ∨ (mayB k a p = true ∧ (k == 0) = true ∧ stepB k a p sa sl sp = true) ∨
      (mayB k a p = true ∧ (k == 0) = false ∧ sl < 1 ∧ stepB k a p sa sl sp = false) ∨ (mayB k a p = true ∧ (k == 0) = false ∧ 3 < sl ∧ stepB k a p sa sl sp = false) ∨
      (mayB k a p = true ∧ (k == 0) = false ∧ 1 ≤ sl ∧ sl ≤ 3 ∧ (a == sa) = false ∧ stepB k a p sa sl sp = false) ∨
      (mayB k a p = true ∧ (k == 0) = false ∧ 1 ≤ sl ∧ sl ≤ 3 ∧ (a == sa) = true ∧ (k == 1) = true ∧ stepB k a p sa sl sp = true) ∨
      (mayB k a p = true ∧ (k == 0) = false ∧ 1 ≤ sl ∧ sl ≤ 3 ∧ (a == sa) = true ∧ (k == 1) = false ∧ stepB k a p sa sl sp = (p / 2 ^ (9 * (3 - sl)).toNat == sp)) := by
    unfold stepB
    by_cases hl : 1 ≤ sl
    · by_cases hl' : sl ≤ 3
      · have hd : decide (1 ≤ sl ∧ sl ≤ 3) = true := by simp [hl, hl']
        rw [hd]
        cases mayB k a p <;> cases (k == 0) <;> cases (a == sa) <;> cases (k == 1) <;> simp [hl, hl']
      · have hd : decide (1 ≤ sl ∧ sl ≤ 3) = false := by simp [hl']
        rw [hd]
        have : 3 < sl := by omega
        cases mayB k a p <;> cases (k == 0) <;> simp [this]
    · have hd : decide (1 ≤ sl ∧ sl ≤ 3) = false := by simp [hl]
      rw [hd]
      have : sl < 1 := by omega
      cases mayB k a p <;> cases (k == 0) <;> simp [this]
  rcases hcases with ⟨hm, hR⟩ | ⟨hm, h0, hR⟩ | ⟨hm, h0, h1, hR⟩ | ⟨hm, h0, h1, hR⟩ | ⟨hm, h0, h1, h2, h3, hR⟩ | ⟨hm, h0, h1, h2, h3, h4, hR⟩ | ⟨hm, h0, h1, h2, h3, h4, hR⟩
  · have HM := Lib.hid hm
    have HR := Lib.hid hR
    clear hm hR
    go_enter Try.func16, Try.ntmps16
    go_wp2_with (go_at_call 21; refine (rmay_any _ _ _ _).mono ?_; rintro e w1 ⟨rfl, hb1⟩; rw [HM.out]; obtain ⟨hc1, hf1⟩ := bcell hb1
                 have q0 : w1.cell? ⟨w.heap.size, 0, none⟩ = some (.int .i8 k) := by (rw [hc1 _ _ (by simp <;> omega)]; simp [go_sem])
                 have q1 : w1.cell? ⟨w.heap.size, 1, none⟩ = some (.int .i64 a) := by (rw [hc1 _ _ (by simp <;> omega)]; simp [go_sem])
                 have q2 : w1.cell? ⟨w.heap.size, 2, none⟩ = some (.int .u64 p) := by (rw [hc1 _ _ (by simp <;> omega)]; simp [go_sem])
                 have r0 : w1.cell? ⟨w.heap.size + 1, 0, none⟩ = some (.int .i64 sa) := by (rw [hc1 _ _ (by simp <;> omega)]; simp [go_sem])
                 have r1 : w1.cell? ⟨w.heap.size + 1, 1, none⟩ = some (.int .i8 sl) := by (rw [hc1 _ _ (by simp <;> omega)]; simp [go_sem])
                 have r2 : w1.cell? ⟨w.heap.size + 1, 2, none⟩ = some (.int .u64 sp) := by (rw [hc1 _ _ (by simp <;> omega)]; simp [go_sem])
                 clear hc1 hf1)
    go_ret
    exact ⟨ret_bool HR.out.symm, bthen (ba (ba (Below.refl _ _) _) _) hb1⟩
  · have HM := Lib.hid hm
    have HR := Lib.hid hR
    clear hm hR
    go_enter Try.func16, Try.ntmps16
    go_wp2_with (go_at_call 21; refine (rmay_any _ _ _ _).mono ?_; rintro e w1 ⟨rfl, hb1⟩; rw [HM.out]; obtain ⟨hc1, hf1⟩ := bcell hb1
                 have q0 : w1.cell? ⟨w.heap.size, 0, none⟩ = some (.int .i8 k) := by (rw [hc1 _ _ (by simp <;> omega)]; simp [go_sem])
                 have q1 : w1.cell? ⟨w.heap.size, 1, none⟩ = some (.int .i64 a) := by (rw [hc1 _ _ (by simp <;> omega)]; simp [go_sem])
                 have q2 : w1.cell? ⟨w.heap.size, 2, none⟩ = some (.int .u64 p) := by (rw [hc1 _ _ (by simp <;> omega)]; simp [go_sem])
                 have r0 : w1.cell? ⟨w.heap.size + 1, 0, none⟩ = some (.int .i64 sa) := by (rw [hc1 _ _ (by simp <;> omega)]; simp [go_sem])
                 have r1 : w1.cell? ⟨w.heap.size + 1, 1, none⟩ = some (.int .i8 sl) := by (rw [hc1 _ _ (by simp <;> omega)]; simp [go_sem])
                 have r2 : w1.cell? ⟨w.heap.size + 1, 2, none⟩ = some (.int .u64 sp) := by (rw [hc1 _ _ (by simp <;> omega)]; simp [go_sem])
                 clear hc1 hf1)
    go_ret
    exact ⟨ret_bool HR.out.symm, bthen (ba (ba (Below.refl _ _) _) _) hb1⟩
  · have e1 : decide (1 ≤ sl) = false := by simp; omega
    have HM := Lib.hid hm
    have HR := Lib.hid hR
    clear hm hR
    go_enter Try.func16, Try.ntmps16
    go_wp2_with (go_at_call 21; refine (rmay_any _ _ _ _).mono ?_; rintro e w1 ⟨rfl, hb1⟩; rw [HM.out]; obtain ⟨hc1, hf1⟩ := bcell hb1
                 have q0 : w1.cell? ⟨w.heap.size, 0, none⟩ = some (.int .i8 k) := by (rw [hc1 _ _ (by simp <;> omega)]; simp [go_sem])
                 have q1 : w1.cell? ⟨w.heap.size, 1, none⟩ = some (.int .i64 a) := by (rw [hc1 _ _ (by simp <;> omega)]; simp [go_sem])
                 have q2 : w1.cell? ⟨w.heap.size, 2, none⟩ = some (.int .u64 p) := by (rw [hc1 _ _ (by simp <;> omega)]; simp [go_sem])
                 have r0 : w1.cell? ⟨w.heap.size + 1, 0, none⟩ = some (.int .i64 sa) := by (rw [hc1 _ _ (by simp <;> omega)]; simp [go_sem])
                 have r1 : w1.cell? ⟨w.heap.size + 1, 1, none⟩ = some (.int .i8 sl) := by (rw [hc1 _ _ (by simp <;> omega)]; simp [go_sem])
                 have r2 : w1.cell? ⟨w.heap.size + 1, 2, none⟩ = some (.int .u64 sp) := by (rw [hc1 _ _ (by simp <;> omega)]; simp [go_sem])
                 clear hc1 hf1)
    go_quiet ((go_at_call 22; exact Calls.quiet_of_same (rpre_q _ _ _ (by omega) (by omega))))
    go_wp2
    go_ret
    exact ⟨ret_bool HR.out.symm, bthen (ba (ba (Below.refl _ _) _) _) (bdn hb1 _)⟩
  · have e1 : decide (1 ≤ sl) = true := by simp; omega
    have e2 : decide (sl ≤ 3) = false := by simp; omega
    have HM := Lib.hid hm
    have HR := Lib.hid hR
    clear hm hR
    go_enter Try.func16, Try.ntmps16
    go_wp2_with (go_at_call 21; refine (rmay_any _ _ _ _).mono ?_; rintro e w1 ⟨rfl, hb1⟩; rw [HM.out]; obtain ⟨hc1, hf1⟩ := bcell hb1
                 have q0 : w1.cell? ⟨w.heap.size, 0, none⟩ = some (.int .i8 k) := by (rw [hc1 _ _ (by simp <;> omega)]; simp [go_sem])
                 have q1 : w1.cell? ⟨w.heap.size, 1, none⟩ = some (.int .i64 a) := by (rw [hc1 _ _ (by simp <;> omega)]; simp [go_sem])
                 have q2 : w1.cell? ⟨w.heap.size, 2, none⟩ = some (.int .u64 p) := by (rw [hc1 _ _ (by simp <;> omega)]; simp [go_sem])
                 have r0 : w1.cell? ⟨w.heap.size + 1, 0, none⟩ = some (.int .i64 sa) := by (rw [hc1 _ _ (by simp <;> omega)]; simp [go_sem])
                 have r1 : w1.cell? ⟨w.heap.size + 1, 1, none⟩ = some (.int .i8 sl) := by (rw [hc1 _ _ (by simp <;> omega)]; simp [go_sem])
                 have r2 : w1.cell? ⟨w.heap.size + 1, 2, none⟩ = some (.int .u64 sp) := by (rw [hc1 _ _ (by simp <;> omega)]; simp [go_sem])
                 clear hc1 hf1)
    go_quiet ((go_at_call 22; exact Calls.quiet_of_same (rpre_q _ _ _ (by omega) (by omega))))
    go_wp2
    go_ret
    exact ⟨ret_bool HR.out.symm, bthen (ba (ba (Below.refl _ _) _) _) (bdn hb1 _)⟩
  · have e1 : decide (1 ≤ sl) = true := by simp; omega
    have e2 : decide (sl ≤ 3) = true := by simp; omega
    have HM := Lib.hid hm
    have HR := Lib.hid hR
    clear hm hR
    go_enter Try.func16, Try.ntmps16
    go_wp2_with (go_at_call 21; refine (rmay_any _ _ _ _).mono ?_; rintro e w1 ⟨rfl, hb1⟩; rw [HM.out]; obtain ⟨hc1, hf1⟩ := bcell hb1
                 have q0 : w1.cell? ⟨w.heap.size, 0, none⟩ = some (.int .i8 k) := by (rw [hc1 _ _ (by simp <;> omega)]; simp [go_sem])
                 have q1 : w1.cell? ⟨w.heap.size, 1, none⟩ = some (.int .i64 a) := by (rw [hc1 _ _ (by simp <;> omega)]; simp [go_sem])
                 have q2 : w1.cell? ⟨w.heap.size, 2, none⟩ = some (.int .u64 p) := by (rw [hc1 _ _ (by simp <;> omega)]; simp [go_sem])
                 have r0 : w1.cell? ⟨w.heap.size + 1, 0, none⟩ = some (.int .i64 sa) := by (rw [hc1 _ _ (by simp <;> omega)]; simp [go_sem])
                 have r1 : w1.cell? ⟨w.heap.size + 1, 1, none⟩ = some (.int .i8 sl) := by (rw [hc1 _ _ (by simp <;> omega)]; simp [go_sem])
                 have r2 : w1.cell? ⟨w.heap.size + 1, 2, none⟩ = some (.int .u64 sp) := by (rw [hc1 _ _ (by simp <;> omega)]; simp [go_sem])
                 clear hc1 hf1)
    go_quiet ((go_at_call 22; exact Calls.quiet_of_same (rpre_q _ _ _ (by omega) (by omega))))
    go_wp2
    go_ret
    exact ⟨ret_bool HR.out.symm, bthen (ba (ba (Below.refl _ _) _) _) (bdn hb1 _)⟩
  · have e1 : decide (1 ≤ sl) = true := by simp; omega
    have e2 : decide (sl ≤ 3) = true := by simp; omega
    have HM := Lib.hid hm
    have HR := Lib.hid hR
    clear hm hR
    go_enter Try.func16, Try.ntmps16
    go_wp2_with (go_at_call 21; refine (rmay_any _ _ _ _).mono ?_; rintro e w1 ⟨rfl, hb1⟩; rw [HM.out]; obtain ⟨hc1, hf1⟩ := bcell hb1
                 have q0 : w1.cell? ⟨w.heap.size, 0, none⟩ = some (.int .i8 k) := by (rw [hc1 _ _ (by simp <;> omega)]; simp [go_sem])
                 have q1 : w1.cell? ⟨w.heap.size, 1, none⟩ = some (.int .i64 a) := by (rw [hc1 _ _ (by simp <;> omega)]; simp [go_sem])
                 have q2 : w1.cell? ⟨w.heap.size, 2, none⟩ = some (.int .u64 p) := by (rw [hc1 _ _ (by simp <;> omega)]; simp [go_sem])
                 have r0 : w1.cell? ⟨w.heap.size + 1, 0, none⟩ = some (.int .i64 sa) := by (rw [hc1 _ _ (by simp <;> omega)]; simp [go_sem])
                 have r1 : w1.cell? ⟨w.heap.size + 1, 1, none⟩ = some (.int .i8 sl) := by (rw [hc1 _ _ (by simp <;> omega)]; simp [go_sem])
                 have r2 : w1.cell? ⟨w.heap.size + 1, 2, none⟩ = some (.int .u64 sp) := by (rw [hc1 _ _ (by simp <;> omega)]; simp [go_sem])
                 clear hc1 hf1)
    go_quiet ((go_at_call 22; exact Calls.quiet_of_same (rpre_q _ _ _ (by omega) (by omega))))
    go_wp2
    go_ret
    exact ⟨ret_bool HR.out.symm, bthen (ba (ba (Below.refl _ _) _) _) (bdn hb1 _)⟩
  · have e1 : decide (1 ≤ sl) = true := by simp; omega
    have e2 : decide (sl ≤ 3) = true := by simp; omega
    have HM := Lib.hid hm
    have HR := Lib.hid hR
    clear hm hR
    go_enter Try.func16, Try.ntmps16
    go_wp2_with (go_at_call 21; refine (rmay_any _ _ _ _).mono ?_; rintro e w1 ⟨rfl, hb1⟩; rw [HM.out]; obtain ⟨hc1, hf1⟩ := bcell hb1
                 have q0 : w1.cell? ⟨w.heap.size, 0, none⟩ = some (.int .i8 k) := by (rw [hc1 _ _ (by simp <;> omega)]; simp [go_sem])
                 have q1 : w1.cell? ⟨w.heap.size, 1, none⟩ = some (.int .i64 a) := by (rw [hc1 _ _ (by simp <;> omega)]; simp [go_sem])
                 have q2 : w1.cell? ⟨w.heap.size, 2, none⟩ = some (.int .u64 p) := by (rw [hc1 _ _ (by simp <;> omega)]; simp [go_sem])
                 have r0 : w1.cell? ⟨w.heap.size + 1, 0, none⟩ = some (.int .i64 sa) := by (rw [hc1 _ _ (by simp <;> omega)]; simp [go_sem])
                 have r1 : w1.cell? ⟨w.heap.size + 1, 1, none⟩ = some (.int .i8 sl) := by (rw [hc1 _ _ (by simp <;> omega)]; simp [go_sem])
                 have r2 : w1.cell? ⟨w.heap.size + 1, 2, none⟩ = some (.int .u64 sp) := by (rw [hc1 _ _ (by simp <;> omega)]; simp [go_sem])
                 clear hc1 hf1)
    go_quiet ((go_at_call 22; exact Calls.quiet_of_same (rpre_q _ _ _ (by omega) (by omega))))
    go_wp2
    go_ret
    exact ⟨ret_bool HR.out.symm, bthen (ba (ba (Below.refl _ _) _) _) (bdn hb1 _)⟩
set_option maxHeartbeats 4000000 in
theorem rcovers_any (k a p k' a' p' : Int) (w : World) :
    Calls Try.prog 17 #[.agg #[.int .i8 k, .int .i64 a, .int .u64 p], .agg #[.int .i8 k', .int .i64 a', .int .u64 p']] w fun e w' => e = .returned (.bool (covB k a p k' a' p')) ∧ Below w.heap.size w w' := by
  rcases hm : mayB k a p with _ | _
  · have HR := Lib.hid (show covB k a p k' a' p' = false by simp [covB, hm])
    have HM := Lib.hid hm
    clear hm
    go_enter Try.func17, Try.ntmps17
    go_wp2_with fail
    refine (rmay_any _ _ _ _).mono ?_
    rintro e w1 ⟨rfl, hb1⟩
    rw [HM.out]
    go_wp2_with fail
    go_ret
    exact ⟨ret_bool HR.out.symm, bthen (ba (ba (Below.refl _ _) _) _) hb1⟩
  have HM := Lib.hid hm
  rcases hn : mayB k' a' p' with _ | _
  · have HR := Lib.hid (show covB k a p k' a' p' = false by simp [covB, hn])
    have HN := Lib.hid hn
    clear hm hn
    go_enter Try.func17, Try.ntmps17
    go_wp2_with fail
    refine (rmay_any _ _ _ _).mono ?_
    rintro e w1 ⟨rfl, hb1⟩
    rw [HM.out]
    obtain ⟨hc1, hf1⟩ := bcell hb1
    go_wp2_with fail
    refine (rmay_any _ _ _ _).mono ?_
    rintro e w2 ⟨rfl, hb2⟩
    rw [HN.out]
    go_wp2_with fail
    go_ret
    exact ⟨ret_bool HR.out.symm, bthen (bthen (ba (ba (Below.refl _ _) _) _) hb1) hb2⟩
  have HN := Lib.hid hn
  have HR := Lib.hid (show covB k a p k' a' p' = ((k == 0) || (!(k' == 0) && ((a == a') && ((k == 1) || ((k == k') && (p == p')))))) by simp only [covB, hm, hn, Bool.true_and])
  have HK := Lib.hid ((mayB_iff k a p).1 hm)
  have HK' := Lib.hid ((mayB_iff k' a' p').1 hn)
  clear hm hn
  go_enter Try.func17, Try.ntmps17
  go_wp2_with fail
  refine (rmay_any _ _ _ _).mono ?_
  rintro e w1 ⟨rfl, hb1⟩
  rw [HM.out]
  obtain ⟨hc1, hf1⟩ := bcell hb1
  go_wp2_with fail
  refine (rmay_any _ _ _ _).mono ?_
  rintro e w2 ⟨rfl, hb2⟩
  rw [HN.out]
  clear hc1 hf1
  obtain ⟨hc1, hf1⟩ := bcell (bthen hb1 hb2)
  have hB := bthen (bthen (ba (ba (Below.refl w.heap.size w) _) _) hb1) hb2
  clear hb1 hb2
  go_wp2
  all_goals
    go_ret
    refine ⟨ret_bool ?_, hB⟩
    rw [HR.out]
    have k1 := HK.out
    have k2 := HK'.out
    clear hc1 hf1 HM HN HR hB HK HK'
    rw [Bool.eq_iff_iff]
    simp at *
    omega
end Go.Proofs.Ytlmfmpmcgokbeaa
