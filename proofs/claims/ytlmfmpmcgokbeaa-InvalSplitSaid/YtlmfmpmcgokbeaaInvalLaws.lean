/-
  The walks of the laws InvalCovers, InvalBack and InvalTells.
-/
import Derived.Test.YtlmfmpmcgokbeaaInvalRef
namespace Go.Proofs.Ytlmfmpmcgokbeaa
open Go.RowKit
set_option linter.unusedVariables false
set_option linter.unusedSimpArgs false

set_option maxHeartbeats 2000000 in
theorem wakes5_any (w : World) : Calls Try.prog 7 #[] w fun e w' => e = .returned (.bool true) ∧ Below w.heap.size w w' := by
  have H1 := Lib.hid (show hitB 2 3 5 3 5 = true by decide)
  have H2 := Lib.hid (show stepB 2 3 5 3 3 0 = false by decide)
  have H3 := Lib.hid (show stepB 2 3 513 3 2 1 = true by decide)
  have H4 := Lib.hid (show hitB 2 3 5 4 5 = false by decide)
  go_enter Try.func7, Try.ntmps7
  go_wp2_with fail
  refine (hits_any 2 3 5 3 5 0 false _).mono ?_
  rintro e w1 ⟨rfl, hb⟩
  rw [H1.out]
  have hB1 := hb
  clear hb
  obtain ⟨hc, hf⟩ := bcell hB1
  go_wp2_with fail
  refine (hitsStep_any 2 3 5 3 3 0 0 _).mono ?_
  rintro e w2 ⟨rfl, hb⟩
  rw [H2.out]
  have hB2 := bthen hB1 hb
  clear hc hf
  clear hb
  obtain ⟨hc, hf⟩ := bcell hB2
  go_wp2_with fail
  refine (hitsStep_any 2 3 513 3 2 1 0 _).mono ?_
  rintro e w3 ⟨rfl, hb⟩
  rw [H3.out]
  have hB3 := bthen hB2 hb
  clear hc hf
  clear hb
  obtain ⟨hc, hf⟩ := bcell hB3
  go_wp2_with fail
  refine (hits_any 2 3 5 4 5 0 false _).mono ?_
  rintro e w4 ⟨rfl, hb⟩
  rw [H4.out]
  have hB4 := bthen hB3 hb
  clear hc hf
  clear hb
  obtain ⟨hc, hf⟩ := bcell hB4
  clear hc hf
  go_wp2_with fail
  go_ret
  exact ⟨rfl, bthen (ba (ba (Below.refl _ _) _) _) hB4⟩

/-! ### the plain laws -/
theorem cov_self (k a p : Int) : covB k a p k a p = mayB k a p := by
  unfold covB
  cases mayB k a p <;> cases h0 : (k == 0) <;> cases (k == 1) <;> simp_all
theorem cov_trans {k a p k' a' p' k'' a'' p'' : Int} (h : covB k a p k' a' p' = true) (h' : covB k' a' p' k'' a'' p'' = true) : covB k a p k'' a'' p'' = true := by
  simp only [covB, Bool.and_eq_true, Bool.or_eq_true, beq_iff_eq, Bool.not_eq_true', beq_eq_false_iff_ne, mayB_iff] at *
  omega
theorem cov_hit {k a p k' a' p' ea ep : Int} (h : covB k a p k' a' p' = true) (h' : hitB k' a' p' ea ep = true) : hitB k a p ea ep = true := by
  simp only [covB, hitB, Bool.and_eq_true, Bool.or_eq_true, beq_iff_eq, Bool.not_eq_true', beq_eq_false_iff_ne, mayB_iff] at *
  omega
theorem cov_step {k a p k' a' p' sa sl sp : Int} (h : covB k a p k' a' p' = true) (h' : stepB k' a' p' sa sl sp = true) : stepB k a p sa sl sp = true := by
  have hp : p' = p ∨ k = 0 ∨ k = 1 := by
    simp only [covB, Bool.and_eq_true, Bool.or_eq_true, beq_iff_eq, Bool.not_eq_true', beq_eq_false_iff_ne, mayB_iff] at h
    omega
  rcases hp with rfl | hp
  · simp only [covB, stepB, Bool.and_eq_true, Bool.or_eq_true, beq_iff_eq, Bool.not_eq_true', beq_eq_false_iff_ne, mayB_iff, decide_eq_true_eq] at *
    generalize p' / 2 ^ (9 * (3 - sl)).toNat = q at *
    omega
  · simp only [covB, stepB, Bool.and_eq_true, Bool.or_eq_true, beq_iff_eq, Bool.not_eq_true', beq_eq_false_iff_ne, mayB_iff, decide_eq_true_eq] at *
    generalize p' / 2 ^ (9 * (3 - sl)).toNat = q at *
    generalize p / 2 ^ (9 * (3 - sl)).toNat = q' at *
    omega
theorem sz5 {n m : Nat} (h : n + 1 + 1 + 1 + 1 + 1 ≤ m) : n + 1 + 1 + 1 < m ∧ n + 1 + 1 + 1 + 1 < m := ⟨by omega, by omega⟩
theorem tl_all (ea ep : Int) : hitB 0 0 0 ea ep = true := rfl
theorem tl_alls (sa sl sp : Int) : stepB 0 0 0 sa sl sp = true := rfl
set_option maxHeartbeats 2000000 in
theorem invalCovers_covA0 (k a p k' a' p' k'' a'' p'' ea ep ef : Int) (ro : Bool) (sa sl sp sf : Int) (w : World) (hp : 0 ≤ p) (hm : mayB k a p = false) (hc1 : covB k a p k' a' p' = false) :
    Calls Try.prog 5 #[.agg #[.int .i8 k, .int .i64 a, .int .u64 p], .agg #[.int .i8 k', .int .i64 a', .int .u64 p'], .agg #[.int .i8 k'', .int .i64 a'', .int .u64 p''], .agg #[.int .i64 ea, .int .u64 ep, .int .i64 ef, .bool ro], .agg #[.int .i64 sa, .int .i8 sl, .int .u64 sp, .int .i64 sf]] w fun e w' => e = .returned (.bool true) ∧ Below w.heap.size w w' := by
  have HM := Lib.hid hm
  have HC0 := Lib.hid ((cov_self k a p).trans hm)
  have HC1 := Lib.hid hc1
  clear hm hc1
  have HA := Lib.hid (tl_all ea ep)
  have HB := Lib.hid (tl_alls sa sl sp)
  go_enter Try.func5, Try.ntmps5
  go_wp2_with fail
  refine (encode_no _ _ _ _ HM.out).mono ?_
  rintro e w1 ⟨rfl, hB⟩
  obtain ⟨hc, hf⟩ := bcell hB
  obtain ⟨f3, f4⟩ := sz5 (by have := hB.size; simpa using this)
  go_wp2_with (first
    | (go_at_call 12; refine (covers_any _ _ _ _ _ _ _).mono ?_; rintro e w' ⟨rfl, hb⟩; replace hB := bthen hB hb; clear hb hc hf; obtain ⟨hc, hf⟩ := bcell hB; clear f3 f4; obtain ⟨f3, f4⟩ := sz5 (by have := hB.size; simpa using this); (first | rw [HC0.out] | rw [HC1.out]))
    | (go_at_call 8; refine (hits_any _ _ _ _ _ _ _ _).mono ?_; rintro e w' ⟨rfl, hb⟩; (first | (replace hB := bthen hB hb; clear hb hc hf; obtain ⟨hc, hf⟩ := bcell hB; clear f3 f4; obtain ⟨f3, f4⟩ := sz5 (by have := hB.size; simpa using this)) | (have g3 := Nat.lt_succ_of_lt f3; have g4 := Nat.lt_succ_of_lt f4; replace hB := bthen (ba hB _) hb; obtain ⟨hc2, hf2⟩ := bcell hb; clear hb)); (first | rw [HA.out]))
    | (go_at_call 9; refine (hitsStep_any _ _ _ _ _ _ _ _).mono ?_; rintro e w' ⟨rfl, hb⟩; replace hB := bthen hB hb; clear hb hc hf; obtain ⟨hc, hf⟩ := bcell hB; clear f3 f4; obtain ⟨f3, f4⟩ := sz5 (by have := hB.size; simpa using this); (first | rw [HB.out]))
    | (go_at_call 7; refine (wakes5_any _).mono ?_; rintro e w' ⟨rfl, hb⟩; replace hB := bthen hB hb; clear hb hc hf))
  go_ret
  exact ⟨rfl, bthen (ba (ba (ba (ba (ba (Below.refl _ _) _) _) _) _) _) hB⟩
set_option maxHeartbeats 2000000 in
theorem invalCovers_covA1 (k a p k' a' p' k'' a'' p'' ea ep ef : Int) (ro : Bool) (sa sl sp sf : Int) (w : World) (hp : 0 ≤ p) (hm : mayB k a p = true) (hc1 : covB k a p k' a' p' = false) :
    Calls Try.prog 5 #[.agg #[.int .i8 k, .int .i64 a, .int .u64 p], .agg #[.int .i8 k', .int .i64 a', .int .u64 p'], .agg #[.int .i8 k'', .int .i64 a'', .int .u64 p''], .agg #[.int .i64 ea, .int .u64 ep, .int .i64 ef, .bool ro], .agg #[.int .i64 sa, .int .i8 sl, .int .u64 sp, .int .i64 sf]] w fun e w' => e = .returned (.bool true) ∧ Below w.heap.size w w' := by
  have HM := Lib.hid hm
  have HC0 := Lib.hid ((cov_self k a p).trans hm)
  have HC1 := Lib.hid hc1
  clear hm hc1
  have HA := Lib.hid (tl_all ea ep)
  have HB := Lib.hid (tl_alls sa sl sp)
  go_enter Try.func5, Try.ntmps5
  go_wp2_with fail
  refine (encode_yes _ _ _ _ hp HM.out).mono ?_
  rintro e w1 ⟨rfl, hB⟩
  obtain ⟨hc, hf⟩ := bcell hB
  obtain ⟨f3, f4⟩ := sz5 (by have := hB.size; simpa using this)
  go_wp2_with (first
    | (go_at_call 12; refine (covers_any _ _ _ _ _ _ _).mono ?_; rintro e w' ⟨rfl, hb⟩; replace hB := bthen hB hb; clear hb hc hf; obtain ⟨hc, hf⟩ := bcell hB; clear f3 f4; obtain ⟨f3, f4⟩ := sz5 (by have := hB.size; simpa using this); (first | rw [HC0.out] | rw [HC1.out]))
    | (go_at_call 8; refine (hits_any _ _ _ _ _ _ _ _).mono ?_; rintro e w' ⟨rfl, hb⟩; (first | (replace hB := bthen hB hb; clear hb hc hf; obtain ⟨hc, hf⟩ := bcell hB; clear f3 f4; obtain ⟨f3, f4⟩ := sz5 (by have := hB.size; simpa using this)) | (have g3 := Nat.lt_succ_of_lt f3; have g4 := Nat.lt_succ_of_lt f4; replace hB := bthen (ba hB _) hb; obtain ⟨hc2, hf2⟩ := bcell hb; clear hb)); (first | rw [HA.out]))
    | (go_at_call 9; refine (hitsStep_any _ _ _ _ _ _ _ _).mono ?_; rintro e w' ⟨rfl, hb⟩; replace hB := bthen hB hb; clear hb hc hf; obtain ⟨hc, hf⟩ := bcell hB; clear f3 f4; obtain ⟨f3, f4⟩ := sz5 (by have := hB.size; simpa using this); (first | rw [HB.out]))
    | (go_at_call 7; refine (wakes5_any _).mono ?_; rintro e w' ⟨rfl, hb⟩; replace hB := bthen hB hb; clear hb hc hf))
  go_ret
  exact ⟨rfl, bthen (ba (ba (ba (ba (ba (Below.refl _ _) _) _) _) _) _) hB⟩
set_option maxHeartbeats 2000000 in
theorem invalCovers_cov_f_f_f (k a p k' a' p' k'' a'' p'' ea ep ef : Int) (ro : Bool) (sa sl sp sf : Int) (w : World) (hp : 0 ≤ p) (hm : mayB k a p = true) (hc1 : covB k a p k' a' p' = true) (hc2 : covB k' a' p' k'' a'' p'' = false) (hh : hitB k' a' p' ea ep = false) (hs : stepB k' a' p' sa sl sp = false) :
    Calls Try.prog 5 #[.agg #[.int .i8 k, .int .i64 a, .int .u64 p], .agg #[.int .i8 k', .int .i64 a', .int .u64 p'], .agg #[.int .i8 k'', .int .i64 a'', .int .u64 p''], .agg #[.int .i64 ea, .int .u64 ep, .int .i64 ef, .bool ro], .agg #[.int .i64 sa, .int .i8 sl, .int .u64 sp, .int .i64 sf]] w fun e w' => e = .returned (.bool true) ∧ Below w.heap.size w w' := by
  have HM := Lib.hid hm
  have HC0 := Lib.hid ((cov_self k a p).trans hm)
  have HC1 := Lib.hid hc1
  have HC2 := Lib.hid hc2
  have HH1 := Lib.hid hh
  have HS1 := Lib.hid hs
  clear hm hc1 hc2 hh hs
  have HA := Lib.hid (tl_all ea ep)
  have HB := Lib.hid (tl_alls sa sl sp)
  go_enter Try.func5, Try.ntmps5
  go_wp2_with fail
  refine (encode_yes _ _ _ _ hp HM.out).mono ?_
  rintro e w1 ⟨rfl, hB⟩
  obtain ⟨hc, hf⟩ := bcell hB
  obtain ⟨f3, f4⟩ := sz5 (by have := hB.size; simpa using this)
  go_wp2_with (first
    | (go_at_call 12; refine (covers_any _ _ _ _ _ _ _).mono ?_; rintro e w' ⟨rfl, hb⟩; replace hB := bthen hB hb; clear hb hc hf; obtain ⟨hc, hf⟩ := bcell hB; clear f3 f4; obtain ⟨f3, f4⟩ := sz5 (by have := hB.size; simpa using this); (first | rw [HC0.out] | rw [HC1.out] | rw [HC2.out]))
    | (go_at_call 8; refine (hits_any _ _ _ _ _ _ _ _).mono ?_; rintro e w' ⟨rfl, hb⟩; (first | (replace hB := bthen hB hb; clear hb hc hf; obtain ⟨hc, hf⟩ := bcell hB; clear f3 f4; obtain ⟨f3, f4⟩ := sz5 (by have := hB.size; simpa using this)) | (have g3 := Nat.lt_succ_of_lt f3; have g4 := Nat.lt_succ_of_lt f4; replace hB := bthen (ba hB _) hb; obtain ⟨hc2, hf2⟩ := bcell hb; clear hb)); (first | rw [HH1.out] | rw [HA.out]))
    | (go_at_call 9; refine (hitsStep_any _ _ _ _ _ _ _ _).mono ?_; rintro e w' ⟨rfl, hb⟩; replace hB := bthen hB hb; clear hb hc hf; obtain ⟨hc, hf⟩ := bcell hB; clear f3 f4; obtain ⟨f3, f4⟩ := sz5 (by have := hB.size; simpa using this); (first | rw [HS1.out] | rw [HB.out]))
    | (go_at_call 7; refine (wakes5_any _).mono ?_; rintro e w' ⟨rfl, hb⟩; replace hB := bthen hB hb; clear hb hc hf))
  go_ret
  exact ⟨rfl, bthen (ba (ba (ba (ba (ba (Below.refl _ _) _) _) _) _) _) hB⟩
set_option maxHeartbeats 2000000 in
theorem invalCovers_cov_f_f_t (k a p k' a' p' k'' a'' p'' ea ep ef : Int) (ro : Bool) (sa sl sp sf : Int) (w : World) (hp : 0 ≤ p) (hm : mayB k a p = true) (hc1 : covB k a p k' a' p' = true) (hc2 : covB k' a' p' k'' a'' p'' = false) (hh : hitB k' a' p' ea ep = false) (hs : stepB k' a' p' sa sl sp = true) :
    Calls Try.prog 5 #[.agg #[.int .i8 k, .int .i64 a, .int .u64 p], .agg #[.int .i8 k', .int .i64 a', .int .u64 p'], .agg #[.int .i8 k'', .int .i64 a'', .int .u64 p''], .agg #[.int .i64 ea, .int .u64 ep, .int .i64 ef, .bool ro], .agg #[.int .i64 sa, .int .i8 sl, .int .u64 sp, .int .i64 sf]] w fun e w' => e = .returned (.bool true) ∧ Below w.heap.size w w' := by
  have HM := Lib.hid hm
  have HC0 := Lib.hid ((cov_self k a p).trans hm)
  have HC1 := Lib.hid hc1
  have HC2 := Lib.hid hc2
  have HH1 := Lib.hid hh
  have HS1 := Lib.hid hs
  have HS2 := Lib.hid (cov_step hc1 hs)
  clear hm hc1 hc2 hh hs
  have HA := Lib.hid (tl_all ea ep)
  have HB := Lib.hid (tl_alls sa sl sp)
  go_enter Try.func5, Try.ntmps5
  go_wp2_with fail
  refine (encode_yes _ _ _ _ hp HM.out).mono ?_
  rintro e w1 ⟨rfl, hB⟩
  obtain ⟨hc, hf⟩ := bcell hB
  obtain ⟨f3, f4⟩ := sz5 (by have := hB.size; simpa using this)
  go_wp2_with (first
    | (go_at_call 12; refine (covers_any _ _ _ _ _ _ _).mono ?_; rintro e w' ⟨rfl, hb⟩; replace hB := bthen hB hb; clear hb hc hf; obtain ⟨hc, hf⟩ := bcell hB; clear f3 f4; obtain ⟨f3, f4⟩ := sz5 (by have := hB.size; simpa using this); (first | rw [HC0.out] | rw [HC1.out] | rw [HC2.out]))
    | (go_at_call 8; refine (hits_any _ _ _ _ _ _ _ _).mono ?_; rintro e w' ⟨rfl, hb⟩; (first | (replace hB := bthen hB hb; clear hb hc hf; obtain ⟨hc, hf⟩ := bcell hB; clear f3 f4; obtain ⟨f3, f4⟩ := sz5 (by have := hB.size; simpa using this)) | (have g3 := Nat.lt_succ_of_lt f3; have g4 := Nat.lt_succ_of_lt f4; replace hB := bthen (ba hB _) hb; obtain ⟨hc2, hf2⟩ := bcell hb; clear hb)); (first | rw [HH1.out] | rw [HA.out]))
    | (go_at_call 9; refine (hitsStep_any _ _ _ _ _ _ _ _).mono ?_; rintro e w' ⟨rfl, hb⟩; replace hB := bthen hB hb; clear hb hc hf; obtain ⟨hc, hf⟩ := bcell hB; clear f3 f4; obtain ⟨f3, f4⟩ := sz5 (by have := hB.size; simpa using this); (first | rw [HS1.out] | rw [HS2.out] | rw [HB.out]))
    | (go_at_call 7; refine (wakes5_any _).mono ?_; rintro e w' ⟨rfl, hb⟩; replace hB := bthen hB hb; clear hb hc hf))
  go_ret
  exact ⟨rfl, bthen (ba (ba (ba (ba (ba (Below.refl _ _) _) _) _) _) _) hB⟩
set_option maxHeartbeats 2000000 in
theorem invalCovers_cov_f_t_f (k a p k' a' p' k'' a'' p'' ea ep ef : Int) (ro : Bool) (sa sl sp sf : Int) (w : World) (hp : 0 ≤ p) (hm : mayB k a p = true) (hc1 : covB k a p k' a' p' = true) (hc2 : covB k' a' p' k'' a'' p'' = false) (hh : hitB k' a' p' ea ep = true) (hs : stepB k' a' p' sa sl sp = false) :
    Calls Try.prog 5 #[.agg #[.int .i8 k, .int .i64 a, .int .u64 p], .agg #[.int .i8 k', .int .i64 a', .int .u64 p'], .agg #[.int .i8 k'', .int .i64 a'', .int .u64 p''], .agg #[.int .i64 ea, .int .u64 ep, .int .i64 ef, .bool ro], .agg #[.int .i64 sa, .int .i8 sl, .int .u64 sp, .int .i64 sf]] w fun e w' => e = .returned (.bool true) ∧ Below w.heap.size w w' := by
  have HM := Lib.hid hm
  have HC0 := Lib.hid ((cov_self k a p).trans hm)
  have HC1 := Lib.hid hc1
  have HC2 := Lib.hid hc2
  have HH1 := Lib.hid hh
  have HS1 := Lib.hid hs
  have HH2 := Lib.hid (cov_hit hc1 hh)
  clear hm hc1 hc2 hh hs
  have HA := Lib.hid (tl_all ea ep)
  have HB := Lib.hid (tl_alls sa sl sp)
  go_enter Try.func5, Try.ntmps5
  go_wp2_with fail
  refine (encode_yes _ _ _ _ hp HM.out).mono ?_
  rintro e w1 ⟨rfl, hB⟩
  obtain ⟨hc, hf⟩ := bcell hB
  obtain ⟨f3, f4⟩ := sz5 (by have := hB.size; simpa using this)
  go_wp2_with (first
    | (go_at_call 12; refine (covers_any _ _ _ _ _ _ _).mono ?_; rintro e w' ⟨rfl, hb⟩; replace hB := bthen hB hb; clear hb hc hf; obtain ⟨hc, hf⟩ := bcell hB; clear f3 f4; obtain ⟨f3, f4⟩ := sz5 (by have := hB.size; simpa using this); (first | rw [HC0.out] | rw [HC1.out] | rw [HC2.out]))
    | (go_at_call 8; refine (hits_any _ _ _ _ _ _ _ _).mono ?_; rintro e w' ⟨rfl, hb⟩; (first | (replace hB := bthen hB hb; clear hb hc hf; obtain ⟨hc, hf⟩ := bcell hB; clear f3 f4; obtain ⟨f3, f4⟩ := sz5 (by have := hB.size; simpa using this)) | (have g3 := Nat.lt_succ_of_lt f3; have g4 := Nat.lt_succ_of_lt f4; replace hB := bthen (ba hB _) hb; obtain ⟨hc2, hf2⟩ := bcell hb; clear hb)); (first | rw [HH1.out] | rw [HH2.out] | rw [HA.out]))
    | (go_at_call 9; refine (hitsStep_any _ _ _ _ _ _ _ _).mono ?_; rintro e w' ⟨rfl, hb⟩; replace hB := bthen hB hb; clear hb hc hf; obtain ⟨hc, hf⟩ := bcell hB; clear f3 f4; obtain ⟨f3, f4⟩ := sz5 (by have := hB.size; simpa using this); (first | rw [HS1.out] | rw [HB.out]))
    | (go_at_call 7; refine (wakes5_any _).mono ?_; rintro e w' ⟨rfl, hb⟩; replace hB := bthen hB hb; clear hb hc hf))
  go_ret
  exact ⟨rfl, bthen (ba (ba (ba (ba (ba (Below.refl _ _) _) _) _) _) _) hB⟩
set_option maxHeartbeats 2000000 in
theorem invalCovers_cov_f_t_t (k a p k' a' p' k'' a'' p'' ea ep ef : Int) (ro : Bool) (sa sl sp sf : Int) (w : World) (hp : 0 ≤ p) (hm : mayB k a p = true) (hc1 : covB k a p k' a' p' = true) (hc2 : covB k' a' p' k'' a'' p'' = false) (hh : hitB k' a' p' ea ep = true) (hs : stepB k' a' p' sa sl sp = true) :
    Calls Try.prog 5 #[.agg #[.int .i8 k, .int .i64 a, .int .u64 p], .agg #[.int .i8 k', .int .i64 a', .int .u64 p'], .agg #[.int .i8 k'', .int .i64 a'', .int .u64 p''], .agg #[.int .i64 ea, .int .u64 ep, .int .i64 ef, .bool ro], .agg #[.int .i64 sa, .int .i8 sl, .int .u64 sp, .int .i64 sf]] w fun e w' => e = .returned (.bool true) ∧ Below w.heap.size w w' := by
  have HM := Lib.hid hm
  have HC0 := Lib.hid ((cov_self k a p).trans hm)
  have HC1 := Lib.hid hc1
  have HC2 := Lib.hid hc2
  have HH1 := Lib.hid hh
  have HS1 := Lib.hid hs
  have HH2 := Lib.hid (cov_hit hc1 hh)
  have HS2 := Lib.hid (cov_step hc1 hs)
  clear hm hc1 hc2 hh hs
  have HA := Lib.hid (tl_all ea ep)
  have HB := Lib.hid (tl_alls sa sl sp)
  go_enter Try.func5, Try.ntmps5
  go_wp2_with fail
  refine (encode_yes _ _ _ _ hp HM.out).mono ?_
  rintro e w1 ⟨rfl, hB⟩
  obtain ⟨hc, hf⟩ := bcell hB
  obtain ⟨f3, f4⟩ := sz5 (by have := hB.size; simpa using this)
  go_wp2_with (first
    | (go_at_call 12; refine (covers_any _ _ _ _ _ _ _).mono ?_; rintro e w' ⟨rfl, hb⟩; replace hB := bthen hB hb; clear hb hc hf; obtain ⟨hc, hf⟩ := bcell hB; clear f3 f4; obtain ⟨f3, f4⟩ := sz5 (by have := hB.size; simpa using this); (first | rw [HC0.out] | rw [HC1.out] | rw [HC2.out]))
    | (go_at_call 8; refine (hits_any _ _ _ _ _ _ _ _).mono ?_; rintro e w' ⟨rfl, hb⟩; (first | (replace hB := bthen hB hb; clear hb hc hf; obtain ⟨hc, hf⟩ := bcell hB; clear f3 f4; obtain ⟨f3, f4⟩ := sz5 (by have := hB.size; simpa using this)) | (have g3 := Nat.lt_succ_of_lt f3; have g4 := Nat.lt_succ_of_lt f4; replace hB := bthen (ba hB _) hb; obtain ⟨hc2, hf2⟩ := bcell hb; clear hb)); (first | rw [HH1.out] | rw [HH2.out] | rw [HA.out]))
    | (go_at_call 9; refine (hitsStep_any _ _ _ _ _ _ _ _).mono ?_; rintro e w' ⟨rfl, hb⟩; replace hB := bthen hB hb; clear hb hc hf; obtain ⟨hc, hf⟩ := bcell hB; clear f3 f4; obtain ⟨f3, f4⟩ := sz5 (by have := hB.size; simpa using this); (first | rw [HS1.out] | rw [HS2.out] | rw [HB.out]))
    | (go_at_call 7; refine (wakes5_any _).mono ?_; rintro e w' ⟨rfl, hb⟩; replace hB := bthen hB hb; clear hb hc hf))
  go_ret
  exact ⟨rfl, bthen (ba (ba (ba (ba (ba (Below.refl _ _) _) _) _) _) _) hB⟩
set_option maxHeartbeats 2000000 in
theorem invalCovers_cov_t_f_f (k a p k' a' p' k'' a'' p'' ea ep ef : Int) (ro : Bool) (sa sl sp sf : Int) (w : World) (hp : 0 ≤ p) (hm : mayB k a p = true) (hc1 : covB k a p k' a' p' = true) (hc2 : covB k' a' p' k'' a'' p'' = true) (hh : hitB k' a' p' ea ep = false) (hs : stepB k' a' p' sa sl sp = false) :
    Calls Try.prog 5 #[.agg #[.int .i8 k, .int .i64 a, .int .u64 p], .agg #[.int .i8 k', .int .i64 a', .int .u64 p'], .agg #[.int .i8 k'', .int .i64 a'', .int .u64 p''], .agg #[.int .i64 ea, .int .u64 ep, .int .i64 ef, .bool ro], .agg #[.int .i64 sa, .int .i8 sl, .int .u64 sp, .int .i64 sf]] w fun e w' => e = .returned (.bool true) ∧ Below w.heap.size w w' := by
  have HM := Lib.hid hm
  have HC0 := Lib.hid ((cov_self k a p).trans hm)
  have HC1 := Lib.hid hc1
  have HC2 := Lib.hid hc2
  have HH1 := Lib.hid hh
  have HS1 := Lib.hid hs
  have HC3 := Lib.hid (cov_trans hc1 hc2)
  clear hm hc1 hc2 hh hs
  have HA := Lib.hid (tl_all ea ep)
  have HB := Lib.hid (tl_alls sa sl sp)
  go_enter Try.func5, Try.ntmps5
  go_wp2_with fail
  refine (encode_yes _ _ _ _ hp HM.out).mono ?_
  rintro e w1 ⟨rfl, hB⟩
  obtain ⟨hc, hf⟩ := bcell hB
  obtain ⟨f3, f4⟩ := sz5 (by have := hB.size; simpa using this)
  go_wp2_with (first
    | (go_at_call 12; refine (covers_any _ _ _ _ _ _ _).mono ?_; rintro e w' ⟨rfl, hb⟩; replace hB := bthen hB hb; clear hb hc hf; obtain ⟨hc, hf⟩ := bcell hB; clear f3 f4; obtain ⟨f3, f4⟩ := sz5 (by have := hB.size; simpa using this); (first | rw [HC0.out] | rw [HC1.out] | rw [HC2.out] | rw [HC3.out]))
    | (go_at_call 8; refine (hits_any _ _ _ _ _ _ _ _).mono ?_; rintro e w' ⟨rfl, hb⟩; (first | (replace hB := bthen hB hb; clear hb hc hf; obtain ⟨hc, hf⟩ := bcell hB; clear f3 f4; obtain ⟨f3, f4⟩ := sz5 (by have := hB.size; simpa using this)) | (have g3 := Nat.lt_succ_of_lt f3; have g4 := Nat.lt_succ_of_lt f4; replace hB := bthen (ba hB _) hb; obtain ⟨hc2, hf2⟩ := bcell hb; clear hb)); (first | rw [HH1.out] | rw [HA.out]))
    | (go_at_call 9; refine (hitsStep_any _ _ _ _ _ _ _ _).mono ?_; rintro e w' ⟨rfl, hb⟩; replace hB := bthen hB hb; clear hb hc hf; obtain ⟨hc, hf⟩ := bcell hB; clear f3 f4; obtain ⟨f3, f4⟩ := sz5 (by have := hB.size; simpa using this); (first | rw [HS1.out] | rw [HB.out]))
    | (go_at_call 7; refine (wakes5_any _).mono ?_; rintro e w' ⟨rfl, hb⟩; replace hB := bthen hB hb; clear hb hc hf))
  go_ret
  exact ⟨rfl, bthen (ba (ba (ba (ba (ba (Below.refl _ _) _) _) _) _) _) hB⟩
set_option maxHeartbeats 2000000 in
theorem invalCovers_cov_t_f_t (k a p k' a' p' k'' a'' p'' ea ep ef : Int) (ro : Bool) (sa sl sp sf : Int) (w : World) (hp : 0 ≤ p) (hm : mayB k a p = true) (hc1 : covB k a p k' a' p' = true) (hc2 : covB k' a' p' k'' a'' p'' = true) (hh : hitB k' a' p' ea ep = false) (hs : stepB k' a' p' sa sl sp = true) :
    Calls Try.prog 5 #[.agg #[.int .i8 k, .int .i64 a, .int .u64 p], .agg #[.int .i8 k', .int .i64 a', .int .u64 p'], .agg #[.int .i8 k'', .int .i64 a'', .int .u64 p''], .agg #[.int .i64 ea, .int .u64 ep, .int .i64 ef, .bool ro], .agg #[.int .i64 sa, .int .i8 sl, .int .u64 sp, .int .i64 sf]] w fun e w' => e = .returned (.bool true) ∧ Below w.heap.size w w' := by
  have HM := Lib.hid hm
  have HC0 := Lib.hid ((cov_self k a p).trans hm)
  have HC1 := Lib.hid hc1
  have HC2 := Lib.hid hc2
  have HH1 := Lib.hid hh
  have HS1 := Lib.hid hs
  have HC3 := Lib.hid (cov_trans hc1 hc2)
  have HS2 := Lib.hid (cov_step hc1 hs)
  clear hm hc1 hc2 hh hs
  have HA := Lib.hid (tl_all ea ep)
  have HB := Lib.hid (tl_alls sa sl sp)
  go_enter Try.func5, Try.ntmps5
  go_wp2_with fail
  refine (encode_yes _ _ _ _ hp HM.out).mono ?_
  rintro e w1 ⟨rfl, hB⟩
  obtain ⟨hc, hf⟩ := bcell hB
  obtain ⟨f3, f4⟩ := sz5 (by have := hB.size; simpa using this)
  go_wp2_with (first
    | (go_at_call 12; refine (covers_any _ _ _ _ _ _ _).mono ?_; rintro e w' ⟨rfl, hb⟩; replace hB := bthen hB hb; clear hb hc hf; obtain ⟨hc, hf⟩ := bcell hB; clear f3 f4; obtain ⟨f3, f4⟩ := sz5 (by have := hB.size; simpa using this); (first | rw [HC0.out] | rw [HC1.out] | rw [HC2.out] | rw [HC3.out]))
    | (go_at_call 8; refine (hits_any _ _ _ _ _ _ _ _).mono ?_; rintro e w' ⟨rfl, hb⟩; (first | (replace hB := bthen hB hb; clear hb hc hf; obtain ⟨hc, hf⟩ := bcell hB; clear f3 f4; obtain ⟨f3, f4⟩ := sz5 (by have := hB.size; simpa using this)) | (have g3 := Nat.lt_succ_of_lt f3; have g4 := Nat.lt_succ_of_lt f4; replace hB := bthen (ba hB _) hb; obtain ⟨hc2, hf2⟩ := bcell hb; clear hb)); (first | rw [HH1.out] | rw [HA.out]))
    | (go_at_call 9; refine (hitsStep_any _ _ _ _ _ _ _ _).mono ?_; rintro e w' ⟨rfl, hb⟩; replace hB := bthen hB hb; clear hb hc hf; obtain ⟨hc, hf⟩ := bcell hB; clear f3 f4; obtain ⟨f3, f4⟩ := sz5 (by have := hB.size; simpa using this); (first | rw [HS1.out] | rw [HS2.out] | rw [HB.out]))
    | (go_at_call 7; refine (wakes5_any _).mono ?_; rintro e w' ⟨rfl, hb⟩; replace hB := bthen hB hb; clear hb hc hf))
  go_ret
  exact ⟨rfl, bthen (ba (ba (ba (ba (ba (Below.refl _ _) _) _) _) _) _) hB⟩
set_option maxHeartbeats 2000000 in
theorem invalCovers_cov_t_t_f (k a p k' a' p' k'' a'' p'' ea ep ef : Int) (ro : Bool) (sa sl sp sf : Int) (w : World) (hp : 0 ≤ p) (hm : mayB k a p = true) (hc1 : covB k a p k' a' p' = true) (hc2 : covB k' a' p' k'' a'' p'' = true) (hh : hitB k' a' p' ea ep = true) (hs : stepB k' a' p' sa sl sp = false) :
    Calls Try.prog 5 #[.agg #[.int .i8 k, .int .i64 a, .int .u64 p], .agg #[.int .i8 k', .int .i64 a', .int .u64 p'], .agg #[.int .i8 k'', .int .i64 a'', .int .u64 p''], .agg #[.int .i64 ea, .int .u64 ep, .int .i64 ef, .bool ro], .agg #[.int .i64 sa, .int .i8 sl, .int .u64 sp, .int .i64 sf]] w fun e w' => e = .returned (.bool true) ∧ Below w.heap.size w w' := by
  have HM := Lib.hid hm
  have HC0 := Lib.hid ((cov_self k a p).trans hm)
  have HC1 := Lib.hid hc1
  have HC2 := Lib.hid hc2
  have HH1 := Lib.hid hh
  have HS1 := Lib.hid hs
  have HC3 := Lib.hid (cov_trans hc1 hc2)
  have HH2 := Lib.hid (cov_hit hc1 hh)
  clear hm hc1 hc2 hh hs
  have HA := Lib.hid (tl_all ea ep)
  have HB := Lib.hid (tl_alls sa sl sp)
  go_enter Try.func5, Try.ntmps5
  go_wp2_with fail
  refine (encode_yes _ _ _ _ hp HM.out).mono ?_
  rintro e w1 ⟨rfl, hB⟩
  obtain ⟨hc, hf⟩ := bcell hB
  obtain ⟨f3, f4⟩ := sz5 (by have := hB.size; simpa using this)
  go_wp2_with (first
    | (go_at_call 12; refine (covers_any _ _ _ _ _ _ _).mono ?_; rintro e w' ⟨rfl, hb⟩; replace hB := bthen hB hb; clear hb hc hf; obtain ⟨hc, hf⟩ := bcell hB; clear f3 f4; obtain ⟨f3, f4⟩ := sz5 (by have := hB.size; simpa using this); (first | rw [HC0.out] | rw [HC1.out] | rw [HC2.out] | rw [HC3.out]))
    | (go_at_call 8; refine (hits_any _ _ _ _ _ _ _ _).mono ?_; rintro e w' ⟨rfl, hb⟩; (first | (replace hB := bthen hB hb; clear hb hc hf; obtain ⟨hc, hf⟩ := bcell hB; clear f3 f4; obtain ⟨f3, f4⟩ := sz5 (by have := hB.size; simpa using this)) | (have g3 := Nat.lt_succ_of_lt f3; have g4 := Nat.lt_succ_of_lt f4; replace hB := bthen (ba hB _) hb; obtain ⟨hc2, hf2⟩ := bcell hb; clear hb)); (first | rw [HH1.out] | rw [HH2.out] | rw [HA.out]))
    | (go_at_call 9; refine (hitsStep_any _ _ _ _ _ _ _ _).mono ?_; rintro e w' ⟨rfl, hb⟩; replace hB := bthen hB hb; clear hb hc hf; obtain ⟨hc, hf⟩ := bcell hB; clear f3 f4; obtain ⟨f3, f4⟩ := sz5 (by have := hB.size; simpa using this); (first | rw [HS1.out] | rw [HB.out]))
    | (go_at_call 7; refine (wakes5_any _).mono ?_; rintro e w' ⟨rfl, hb⟩; replace hB := bthen hB hb; clear hb hc hf))
  go_ret
  exact ⟨rfl, bthen (ba (ba (ba (ba (ba (Below.refl _ _) _) _) _) _) _) hB⟩
set_option maxHeartbeats 2000000 in
theorem invalCovers_cov_t_t_t (k a p k' a' p' k'' a'' p'' ea ep ef : Int) (ro : Bool) (sa sl sp sf : Int) (w : World) (hp : 0 ≤ p) (hm : mayB k a p = true) (hc1 : covB k a p k' a' p' = true) (hc2 : covB k' a' p' k'' a'' p'' = true) (hh : hitB k' a' p' ea ep = true) (hs : stepB k' a' p' sa sl sp = true) :
    Calls Try.prog 5 #[.agg #[.int .i8 k, .int .i64 a, .int .u64 p], .agg #[.int .i8 k', .int .i64 a', .int .u64 p'], .agg #[.int .i8 k'', .int .i64 a'', .int .u64 p''], .agg #[.int .i64 ea, .int .u64 ep, .int .i64 ef, .bool ro], .agg #[.int .i64 sa, .int .i8 sl, .int .u64 sp, .int .i64 sf]] w fun e w' => e = .returned (.bool true) ∧ Below w.heap.size w w' := by
  have HM := Lib.hid hm
  have HC0 := Lib.hid ((cov_self k a p).trans hm)
  have HC1 := Lib.hid hc1
  have HC2 := Lib.hid hc2
  have HH1 := Lib.hid hh
  have HS1 := Lib.hid hs
  have HC3 := Lib.hid (cov_trans hc1 hc2)
  have HH2 := Lib.hid (cov_hit hc1 hh)
  have HS2 := Lib.hid (cov_step hc1 hs)
  clear hm hc1 hc2 hh hs
  have HA := Lib.hid (tl_all ea ep)
  have HB := Lib.hid (tl_alls sa sl sp)
  go_enter Try.func5, Try.ntmps5
  go_wp2_with fail
  refine (encode_yes _ _ _ _ hp HM.out).mono ?_
  rintro e w1 ⟨rfl, hB⟩
  obtain ⟨hc, hf⟩ := bcell hB
  obtain ⟨f3, f4⟩ := sz5 (by have := hB.size; simpa using this)
  go_wp2_with (first
    | (go_at_call 12; refine (covers_any _ _ _ _ _ _ _).mono ?_; rintro e w' ⟨rfl, hb⟩; replace hB := bthen hB hb; clear hb hc hf; obtain ⟨hc, hf⟩ := bcell hB; clear f3 f4; obtain ⟨f3, f4⟩ := sz5 (by have := hB.size; simpa using this); (first | rw [HC0.out] | rw [HC1.out] | rw [HC2.out] | rw [HC3.out]))
    | (go_at_call 8; refine (hits_any _ _ _ _ _ _ _ _).mono ?_; rintro e w' ⟨rfl, hb⟩; (first | (replace hB := bthen hB hb; clear hb hc hf; obtain ⟨hc, hf⟩ := bcell hB; clear f3 f4; obtain ⟨f3, f4⟩ := sz5 (by have := hB.size; simpa using this)) | (have g3 := Nat.lt_succ_of_lt f3; have g4 := Nat.lt_succ_of_lt f4; replace hB := bthen (ba hB _) hb; obtain ⟨hc2, hf2⟩ := bcell hb; clear hb)); (first | rw [HH1.out] | rw [HH2.out] | rw [HA.out]))
    | (go_at_call 9; refine (hitsStep_any _ _ _ _ _ _ _ _).mono ?_; rintro e w' ⟨rfl, hb⟩; replace hB := bthen hB hb; clear hb hc hf; obtain ⟨hc, hf⟩ := bcell hB; clear f3 f4; obtain ⟨f3, f4⟩ := sz5 (by have := hB.size; simpa using this); (first | rw [HS1.out] | rw [HS2.out] | rw [HB.out]))
    | (go_at_call 7; refine (wakes5_any _).mono ?_; rintro e w' ⟨rfl, hb⟩; replace hB := bthen hB hb; clear hb hc hf))
  go_ret
  exact ⟨rfl, bthen (ba (ba (ba (ba (ba (Below.refl _ _) _) _) _) _) _) hB⟩
theorem invalCovers_any (k a p k' a' p' k'' a'' p'' ea ep ef : Int) (ro : Bool) (sa sl sp sf : Int) (w : World) (hp : 0 ≤ p) :
    Calls Try.prog 5 #[.agg #[.int .i8 k, .int .i64 a, .int .u64 p], .agg #[.int .i8 k', .int .i64 a', .int .u64 p'], .agg #[.int .i8 k'', .int .i64 a'', .int .u64 p''], .agg #[.int .i64 ea, .int .u64 ep, .int .i64 ef, .bool ro], .agg #[.int .i64 sa, .int .i8 sl, .int .u64 sp, .int .i64 sf]] w fun e w' => e = .returned (.bool true) ∧ Below w.heap.size w w' := by
  have hmc : covB k a p k' a' p' = true → mayB k a p = true := fun h => by
    simp only [covB, Bool.and_eq_true] at h; exact h.1
  rcases h1 : covB k a p k' a' p' with _ | _
  · rcases hm : mayB k a p with _ | _
    · exact invalCovers_covA0 k a p k' a' p' k'' a'' p'' ea ep ef ro sa sl sp sf w hp hm h1
    · exact invalCovers_covA1 k a p k' a' p' k'' a'' p'' ea ep ef ro sa sl sp sf w hp hm h1
  · have hm := hmc h1
    rcases h2 : covB k' a' p' k'' a'' p'' with _ | _ <;> rcases h3 : hitB k' a' p' ea ep with _ | _ <;> rcases h4 : stepB k' a' p' sa sl sp with _ | _
    · exact invalCovers_cov_f_f_f k a p k' a' p' k'' a'' p'' ea ep ef ro sa sl sp sf w hp hm h1 h2 h3 h4
    · exact invalCovers_cov_f_f_t k a p k' a' p' k'' a'' p'' ea ep ef ro sa sl sp sf w hp hm h1 h2 h3 h4
    · exact invalCovers_cov_f_t_f k a p k' a' p' k'' a'' p'' ea ep ef ro sa sl sp sf w hp hm h1 h2 h3 h4
    · exact invalCovers_cov_f_t_t k a p k' a' p' k'' a'' p'' ea ep ef ro sa sl sp sf w hp hm h1 h2 h3 h4
    · exact invalCovers_cov_t_f_f k a p k' a' p' k'' a'' p'' ea ep ef ro sa sl sp sf w hp hm h1 h2 h3 h4
    · exact invalCovers_cov_t_f_t k a p k' a' p' k'' a'' p'' ea ep ef ro sa sl sp sf w hp hm h1 h2 h3 h4
    · exact invalCovers_cov_t_t_f k a p k' a' p' k'' a'' p'' ea ep ef ro sa sl sp sf w hp hm h1 h2 h3 h4
    · exact invalCovers_cov_t_t_t k a p k' a' p' k'' a'' p'' ea ep ef ro sa sl sp sf w hp hm h1 h2 h3 h4
end Go.Proofs.Ytlmfmpmcgokbeaa
