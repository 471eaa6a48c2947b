/-
  The walks of package inval: what each function computes.
-/
import Derived.Test.YtencifnopfianaaCommon
namespace Go.Proofs.Ytencifnopfianaa
open Go.RowKit
set_option linter.unusedVariables false
set_option linter.unusedSimpArgs false

/-- May an invalidation be? -/
def mayB (k a p : Int) : Bool := decide (0 ≤ a ∧ a ≤ 255 ∧ p < 34359738368 ∧ ((k = 0 ∧ a = 0 ∧ p = 0) ∨ (k = 1 ∧ p = 0) ∨ k = 2))
theorem mayB_iff (k a p : Int) : mayB k a p = true ↔ 0 ≤ a ∧ a ≤ 255 ∧ p < 34359738368 ∧ ((k = 0 ∧ a = 0 ∧ p = 0) ∨ (k = 1 ∧ p = 0) ∨ k = 2) := by simp [mayB]
theorem mayB_of {k a p : Int} {b : Bool} (h : b = true ↔ (0 ≤ a ∧ a ≤ 255 ∧ p < 34359738368 ∧ ((k = 0 ∧ a = 0 ∧ p = 0) ∨ (k = 1 ∧ p = 0) ∨ k = 2))) : b = mayB k a p := by
  rw [Bool.eq_iff_iff, mayB_iff]; exact h
set_option maxHeartbeats 1000000 in
theorem may_any (k a p : Int) (w : World) :
    Calls Try.prog 68 #[.agg #[.int .i8 k, .int .i64 a, .int .u64 p]] w fun e w' => e = .returned (.bool (mayB k a p)) ∧ Below w.heap.size w w' := by
  go_enter Try.func68, Try.ntmps68
  go_wp2
  all_goals
    go_ret
    refine ⟨ret_bool (mayB_of ?_), ba (Below.refl _ _) _⟩
    simp at *
    omega
/-- Does it hit an entry of a TLB? -/
def hitB (k a p ea ep : Int) : Bool := mayB k a p && ((k == 0) || ((a == ea) && ((k == 1) || (p == ep))))
/-- Does it hit an entry of a walk cache? -/
def stepB (k a p sa sl sp : Int) : Bool := mayB k a p && ((k == 0) || (decide (1 ≤ sl ∧ sl ≤ 3) && ((a == sa) && ((k == 1) || (p / 2 ^ (9 * (3 - sl)).toNat == sp)))))
set_option maxHeartbeats 2000000 in
theorem entry_any (k a p ea ep ef : Int) (ro : Bool) (w : World) :
    Calls Try.prog 60 #[.agg #[.int .i8 k, .int .i64 a, .int .u64 p], .agg #[.int .i64 ea, .int .u64 ep, .int .i64 ef, .bool ro]] w fun e w' => e = .returned (.bool (hitB k a p ea ep)) ∧ Below w.heap.size w w' := by
  rcases hm : mayB k a p with _ | _
  · have HR := Lib.hid (show hitB k a p ea ep = false by simp [hitB, hm])
    have HM := Lib.hid hm
    clear hm
    go_enter Try.func60, Try.ntmps60
    go_wp2_with (first
      | (go_at_call 68; refine (may_any _ _ _ _).mono ?_; rintro e w1 ⟨rfl, hb1⟩; rw [HM.out]; obtain ⟨hc1, hf1⟩ := bcell hb1)
      | go_in)
    go_ret
    exact ⟨ret_bool HR.out.symm, bthen (ba (ba (ba (Below.refl _ _) _) _) _) hb1⟩
  · have HM := Lib.hid hm
    rcases h0 : (k == 0) with _ | _
    · rcases ha : (a == ea) with _ | _
      · have HR := Lib.hid (show hitB k a p ea ep = false by simp [hitB, hm, h0, ha])
        have ha' : (a != ea) = true := by simp [bne, ha]
        clear hm
        go_enter Try.func60, Try.ntmps60
        go_wp2_with (first
          | (go_at_call 68; refine (may_any _ _ _ _).mono ?_; rintro e w1 ⟨rfl, hb1⟩; rw [HM.out]; obtain ⟨hc1, hf1⟩ := bcell hb1)
          | go_in)
        go_ret
        exact ⟨ret_bool HR.out.symm, bthen (ba (ba (ba (Below.refl _ _) _) _) _) hb1⟩
      · have ha' : (a != ea) = false := by simp [bne, ha]
        rcases h1 : (k == 1) with _ | _
        · have HR := Lib.hid (show hitB k a p ea ep = (p == ep) by simp [hitB, hm, h0, ha, h1])
          clear hm
          go_enter Try.func60, Try.ntmps60
          go_wp2_with (first
            | (go_at_call 68; refine (may_any _ _ _ _).mono ?_; rintro e w1 ⟨rfl, hb1⟩; rw [HM.out]; obtain ⟨hc1, hf1⟩ := bcell hb1)
            | go_in)
          go_ret
          exact ⟨ret_bool HR.out.symm, bthen (ba (ba (ba (Below.refl _ _) _) _) _) hb1⟩
        · have HR := Lib.hid (show hitB k a p ea ep = true by simp [hitB, hm, h0, ha, h1])
          clear hm
          go_enter Try.func60, Try.ntmps60
          go_wp2_with (first
            | (go_at_call 68; refine (may_any _ _ _ _).mono ?_; rintro e w1 ⟨rfl, hb1⟩; rw [HM.out]; obtain ⟨hc1, hf1⟩ := bcell hb1)
            | go_in)
          go_ret
          exact ⟨ret_bool HR.out.symm, bthen (ba (ba (ba (Below.refl _ _) _) _) _) hb1⟩
    · have HR := Lib.hid (show hitB k a p ea ep = true by simp [hitB, hm, h0])
      clear hm
      go_enter Try.func60, Try.ntmps60
      go_wp2_with (first
        | (go_at_call 68; refine (may_any _ _ _ _).mono ?_; rintro e w1 ⟨rfl, hb1⟩; rw [HM.out]; obtain ⟨hc1, hf1⟩ := bcell hb1)
        | go_in)
      go_ret
      exact ⟨ret_bool HR.out.symm, bthen (ba (ba (ba (Below.refl _ _) _) _) _) hb1⟩
theorem st_tlbi : Try.prog.underlying 28 = some (.struct (Try.prog.fieldsOf 28)) := by kernel_rfl
theorem sh_tlbi : Try.prog.stoodInHeld 28 = false := by kernel_rfl
theorem eql_tlbi (w : World) (k a p k' a' p' : Int) : (binOp .eql 28 (.agg #[.int .i8 k, .int .i64 a, .int .u64 p]) (.agg #[.int .i8 k', .int .i64 a', .int .u64 p'])).run Try.prog w = .ok (.bool ((k == k') && ((a == a') && (p == p')))) w := by
  rw [run_eql_struct, run_equalIn_agg w _ _ _ _ st_tlbi sh_tlbi]
  simp [go_sem, Try.underlying28, Try.underlying26, Try.underlying3, Try.underlying23]
  by_cases h1 : k = k' <;> by_cases h2 : a = a' <;> by_cases h3 : p = p' <;> simp [h1, h2, h3]
theorem neq_tlbi (w : World) (k a p k' a' p' : Int) : (binOp .neq 28 (.agg #[.int .i8 k, .int .i64 a, .int .u64 p]) (.agg #[.int .i8 k', .int .i64 a', .int .u64 p'])).run Try.prog w = .ok (.bool (!((k == k') && ((a == a') && (p == p'))))) w := by
  rw [run_neq_struct, run_equalIn_agg w _ _ _ _ st_tlbi sh_tlbi]
  simp [go_sem, Try.underlying28, Try.underlying26, Try.underlying3, Try.underlying23]
  by_cases h1 : k = k' <;> by_cases h2 : a = a' <;> by_cases h3 : p = p' <;> simp [h1, h2, h3]
theorem stepB_out {k a p sa sl sp : Int} (h : sl < 1 ∨ 3 < sl) : ((k == 0) && ((a == 0) && (p == 0))) = stepB k a p sa sl sp := by
  have hd : decide (1 ≤ sl ∧ sl ≤ 3) = false := by simp; omega
  rw [Bool.eq_iff_iff]
  simp only [stepB, hd, Bool.false_and, Bool.or_false, Bool.and_eq_true, mayB_iff, beq_iff_eq]
  omega
set_option maxHeartbeats 2000000 in
theorem step_out (k a p sa sl sp sf : Int) (w : World) (hl : sl < 1 ∨ 3 < sl) :
    Calls Try.prog 64 #[.agg #[.int .i8 k, .int .i64 a, .int .u64 p], .agg #[.int .i64 sa, .int .i8 sl, .int .u64 sp, .int .i64 sf]] w fun e w' => e = .returned (.bool (stepB k a p sa sl sp)) ∧ Below w.heap.size w w' := by
  have HR := Lib.hid (stepB_out (k := k) (a := a) (p := p) (sa := sa) (sp := sp) hl)
  rcases hl with hl | hl
  all_goals
    go_enter Try.func64, Try.ntmps64
    go_wp2
    all_goals
      go_ret
      refine ⟨ret_bool ?_, ba (ba (Below.refl _ _) _) _⟩
      rw [← HR.out]
      simp [*]
set_option maxHeartbeats 2000000 in
theorem step_in (k a p sa sl sp sf : Int) (w : World) (h1 : 1 ≤ sl) (h3 : sl ≤ 3) :
    Calls Try.prog 64 #[.agg #[.int .i8 k, .int .i64 a, .int .u64 p], .agg #[.int .i64 sa, .int .i8 sl, .int .u64 sp, .int .i64 sf]] w fun e w' => e = .returned (.bool (stepB k a p sa sl sp)) ∧ Below w.heap.size w w' := by
  have hd : decide (1 ≤ sl ∧ sl ≤ 3) = true := by simp; omega
  rcases hm : mayB k a p with _ | _
  · have HR := Lib.hid (show stepB k a p sa sl sp = false by simp [stepB, hm])
    have HM := Lib.hid hm
    clear hm hd
    go_enter Try.func64, Try.ntmps64
    go_wp2_with (first
      | (go_at_call 68; refine (may_any _ _ _ _).mono ?_; rintro e w1 ⟨rfl, hb1⟩; rw [HM.out]; obtain ⟨hc1, hf1⟩ := bcell hb1)
      | go_in)
    go_ret
    exact ⟨ret_bool HR.out.symm, bthen (ba (ba (ba (ba (Below.refl _ _) _) _) _) _) hb1⟩
  have HM := Lib.hid hm
  rcases h0 : (k == 0) with _ | _
  rotate_left
  · have HR := Lib.hid (show stepB k a p sa sl sp = true by simp [stepB, hm, h0])
    clear hm hd
    go_enter Try.func64, Try.ntmps64
    go_wp2_with (first
      | (go_at_call 68; refine (may_any _ _ _ _).mono ?_; rintro e w1 ⟨rfl, hb1⟩; rw [HM.out]; obtain ⟨hc1, hf1⟩ := bcell hb1)
      | go_in)
    go_ret
    exact ⟨ret_bool HR.out.symm, bthen (ba (ba (ba (ba (Below.refl _ _) _) _) _) _) hb1⟩
  rcases ha : (a == sa) with _ | _
  · have HR := Lib.hid (show stepB k a p sa sl sp = false by simp [stepB, hm, h0, ha])
    have ha' : (a != sa) = true := by simp [bne, ha]
    clear hm hd
    go_enter Try.func64, Try.ntmps64
    go_wp2_with (first
      | (go_at_call 68; refine (may_any _ _ _ _).mono ?_; rintro e w1 ⟨rfl, hb1⟩; rw [HM.out]; obtain ⟨hc1, hf1⟩ := bcell hb1)
      | go_in)
    go_ret
    exact ⟨ret_bool HR.out.symm, bthen (ba (ba (ba (ba (Below.refl _ _) _) _) _) _) hb1⟩
  have ha' : (a != sa) = false := by simp [bne, ha]
  rcases hk1 : (k == 1) with _ | _
  · have HR := Lib.hid (show stepB k a p sa sl sp = (p / 2 ^ (9 * (3 - sl)).toNat == sp) by simp only [stepB, hm, h0, ha, hk1, hd, Bool.true_and, Bool.false_or])
    clear hm hd
    go_enter Try.func64, Try.ntmps64
    go_wp2_with (first
      | (go_at_call 68; refine (may_any _ _ _ _).mono ?_; rintro e w1 ⟨rfl, hb1⟩; rw [HM.out]; obtain ⟨hc1, hf1⟩ := bcell hb1)
      | go_in)
    go_ret
    exact ⟨ret_bool HR.out.symm, bthen (ba (ba (ba (ba (Below.refl _ _) _) _) _) _) hb1⟩
  · have HR := Lib.hid (show stepB k a p sa sl sp = true by simp only [stepB, hm, h0, ha, hk1, hd, Bool.true_and, Bool.false_or, Bool.true_or])
    clear hm hd
    go_enter Try.func64, Try.ntmps64
    go_wp2_with (first
      | (go_at_call 68; refine (may_any _ _ _ _).mono ?_; rintro e w1 ⟨rfl, hb1⟩; rw [HM.out]; obtain ⟨hc1, hf1⟩ := bcell hb1)
      | go_in)
    go_ret
    exact ⟨ret_bool HR.out.symm, bthen (ba (ba (ba (ba (Below.refl _ _) _) _) _) _) hb1⟩
theorem step_any (k a p sa sl sp sf : Int) (w : World) :
    Calls Try.prog 64 #[.agg #[.int .i8 k, .int .i64 a, .int .u64 p], .agg #[.int .i64 sa, .int .i8 sl, .int .u64 sp, .int .i64 sf]] w fun e w' => e = .returned (.bool (stepB k a p sa sl sp)) ∧ Below w.heap.size w w' := by
  by_cases h : 1 ≤ sl ∧ sl ≤ 3
  · exact step_in k a p sa sl sp sf w h.1 h.2
  · exact step_out k a p sa sl sp sf w (by omega)
set_option maxHeartbeats 1000000 in
theorem hits_any (k a p ea ep ef : Int) (ro : Bool) (w : World) :
    Calls Try.prog 37 #[.agg #[.int .i8 k, .int .i64 a, .int .u64 p], .agg #[.int .i64 ea, .int .u64 ep, .int .i64 ef, .bool ro]] w fun e w' => e = .returned (.bool (hitB k a p ea ep)) ∧ Below w.heap.size w w' := by
  go_enter Try.func37, Try.ntmps37
  go_wp2_with (go_at_call 60; refine (entry_any _ _ _ _ _ _ _ _).mono ?_; rintro e w1 ⟨rfl, hb1⟩)
  go_ret
  exact ⟨rfl, bthen (ba (ba (Below.refl _ _) _) _) hb1⟩
set_option maxHeartbeats 1000000 in
theorem hitsStep_any (k a p sa sl sp sf : Int) (w : World) :
    Calls Try.prog 48 #[.agg #[.int .i8 k, .int .i64 a, .int .u64 p], .agg #[.int .i64 sa, .int .i8 sl, .int .u64 sp, .int .i64 sf]] w fun e w' => e = .returned (.bool (stepB k a p sa sl sp)) ∧ Below w.heap.size w w' := by
  go_enter Try.func48, Try.ntmps48
  go_wp2_with (go_at_call 64; refine (step_any _ _ _ _ _ _ _ _).mono ?_; rintro e w1 ⟨rfl, hb1⟩)
  go_ret
  exact ⟨rfl, bthen (ba (ba (Below.refl _ _) _) _) hb1⟩
end Go.Proofs.Ytencifnopfianaa
