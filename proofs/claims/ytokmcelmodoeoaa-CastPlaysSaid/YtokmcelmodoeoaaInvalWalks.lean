/-
  The walks of package inval: what each function computes.
-/
import Derived.Test.YtokmcelmodoeoaaCommon
namespace Go.Proofs.Ytokmcelmodoeoaa
open Go.RowKit
set_option linter.unusedVariables false
set_option linter.unusedSimpArgs false

/-- May an invalidation be? -/
def mayB (k a p : Int) : Bool := decide (0 ≤ a ∧ a ≤ 255 ∧ p < 34359738368 ∧ ((k = 0 ∧ a = 0 ∧ p = 0) ∨ (k = 1 ∧ p = 0) ∨ k = 2))
theorem mayB_iff (k a p : Int) : mayB k a p = true ↔ 0 ≤ a ∧ a ≤ 255 ∧ p < 34359738368 ∧ ((k = 0 ∧ a = 0 ∧ p = 0) ∨ (k = 1 ∧ p = 0) ∨ k = 2) := by simp [mayB]
theorem mayB_of {k a p : Int} {b : Bool} (h : b = true ↔ (0 ≤ a ∧ a ≤ 255 ∧ p < 34359738368 ∧ ((k = 0 ∧ a = 0 ∧ p = 0) ∨ (k = 1 ∧ p = 0) ∨ k = 2))) : b = mayB k a p := by
  rw [Bool.eq_iff_iff, mayB_iff]; exact h
set_option maxHeartbeats 1000000 in
theorem may_any (k a p : Int) (w : World) :
    Calls Try.prog 29 #[.agg #[.int .i8 k, .int .i64 a, .int .u64 p]] w fun e w' => e = .returned (.bool (mayB k a p)) ∧ Below w.heap.size w w' := by
  go_enter Try.func29, Try.ntmps29
  go_wp2
  all_goals
    go_ret
    refine ⟨ret_bool (mayB_of ?_), ba (Below.refl _ _) _⟩
    simp at *
    omega
/-- Does it hit an entry of a TLB? -/
def hitB (k a p ea ep : Int) : Bool := mayB k a p && ((k == 0) || ((a == ea) && ((k == 1) || (p == ep))))
/-- Does it hit an entry of a walk cache? -/
def stepB (k a p sa sl sp : Int) : Bool := mayB k a p && ((k == 0) || (decide (1 ≤ sl ∧ sl ≤ 3) && ((a == sa) && ((k == 1) || (p / 2 ^ (9 * (3 - sl)).toNat == sp)))))
theorem st_tlbi : Try.prog.underlying 35 = some (.struct (Try.prog.fieldsOf 35)) := by kernel_rfl
theorem sh_tlbi : Try.prog.stoodInHeld 35 = false := by kernel_rfl
theorem eql_tlbi (w : World) (k a p k' a' p' : Int) : (binOp .eql 35 (.agg #[.int .i8 k, .int .i64 a, .int .u64 p]) (.agg #[.int .i8 k', .int .i64 a', .int .u64 p'])).run Try.prog w = .ok (.bool ((k == k') && ((a == a') && (p == p')))) w := by
  rw [run_eql_struct, run_equalIn_agg w _ _ _ _ st_tlbi sh_tlbi]
  simp [go_sem, Try.underlying35, Try.underlying32, Try.underlying3, Try.underlying33]
  by_cases h1 : k = k' <;> by_cases h2 : a = a' <;> by_cases h3 : p = p' <;> simp [h1, h2, h3]
theorem neq_tlbi (w : World) (k a p k' a' p' : Int) : (binOp .neq 35 (.agg #[.int .i8 k, .int .i64 a, .int .u64 p]) (.agg #[.int .i8 k', .int .i64 a', .int .u64 p'])).run Try.prog w = .ok (.bool (!((k == k') && ((a == a') && (p == p'))))) w := by
  rw [run_neq_struct, run_equalIn_agg w _ _ _ _ st_tlbi sh_tlbi]
  simp [go_sem, Try.underlying35, Try.underlying32, Try.underlying3, Try.underlying33]
  by_cases h1 : k = k' <;> by_cases h2 : a = a' <;> by_cases h3 : p = p' <;> simp [h1, h2, h3]
theorem stepB_out {k a p sa sl sp : Int} (h : sl < 1 ∨ 3 < sl) : ((k == 0) && ((a == 0) && (p == 0))) = stepB k a p sa sl sp := by
  have hd : decide (1 ≤ sl ∧ sl ≤ 3) = false := by simp; omega
  rw [Bool.eq_iff_iff]
  simp only [stepB, hd, Bool.false_and, Bool.or_false, Bool.and_eq_true, mayB_iff, beq_iff_eq]
  omega
end Go.Proofs.Ytokmcelmodoeoaa
