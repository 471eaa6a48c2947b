/-
  The walks of the reference of layer 5 and of the laws' own 'wakes'.
-/
import Derived.Test.YtokmcelmodoeoaaInvalWalks2
import Derived.Deep.QuietTactic
import Derived.BigQuiet
import Derived.Deep.Draws
namespace Go.Proofs.Ytokmcelmodoeoaa
open Go.RowKit
set_option linter.unusedVariables false
set_option linter.unusedSimpArgs false

set_option maxHeartbeats 1000000 in
theorem rmay_any (k a p : Int) (w : World) :
    Calls Try.prog 25 #[.agg #[.int .i8 k, .int .i64 a, .int .u64 p]] w fun e w' => e = .returned (.bool (mayB k a p)) ∧ Below w.heap.size w w' := by
  go_enter Try.func25, Try.ntmps25
  go_wp2
  all_goals
    go_ret
    refine ⟨ret_bool (mayB_of ?_), ba (Below.refl _ _) _⟩
    simp at *
    omega
end Go.Proofs.Ytokmcelmodoeoaa
