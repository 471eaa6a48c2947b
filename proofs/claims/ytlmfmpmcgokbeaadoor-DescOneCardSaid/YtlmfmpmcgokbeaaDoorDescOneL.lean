/-
  The law DescOne of layer 3.
-/
import Derived.Test.YtlmfmpmcgokbeaaDoorDescOneB
import Derived.Test.YtlmfmpmcgokbeaaDoorDescOneC
import Derived.Test.YtlmfmpmcgokbeaaDoorDescOneD
import Derived.Test.YtlmfmpmcgokbeaaDoorDescOneE
namespace Go.Proofs.YtlmfmpmcgokbeaaDoor
open Go.RowKit
set_option linter.unusedVariables false

theorem dOk_kind {k f : Int} {af ro us ng : Bool} (h : dOk k f af ro us ng = true) : k = 0 ∨ k = 1 ∨ k = 2 := by
  rw [dOk_iff] at h
  rcases h.2 with ⟨h, _⟩ | ⟨h, _⟩ | h <;> omega
theorem descOne_any (k k2 f f2 fr : Int) (af ro us ng af2 ro2 us2 ng2 : Bool) (w : World) (hG : G w) :
    Calls Tryd.prog 5 #[.agg #[.int .i8 k, .int .i64 f, .bool af, .bool ro, .bool us, .bool ng], .agg #[.int .i8 k2, .int .i64 f2, .bool af2, .bool ro2, .bool us2, .bool ng2], .int .i64 fr] w fun e w' => e = .returned (.bool true) ∧ Below w.heap.size w w' := by
  rcases h : dOk k f af ro us ng with _ | _
  · rcases h2 : dOk k2 f2 af2 ro2 us2 ng2 with _ | _ <;> rcases h3 : dOk k fr af ro us ng with _ | _
    · exact descOne_nnn _ _ _ _ _ _ _ _ _ _ _ _ _ w hG h h2 h3
    · exact descOne_nny _ _ _ _ _ _ _ _ _ _ _ _ _ w hG h h2 h3
    · exact descOne_nyn _ _ _ _ _ _ _ _ _ _ _ _ _ w hG h h2 h3
    · exact descOne_nyy _ _ _ _ _ _ _ _ _ _ _ _ _ w hG h h2 h3
  · rcases h2 : dOk k2 f2 af2 ro2 us2 ng2 with _ | _
    · rcases h3 : dOk k fr af ro us ng with _ | _
      · rcases dOk_kind h with rfl | rfl | rfl
        · exact descOne_ynn0 _ _ _ _ _ _ _ _ _ _ _ _ w hG h h2 h3
        · exact descOne_ynn1 _ _ _ _ _ _ _ _ _ _ _ _ w hG h h2 h3
        · exact descOne_ynn2 _ _ _ _ _ _ _ _ _ _ _ _ w hG h h2 h3
      · rcases dOk_kind h with rfl | rfl | rfl
        · exact descOne_yn0 _ _ _ _ _ _ _ _ _ _ _ _ w hG h h2 h3
        · exact descOne_yn1 _ _ _ _ _ _ _ _ _ _ _ _ w hG h h2 h3
        · exact descOne_yn2 _ _ _ _ _ _ _ _ _ _ _ _ w hG h h2 h3
    · rcases hk : (k == k2) with _ | _
      · rcases h3 : dOk k fr af ro us ng with _ | _
        · rcases dOk_kind h with rfl | rfl | rfl
          · exact descOne_ydn0 _ _ _ _ _ _ _ _ _ _ _ _ w hG h h2 hk h3
          · exact descOne_ydn1 _ _ _ _ _ _ _ _ _ _ _ _ w hG h h2 hk h3
          · exact descOne_ydn2 _ _ _ _ _ _ _ _ _ _ _ _ w hG h h2 hk h3
        · rcases dOk_kind h with rfl | rfl | rfl
          · exact descOne_yd0 _ _ _ _ _ _ _ _ _ _ _ _ w hG h h2 hk h3
          · exact descOne_yd1 _ _ _ _ _ _ _ _ _ _ _ _ w hG h h2 hk h3
          · exact descOne_yd2 _ _ _ _ _ _ _ _ _ _ _ _ w hG h h2 hk h3
      · obtain rfl : k = k2 := by simpa using hk
        rcases h3 : dOk k fr af ro us ng with _ | _
        · rcases dOk_kind h with rfl | rfl | rfl
          · exact descOne_ysn0 _ _ _ _ _ _ _ _ _ _ _ w hG h h2 h3
          · exact descOne_ysn1 _ _ _ _ _ _ _ _ _ _ _ w hG h h2 h3
          · exact descOne_ysn2 _ _ _ _ _ _ _ _ _ _ _ w hG h h2 h3
        · rcases dOk_kind h with rfl | rfl | rfl
          · exact descOne_ys0 _ _ _ _ _ _ _ _ _ _ _ w hG h h2 h3
          · exact descOne_ys1 _ _ _ _ _ _ _ _ _ _ _ w hG h h2 h3
          · exact descOne_ys2 _ _ _ _ _ _ _ _ _ _ _ w hG h h2 h3
end Go.Proofs.YtlmfmpmcgokbeaaDoor
