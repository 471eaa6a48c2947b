/-
  The document's descriptors (tenementref03): Encode where there is no word; Decode.
-/
import Derived.Test.YtaikkdlphfmgiaaDoorDescRef
namespace Go.Proofs.YtaikkdlphfmgiaaDoor
open Go.RowKit
set_option linter.unusedVariables false
set_option linter.unusedSimpArgs false

set_option maxHeartbeats 16000000 in
theorem r3Encode_no (k f : Int) (af ro us ng : Bool) (w : World) (h : dOk k f af ro us ng = false) :
    Calls Tryd.prog 33 #[.agg #[.int .i8 k, .int .i64 f, .bool af, .bool ro, .bool us, .bool ng]] w fun e w' => e = .returned (.tuple #[.int .u64 0, .int .i64 30]) ∧ Below w.heap.size w w' := by
  have hn : ¬ (dOk k f af ro us ng = true) := by rw [h]; decide
  rw [dOk_iff, bare_iff] at hn
  clear h
  by_cases hk0 : k = 0
  · subst hk0
    by_cases hf0 : f < 0
    · have b1 : (f == 0) = false := beq_eq_false_iff_ne.2 (by omega)
      clear hn
      cases af <;> cases ro <;> cases us <;> cases ng
      all_goals
        go_enter Tryd.func33, Tryd.ntmps33
        go_wp2
        go_ret2
        exact ⟨rfl, ba (Below.refl _ _) _⟩
    · by_cases hf1 : 64 ≤ f
      · have b1 : (f == 0) = false := beq_eq_false_iff_ne.2 (by omega)
        have b2 : 0 ≤ f := by omega
        clear hn hf0
        cases af <;> cases ro <;> cases us <;> cases ng
        all_goals
          go_enter Tryd.func33, Tryd.ntmps33
          go_wp2
          go_ret2
          exact ⟨rfl, ba (Below.refl _ _) _⟩
      · have b2 : 0 ≤ f := by omega
        have b3 : f < 64 := by omega
        clear hf0 hf1
        by_cases hz : f = 0
        · subst hz
          cases af <;> cases ro <;> cases us <;> cases ng
          all_goals first
            | (exfalso; apply hn; simp; done)
            | (clear hn
               go_enter Tryd.func33, Tryd.ntmps33
               go_wp2
               go_ret2
               exact ⟨rfl, ba (Below.refl _ _) _⟩)
        · have b1 : (f == 0) = false := beq_eq_false_iff_ne.2 hz
          clear hn hz
          cases af <;> cases ro <;> cases us <;> cases ng
          all_goals
            go_enter Tryd.func33, Tryd.ntmps33
            go_wp2
            go_ret2
            exact ⟨rfl, ba (Below.refl _ _) _⟩
  · have c0 : (k == 0) = false := beq_eq_false_iff_ne.2 hk0
    by_cases hf0 : f < 0
    · clear hn hk0
      cases af <;> cases ro <;> cases us <;> cases ng
      all_goals
        go_enter Tryd.func33, Tryd.ntmps33
        go_wp2
        go_ret2
        exact ⟨rfl, ba (Below.refl _ _) _⟩
    · by_cases hf1 : 64 ≤ f
      · have b2 : 0 ≤ f := by omega
        clear hn hf0 hk0
        cases af <;> cases ro <;> cases us <;> cases ng
        all_goals
          go_enter Tryd.func33, Tryd.ntmps33
          go_wp2
          go_ret2
          exact ⟨rfl, ba (Below.refl _ _) _⟩
      · have b2 : 0 ≤ f := by omega
        have b3 : f < 64 := by omega
        have hk2 : k ≠ 2 := fun e => hn ⟨⟨b2, by omega⟩, .inr (.inr e)⟩
        have c2 : (k != 2) = true := by rw [bne_iff_ne]; exact hk2
        clear hf0 hf1 hk2
        by_cases hk1 : k = 1
        · subst hk1
          cases af <;> cases ro <;> cases us <;> cases ng
          all_goals first
            | (exfalso; apply hn; simp; omega)
            | (clear hn hk0
               go_enter Tryd.func33, Tryd.ntmps33
               go_wp2
               go_ret2
               exact ⟨rfl, ba (Below.refl _ _) _⟩)
        · have c1 : (k != 1) = true := by rw [bne_iff_ne]; exact hk1
          clear hn hk0 hk1
          cases af <;> cases ro <;> cases us <;> cases ng
          all_goals
            go_enter Tryd.func33, Tryd.ntmps33
            go_wp2
            go_ret2
            exact ⟨rfl, ba (Below.refl _ _) _⟩
theorem r3Encode_any (k f : Int) (af ro us ng : Bool) (w : World) :
    Calls Tryd.prog 33 #[.agg #[.int .i8 k, .int .i64 f, .bool af, .bool ro, .bool us, .bool ng]] w fun e w' => e = .returned (.tuple #[.int .u64 (eW k f af ro us ng), .int .i64 (eE k f af ro us ng)]) ∧ Below w.heap.size w w' := by
  rcases h : dOk k f af ro us ng with _ | _
  · simp only [eW, eE, h]; exact r3Encode_no k f af ro us ng w h
  · simp only [eW, eE, h]; exact r3Encode_yes k f af ro us ng w h
end Go.Proofs.YtaikkdlphfmgiaaDoor
