/-
  Layer 20's small parts: Room, Leaf, the row of one region; what the document says of a store.
-/
import Derived.Test.YtaikkdlphfmgiaaDoorShDecideR
import Derived.Laws.StructEq
namespace Go.Proofs.YtaikkdlphfmgiaaDoor
open Go.RowKit
set_option linter.unusedVariables false
set_option linter.unusedSimpArgs false
/-- How many frames a decision wants. -/
def rmV (k t : Int) : Int := if k = 2 then wrap64 (1 + (if 0 ≤ t then t else 0)) else if k = 4 then 1 else 0
theorem shRoom_any (k f t : Int) (w : World) : Calls Tryd.prog 13 #[.agg #[.int .i8 k, .int .i8 f], .int .i64 t] w fun e w' => e = .returned (.int .i64 (rmV k t)) ∧ Below w.heap.size w w' := by
  unfold rmV
  by_cases h2 : k = 2
  · subst h2
    rw [if_pos rfl]
    by_cases ht : 0 ≤ t
    · rw [if_pos ht]
      go_enter Tryd.func13, Tryd.ntmps13
      go_wp2_with fail
      go_ret
      exact ⟨by simp [ht, Int.max_eq_left], ba (ba (Below.refl _ _) _) _⟩
    · rw [if_neg ht]
      have ht' : t < 0 := by omega
      go_enter Tryd.func13, Tryd.ntmps13
      go_wp2_with fail
      go_ret
      exact ⟨by simp [Int.max_eq_right (show t ≤ 0 by omega)]; rw [IntWalk.wrap64_in _ (by omega)], ba (ba (Below.refl _ _) _) _⟩
  · rw [if_neg h2]
    have n2 : (k == 2) = false := beq_eq_false_iff_ne.2 h2
    by_cases h4 : k = 4
    · subst h4
      rw [if_pos rfl]
      clear n2 h2
      go_enter Tryd.func13, Tryd.ntmps13
      go_wp2_with fail
      go_ret
      exact ⟨rfl, ba (ba (Below.refl _ _) _) _⟩
    · rw [if_neg h4]
      have n4 : (k == 4) = false := beq_eq_false_iff_ne.2 h4
      clear h2 h4
      go_enter Tryd.func13, Tryd.ntmps13
      go_wp2_with fail
      go_ret
      exact ⟨rfl, ba (ba (Below.refl _ _) _) _⟩
theorem r20Room_any (k f t : Int) (w : World) : Calls Tryd.prog 14 #[.agg #[.int .i8 k, .int .i8 f], .int .i64 t] w fun e w' => e = .returned (.int .i64 (rmV k t)) ∧ Below w.heap.size w w' := by
  unfold rmV
  by_cases h2 : k = 2
  · subst h2
    rw [if_pos rfl]
    by_cases ht : 0 ≤ t
    · rw [if_pos ht]
      go_enter Tryd.func14, Tryd.ntmps14
      go_wp2_with fail
      go_ret
      exact ⟨by simp [ht, Int.max_eq_left], ba (Below.refl _ _) _⟩
    · rw [if_neg ht]
      have ht' : t < 0 := by omega
      go_enter Tryd.func14, Tryd.ntmps14
      go_wp2_with fail
      go_ret
      exact ⟨by simp [Int.max_eq_right (show t ≤ 0 by omega)]; rw [IntWalk.wrap64_in _ (by omega)], ba (Below.refl _ _) _⟩
  · rw [if_neg h2]
    have n2 : (k == 2) = false := beq_eq_false_iff_ne.2 h2
    by_cases h4 : k = 4
    · subst h4
      rw [if_pos rfl]
      clear n2 h2
      go_enter Tryd.func14, Tryd.ntmps14
      go_wp2_with fail
      go_ret
      exact ⟨rfl, ba (Below.refl _ _) _⟩
    · rw [if_neg h4]
      have n4 : (k == 4) = false := beq_eq_false_iff_ne.2 h4
      clear h2 h4
      go_enter Tryd.func14, Tryd.ntmps14
      go_wp2_with fail
      go_ret
      exact ⟨rfl, ba (Below.refl _ _) _⟩
theorem r16Leaf_in (f : Int) (ro : Bool) (w : World) (h0 : 0 ≤ f) (h1 : f ≤ 63) : Calls Tryd.prog 11 #[.int .i64 f, .bool ro] w fun e w' => e = .returned (.int .u64 (wordV f false ro true true)) ∧ Below w.heap.size w w' := by
  go_enter Tryd.func11, Tryd.ntmps11
  go_wp2_with fail
  refine (r3Encode_page f false ro true true _ h0 h1).mono ?_
  rintro e w1 ⟨rfl, hb⟩
  have HB := Lib.hid hb
  clear hb
  go_wp2_with fail
  go_ret
  exact ⟨rfl, HB.out⟩
def oneR : List Reg := [⟨10, 2, true⟩]
theorem region20_any (w : World) : Calls Tryd.prog 28 #[] w fun e w' => e = .returned (.slice (some ⟨w.heap.size, 0, none⟩) 1 1) ∧ RegsK w' (some ⟨w.heap.size, 0, none⟩) oneR ∧ Below w.heap.size w w' := by
  go_enter Tryd.func28, Tryd.ntmps28
  go_wp2_with fail
  go_ret
  have ha := Arr.new w #[.int .u64 10, .int .i64 2, .bool true] 32
  refine ⟨rfl, fun _ => ⟨w.heap.size, 0, rfl, fun i hi => ?_⟩, ba (Below.refl _ _) _⟩
  obtain rfl : i = 0 := by simp [oneR] at hi; omega
  exact ⟨ha.cell 0 _ rfl, ha.cell 1 _ rfl, ha.cell 2 _ rfl⟩
theorem one_wf : ∀ i, i < 1 → (rg oneR i).wf := fun i hi => by
  obtain rfl : i = 0 := by omega
  exact ⟨⟨by decide, by decide⟩, ⟨by decide, by decide⟩⟩
theorem dc_a : dcs [] 10 true 0 0 = (0, 1, 0) := by decide +kernel
theorem dc_b : dcs oneR 10 true (wordV 5 false true true true) 2 = (4, 0, 0) := by decide +kernel
theorem dc_c : dcs oneR 10 true (wordV 5 false true true true) 1 = (3, 0, 0) := by decide +kernel
theorem dc_d : dcs oneR 10 false (wordV 5 false true true true) 2 = (1, 0, 0) := by decide +kernel
theorem wd5 : U64 (wordV 5 false true true true) := by unfold U64; decide +kernel
end Go.Proofs.YtaikkdlphfmgiaaDoor
