/-
  What the document says of three frames; the law FramesNil of layer 15.
-/
import Derived.Test.YtokmcelmodoeoaaDoorFrBase
namespace Go.Proofs.YtokmcelmodoeoaaDoor
open Go.RowKit
set_option linter.unusedVariables false
set_option linter.unusedSimpArgs false

set_option maxHeartbeats 2000000 in
theorem wakes15_any (w : World) (hG : G w) : Calls Tryd.prog 8 #[] w fun e w' => e = .returned (.bool true) ∧ Below w.heap.size w w' := by
  go_enter Tryd.func8, Tryd.ntmps8
  go_wp2_with fail
  refine (pnew_yes 3 _ (by omega) (by omega)).mono ?_
  rintro e w1 ⟨rfl, hP, hB⟩
  rw [show fr0 3 = 6 by decide +kernel] at hP
  have hp := hP.lt
  have HB := Lib.hid hB
  have HG := Lib.hid (hG.call hB)
  have HGw := Lib.hid hG
  clear hB hG
  go_wp2_with fail
  refine (ptake_yes w.heap.size 3 1 _ 6 _ HG.out hP ⟨by omega, by omega⟩ (by omega) (by decide +kernel)).mono ?_
  rintro e w2 ⟨rfl, hP2, hk⟩
  rw [show clrB 6 1 = 4 by decide +kernel] at hP2
  have HB2 := Lib.hid (hk.below HB.out (fun y hy => by omega))
  have HG2 := Lib.hid (HGw.out.call HB2.out)
  clear hk hP HB HG hp
  go_wp2_with fail
  refine (ptake_yes w.heap.size 3 2 _ 4 _ HG2.out hP2 ⟨by omega, by omega⟩ (by omega) (by decide +kernel)).mono ?_
  rintro e w3 ⟨rfl, hP3, hk⟩
  rw [show clrB 4 2 = 0 by decide +kernel] at hP3
  have HB3 := Lib.hid (hk.below HB2.out (fun y hy => by omega))
  clear hk hP2 HB2 HG2
  go_wp2_with fail
  refine (ptake_full w.heap.size 3 _ _ hP3).mono ?_
  rintro e v1 ⟨rfl, rfl⟩
  go_wp2_with fail
  refine (pshare_yes w.heap.size 3 1 _ 0 _ hP3 (by omega) (by omega) (by decide) (by decide)).mono ?_
  rintro e w4 ⟨rfl, hP4, hk⟩
  have HB4 := Lib.hid (hk.below HB3.out (fun y hy => by omega))
  clear hk hP3 HB3
  go_wp2_with fail
  refine (pdrop_some w.heap.size 3 1 _ 0 _ hP4 (by omega) (by omega) (by omega) (by decide) (by decide)).mono ?_
  rintro e w5 ⟨rfl, hP5, hk⟩
  have HB5 := Lib.hid (hk.below HB4.out (fun y hy => by omega))
  clear hk hP4 HB4
  go_wp2_with fail
  refine (pdrop_last w.heap.size 3 1 _ 0 _ hP5 ⟨by omega, by omega⟩ (by omega) (by omega) (by omega) (by decide)).mono ?_
  rintro e w6 ⟨rfl, hP6, hk⟩
  rw [show setB 0 1 = 2 by decide +kernel] at hP6
  have HB6 := Lib.hid (hk.below HB5.out (fun y hy => by omega))
  clear hk hP5 HB5
  go_wp2_with fail
  refine (pfree_any w.heap.size 3 _ 2 _ hP6 ⟨by omega, by omega⟩).mono ?_
  rw [show pcV 2 = 1 by decide +kernel]
  rintro e v1 ⟨rfl, rfl⟩
  go_wp2_with fail
  go_ret
  exact ⟨rfl, HB6.out⟩
set_option maxHeartbeats 1000000 in
theorem framesNil_any (f : Int) (w : World) (hG : G w) : Calls Tryd.prog 5 #[.int .i64 f] w fun e w' => e = .returned (.bool true) ∧ Below w.heap.size w w' := by
  have HG := Lib.hid hG
  clear hG
  go_enter Tryd.func5, Tryd.ntmps5
  go_wp2_with fail
  refine (ptake_nil _).mono ?_
  rintro e w1 ⟨rfl, rfl⟩
  go_wp2_with fail
  refine (pdrop_nil f _).mono ?_
  rintro e w1 ⟨rfl, rfl⟩
  go_wp2_with fail
  refine (pshare_nil f _).mono ?_
  rintro e w1 ⟨rfl, rfl⟩
  go_wp2_with fail
  refine (pcount_nil f _).mono ?_
  rintro e w1 ⟨rfl, rfl⟩
  go_wp2_with fail
  refine (pfree_nil _).mono ?_
  rintro e w1 ⟨rfl, rfl⟩
  go_wp2_with fail
  refine (pcopy_nil _).mono ?_
  rintro e w1 ⟨rfl, rfl⟩
  go_wp2_with fail
  refine (wakes15_any _ HG.out).mono ?_
  rintro e w1 ⟨rfl, hb⟩
  go_wp2_with fail
  go_ret
  exact ⟨rfl, hb⟩
end Go.Proofs.YtokmcelmodoeoaaDoor
