/-
  Layer 20: what the document says of a store.
-/
import Derived.Test.YtaikkdlphfmgiaaDoorShBase
namespace Go.Proofs.YtaikkdlphfmgiaaDoor
open Go.RowKit
set_option linter.unusedVariables false
set_option linter.unusedSimpArgs false
set_option maxRecDepth 100000 in
set_option maxHeartbeats 4000000 in
theorem wakes20_any (w : World) (hG : G w) : Calls Tryd.prog 7 #[] w fun e w' => e = .returned (.bool true) ∧ Below w.heap.size w w' := by
  have HG := Lib.hid hG
  clear hG
  go_enter Tryd.func7, Tryd.ntmps7
  go_wp2_with fail
  refine (shDecide_any none 0 0 10 0 0 true [] _ HG.out (fun h => by simp at h) rfl (by omega) (by omega) (fun i hi => by omega) ⟨by omega, by omega⟩ ⟨by omega, by omega⟩).mono ?_
  rintro e w1 ⟨rfl, hb1⟩
  rw [dc_a]
  unfold dcV
  go_upto_region 2 with fail
  have hA := Arr.new w1 #[.int .i8 0, .int .i8 1] 27
  have hB := ba hb1 (.cells #[.int .i8 0, .int .i8 1] 27)
  generalize w1.alloc (.cells #[.int .i8 0, .int .i8 1] 27) = W0 at *
  generalize w1.heap.size = X0 at *
  have HK0_0 := Lib.hid hA
  have HW0 := Lib.hid hB
  clear hA hB
  go_wp2_with fail
  refine (region20_any _).mono ?_
  rintro e R1 ⟨rfl, hR, hb⟩
  have HR1 := Lib.hid hR
  have HBr1 := Lib.hid (bthen HW0.out hb)
  have HK0_1r := Lib.hid (HK0_0.out.call hb)
  clear hR hb
  go_wp2_with fail
  refine (r16Leaf_in 5 true _ (by omega) (by omega)).mono ?_
  rintro e L1 ⟨rfl, hb⟩
  have HRl1 := Lib.hid (HR1.out.call hb)
  have HBl1 := Lib.hid (bthen HBr1.out hb)
  have HK0_1l := Lib.hid (HK0_1r.out.call hb)
  clear hb
  go_wp2_with fail
  refine (shDecide_any (some ⟨W0.heap.size, 0, none⟩) 1 1 10 (wordV 5 false true true true) 2 true oneR _ (HG.out.call HBl1.out) HRl1.out rfl (by omega) (by omega) one_wf ⟨by omega, by omega⟩ wd5).mono ?_
  rintro e D1 ⟨rfl, hb⟩
  have HB1 := Lib.hid (bthen HBl1.out hb)
  have HK0_1p := Lib.hid (HK0_1l.out.call hb)
  clear hb
  rw [dc_b]
  unfold dcV
  go_upto_region 3 with fail
  have hA := Arr.new D1 #[.int .i8 4, .int .i8 0] 27
  have hB := ba HB1.out (.cells #[.int .i8 4, .int .i8 0] 27)
  have HK0_1 := Lib.hid (HK0_1p.out.alloc (.cells #[.int .i8 4, .int .i8 0] 27))
  clear HK0_1p
  generalize D1.alloc (.cells #[.int .i8 4, .int .i8 0] 27) = W1 at *
  generalize D1.heap.size = X1 at *
  have HK1_1 := Lib.hid hA
  have HW1 := Lib.hid hB
  clear hA hB
  go_wp2_with fail
  refine (region20_any _).mono ?_
  rintro e R2 ⟨rfl, hR, hb⟩
  have HR2 := Lib.hid hR
  have HBr2 := Lib.hid (bthen HW1.out hb)
  have HK0_2r := Lib.hid (HK0_1.out.call hb)
  have HK1_2r := Lib.hid (HK1_1.out.call hb)
  clear hR hb
  go_wp2_with fail
  refine (r16Leaf_in 5 true _ (by omega) (by omega)).mono ?_
  rintro e L2 ⟨rfl, hb⟩
  have HRl2 := Lib.hid (HR2.out.call hb)
  have HBl2 := Lib.hid (bthen HBr2.out hb)
  have HK0_2l := Lib.hid (HK0_2r.out.call hb)
  have HK1_2l := Lib.hid (HK1_2r.out.call hb)
  clear hb
  go_wp2_with fail
  refine (shDecide_any (some ⟨W1.heap.size, 0, none⟩) 1 1 10 (wordV 5 false true true true) 1 true oneR _ (HG.out.call HBl2.out) HRl2.out rfl (by omega) (by omega) one_wf ⟨by omega, by omega⟩ wd5).mono ?_
  rintro e D2 ⟨rfl, hb⟩
  have HB2 := Lib.hid (bthen HBl2.out hb)
  have HK0_2p := Lib.hid (HK0_2l.out.call hb)
  have HK1_2p := Lib.hid (HK1_2l.out.call hb)
  clear hb
  rw [dc_c]
  unfold dcV
  go_upto_region 4 with fail
  have hA := Arr.new D2 #[.int .i8 3, .int .i8 0] 27
  have hB := ba HB2.out (.cells #[.int .i8 3, .int .i8 0] 27)
  have HK0_2 := Lib.hid (HK0_2p.out.alloc (.cells #[.int .i8 3, .int .i8 0] 27))
  clear HK0_2p
  have HK1_2 := Lib.hid (HK1_2p.out.alloc (.cells #[.int .i8 3, .int .i8 0] 27))
  clear HK1_2p
  generalize D2.alloc (.cells #[.int .i8 3, .int .i8 0] 27) = W2 at *
  generalize D2.heap.size = X2 at *
  have HK2_2 := Lib.hid hA
  have HW2 := Lib.hid hB
  clear hA hB
  go_wp2_with fail
  refine (region20_any _).mono ?_
  rintro e R3 ⟨rfl, hR, hb⟩
  have HR3 := Lib.hid hR
  have HBr3 := Lib.hid (bthen HW2.out hb)
  have HK0_3r := Lib.hid (HK0_2.out.call hb)
  have HK1_3r := Lib.hid (HK1_2.out.call hb)
  have HK2_3r := Lib.hid (HK2_2.out.call hb)
  clear hR hb
  go_wp2_with fail
  refine (r16Leaf_in 5 true _ (by omega) (by omega)).mono ?_
  rintro e L3 ⟨rfl, hb⟩
  have HRl3 := Lib.hid (HR3.out.call hb)
  have HBl3 := Lib.hid (bthen HBr3.out hb)
  have HK0_3l := Lib.hid (HK0_3r.out.call hb)
  have HK1_3l := Lib.hid (HK1_3r.out.call hb)
  have HK2_3l := Lib.hid (HK2_3r.out.call hb)
  clear hb
  go_wp2_with fail
  refine (shDecide_any (some ⟨W2.heap.size, 0, none⟩) 1 1 10 (wordV 5 false true true true) 2 false oneR _ (HG.out.call HBl3.out) HRl3.out rfl (by omega) (by omega) one_wf ⟨by omega, by omega⟩ wd5).mono ?_
  rintro e D3 ⟨rfl, hb⟩
  have HB3 := Lib.hid (bthen HBl3.out hb)
  have HK0_3p := Lib.hid (HK0_3l.out.call hb)
  have HK1_3p := Lib.hid (HK1_3l.out.call hb)
  have HK2_3p := Lib.hid (HK2_3l.out.call hb)
  clear hb
  rw [dc_d]
  unfold dcV
  go_upto_region 5 with fail
  have hA := Arr.new D3 #[.int .i8 1, .int .i8 0] 27
  have hB := ba HB3.out (.cells #[.int .i8 1, .int .i8 0] 27)
  have HK0_3 := Lib.hid (HK0_3p.out.alloc (.cells #[.int .i8 1, .int .i8 0] 27))
  clear HK0_3p
  have HK1_3 := Lib.hid (HK1_3p.out.alloc (.cells #[.int .i8 1, .int .i8 0] 27))
  clear HK1_3p
  have HK2_3 := Lib.hid (HK2_3p.out.alloc (.cells #[.int .i8 1, .int .i8 0] 27))
  clear HK2_3p
  generalize D3.alloc (.cells #[.int .i8 1, .int .i8 0] 27) = W3 at *
  generalize D3.heap.size = X3 at *
  have HK3_3 := Lib.hid hA
  have HW3 := Lib.hid hB
  clear hA hB
  have p0 : W3.cell? ⟨X0, 0, none⟩ = some (.int .i8 0) := HK0_3.out.cell 0 _ rfl
  have q0 : W3.cell? ⟨X0, 1, none⟩ = some (.int .i8 1) := HK0_3.out.cell 1 _ rfl
  have p1 : W3.cell? ⟨X1, 0, none⟩ = some (.int .i8 4) := HK1_3.out.cell 0 _ rfl
  have q1 : W3.cell? ⟨X1, 1, none⟩ = some (.int .i8 0) := HK1_3.out.cell 1 _ rfl
  have p2 : W3.cell? ⟨X2, 0, none⟩ = some (.int .i8 3) := HK2_3.out.cell 0 _ rfl
  have q2 : W3.cell? ⟨X2, 1, none⟩ = some (.int .i8 0) := HK2_3.out.cell 1 _ rfl
  have p3 : W3.cell? ⟨X3, 0, none⟩ = some (.int .i8 1) := HK3_3.out.cell 0 _ rfl
  have q3 : W3.cell? ⟨X3, 1, none⟩ = some (.int .i8 0) := HK3_3.out.cell 1 _ rfl
  go_wp2_with fail
  go_ret
  exact ⟨rfl, HW3.out⟩
end Go.Proofs.YtaikkdlphfmgiaaDoor
