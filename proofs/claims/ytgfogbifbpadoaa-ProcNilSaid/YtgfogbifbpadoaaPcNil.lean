/-
  ProcNil: no house has nobody.
-/
import Derived.Test.YtgfogbifbpadoaaPcWakes
namespace Go.Proofs.Ytgfogbifbpadoaa
open Go.RowKit Go.Maps
set_option linter.unusedVariables false
set_option linter.unusedSimpArgs false
set_option maxRecDepth 100000 in
set_option maxHeartbeats 8000000 in
theorem nil_any (n : Int) (t : Th) (s : Spc) (w : World) (hn : I64 n) : Calls Try.prog 5 #[.int .i64 n, .agg (thC t).toArray, .agg (spC s).toArray] w fun e w' => e = .returned (.bool true) ∧ Below w.heap.size w w' := by
  have HT0 := Lib.hid (Bk.new w 36 (thC t).toArray)
  have HS0 := Lib.hid (Bk.new (w.alloc (.cells (thC t).toArray 36)) 38 (spC s).toArray)
  have HT1 := Lib.hid (HT0.out.call (ba (Below.refl _ _) (.cells (spC s).toArray 38)))
  have HB0 := Lib.hid (ba (ba (Below.refl w.heap.size w) (.cells (thC t).toArray 36)) (.cells (spC s).toArray 38))
  clear HT0
  go_enter Try.func5, Try.ntmps5
  go_wp2_with fail
  refine (pcBegin_nil n n none 0 0 _).mono ?_
  rintro e w1 ⟨rfl, rfl⟩
  go_wp2_with fail
  refine (pcFork_nil n _).mono ?_
  rintro e w1 ⟨rfl, rfl⟩
  go_wp2_with fail
  refine (pcMore_nil n n _).mono ?_
  rintro e w1 ⟨rfl, rfl⟩
  go_wp2_with fail
  refine (pcEnd_nil n _).mono ?_
  rintro e w1 ⟨rfl, rfl⟩
  go_wp2_with fail
  refine (pcStop_nil n _).mono ?_
  rintro e w1 ⟨rfl, rfl⟩
  go_wp2_with fail
  refine (pcOn_nil n _).mono ?_
  rintro e w1 ⟨rfl, rfl⟩
  go_wp2_with fail
  refine (pcThread_nil n _).mono ?_
  rintro e w1 ⟨rfl, hb⟩
  have HS1 := Lib.hid (HS0.out.call hb)
  have HT2 := Lib.hid (HT1.out.call hb)
  have HB1 := Lib.hid (bthen HB0.out hb)
  clear hb HS0 HT1 HB0
  simp only [thV]
  have HK1 := Lib.hid (Bk.new w1 36 #[.int .i64 0, .int .u64 0, .int .u64 0, .int .u64 0, .int .u64 0, .int .u64 0, .int .u64 0, .int .u64 0, .int .u64 0, .int .i64 0, .int .i64 0, .bool false])
  go_upto_region 9 with (refine box_th rfl _ _ rfl w1.heap.size Th.z _ rfl rfl HK1.out rfl ?_)
  refine (show ∀ W9 : World, Below w1.heap.size w1 W9 → Code.wp _ _ _ _ W9 from fun W9 hb9 => ?_) _ (brow (ba (Below.refl _ _) _) (Nat.le_refl _) _)
  have HS2 := Lib.hid (HS1.out.call hb9)
  have HT3 := Lib.hid (HT2.out.call hb9)
  have HB2 := Lib.hid (bthen HB1.out hb9)
  clear hb9 HS1 HT2 HB1 HK1
  go_wp2_with fail
  refine (pcSpace_nil n _).mono ?_
  rintro e w2 ⟨rfl, hb⟩
  have HS3 := Lib.hid (HS2.out.call hb)
  have HT4 := Lib.hid (HT3.out.call hb)
  have HB3 := Lib.hid (bthen HB2.out hb)
  clear hb HS2 HT3 HB2
  simp only [spV]
  have HK2 := Lib.hid (Bk.new w2 38 #[.slice none 0 0, .int .i64 0, .int .i64 0, .int .i64 0, .int .i64 0])
  go_upto_region 10 with (refine box_sp rfl _ _ rfl w2.heap.size Spc.z _ rfl rfl HK2.out rfl ?_)
  refine (show ∀ W9 : World, Below w2.heap.size w2 W9 → Code.wp _ _ _ _ W9 from fun W9 hb9 => ?_) _ (brow (ba (Below.refl _ _) _) (Nat.le_refl _) _)
  have HS4 := Lib.hid (HS3.out.call hb9)
  have HT5 := Lib.hid (HT4.out.call hb9)
  have HB4 := Lib.hid (bthen HB3.out hb9)
  clear hb9 HS3 HT4 HB3 HK2
  go_wp2_with fail
  refine (pcRun_nil n n _).mono ?_
  rintro e w3 ⟨rfl, rfl⟩
  obtain ⟨z0, z1, z2, z3, z4, z5, z6, z7, z8, z9, z10, z11⟩ := HT5.out.th
  go_wp2_with fail
  clear z0 z1 z2 z3 z4 z5 z6 z7 z8 z9 z10 z11
  refine (pcSetThread_nil n t _).mono ?_
  rintro e w3 ⟨rfl, hb⟩
  have HS5 := Lib.hid (HS4.out.call hb)
  have HB5 := Lib.hid (bthen HB4.out hb)
  clear hb HS4 HT5 HB4
  obtain ⟨z0, z1, z2, z3, z4⟩ := HS5.out.spc
  simp only [World.size_alloc] at z0 z1 z2 z3 z4
  go_wp2_with fail
  clear z0 z1 z2 z3 z4
  refine (pcSetSpace_nil n s _).mono ?_
  rintro e w4 ⟨rfl, hb⟩
  have HB6 := Lib.hid (bthen HB5.out hb)
  clear hb HS5 HB5
  go_wp2_with fail
  refine (pcCopy_nil _).mono ?_
  rintro e w5 ⟨rfl, rfl⟩
  go_wp2_with fail
  refine (wakes22_any _).mono ?_
  rintro e w5 ⟨rfl, hb⟩
  have HB7 := Lib.hid (bthen HB6.out hb)
  clear hb HB6
  go_wp2_with fail
  go_ret
  exact ⟨rfl, HB7.out⟩
end Go.Proofs.Ytgfogbifbpadoaa
