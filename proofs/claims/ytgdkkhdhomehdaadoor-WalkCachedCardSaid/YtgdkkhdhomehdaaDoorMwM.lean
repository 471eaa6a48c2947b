/-
  Layer 12: what a walk's step comes to: missed, below, ended, meanings.
  Layer 12: what a walk's step comes to: missed, below, ended, meanings.
  Layer 12: what a walk's step comes to: missed, below, ended, meanings.
  Layer 12: what a walk's step comes to: missed, below, ended, meanings.
  Layer 12: Next, whole.
-/
import Derived.Test.YtgdkkhdhomehdaaDoorMwL
import Derived.Test.YtgdkkhdhomehdaaDoorMwG
import Derived.Deep.DeepCutAuto
import Derived.Deep.RegionHeld3
namespace Go.Proofs.YtgdkkhdhomehdaaDoor
section
open Go.RowKit
set_option linter.unusedVariables false
set_option linter.unusedSimpArgs false
set_option maxRecDepth 100000 in
set_option maxHeartbeats 4000000 in
theorem missed_any (x : Wk) (v : Int) (d0 d1 : Int) (d2 d3 d4 d5 : Bool) (w : World) :
    Calls Tryd.prog 39 #[.agg #[.bool x.on, .int .i64 x.a, .int .u64 x.p, .int .i8 x.l, .int .i64 x.f], .int .u64 v, .agg #[.int .i8 d0, .int .i64 d1, .bool d2, .bool d3, .bool d4, .bool d5]] w fun e w' => e = .returned (rdV (rdM x)) ∧ Below w.heap.size w w' := by
  obtain ⟨xo, xa, xp, xl, xf⟩ := x
  simp only
  have hK : Bk (((w.alloc (.cells #[.bool xo, .int .i64 xa, .int .u64 xp, .int .i8 xl, .int .i64 xf] 26)).alloc (.cells #[.int .i8 d0, .int .i64 d1, .bool d2, .bool d3, .bool d4, .bool d5] 94)).alloc (.cells (encR zR) 42)) (w.heap.size + 2) 42 (encR zR) := by
    have := Bk.new ((w.alloc (.cells #[.bool xo, .int .i64 xa, .int .u64 xp, .int .i8 xl, .int .i64 xf] 26)).alloc (.cells #[.int .i8 d0, .int .i64 d1, .bool d2, .bool d3, .bool d4, .bool d5] 94)) 42 (encR zR)
    simpa using this
  have HK := Lib.hid hK
  clear hK
  go_enter Tryd.func39, Tryd.ntmps39
  go_wp2_with (refine put_read rfl _ _ rfl _ (rdM ⟨xo, xa, xp, xl, xf⟩) _ rfl rfl HK.out rfl ?_)
  refine bodyPost_ret (res_read rfl _ _ _ _ rfl (HK.out.row _) rfl) rfl ⟨rfl, ?_⟩
  exact brow (ba (ba (ba (Below.refl _ _) _) _) _) (by omega) _
theorem meanings_any (w : World) : Calls Tryd.prog 40 #[] w fun e w' => e = .returned (.agg #[.func (.func 39) #[] #[], .func (.func 71) #[] #[], .func (.func 72) #[] #[]]) ∧ Below w.heap.size w w' := by
  go_enter Tryd.func40, Tryd.ntmps40
  go_wp2_with fail
  exact bodyPost_ret (v := .agg #[.func (.func 39) #[] #[], .func (.func 71) #[] #[], .func (.func 72) #[] #[]]) (by simp [results, Tryd.results40, go_sem]) rfl ⟨rfl, ba (Below.refl _ _) _⟩
end
section
open Go.RowKit
set_option linter.unusedVariables false
set_option linter.unusedSimpArgs false
def rdB (x : Wk) (f : Int) : Rd := ⟨⟨x.on, x.a, x.p, x.l + 1, f⟩, true, ⟨x.a, x.l + 1, aPre x.p (x.l + 1), f⟩, false, zT, false, 0, 0, false, 0⟩
set_option maxRecDepth 100000 in
set_option maxHeartbeats 4000000 in
theorem below_any (x : Wk) (v : Int) (d0 d1 : Int) (d2 d3 d4 d5 : Bool) (w : World) (h0 : 0 ≤ x.l) (h2 : x.l ≤ 2) (hp : x.p < 34359738368) :
    Calls Tryd.prog 71 #[.agg #[.bool x.on, .int .i64 x.a, .int .u64 x.p, .int .i8 x.l, .int .i64 x.f], .int .u64 v, .agg #[.int .i8 d0, .int .i64 d1, .bool d2, .bool d3, .bool d4, .bool d5]] w fun e w' => e = .returned (rdV (rdB x d1)) ∧ Below w.heap.size w w' := by
  obtain ⟨xo, xa, xp, xl, xf⟩ := x
  simp only at *
  have HA := Lib.hid (show aOk xp (xl + 1) = true from (aOk_iff _ _).2 ⟨hp, by omega, by omega⟩)
  have hK : Bk (((w.alloc (.cells #[.bool xo, .int .i64 xa, .int .u64 xp, .int .i8 xl, .int .i64 xf] 26)).alloc (.cells #[.int .i8 d0, .int .i64 d1, .bool d2, .bool d3, .bool d4, .bool d5] 94)).alloc (.cells (encR zR) 42)) (w.heap.size + 2) 42 (encR zR) := by
    have := Bk.new ((w.alloc (.cells #[.bool xo, .int .i64 xa, .int .u64 xp, .int .i8 xl, .int .i64 xf] 26)).alloc (.cells #[.int .i8 d0, .int .i64 d1, .bool d2, .bool d3, .bool d4, .bool d5] 94)) 42 (encR zR)
    simpa using this
  have HK := Lib.hid ((hK.call (ba (Below.refl _ _) (.cells #[.bool xo, .int .i64 xa, .int .u64 xp, .int .i8 (xl + 1), .int .i64 d1] 26))).call (ba (Below.refl _ _) (.cells #[.int .i64 xa, .int .i8 (xl + 1), .int .u64 (aPre xp (xl + 1)), .int .i64 d1] 36)))
  clear hK hp
  go_enter Tryd.func71, Tryd.ntmps71
  go_wp2_with fail
  refine (prefix_yes xp (xl + 1) _ HA.out).mono ?_
  rintro e w1 ⟨rfl, rfl⟩
  go_wp2_with (refine put_read rfl _ _ rfl _ (rdB ⟨xo, xa, xp, xl, xf⟩ d1) _ rfl rfl HK.out rfl ?_)
  refine bodyPost_ret (res_read rfl _ _ _ _ rfl (HK.out.row _) rfl) rfl ⟨rfl, ?_⟩
  exact brow (ba (ba (ba (ba (ba (Below.refl _ _) _) _) _) _) _) (by omega) _
end
section
open Go.RowKit
set_option linter.unusedVariables false
set_option linter.unusedSimpArgs false
def rdQ (x : Wk) (f : Int) (ro : Bool) (tu : Bool) (wd : Int) : Rd := ⟨zW, false, zS, true, ⟨x.a, x.p, f, ro⟩, false, 0, 0, tu, wd⟩
set_option maxRecDepth 100000 in
set_option maxHeartbeats 4000000 in
theorem ended_no (x : Wk) (v : Int) (d0 d1 : Int) (d2 d3 d5 : Bool) (w : World) :
    Calls Tryd.prog 72 #[.agg #[.bool x.on, .int .i64 x.a, .int .u64 x.p, .int .i8 x.l, .int .i64 x.f], .int .u64 v, .agg #[.int .i8 d0, .int .i64 d1, .bool d2, .bool d3, .bool false, .bool d5]] w fun e w' => e = .returned (rdV (rdM x)) ∧ Below w.heap.size w w' := by
  obtain ⟨xo, xa, xp, xl, xf⟩ := x
  simp only at *
  have hK : Bk (((w.alloc (.cells #[.bool xo, .int .i64 xa, .int .u64 xp, .int .i8 xl, .int .i64 xf] 26)).alloc (.cells #[.int .i8 d0, .int .i64 d1, .bool d2, .bool d3, .bool false, .bool d5] 94)).alloc (.cells (encR zR) 42)) (w.heap.size + 2) 42 (encR zR) := by
    have := Bk.new ((w.alloc (.cells #[.bool xo, .int .i64 xa, .int .u64 xp, .int .i8 xl, .int .i64 xf] 26)).alloc (.cells #[.int .i8 d0, .int .i64 d1, .bool d2, .bool d3, .bool false, .bool d5] 94)) 42 (encR zR)
    simpa using this
  have HK := Lib.hid hK
  have HB := Lib.hid (ba (ba (ba (Below.refl w.heap.size w) (.cells #[.bool xo, .int .i64 xa, .int .u64 xp, .int .i8 xl, .int .i64 xf] 26)) (.cells #[.int .i8 d0, .int .i64 d1, .bool d2, .bool d3, .bool false, .bool d5] 94)) (.cells (encR zR) 42))
  clear hK
  go_enter Tryd.func72, Tryd.ntmps72
  go_wp2_with fail
  refine (missed_any ⟨xo, xa, xp, xl, xf⟩ v d0 d1 d2 d3 false d5 _).mono ?_
  rintro e w1 ⟨rfl, hb⟩
  have HK1 := Lib.hid (HK.out.call hb)
  have HB1 := Lib.hid (bthen HB.out hb)
  clear hb
  go_wp2_with (refine put_read rfl _ _ rfl _ (rdM ⟨xo, xa, xp, xl, xf⟩) _ rfl rfl HK1.out rfl ?_)
  refine bodyPost_ret (res_read rfl _ _ _ _ rfl (HK1.out.row _) rfl) rfl ⟨rfl, ?_⟩
  exact brow HB1.out (by omega) _
end
section
open Go.RowKit
set_option linter.unusedVariables false
set_option linter.unusedSimpArgs false
set_option maxRecDepth 100000 in
set_option maxHeartbeats 4000000 in
theorem ended_old (x : Wk) (v : Int) (d0 d1 : Int) (d3 d5 : Bool) (w : World) :
    Calls Tryd.prog 72 #[.agg #[.bool x.on, .int .i64 x.a, .int .u64 x.p, .int .i8 x.l, .int .i64 x.f], .int .u64 v, .agg #[.int .i8 d0, .int .i64 d1, .bool true, .bool d3, .bool true, .bool d5]] w fun e w' => e = .returned (rdV (rdQ x d1 d3 false 0)) ∧ Below w.heap.size w w' := by
  obtain ⟨xo, xa, xp, xl, xf⟩ := x
  simp only at *
  have hD : Bk ((w.alloc (.cells #[.bool xo, .int .i64 xa, .int .u64 xp, .int .i8 xl, .int .i64 xf] 26)).alloc (.cells #[.int .i8 d0, .int .i64 d1, .bool true, .bool d3, .bool true, .bool d5] 94)) (w.heap.size + 1) 94 #[.int .i8 d0, .int .i64 d1, .bool true, .bool d3, .bool true, .bool d5] := by
    have := Bk.new (w.alloc (.cells #[.bool xo, .int .i64 xa, .int .u64 xp, .int .i8 xl, .int .i64 xf] 26)) 94 #[.int .i8 d0, .int .i64 d1, .bool true, .bool d3, .bool true, .bool d5]
    simpa using this
  have hK : Bk (((w.alloc (.cells #[.bool xo, .int .i64 xa, .int .u64 xp, .int .i8 xl, .int .i64 xf] 26)).alloc (.cells #[.int .i8 d0, .int .i64 d1, .bool true, .bool d3, .bool true, .bool d5] 94)).alloc (.cells (encR zR) 42)) (w.heap.size + 2) 42 (encR zR) := by
    have := Bk.new ((w.alloc (.cells #[.bool xo, .int .i64 xa, .int .u64 xp, .int .i8 xl, .int .i64 xf] 26)).alloc (.cells #[.int .i8 d0, .int .i64 d1, .bool true, .bool d3, .bool true, .bool d5] 94)) 42 (encR zR)
    simpa using this
  have hT : Bk ((((w.alloc (.cells #[.bool xo, .int .i64 xa, .int .u64 xp, .int .i8 xl, .int .i64 xf] 26)).alloc (.cells #[.int .i8 d0, .int .i64 d1, .bool true, .bool d3, .bool true, .bool d5] 94)).alloc (.cells (encR zR) 42)).alloc (.cells (encR zR) 42)) (w.heap.size + 3) 42 (encR zR) := by
    have := Bk.new (((w.alloc (.cells #[.bool xo, .int .i64 xa, .int .u64 xp, .int .i8 xl, .int .i64 xf] 26)).alloc (.cells #[.int .i8 d0, .int .i64 d1, .bool true, .bool d3, .bool true, .bool d5] 94)).alloc (.cells (encR zR) 42)) 42 (encR zR)
    simpa using this
  have HT := Lib.hid hT
  have HD := Lib.hid ((hD.call (ba (Below.refl _ _) (.cells (encR zR) 42))).call (ba (Below.refl _ _) (.cells (encR zR) 42)))
  have HK := Lib.hid (hK.call (ba (Below.refl _ _) (.cells (encR zR) 42)))
  have HB := Lib.hid (ba (ba (ba (ba (Below.refl w.heap.size w) (.cells #[.bool xo, .int .i64 xa, .int .u64 xp, .int .i8 xl, .int .i64 xf] 26)) (.cells #[.int .i8 d0, .int .i64 d1, .bool true, .bool d3, .bool true, .bool d5] 94)) (.cells (encR zR) 42)) (.cells (encR zR) 42))
  clear hK hT hD
  go_enter Tryd.func72, Tryd.ntmps72
  go_upto_region 3 with fail
  go_upto_region 4 with (refine put_read rfl _ _ rfl (w.heap.size + 3) (rdQ ⟨xo, xa, xp, xl, xf⟩ d1 d3 false 0) _ rfl rfl HT.out rfl ?_)
  have hT2 := HT.out.row (encR (rdQ ⟨xo, xa, xp, xl, xf⟩ d1 d3 false 0))
  have hK2 := HK.out.farRow (b := w.heap.size + 3) (by omega) (encR (rdQ ⟨xo, xa, xp, xl, xf⟩ d1 d3 false 0))
  have hD2 := HD.out.farRow (b := w.heap.size + 3) (by omega) (encR (rdQ ⟨xo, xa, xp, xl, xf⟩ d1 d3 false 0))
  have hB2 := brow HB.out (g := w.heap.size + 3) (by omega) (encR (rdQ ⟨xo, xa, xp, xl, xf⟩ d1 d3 false 0))
  refine (show ∀ W : World, Bk W (w.heap.size + 3) 42 (encR (rdQ ⟨xo, xa, xp, xl, xf⟩ d1 d3 false 0)) → Bk W (w.heap.size + 2) 42 (encR zR) → Bk W (w.heap.size + 1) 94 #[.int .i8 d0, .int .i64 d1, .bool true, .bool d3, .bool true, .bool d5] → Below w.heap.size w W → Code.wp _ _ _ _ W from fun W t2 k2 dd b2 => ?_) _ hT2 hK2 hD2 hB2
  clear hT2 hK2 hD2 hB2 HT HK HD HB
  have c2 : W.cell? ⟨w.heap.size + 1, 2, none⟩ = some (.bool true) := dd.cell 2
  have HT := Lib.hid t2
  have HK := Lib.hid k2
  have HB := Lib.hid b2
  clear t2 k2 dd b2
  go_wp2_with (first | (refine get_read rfl _ rfl (w.heap.size + 3) _ rfl HT.out rfl ?_) | (refine put_read rfl _ _ rfl (w.heap.size + 2) (rdQ ⟨xo, xa, xp, xl, xf⟩ d1 d3 false 0) _ rfl rfl HK.out rfl ?_))
  refine bodyPost_ret (res_read rfl _ _ _ _ rfl (HK.out.row _) rfl) rfl ⟨rfl, ?_⟩
  exact brow HB.out (by omega) _
set_option maxRecDepth 100000 in
set_option maxHeartbeats 4000000 in
theorem ended_new (x : Wk) (v : Int) (d0 d1 : Int) (d3 d5 : Bool) (w : World) (hG : G w) (hv : U64 v) (ht : tch v = true) :
    Calls Tryd.prog 72 #[.agg #[.bool x.on, .int .i64 x.a, .int .u64 x.p, .int .i8 x.l, .int .i64 x.f], .int .u64 v, .agg #[.int .i8 d0, .int .i64 d1, .bool false, .bool d3, .bool true, .bool d5]] w fun e w' => e = .returned (rdV (rdQ x d1 d3 true (v + 1024))) ∧ Below w.heap.size w w' := by
  obtain ⟨xo, xa, xp, xl, xf⟩ := x
  simp only at *
  have HV := Lib.hid (show tV v = v + 1024 ∧ tch v = true from ⟨by simp [tV, ht], ht⟩)
  clear ht
  have hD : Bk ((w.alloc (.cells #[.bool xo, .int .i64 xa, .int .u64 xp, .int .i8 xl, .int .i64 xf] 26)).alloc (.cells #[.int .i8 d0, .int .i64 d1, .bool false, .bool d3, .bool true, .bool d5] 94)) (w.heap.size + 1) 94 #[.int .i8 d0, .int .i64 d1, .bool false, .bool d3, .bool true, .bool d5] := by
    have := Bk.new (w.alloc (.cells #[.bool xo, .int .i64 xa, .int .u64 xp, .int .i8 xl, .int .i64 xf] 26)) 94 #[.int .i8 d0, .int .i64 d1, .bool false, .bool d3, .bool true, .bool d5]
    simpa using this
  have hK : Bk (((w.alloc (.cells #[.bool xo, .int .i64 xa, .int .u64 xp, .int .i8 xl, .int .i64 xf] 26)).alloc (.cells #[.int .i8 d0, .int .i64 d1, .bool false, .bool d3, .bool true, .bool d5] 94)).alloc (.cells (encR zR) 42)) (w.heap.size + 2) 42 (encR zR) := by
    have := Bk.new ((w.alloc (.cells #[.bool xo, .int .i64 xa, .int .u64 xp, .int .i8 xl, .int .i64 xf] 26)).alloc (.cells #[.int .i8 d0, .int .i64 d1, .bool false, .bool d3, .bool true, .bool d5] 94)) 42 (encR zR)
    simpa using this
  have hT : Bk ((((w.alloc (.cells #[.bool xo, .int .i64 xa, .int .u64 xp, .int .i8 xl, .int .i64 xf] 26)).alloc (.cells #[.int .i8 d0, .int .i64 d1, .bool false, .bool d3, .bool true, .bool d5] 94)).alloc (.cells (encR zR) 42)).alloc (.cells (encR zR) 42)) (w.heap.size + 3) 42 (encR zR) := by
    have := Bk.new (((w.alloc (.cells #[.bool xo, .int .i64 xa, .int .u64 xp, .int .i8 xl, .int .i64 xf] 26)).alloc (.cells #[.int .i8 d0, .int .i64 d1, .bool false, .bool d3, .bool true, .bool d5] 94)).alloc (.cells (encR zR) 42)) 42 (encR zR)
    simpa using this
  have HT := Lib.hid hT
  have HD := Lib.hid ((hD.call (ba (Below.refl _ _) (.cells (encR zR) 42))).call (ba (Below.refl _ _) (.cells (encR zR) 42)))
  have HK := Lib.hid (hK.call (ba (Below.refl _ _) (.cells (encR zR) 42)))
  have HB := Lib.hid (ba (ba (ba (ba (Below.refl w.heap.size w) (.cells #[.bool xo, .int .i64 xa, .int .u64 xp, .int .i8 xl, .int .i64 xf] 26)) (.cells #[.int .i8 d0, .int .i64 d1, .bool false, .bool d3, .bool true, .bool d5] 94)) (.cells (encR zR) 42)) (.cells (encR zR) 42))
  clear hK hT hD
  go_enter Tryd.func72, Tryd.ntmps72
  go_upto_region 3 with fail
  go_upto_region 4 with (refine put_read rfl _ _ rfl (w.heap.size + 3) (rdQ ⟨xo, xa, xp, xl, xf⟩ d1 d3 false 0) _ rfl rfl HT.out rfl ?_)
  have hT2 := HT.out.row (encR (rdQ ⟨xo, xa, xp, xl, xf⟩ d1 d3 false 0))
  have hK2 := HK.out.farRow (b := w.heap.size + 3) (by omega) (encR (rdQ ⟨xo, xa, xp, xl, xf⟩ d1 d3 false 0))
  have hD2 := HD.out.farRow (b := w.heap.size + 3) (by omega) (encR (rdQ ⟨xo, xa, xp, xl, xf⟩ d1 d3 false 0))
  have hB2 := brow HB.out (g := w.heap.size + 3) (by omega) (encR (rdQ ⟨xo, xa, xp, xl, xf⟩ d1 d3 false 0))
  refine (show ∀ W : World, Bk W (w.heap.size + 3) 42 (encR (rdQ ⟨xo, xa, xp, xl, xf⟩ d1 d3 false 0)) → Bk W (w.heap.size + 2) 42 (encR zR) → Bk W (w.heap.size + 1) 94 #[.int .i8 d0, .int .i64 d1, .bool false, .bool d3, .bool true, .bool d5] → Below w.heap.size w W → Code.wp _ _ _ _ W from fun W t2 k2 dd b2 => ?_) _ hT2 hK2 hD2 hB2
  clear hT2 hK2 hD2 hB2 HT HK HD HB
  have c2 : W.cell? ⟨w.heap.size + 1, 2, none⟩ = some (.bool false) := dd.cell 2
  have HT := Lib.hid t2
  have HK := Lib.hid k2
  have HB := Lib.hid b2
  have hg := hG.call b2
  clear t2 k2 dd b2 hG
  go_wp2_with fail
  refine (dTouch_any v _ hg hv).mono ?_
  rintro e w1 ⟨rfl, hb⟩
  rw [HV.out.1, HV.out.2]
  have HT1 := Lib.hid (HT.out.call hb)
  have HK1 := Lib.hid (HK.out.call hb)
  have HB1 := Lib.hid (bthen HB.out hb)
  clear hb HT HK HB hg
  have t18 : w1.cell? ⟨w.heap.size + 3, 18, none⟩ = some (.bool false) := HT1.out.cell 18
  have t19 : w1.cell? ⟨w.heap.size + 3, 19, none⟩ = some (.int .u64 0) := HT1.out.cell 19
  have f18 : w1.frozen? ⟨w.heap.size + 3, 18, none⟩ = false := HT1.out.frozen 18
  have f19 : w1.frozen? ⟨w.heap.size + 3, 19, none⟩ = false := HT1.out.frozen 19
  go_upto_region 6 with fail
  have hT2 : Bk ((w1.setCell ⟨w.heap.size + 3, 19, none⟩ (.int .u64 (v + 1024))).setCell ⟨w.heap.size + 3, 18, none⟩ (.bool true)) (w.heap.size + 3) 42 (encR (rdQ ⟨xo, xa, xp, xl, xf⟩ d1 d3 true (v + 1024))) := (HT1.out.set 19 _).set 18 _
  have hK2 := (HK1.out.far (p := ⟨w.heap.size + 3, 19, none⟩) (by simp) (.int .u64 (v + 1024))).far (p := ⟨w.heap.size + 3, 18, none⟩) (by simp) (.bool true)
  have hB2 := bs (bs HB1.out (p := ⟨w.heap.size + 3, 19, none⟩) (by simp) (.int .u64 (v + 1024))) (p := ⟨w.heap.size + 3, 18, none⟩) (by simp) (.bool true)
  clear t18 t19 f18 f19
  refine (show ∀ W : World, Bk W (w.heap.size + 3) 42 (encR (rdQ ⟨xo, xa, xp, xl, xf⟩ d1 d3 true (v + 1024))) → Bk W (w.heap.size + 2) 42 (encR zR) → Below w.heap.size w W → Code.wp _ _ _ _ W from fun W t2 k2 b2 => ?_) _ hT2 hK2 hB2
  clear hT2 hK2 hB2 HT1 HK1 HB1
  have HT := Lib.hid t2
  have HK := Lib.hid k2
  have HB := Lib.hid b2
  clear t2 k2 b2
  go_wp2_with (first | (refine get_read rfl _ rfl (w.heap.size + 3) _ rfl HT.out rfl ?_) | (refine put_read rfl _ _ rfl (w.heap.size + 2) (rdQ ⟨xo, xa, xp, xl, xf⟩ d1 d3 true (v + 1024)) _ rfl rfl HK.out rfl ?_))
  refine bodyPost_ret (res_read rfl _ _ _ _ rfl (HK.out.row _) rfl) rfl ⟨rfl, ?_⟩
  exact brow HB.out (by omega) _
end
section
open Go.RowKit
set_option linter.unusedVariables false
set_option linter.unusedSimpArgs false
set_option maxRecDepth 100000 in
set_option maxHeartbeats 4000000 in
theorem next_not (x : Wk) (v : Int) (w : World) (hx : ¬ WkOk x) :
    Calls Tryd.prog 17 #[.agg #[.bool x.on, .int .i64 x.a, .int .u64 x.p, .int .i8 x.l, .int .i64 x.f], .int .u64 v] w fun e w' => e = .returned (.tuple #[rdV zR, .int .i64 2]) ∧ Below w.heap.size w w' := by
  have HE := Lib.hid (show wkE x = 2 from (if_neg hx))
  clear hx
  have hK : Bk ((w.alloc (.cells #[.bool x.on, .int .i64 x.a, .int .u64 x.p, .int .i8 x.l, .int .i64 x.f] 26)).alloc (.cells (encR zR) 42)) (w.heap.size + 1) 42 (encR zR) := by
    have := Bk.new (w.alloc (.cells #[.bool x.on, .int .i64 x.a, .int .u64 x.p, .int .i8 x.l, .int .i64 x.f] 26)) 42 (encR zR)
    simpa using this
  have HK := Lib.hid hK
  have HB := Lib.hid (ba (ba (Below.refl w.heap.size w) (.cells #[.bool x.on, .int .i64 x.a, .int .u64 x.p, .int .i8 x.l, .int .i64 x.f] 26)) (.cells (encR zR) 42))
  clear hK
  go_enter Tryd.func17, Tryd.ntmps17
  go_wp2_with fail
  refine (wcheck_any x _).mono ?_
  rintro e w1 ⟨rfl, hb⟩
  rw [HE.out]
  have HK1 := Lib.hid (HK.out.call hb)
  have HB1 := Lib.hid (bthen HB.out hb)
  clear hb HK HB HE
  go_wp2_with (refine put_read rfl _ _ rfl (w.heap.size + 1) zR _ rfl rfl HK1.out rfl ?_)
  refine bodyPost_ret (res_read2 rfl _ _ _ _ _ rfl rfl (HK1.out.row _) rfl) rfl ⟨rfl, ?_⟩
  exact brow HB1.out (by omega) _
/-- What stands in front of the last choice: the walk, the Read that is answered, the descriptor. -/
structure NxS (w W : World) (x : Wk) (b : Nat) (k f : Int) (af ro us ng : Bool) : Prop where
  hx : Bk W w.heap.size 26 #[.bool x.on, .int .i64 x.a, .int .u64 x.p, .int .i8 x.l, .int .i64 x.f]
  hr : Bk W (w.heap.size + 1) 42 (encR zR)
  hd : Bk W b 94 #[.int .i8 k, .int .i64 f, .bool af, .bool ro, .bool us, .bool ng]
  lt : w.heap.size + 1 < b
  hb : Below w.heap.size w W
theorem NxS.call {w W W' : World} {x : Wk} {b : Nat} {k f : Int} {af ro us ng : Bool} (h : NxS w W x b k f af ro us ng) (hb : Below W.heap.size W W') : NxS w W' x b k f af ro us ng := ⟨h.hx.call hb, h.hr.call hb, h.hd.call hb, h.lt, bthen h.hb hb⟩
set_option maxRecDepth 100000 in
set_option maxHeartbeats 4000000 in
theorem next_err (x : Wk) (v : Int) (w : World) (hG : G w) (hv : U64 v) (hx : WkOk x) (he : (de v x.l == 0) = false) :
    Calls Tryd.prog 17 #[.agg #[.bool x.on, .int .i64 x.a, .int .u64 x.p, .int .i8 x.l, .int .i64 x.f], .int .u64 v] w fun e w' => e = .returned (.tuple #[rdV (rdM x), .int .i64 0]) ∧ Below w.heap.size w w' := by
  have HE := Lib.hid (show wkE x = 0 from (if_pos hx))
  obtain ⟨-, l0, l3, -⟩ := hx
  have hK : Bk ((w.alloc (.cells #[.bool x.on, .int .i64 x.a, .int .u64 x.p, .int .i8 x.l, .int .i64 x.f] 26)).alloc (.cells (encR zR) 42)) (w.heap.size + 1) 42 (encR zR) := by
    have := Bk.new (w.alloc (.cells #[.bool x.on, .int .i64 x.a, .int .u64 x.p, .int .i8 x.l, .int .i64 x.f] 26)) 42 (encR zR)
    simpa using this
  have hX := (Bk.new w 26 #[.bool x.on, .int .i64 x.a, .int .u64 x.p, .int .i8 x.l, .int .i64 x.f]).call (ba (Below.refl _ _) (.cells (encR zR) 42))
  have HK := Lib.hid hK
  have HX := Lib.hid hX
  have HB := Lib.hid (ba (ba (Below.refl w.heap.size w) (.cells #[.bool x.on, .int .i64 x.a, .int .u64 x.p, .int .i8 x.l, .int .i64 x.f] 26)) (.cells (encR zR) 42))
  clear hK hX
  go_enter Tryd.func17, Tryd.ntmps17
  go_wp2_with fail
  refine (wcheck_any x _).mono ?_
  rintro e w1 ⟨rfl, hb⟩
  rw [HE.out]
  have HK1 := Lib.hid (HK.out.call hb)
  have hX1 := (HX.out.call hb)
  have HB1 := Lib.hid (bthen HB.out hb)
  clear hb HK HB HE HX
  have x3 : w1.cell? ⟨w.heap.size, 3, none⟩ = some (.int .i8 x.l) := hX1.cell 3
  have HX1 := Lib.hid hX1
  have hg := hG.call HB1.out
  clear hX1 hG
  go_wp2_with fail
  refine (dDecode_any v x.l _ hg hv).mono ?_
  rintro e w2 ⟨rfl, hb⟩
  have HK2 := Lib.hid (HK1.out.call hb)
  have HB2 := Lib.hid (bthen HB1.out hb)
  have hX2 := HX1.out.call hb
  clear hb HK1 HB1 HX1 hg x3
  have x0 : w2.cell? ⟨w.heap.size, 0, none⟩ = some (.bool x.on) := hX2.cell 0
  have x1 : w2.cell? ⟨w.heap.size, 1, none⟩ = some (.int .i64 x.a) := hX2.cell 1
  have x2 : w2.cell? ⟨w.heap.size, 2, none⟩ = some (.int .u64 x.p) := hX2.cell 2
  have x3 : w2.cell? ⟨w.heap.size, 3, none⟩ = some (.int .i8 x.l) := hX2.cell 3
  have x4 : w2.cell? ⟨w.heap.size, 4, none⟩ = some (.int .i64 x.f) := hX2.cell 4
  have lx := hX2.lt
  clear hX2
  have HD2 := Lib.hid (ba HB2.out (.cells #[.int .i8 (dk v x.l), .int .i64 (df v x.l), .bool (dfl v x.l 10), .bool (dfl v x.l 7), .bool (dfl v x.l 6), .bool (dfl v x.l 11)] 94))
  have HKD := Lib.hid (HK2.out.call (ba (Below.refl _ _) (.cells #[.int .i8 (dk v x.l), .int .i64 (df v x.l), .bool (dfl v x.l 10), .bool (dfl v x.l 7), .bool (dfl v x.l 6), .bool (dfl v x.l 11)] 94)))
  clear HK2 HB2
  go_wp2_with fail
  refine (missed_any x v _ _ _ _ _ _ _).mono ?_
  rintro e w3 ⟨rfl, hb⟩
  have HK3 := Lib.hid (HKD.out.call hb)
  have HB3 := Lib.hid (bthen HD2.out hb)
  clear hb HKD HD2 x0 x1 x2 x3 x4 lx
  go_wp2_with (refine put_read rfl _ _ rfl (w.heap.size + 1) (rdM x) _ rfl rfl HK3.out rfl ?_)
  refine bodyPost_ret (res_read2 rfl _ _ _ _ _ rfl rfl (HK3.out.row _) rfl) rfl ⟨rfl, ?_⟩
  exact brow HB3.out (by omega) _
end
end Go.Proofs.YtgdkkhdhomehdaaDoor
