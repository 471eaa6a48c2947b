/-
  Layer 12: the document's Next (printed by gen/wkrnext.py, cut by gen/wkrcut.py).
  Layer 12: the document's Next (printed by gen/wkrnext.py, cut by gen/wkrcut.py).
  Layer 12: the document's Next (printed by gen/wkrnext.py, cut by gen/wkrcut.py).
  Layer 12: the document's Next (printed by gen/wkrnext.py, cut by gen/wkrcut.py).
  The law WalkNext: the walk.
-/
import Derived.Test.YtgdkkhdhomehdaaDoorMwQ
import Derived.Test.YtgdkkhdhomehdaaDoorMwP
import Derived.Deep.DeepCutAuto
namespace Go.Proofs.YtgdkkhdhomehdaaDoor
section
open Go.RowKit
set_option linter.unusedVariables false
set_option linter.unusedSimpArgs false
set_option maxRecDepth 100000 in
set_option maxHeartbeats 4000000 in
theorem rnext_table (x : Wk) (v : Int) (w : World) (hv : U64 v) (hx : WkOk x) (hk : dk v x.l = 1) (he : de v x.l = 0) (hl : x.l ≤ 2) :
    Calls Tryd.prog 18 #[.agg #[.bool x.on, .int .i64 x.a, .int .u64 x.p, .int .i8 x.l, .int .i64 x.f], .int .u64 v] w fun e w' => e = .returned (.tuple #[rdV (rdB x (df v x.l)), .int .i64 0]) ∧ Below w.heap.size w w' := by
  have HE := Lib.hid (show wkE x = 0 from (if_pos hx))
  obtain ⟨-, l0, l3, -, -, -, -, hp⟩ := hx
  have HK0 := Lib.hid hk
  have HE0 := Lib.hid he
  have HA := Lib.hid (show aOk x.p (x.l + 1) = true from (aOk_iff _ _).2 ⟨hp, by omega, by omega⟩)
  clear hk he
  have hK : Bk ((w.alloc (.cells #[.bool x.on, .int .i64 x.a, .int .u64 x.p, .int .i8 x.l, .int .i64 x.f] 26)).alloc (.cells (encR zR) 42)) (w.heap.size + 1) 42 (encR zR) := by
    have := Bk.new (w.alloc (.cells #[.bool x.on, .int .i64 x.a, .int .u64 x.p, .int .i8 x.l, .int .i64 x.f] 26)) 42 (encR zR)
    simpa using this
  have hX := (Bk.new w 26 #[.bool x.on, .int .i64 x.a, .int .u64 x.p, .int .i8 x.l, .int .i64 x.f]).call (ba (Below.refl _ _) (.cells (encR zR) 42))
  have HK := Lib.hid hK
  have HX := Lib.hid hX
  have HB := Lib.hid (ba (ba (Below.refl w.heap.size w) (.cells #[.bool x.on, .int .i64 x.a, .int .u64 x.p, .int .i8 x.l, .int .i64 x.f] 26)) (.cells (encR zR) 42))
  clear hK hX hp
  go_enter Tryd.func18, Tryd.ntmps18
  go_wp2_with fail
  refine (rwcheck_any x _).mono ?_
  rintro e w1 ⟨rfl, hb⟩
  rw [HE.out]
  have HK1 := Lib.hid ((HK.out.call hb).call (ba (Below.refl _ _) (.cells (encR zR) 42)))
  have hX1 := (HX.out.call hb).call (ba (Below.refl _ _) (.cells (encR zR) 42))
  have HT1 := Lib.hid (Bk.new w1 42 (encR zR))
  have HB1 := Lib.hid (ba (bthen HB.out hb) (.cells (encR zR) 42))
  have HL1 := Lib.hid (HK.out.call hb).lt
  have x3 : w1.cell? ⟨w.heap.size, 3, none⟩ = some (.int .i8 x.l) := (HX.out.call hb).cell 3
  have lx : w.heap.size < w1.heap.size := (HX.out.call hb).lt
  clear hb HK HB HE HX
  have HX1 := Lib.hid hX1
  clear hX1
  go_upto_region 4 with (refine put_read rfl _ _ rfl w1.heap.size zR _ rfl rfl HT1.out rfl ?_)
  have hB2 := brow HB1.out (g := w1.heap.size) (by have := HL1.out; omega) (encR zR)
  have hX2 := HX1.out.farRow (b := w1.heap.size) (by omega) (encR zR)
  have hK2 := HK1.out.farRow (b := w1.heap.size) (by have := HL1.out; omega) (encR zR)
  have hT2 := HT1.out.row (encR zR)
  refine (show ∀ W1 : World, Below w.heap.size w W1 → Bk W1 w.heap.size 26 #[.bool x.on, .int .i64 x.a, .int .u64 x.p, .int .i8 x.l, .int .i64 x.f] → Bk W1 (w.heap.size + 1) 42 (encR zR) → Bk W1 w1.heap.size 42 (encR zR) → Code.wp _ _ _ _ W1 from fun W1 hB hX hK hT => ?_) _ hB2 hX2 hK2 hT2
  clear hB2 hX2 hK2 hT2 HB1 HX1 HK1 HT1 x3 lx
  have x3 : W1.cell? ⟨w.heap.size, 3, none⟩ = some (.int .i8 x.l) := hX.cell 3
  have lx : w.heap.size < W1.heap.size := hX.lt
  have HX1 := Lib.hid hX
  have HK1 := Lib.hid hK
  have HT1 := Lib.hid hT
  have HB1 := Lib.hid hB
  clear hX hK hT hB
  go_wp2_with fail
  refine (r3Decode_any v x.l _ hv).mono ?_
  rintro e w2 ⟨rfl, hb⟩
  rw [HK0.out, HE0.out]
  clear HK0 HE0
  clear x3 lx
  generalize hf : df v x.l = f at *
  generalize dfl v x.l 10 = af at *
  generalize hro : dfl v x.l 7 = ro at *
  have HF := Lib.hid hf
  have HRO := Lib.hid hro
  clear hf hro
  generalize dfl v x.l 11 = ng at *
  generalize dfl v x.l 6 = us at *
  have hS2 : RnS w (w2.alloc (.cells #[.int .i8 1, .int .i64 f, .bool af, .bool ro, .bool us, .bool ng] 94)) x w1.heap.size w2.heap.size 1 f af ro us ng zR :=
    ⟨(HX1.out.call hb).call (ba (Below.refl _ _) _), (HK1.out.call hb).call (ba (Below.refl _ _) _), (HT1.out.call hb).call (ba (Below.refl _ _) _), Bk.new _ _ _, HL1.out, (HT1.out.call hb).lt, ba (bthen HB1.out hb) _⟩
  have HS2 := Lib.hid hS2
  clear hb HK1 HB1 HX1 HT1 HL1 hS2
  go_upto_region 5 with fail
  refine (show ∀ (W : World) (b c : Nat), RnS w W x b c 1 f af ro us ng zR → Code.wp _ _ _ ⟨#[_, _, _, _, _, _, .pointer (some ⟨b, 0, none⟩), .pointer (some ⟨c, 0, none⟩), _, _, _, _, _, _, _, _, _, _, _, _, _, _, _, _, _, _, _, _, _, _, _, _, _, _, _, _, _, _, _, _, _, _, _, _, _, _, _, _, _, _, _, _, _, _, _, _, _, _, _, _, _, _, _, _, _, _, _, _, _, _, _, _, _, _, _, _, _, _, _, _, _, _, _, _, _, _, _, _, _, _, _, _, _, _, _, _, _, _, _, _, _, _, _, _, _, _], _⟩ W from fun W b c hS => ?_) _ _ _ HS2.out
  clear HS2
  have l1 : w.heap.size ≠ b := by have := hS.lt; omega
  have l2 : b ≠ w.heap.size := by have := hS.lt; omega
  have l3 : c ≠ b := by have := hS.lt2; omega
  have l4 : b ≠ c := by have := hS.lt2; omega
  have x0 : W.cell? ⟨w.heap.size, 0, none⟩ = some (.bool x.on) := hS.hx.cell 0
  have x1 : W.cell? ⟨w.heap.size, 1, none⟩ = some (.int .i64 x.a) := hS.hx.cell 1
  have x2 : W.cell? ⟨w.heap.size, 2, none⟩ = some (.int .u64 x.p) := hS.hx.cell 2
  have x3 : W.cell? ⟨w.heap.size, 3, none⟩ = some (.int .i8 x.l) := hS.hx.cell 3
  have x4 : W.cell? ⟨w.heap.size, 4, none⟩ = some (.int .i64 x.f) := hS.hx.cell 4
  have d0 : W.cell? ⟨c, 0, none⟩ = some (.int .i8 1) := hS.hd.cell 0
  have d1 : W.cell? ⟨c, 1, none⟩ = some (.int .i64 f) := hS.hd.cell 1
  have d3 : W.cell? ⟨c, 3, none⟩ = some (.bool ro) := hS.hd.cell 3
  have d4 : W.cell? ⟨c, 4, none⟩ = some (.bool us) := hS.hd.cell 4
  have t0 : W.cell? ⟨b, 0, none⟩ = some (.bool false) := hS.ht.cell 0
  have z0 : W.frozen? ⟨b, 0, none⟩ = false := hS.ht.frozen 0
  have t1 : W.cell? ⟨b, 1, none⟩ = some (.int .i64 0) := hS.ht.cell 1
  have z1 : W.frozen? ⟨b, 1, none⟩ = false := hS.ht.frozen 1
  have t2 : W.cell? ⟨b, 2, none⟩ = some (.int .u64 0) := hS.ht.cell 2
  have z2 : W.frozen? ⟨b, 2, none⟩ = false := hS.ht.frozen 2
  have t3 : W.cell? ⟨b, 3, none⟩ = some (.int .i8 0) := hS.ht.cell 3
  have z3 : W.frozen? ⟨b, 3, none⟩ = false := hS.ht.frozen 3
  have t4 : W.cell? ⟨b, 4, none⟩ = some (.int .i64 0) := hS.ht.cell 4
  have z4 : W.frozen? ⟨b, 4, none⟩ = false := hS.ht.frozen 4
  go_upto_region 7 with fail
  clear x0 x1 x2 x3 x4 d0 d1 d3 d4 t0 z0 t1 z1 t2 z2 t3 z3 t4 z4
  refine (show ∀ W2 : World, RnS w W2 x b c 1 f af ro us ng (⟨x, false, zS, false, zT, false, 0, 0, false, 0⟩) → Code.wp _ _ _ _ W2 from fun W2 hS => ?_) _ ((((((hS).set 0 (.bool x.on) (⟨⟨x.on, 0, 0, 0, 0⟩, false, zS, false, zT, false, 0, 0, false, 0⟩) rfl).set 1 (.int .i64 x.a) (⟨⟨x.on, x.a, 0, 0, 0⟩, false, zS, false, zT, false, 0, 0, false, 0⟩) rfl).set 2 (.int .u64 x.p) (⟨⟨x.on, x.a, x.p, 0, 0⟩, false, zS, false, zT, false, 0, 0, false, 0⟩) rfl).set 3 (.int .i8 x.l) (⟨⟨x.on, x.a, x.p, x.l, 0⟩, false, zS, false, zT, false, 0, 0, false, 0⟩) rfl).set 4 (.int .i64 x.f) (⟨x, false, zS, false, zT, false, 0, 0, false, 0⟩) rfl)
  have x0 : W2.cell? ⟨w.heap.size, 0, none⟩ = some (.bool x.on) := hS.hx.cell 0
  have x1 : W2.cell? ⟨w.heap.size, 1, none⟩ = some (.int .i64 x.a) := hS.hx.cell 1
  have x2 : W2.cell? ⟨w.heap.size, 2, none⟩ = some (.int .u64 x.p) := hS.hx.cell 2
  have x3 : W2.cell? ⟨w.heap.size, 3, none⟩ = some (.int .i8 x.l) := hS.hx.cell 3
  have x4 : W2.cell? ⟨w.heap.size, 4, none⟩ = some (.int .i64 x.f) := hS.hx.cell 4
  have d0 : W2.cell? ⟨c, 0, none⟩ = some (.int .i8 1) := hS.hd.cell 0
  have d1 : W2.cell? ⟨c, 1, none⟩ = some (.int .i64 f) := hS.hd.cell 1
  have d3 : W2.cell? ⟨c, 3, none⟩ = some (.bool ro) := hS.hd.cell 3
  have d4 : W2.cell? ⟨c, 4, none⟩ = some (.bool us) := hS.hd.cell 4
  have t2 : W2.cell? ⟨b, 2, none⟩ = some (.int .u64 x.p) := hS.ht.cell 2
  have z2 : W2.frozen? ⟨b, 2, none⟩ = false := hS.ht.frozen 2
  have t3 : W2.cell? ⟨b, 3, none⟩ = some (.int .i8 x.l) := hS.ht.cell 3
  have z3 : W2.frozen? ⟨b, 3, none⟩ = false := hS.ht.frozen 3
  have t4 : W2.cell? ⟨b, 4, none⟩ = some (.int .i64 x.f) := hS.ht.cell 4
  have z4 : W2.frozen? ⟨b, 4, none⟩ = false := hS.ht.frozen 4
  go_upto_region 10 with ((with_reducible refine (rprefix_yes x.p (x.l + 1) _ HA.out).mono ?_); rintro e w5 ⟨rfl, rfl⟩)
  clear x0 x1 x2 x3 x4 d0 d1 d3 d4 t2 z2 t3 z3 t4 z4
  refine (show ∀ W3 : World, RnS w W3 x b c 1 f af ro us ng (⟨⟨x.on, x.a, x.p, x.l + 1, f⟩, false, zS, false, zT, false, 0, 0, false, 0⟩) → Code.wp _ _ _ _ W3 from fun W3 hS => ?_) _ (((hS).set 3 (.int .i8 (x.l + 1)) (⟨⟨x.on, x.a, x.p, x.l + 1, x.f⟩, false, zS, false, zT, false, 0, 0, false, 0⟩) rfl).set 4 (.int .i64 f) (⟨⟨x.on, x.a, x.p, x.l + 1, f⟩, false, zS, false, zT, false, 0, 0, false, 0⟩) rfl)
  have x0 : W3.cell? ⟨w.heap.size, 0, none⟩ = some (.bool x.on) := hS.hx.cell 0
  have x1 : W3.cell? ⟨w.heap.size, 1, none⟩ = some (.int .i64 x.a) := hS.hx.cell 1
  have x2 : W3.cell? ⟨w.heap.size, 2, none⟩ = some (.int .u64 x.p) := hS.hx.cell 2
  have x3 : W3.cell? ⟨w.heap.size, 3, none⟩ = some (.int .i8 x.l) := hS.hx.cell 3
  have x4 : W3.cell? ⟨w.heap.size, 4, none⟩ = some (.int .i64 x.f) := hS.hx.cell 4
  have d0 : W3.cell? ⟨c, 0, none⟩ = some (.int .i8 1) := hS.hd.cell 0
  have d1 : W3.cell? ⟨c, 1, none⟩ = some (.int .i64 f) := hS.hd.cell 1
  have d3 : W3.cell? ⟨c, 3, none⟩ = some (.bool ro) := hS.hd.cell 3
  have d4 : W3.cell? ⟨c, 4, none⟩ = some (.bool us) := hS.hd.cell 4
  have t3 : W3.cell? ⟨b, 3, none⟩ = some (.int .i8 (x.l + 1)) := hS.ht.cell 3
  have z3 : W3.frozen? ⟨b, 3, none⟩ = false := hS.ht.frozen 3
  have t5 : W3.cell? ⟨b, 5, none⟩ = some (.bool false) := hS.ht.cell 5
  have z5 : W3.frozen? ⟨b, 5, none⟩ = false := hS.ht.frozen 5
  have t6 : W3.cell? ⟨b, 6, none⟩ = some (.int .i64 0) := hS.ht.cell 6
  have z6 : W3.frozen? ⟨b, 6, none⟩ = false := hS.ht.frozen 6
  have t7 : W3.cell? ⟨b, 7, none⟩ = some (.int .i8 0) := hS.ht.cell 7
  have z7 : W3.frozen? ⟨b, 7, none⟩ = false := hS.ht.frozen 7
  have t8 : W3.cell? ⟨b, 8, none⟩ = some (.int .u64 0) := hS.ht.cell 8
  have z8 : W3.frozen? ⟨b, 8, none⟩ = false := hS.ht.frozen 8
  have t9 : W3.cell? ⟨b, 9, none⟩ = some (.int .i64 0) := hS.ht.cell 9
  have z9 : W3.frozen? ⟨b, 9, none⟩ = false := hS.ht.frozen 9
  go_upto_region 12 with fail
  clear x0 x1 x2 x3 x4 d0 d1 d3 d4 t3 z3 t5 z5 t6 z6 t7 z7 t8 z8 t9 z9
  refine (show ∀ W4 : World, RnS w W4 x b c 1 f af ro us ng (rdB x f) → Code.wp _ _ _ _ W4 from fun W4 hS => ?_) _ ((((((hS).set 5 (.bool true) (⟨⟨x.on, x.a, x.p, x.l + 1, f⟩, true, zS, false, zT, false, 0, 0, false, 0⟩) rfl).set 6 (.int .i64 x.a) (⟨⟨x.on, x.a, x.p, x.l + 1, f⟩, true, ⟨x.a, 0, 0, 0⟩, false, zT, false, 0, 0, false, 0⟩) rfl).set 7 (.int .i8 (x.l + 1)) (⟨⟨x.on, x.a, x.p, x.l + 1, f⟩, true, ⟨x.a, x.l + 1, 0, 0⟩, false, zT, false, 0, 0, false, 0⟩) rfl).set 8 (.int .u64 (aPre x.p (x.l + 1))) (⟨⟨x.on, x.a, x.p, x.l + 1, f⟩, true, ⟨x.a, x.l + 1, aPre x.p (x.l + 1), 0⟩, false, zT, false, 0, 0, false, 0⟩) rfl).set 9 (.int .i64 f) (rdB x f) rfl)
  have HS := Lib.hid hS
  clear hS l1 l2 l3 l4
  go_wp2_with (first | (refine get_read rfl _ rfl b _ rfl HS.out.ht rfl ?_) | (refine put_read rfl _ _ rfl (w.heap.size + 1) (rdB x f) _ rfl rfl HS.out.hr rfl ?_))
  refine bodyPost_ret (res_read2 rfl _ _ _ _ _ rfl rfl (HS.out.hr.row _) rfl) rfl ⟨(by (try rw [HF.out]); (try rw [HRO.out]); rfl), ?_⟩
  exact brow HS.out.hb (by omega) _
end
section
open Go.RowKit
set_option linter.unusedVariables false
set_option linter.unusedSimpArgs false
set_option maxRecDepth 100000 in
set_option maxHeartbeats 4000000 in
theorem rnext_old (x : Wk) (v : Int) (w : World) (hv : U64 v) (hx : WkOk x) (hk : dk v x.l = 2) (he : de v x.l = 0) (hu : dfl v x.l 6 = true) (ht : tch v = false) :
    Calls Tryd.prog 18 #[.agg #[.bool x.on, .int .i64 x.a, .int .u64 x.p, .int .i8 x.l, .int .i64 x.f], .int .u64 v] w fun e w' => e = .returned (.tuple #[rdV (rdQ x (df v x.l) (dfl v x.l 7) false 0), .int .i64 0]) ∧ Below w.heap.size w w' := by
  have HE := Lib.hid (show wkE x = 0 from (if_pos hx))
  obtain ⟨-, l0, l3, -, -, -, -, hp⟩ := hx
  have HK0 := Lib.hid hk
  have HE0 := Lib.hid he
  have HU0 := Lib.hid hu
  clear hk he hu
  have HV := Lib.hid ht
  clear ht
  have hK : Bk ((w.alloc (.cells #[.bool x.on, .int .i64 x.a, .int .u64 x.p, .int .i8 x.l, .int .i64 x.f] 26)).alloc (.cells (encR zR) 42)) (w.heap.size + 1) 42 (encR zR) := by
    have := Bk.new (w.alloc (.cells #[.bool x.on, .int .i64 x.a, .int .u64 x.p, .int .i8 x.l, .int .i64 x.f] 26)) 42 (encR zR)
    simpa using this
  have hX := (Bk.new w 26 #[.bool x.on, .int .i64 x.a, .int .u64 x.p, .int .i8 x.l, .int .i64 x.f]).call (ba (Below.refl _ _) (.cells (encR zR) 42))
  have HK := Lib.hid hK
  have HX := Lib.hid hX
  have HB := Lib.hid (ba (ba (Below.refl w.heap.size w) (.cells #[.bool x.on, .int .i64 x.a, .int .u64 x.p, .int .i8 x.l, .int .i64 x.f] 26)) (.cells (encR zR) 42))
  clear hK hX hp
  go_enter Tryd.func18, Tryd.ntmps18
  go_wp2_with fail
  refine (rwcheck_any x _).mono ?_
  rintro e w1 ⟨rfl, hb⟩
  rw [HE.out]
  have HK1 := Lib.hid ((HK.out.call hb).call (ba (Below.refl _ _) (.cells (encR zR) 42)))
  have hX1 := (HX.out.call hb).call (ba (Below.refl _ _) (.cells (encR zR) 42))
  have HT1 := Lib.hid (Bk.new w1 42 (encR zR))
  have HB1 := Lib.hid (ba (bthen HB.out hb) (.cells (encR zR) 42))
  have HL1 := Lib.hid (HK.out.call hb).lt
  have x3 : w1.cell? ⟨w.heap.size, 3, none⟩ = some (.int .i8 x.l) := (HX.out.call hb).cell 3
  have lx : w.heap.size < w1.heap.size := (HX.out.call hb).lt
  clear hb HK HB HE HX
  have HX1 := Lib.hid hX1
  clear hX1
  go_upto_region 4 with (refine put_read rfl _ _ rfl w1.heap.size zR _ rfl rfl HT1.out rfl ?_)
  have hB2 := brow HB1.out (g := w1.heap.size) (by have := HL1.out; omega) (encR zR)
  have hX2 := HX1.out.farRow (b := w1.heap.size) (by omega) (encR zR)
  have hK2 := HK1.out.farRow (b := w1.heap.size) (by have := HL1.out; omega) (encR zR)
  have hT2 := HT1.out.row (encR zR)
  refine (show ∀ W1 : World, Below w.heap.size w W1 → Bk W1 w.heap.size 26 #[.bool x.on, .int .i64 x.a, .int .u64 x.p, .int .i8 x.l, .int .i64 x.f] → Bk W1 (w.heap.size + 1) 42 (encR zR) → Bk W1 w1.heap.size 42 (encR zR) → Code.wp _ _ _ _ W1 from fun W1 hB hX hK hT => ?_) _ hB2 hX2 hK2 hT2
  clear hB2 hX2 hK2 hT2 HB1 HX1 HK1 HT1 x3 lx
  have x3 : W1.cell? ⟨w.heap.size, 3, none⟩ = some (.int .i8 x.l) := hX.cell 3
  have lx : w.heap.size < W1.heap.size := hX.lt
  have HX1 := Lib.hid hX
  have HK1 := Lib.hid hK
  have HT1 := Lib.hid hT
  have HB1 := Lib.hid hB
  clear hX hK hT hB
  go_wp2_with fail
  refine (r3Decode_any v x.l _ hv).mono ?_
  rintro e w2 ⟨rfl, hb⟩
  rw [HK0.out, HE0.out, HU0.out]
  clear HK0 HE0 HU0
  clear x3 lx
  generalize hf : df v x.l = f at *
  generalize dfl v x.l 10 = af at *
  generalize hro : dfl v x.l 7 = ro at *
  have HF := Lib.hid hf
  have HRO := Lib.hid hro
  clear hf hro
  generalize dfl v x.l 11 = ng at *
  have hS2 : RnS w (w2.alloc (.cells #[.int .i8 2, .int .i64 f, .bool af, .bool ro, .bool true, .bool ng] 94)) x w1.heap.size w2.heap.size 2 f af ro true ng zR :=
    ⟨(HX1.out.call hb).call (ba (Below.refl _ _) _), (HK1.out.call hb).call (ba (Below.refl _ _) _), (HT1.out.call hb).call (ba (Below.refl _ _) _), Bk.new _ _ _, HL1.out, (HT1.out.call hb).lt, ba (bthen HB1.out hb) _⟩
  have HS2 := Lib.hid hS2
  clear hb HK1 HB1 HX1 HT1 HL1 hS2
  go_upto_region 5 with fail
  refine (show ∀ (W : World) (b c : Nat), RnS w W x b c 2 f af ro true ng zR → Code.wp _ _ _ ⟨#[_, _, _, _, _, _, .pointer (some ⟨b, 0, none⟩), .pointer (some ⟨c, 0, none⟩), _, _, _, _, _, _, _, _, _, _, _, _, _, _, _, _, _, _, _, _, _, _, _, _, _, _, _, _, _, _, _, _, _, _, _, _, _, _, _, _, _, _, _, _, _, _, _, _, _, _, _, _, _, _, _, _, _, _, _, _, _, _, _, _, _, _, _, _, _, _, _, _, _, _, _, _, _, _, _, _, _, _, _, _, _, _, _, _, _, _, _, _, _, _, _, _, _, _], _⟩ W from fun W b c hS => ?_) _ _ _ HS2.out
  clear HS2
  have l1 : w.heap.size ≠ b := by have := hS.lt; omega
  have l2 : b ≠ w.heap.size := by have := hS.lt; omega
  have l3 : c ≠ b := by have := hS.lt2; omega
  have l4 : b ≠ c := by have := hS.lt2; omega
  have x0 : W.cell? ⟨w.heap.size, 0, none⟩ = some (.bool x.on) := hS.hx.cell 0
  have x1 : W.cell? ⟨w.heap.size, 1, none⟩ = some (.int .i64 x.a) := hS.hx.cell 1
  have x2 : W.cell? ⟨w.heap.size, 2, none⟩ = some (.int .u64 x.p) := hS.hx.cell 2
  have x3 : W.cell? ⟨w.heap.size, 3, none⟩ = some (.int .i8 x.l) := hS.hx.cell 3
  have x4 : W.cell? ⟨w.heap.size, 4, none⟩ = some (.int .i64 x.f) := hS.hx.cell 4
  have d0 : W.cell? ⟨c, 0, none⟩ = some (.int .i8 2) := hS.hd.cell 0
  have d1 : W.cell? ⟨c, 1, none⟩ = some (.int .i64 f) := hS.hd.cell 1
  have d3 : W.cell? ⟨c, 3, none⟩ = some (.bool ro) := hS.hd.cell 3
  have d4 : W.cell? ⟨c, 4, none⟩ = some (.bool true) := hS.hd.cell 4
  have t10 : W.cell? ⟨b, 10, none⟩ = some (.bool false) := hS.ht.cell 10
  have z10 : W.frozen? ⟨b, 10, none⟩ = false := hS.ht.frozen 10
  have t11 : W.cell? ⟨b, 11, none⟩ = some (.int .i64 0) := hS.ht.cell 11
  have z11 : W.frozen? ⟨b, 11, none⟩ = false := hS.ht.frozen 11
  have t12 : W.cell? ⟨b, 12, none⟩ = some (.int .u64 0) := hS.ht.cell 12
  have z12 : W.frozen? ⟨b, 12, none⟩ = false := hS.ht.frozen 12
  have t13 : W.cell? ⟨b, 13, none⟩ = some (.int .i64 0) := hS.ht.cell 13
  have z13 : W.frozen? ⟨b, 13, none⟩ = false := hS.ht.frozen 13
  have t14 : W.cell? ⟨b, 14, none⟩ = some (.bool false) := hS.ht.cell 14
  have z14 : W.frozen? ⟨b, 14, none⟩ = false := hS.ht.frozen 14
  go_upto_region 16 with fail
  clear x0 x1 x2 x3 x4 d0 d1 d3 d4 t10 z10 t11 z11 t12 z12 t13 z13 t14 z14
  refine (show ∀ W2 : World, RnS w W2 x b c 2 f af ro true ng (rdQ x f ro false 0) → Code.wp _ _ _ _ W2 from fun W2 hS => ?_) _ ((((((hS).set 10 (.bool true) (⟨zW, false, zS, true, zT, false, 0, 0, false, 0⟩) rfl).set 11 (.int .i64 x.a) (⟨zW, false, zS, true, ⟨x.a, 0, 0, false⟩, false, 0, 0, false, 0⟩) rfl).set 12 (.int .u64 x.p) (⟨zW, false, zS, true, ⟨x.a, x.p, 0, false⟩, false, 0, 0, false, 0⟩) rfl).set 13 (.int .i64 f) (⟨zW, false, zS, true, ⟨x.a, x.p, f, false⟩, false, 0, 0, false, 0⟩) rfl).set 14 (.bool ro) (rdQ x f ro false 0) rfl)
  have HS3 := Lib.hid hS
  clear hS
  go_wp2_with fail
  refine (r3Touch_any v _ hv).mono ?_
  rintro e w5 ⟨rfl, hb⟩
  rw [HV.out]
  have hS := HS3.out.call hb
  clear hb HS3
  have HS := Lib.hid hS
  clear hS l1 l2 l3 l4
  go_wp2_with (first | (refine get_read rfl _ rfl b _ rfl HS.out.ht rfl ?_) | (refine put_read rfl _ _ rfl (w.heap.size + 1) (rdQ x f ro false 0) _ rfl rfl HS.out.hr rfl ?_))
  refine bodyPost_ret (res_read2 rfl _ _ _ _ _ rfl rfl (HS.out.hr.row _) rfl) rfl ⟨(by (try rw [HF.out]); (try rw [HRO.out]); rfl), ?_⟩
  exact brow HS.out.hb (by omega) _
end
section
open Go.RowKit
set_option linter.unusedVariables false
set_option linter.unusedSimpArgs false
set_option maxRecDepth 100000 in
set_option maxHeartbeats 4000000 in
theorem rnext_new (x : Wk) (v : Int) (w : World) (hv : U64 v) (hx : WkOk x) (hk : dk v x.l = 2) (he : de v x.l = 0) (hu : dfl v x.l 6 = true) (ht : tch v = true) :
    Calls Tryd.prog 18 #[.agg #[.bool x.on, .int .i64 x.a, .int .u64 x.p, .int .i8 x.l, .int .i64 x.f], .int .u64 v] w fun e w' => e = .returned (.tuple #[rdV (rdQ x (df v x.l) (dfl v x.l 7) true (v + 1024)), .int .i64 0]) ∧ Below w.heap.size w w' := by
  have HE := Lib.hid (show wkE x = 0 from (if_pos hx))
  obtain ⟨-, l0, l3, -, -, -, -, hp⟩ := hx
  have HK0 := Lib.hid hk
  have HE0 := Lib.hid he
  have HU0 := Lib.hid hu
  clear hk he hu
  have HV := Lib.hid (show tV v = v + 1024 ∧ tch v = true from ⟨by simp [tV, ht], ht⟩)
  clear ht
  have hK : Bk ((w.alloc (.cells #[.bool x.on, .int .i64 x.a, .int .u64 x.p, .int .i8 x.l, .int .i64 x.f] 26)).alloc (.cells (encR zR) 42)) (w.heap.size + 1) 42 (encR zR) := by
    have := Bk.new (w.alloc (.cells #[.bool x.on, .int .i64 x.a, .int .u64 x.p, .int .i8 x.l, .int .i64 x.f] 26)) 42 (encR zR)
    simpa using this
  have hX := (Bk.new w 26 #[.bool x.on, .int .i64 x.a, .int .u64 x.p, .int .i8 x.l, .int .i64 x.f]).call (ba (Below.refl _ _) (.cells (encR zR) 42))
  have HK := Lib.hid hK
  have HX := Lib.hid hX
  have HB := Lib.hid (ba (ba (Below.refl w.heap.size w) (.cells #[.bool x.on, .int .i64 x.a, .int .u64 x.p, .int .i8 x.l, .int .i64 x.f] 26)) (.cells (encR zR) 42))
  clear hK hX hp
  go_enter Tryd.func18, Tryd.ntmps18
  go_wp2_with fail
  refine (rwcheck_any x _).mono ?_
  rintro e w1 ⟨rfl, hb⟩
  rw [HE.out]
  have HK1 := Lib.hid ((HK.out.call hb).call (ba (Below.refl _ _) (.cells (encR zR) 42)))
  have hX1 := (HX.out.call hb).call (ba (Below.refl _ _) (.cells (encR zR) 42))
  have HT1 := Lib.hid (Bk.new w1 42 (encR zR))
  have HB1 := Lib.hid (ba (bthen HB.out hb) (.cells (encR zR) 42))
  have HL1 := Lib.hid (HK.out.call hb).lt
  have x3 : w1.cell? ⟨w.heap.size, 3, none⟩ = some (.int .i8 x.l) := (HX.out.call hb).cell 3
  have lx : w.heap.size < w1.heap.size := (HX.out.call hb).lt
  clear hb HK HB HE HX
  have HX1 := Lib.hid hX1
  clear hX1
  go_upto_region 4 with (refine put_read rfl _ _ rfl w1.heap.size zR _ rfl rfl HT1.out rfl ?_)
  have hB2 := brow HB1.out (g := w1.heap.size) (by have := HL1.out; omega) (encR zR)
  have hX2 := HX1.out.farRow (b := w1.heap.size) (by omega) (encR zR)
  have hK2 := HK1.out.farRow (b := w1.heap.size) (by have := HL1.out; omega) (encR zR)
  have hT2 := HT1.out.row (encR zR)
  refine (show ∀ W1 : World, Below w.heap.size w W1 → Bk W1 w.heap.size 26 #[.bool x.on, .int .i64 x.a, .int .u64 x.p, .int .i8 x.l, .int .i64 x.f] → Bk W1 (w.heap.size + 1) 42 (encR zR) → Bk W1 w1.heap.size 42 (encR zR) → Code.wp _ _ _ _ W1 from fun W1 hB hX hK hT => ?_) _ hB2 hX2 hK2 hT2
  clear hB2 hX2 hK2 hT2 HB1 HX1 HK1 HT1 x3 lx
  have x3 : W1.cell? ⟨w.heap.size, 3, none⟩ = some (.int .i8 x.l) := hX.cell 3
  have lx : w.heap.size < W1.heap.size := hX.lt
  have HX1 := Lib.hid hX
  have HK1 := Lib.hid hK
  have HT1 := Lib.hid hT
  have HB1 := Lib.hid hB
  clear hX hK hT hB
  go_wp2_with fail
  refine (r3Decode_any v x.l _ hv).mono ?_
  rintro e w2 ⟨rfl, hb⟩
  rw [HK0.out, HE0.out, HU0.out]
  clear HK0 HE0 HU0
  clear x3 lx
  generalize hf : df v x.l = f at *
  generalize dfl v x.l 10 = af at *
  generalize hro : dfl v x.l 7 = ro at *
  have HF := Lib.hid hf
  have HRO := Lib.hid hro
  clear hf hro
  generalize dfl v x.l 11 = ng at *
  have hS2 : RnS w (w2.alloc (.cells #[.int .i8 2, .int .i64 f, .bool af, .bool ro, .bool true, .bool ng] 94)) x w1.heap.size w2.heap.size 2 f af ro true ng zR :=
    ⟨(HX1.out.call hb).call (ba (Below.refl _ _) _), (HK1.out.call hb).call (ba (Below.refl _ _) _), (HT1.out.call hb).call (ba (Below.refl _ _) _), Bk.new _ _ _, HL1.out, (HT1.out.call hb).lt, ba (bthen HB1.out hb) _⟩
  have HS2 := Lib.hid hS2
  clear hb HK1 HB1 HX1 HT1 HL1 hS2
  go_upto_region 5 with fail
  refine (show ∀ (W : World) (b c : Nat), RnS w W x b c 2 f af ro true ng zR → Code.wp _ _ _ ⟨#[_, _, _, _, _, _, .pointer (some ⟨b, 0, none⟩), .pointer (some ⟨c, 0, none⟩), _, _, _, _, _, _, _, _, _, _, _, _, _, _, _, _, _, _, _, _, _, _, _, _, _, _, _, _, _, _, _, _, _, _, _, _, _, _, _, _, _, _, _, _, _, _, _, _, _, _, _, _, _, _, _, _, _, _, _, _, _, _, _, _, _, _, _, _, _, _, _, _, _, _, _, _, _, _, _, _, _, _, _, _, _, _, _, _, _, _, _, _, _, _, _, _, _, _], _⟩ W from fun W b c hS => ?_) _ _ _ HS2.out
  clear HS2
  have l1 : w.heap.size ≠ b := by have := hS.lt; omega
  have l2 : b ≠ w.heap.size := by have := hS.lt; omega
  have l3 : c ≠ b := by have := hS.lt2; omega
  have l4 : b ≠ c := by have := hS.lt2; omega
  have x0 : W.cell? ⟨w.heap.size, 0, none⟩ = some (.bool x.on) := hS.hx.cell 0
  have x1 : W.cell? ⟨w.heap.size, 1, none⟩ = some (.int .i64 x.a) := hS.hx.cell 1
  have x2 : W.cell? ⟨w.heap.size, 2, none⟩ = some (.int .u64 x.p) := hS.hx.cell 2
  have x3 : W.cell? ⟨w.heap.size, 3, none⟩ = some (.int .i8 x.l) := hS.hx.cell 3
  have x4 : W.cell? ⟨w.heap.size, 4, none⟩ = some (.int .i64 x.f) := hS.hx.cell 4
  have d0 : W.cell? ⟨c, 0, none⟩ = some (.int .i8 2) := hS.hd.cell 0
  have d1 : W.cell? ⟨c, 1, none⟩ = some (.int .i64 f) := hS.hd.cell 1
  have d3 : W.cell? ⟨c, 3, none⟩ = some (.bool ro) := hS.hd.cell 3
  have d4 : W.cell? ⟨c, 4, none⟩ = some (.bool true) := hS.hd.cell 4
  have t10 : W.cell? ⟨b, 10, none⟩ = some (.bool false) := hS.ht.cell 10
  have z10 : W.frozen? ⟨b, 10, none⟩ = false := hS.ht.frozen 10
  have t11 : W.cell? ⟨b, 11, none⟩ = some (.int .i64 0) := hS.ht.cell 11
  have z11 : W.frozen? ⟨b, 11, none⟩ = false := hS.ht.frozen 11
  have t12 : W.cell? ⟨b, 12, none⟩ = some (.int .u64 0) := hS.ht.cell 12
  have z12 : W.frozen? ⟨b, 12, none⟩ = false := hS.ht.frozen 12
  have t13 : W.cell? ⟨b, 13, none⟩ = some (.int .i64 0) := hS.ht.cell 13
  have z13 : W.frozen? ⟨b, 13, none⟩ = false := hS.ht.frozen 13
  have t14 : W.cell? ⟨b, 14, none⟩ = some (.bool false) := hS.ht.cell 14
  have z14 : W.frozen? ⟨b, 14, none⟩ = false := hS.ht.frozen 14
  go_upto_region 16 with fail
  clear x0 x1 x2 x3 x4 d0 d1 d3 d4 t10 z10 t11 z11 t12 z12 t13 z13 t14 z14
  refine (show ∀ W2 : World, RnS w W2 x b c 2 f af ro true ng (rdQ x f ro false 0) → Code.wp _ _ _ _ W2 from fun W2 hS => ?_) _ ((((((hS).set 10 (.bool true) (⟨zW, false, zS, true, zT, false, 0, 0, false, 0⟩) rfl).set 11 (.int .i64 x.a) (⟨zW, false, zS, true, ⟨x.a, 0, 0, false⟩, false, 0, 0, false, 0⟩) rfl).set 12 (.int .u64 x.p) (⟨zW, false, zS, true, ⟨x.a, x.p, 0, false⟩, false, 0, 0, false, 0⟩) rfl).set 13 (.int .i64 f) (⟨zW, false, zS, true, ⟨x.a, x.p, f, false⟩, false, 0, 0, false, 0⟩) rfl).set 14 (.bool ro) (rdQ x f ro false 0) rfl)
  have HS3 := Lib.hid hS
  clear hS
  go_wp2_with fail
  refine (r3Touch_any v _ hv).mono ?_
  rintro e w5 ⟨rfl, hb⟩
  rw [HV.out.1, HV.out.2]
  have hS := HS3.out.call hb
  clear hb HS3
  have t18 : w5.cell? ⟨b, 18, none⟩ = some (.bool false) := hS.ht.cell 18
  have z18 : w5.frozen? ⟨b, 18, none⟩ = false := hS.ht.frozen 18
  have t19 : w5.cell? ⟨b, 19, none⟩ = some (.int .u64 0) := hS.ht.cell 19
  have z19 : w5.frozen? ⟨b, 19, none⟩ = false := hS.ht.frozen 19
  go_upto_region 20 with fail
  clear t18 z18 t19 z19
  refine (show ∀ W4 : World, RnS w W4 x b c 2 f af ro true ng (rdQ x f ro true (v + 1024)) → Code.wp _ _ _ _ W4 from fun W4 hS => ?_) _ (((hS).set 18 (.bool true) (rdQ x f ro true 0) rfl).set 19 (.int .u64 (v + 1024)) (rdQ x f ro true (v + 1024)) rfl)
  have HS := Lib.hid hS
  clear hS l1 l2 l3 l4
  go_wp2_with (first | (refine get_read rfl _ rfl b _ rfl HS.out.ht rfl ?_) | (refine put_read rfl _ _ rfl (w.heap.size + 1) (rdQ x f ro true (v + 1024)) _ rfl rfl HS.out.hr rfl ?_))
  refine bodyPost_ret (res_read2 rfl _ _ _ _ _ rfl rfl (HS.out.hr.row _) rfl) rfl ⟨(by (try rw [HF.out]); (try rw [HRO.out]); rfl), ?_⟩
  exact brow HS.out.hb (by omega) _
end
section
open Go.RowKit
set_option linter.unusedVariables false
set_option linter.unusedSimpArgs false
theorem rnext_ok (x : Wk) (v : Int) (w : World) (hv : U64 v) (hx : WkOk x) :
    Calls Tryd.prog 18 #[.agg #[.bool x.on, .int .i64 x.a, .int .u64 x.p, .int .i8 x.l, .int .i64 x.f], .int .u64 v] w fun e w' => e = .returned (.tuple #[rdV (rd x v), .int .i64 0]) ∧ Below w.heap.size w w' := by
  have hx' := hx
  obtain ⟨h1, l0, l3, -, -, -, -, hp⟩ := hx'
  rcases dk_cases v x.l l0 l3 with ⟨h, -⟩ | ⟨h, hl, hg⟩ | ⟨h, hl, hg⟩
  · rw [rd_miss h]
    by_cases he : de v x.l = 0
    · exact rnext_none x v w hv hx h he
    · exact rnext_err x v w hv hx h (by simpa using he)
  · rw [rd_table h]
    exact rnext_table x v w hv hx h (de_zero l0 l3 (by omega)) hl
  · have he := de_zero (v := v) l0 l3 (by omega)
    rcases hu : dfl v x.l 6 with _ | _
    · rw [rd_deny h hu]
      exact rnext_deny x v w hv hx h he hu
    · rcases ha : dfl v x.l 10 with _ | _
      · obtain ⟨ht, e⟩ := rd_new h hl hg hu ha
        rw [e]
        exact rnext_new x v w hv hx h he hu ht
      · obtain ⟨ht, e⟩ := rd_old h hl hu ha
        rw [e]
        exact rnext_old x v w hv hx h he hu ht
end
section
open Go.RowKit
set_option linter.unusedVariables false
set_option linter.unusedSimpArgs false
theorem next_any (x : Wk) (v : Int) (w : World) (hG : G w) (hv : U64 v) :
    Calls Tryd.prog 17 #[.agg #[.bool x.on, .int .i64 x.a, .int .u64 x.p, .int .i8 x.l, .int .i64 x.f], .int .u64 v] w fun e w' => e = .returned (.tuple #[rdV (nxR x v), .int .i64 (nxE x)]) ∧ Below w.heap.size w w' := by
  by_cases h : WkOk x
  · rw [show nxR x v = rd x v from if_pos h, show nxE x = 0 from if_pos h]
    exact next_ok x v w hG hv h
  · rw [show nxR x v = zR from if_neg h, show nxE x = 2 from if_neg h]
    exact next_not x v w h
theorem rnext_any (x : Wk) (v : Int) (w : World) (hv : U64 v) :
    Calls Tryd.prog 18 #[.agg #[.bool x.on, .int .i64 x.a, .int .u64 x.p, .int .i8 x.l, .int .i64 x.f], .int .u64 v] w fun e w' => e = .returned (.tuple #[rdV (nxR x v), .int .i64 (nxE x)]) ∧ Below w.heap.size w w' := by
  by_cases h : WkOk x
  · rw [show nxR x v = rd x v from if_pos h, show nxE x = 0 from if_pos h]
    exact rnext_ok x v w hv h
  · rw [show nxR x v = zR from if_neg h, show nxE x = 2 from if_neg h]
    exact rnext_not x v w h
set_option maxRecDepth 100000 in
set_option maxHeartbeats 8000000 in
theorem walkNext_any (x : Wk) (v : Int) (w : World) (hG : G w) (hv : U64 v) :
    Calls Tryd.prog 4 #[.agg #[.bool x.on, .int .i64 x.a, .int .u64 x.p, .int .i8 x.l, .int .i64 x.f], .int .u64 v] w fun e w' => e = .returned (.bool true) ∧ Below w.heap.size w w' := by
  have HB := Lib.hid (ba (Below.refl w.heap.size w) (.cells #[.bool x.on, .int .i64 x.a, .int .u64 x.p, .int .i8 x.l, .int .i64 x.f] 26))
  have HX := Lib.hid (Bk.new w 26 #[.bool x.on, .int .i64 x.a, .int .u64 x.p, .int .i8 x.l, .int .i64 x.f])
  have HG := Lib.hid hG
  have eqR := eq_read (nxR x v)
  have HEQ := Lib.hid eqR
  clear hG eqR
  go_enter Tryd.func4, Tryd.ntmps4
  go_wp2_with fail
  refine (next_any x v _ (HG.out.call HB.out) hv).mono ?_
  rintro e w1 ⟨rfl, hb⟩
  simp only [rdV]
  have HX1 := Lib.hid ((HX.out.call hb).call (brow (ba (Below.refl _ _) (.cells (encR zR) 42)) (Nat.le_refl _) (encR (nxR x v))))
  have HB1 := Lib.hid (bthen (bthen HB.out hb) (brow (ba (Below.refl _ _) (.cells (encR zR) 42)) (Nat.le_refl _) (encR (nxR x v))))
  have HN1 := Lib.hid (Bk.new w1 42 (encR zR))
  have HT1 := Lib.hid (HN1.out.row (encR (nxR x v)))
  clear hb HX HB
  go_upto_region 2 with (refine put_read rfl _ _ rfl w1.heap.size (nxR x v) _ rfl rfl HN1.out rfl ?_)
  refine (show ∀ W : World, Bk W w.heap.size 26 #[.bool x.on, .int .i64 x.a, .int .u64 x.p, .int .i8 x.l, .int .i64 x.f] → Below w.heap.size w W → Bk W w1.heap.size 42 (encR (nxR x v)) → Code.wp _ _ _ _ W from fun W hX hB hT => ?_) _ HX1.out HB1.out HT1.out
  clear HX1 HB1 HN1 HT1
  have x0 := hX.cell 0
  have x1 := hX.cell 1
  have x2 := hX.cell 2
  have x3 := hX.cell 3
  have x4 := hX.cell 4
  simp only [List.getElem?_toArray, List.getElem?_cons_zero, List.getElem?_cons_succ] at x0 x1 x2 x3 x4
  have HB := Lib.hid hB
  have HT := Lib.hid hT
  clear hX hB hT
  go_wp2_with fail
  refine (rnext_any x v _ hv).mono ?_
  rintro e w2 ⟨rfl, hb⟩
  simp only [rdV]
  have HB2 := Lib.hid (bthen (bthen HB.out hb) (brow (ba (Below.refl _ _) (.cells (encR zR) 42)) (Nat.le_refl _) (encR (nxR x v))))
  have HN2 := Lib.hid (Bk.new w2 42 (encR zR))
  have HT2 := Lib.hid (HN2.out.row (encR (nxR x v)))
  have HA2 := Lib.hid ((HT.out.call hb).call (brow (ba (Below.refl _ _) (.cells (encR zR) 42)) (Nat.le_refl _) (encR (nxR x v))))
  clear hb HB HT x0 x1 x2 x3 x4
  go_upto_region 3 with (refine put_read rfl _ _ rfl w2.heap.size (nxR x v) _ rfl rfl HN2.out rfl ?_)
  refine (show ∀ W : World, Below w.heap.size w W → Bk W w1.heap.size 42 (encR (nxR x v)) → Bk W w2.heap.size 42 (encR (nxR x v)) → Code.wp _ _ _ _ W from fun W hB hA hT => ?_) _ HB2.out HA2.out HT2.out
  clear HB2 HN2 HT2 HA2
  have HB := Lib.hid hB
  have HA := Lib.hid hA
  have HT := Lib.hid hT
  clear hB hA hT
  have hE := HEQ.out
  generalize nxR x v = r at *
  go_wp2_with (first | (refine get_read rfl _ rfl w1.heap.size _ rfl HA.out rfl ?_) | (refine get_read rfl _ rfl w2.heap.size _ rfl HT.out rfl ?_))
  refine (wakes12_any _ (HG.out.call HB.out)).mono ?_
  rintro e w3 ⟨rfl, hb⟩
  have HB3 := Lib.hid (bthen HB.out hb)
  clear hb
  go_wp2_with fail
  go_ret
  exact ⟨rfl, HB3.out⟩
end
end Go.Proofs.YtgdkkhdhomehdaaDoor
