/-
  Layer 12: the document's Next (printed by gen/wkrnext.py).
  Layer 12: the document's Next (printed by gen/wkrnext.py, cut by gen/wkrcut.py).
  Layer 12: the document's Next (printed by gen/wkrnext.py, cut by gen/wkrcut.py).
  Layer 12: the document's Next (printed by gen/wkrnext.py, cut by gen/wkrcut.py).
-/
import Derived.Test.YtgdkkhdhomehdaaDoorMwN
import Derived.Deep.DeepCutAuto
namespace Go.Proofs.YtgdkkhdhomehdaaDoor
section
open Go.RowKit
set_option linter.unusedVariables false
set_option linter.unusedSimpArgs false
/-- What stands behind the decoding: the walk, the result, the Read in the making, the descriptor. -/
structure RnS (w W : World) (x : Wk) (b c : Nat) (k f : Int) (af ro us ng : Bool) (r : Rd) : Prop where
  hx : Bk W w.heap.size 26 #[.bool x.on, .int .i64 x.a, .int .u64 x.p, .int .i8 x.l, .int .i64 x.f]
  hr : Bk W (w.heap.size + 1) 42 (encR zR)
  ht : Bk W b 42 (encR r)
  hd : Bk W c 94 #[.int .i8 k, .int .i64 f, .bool af, .bool ro, .bool us, .bool ng]
  lt : w.heap.size + 1 < b
  lt2 : b < c
  hb : Below w.heap.size w W
theorem RnS.call {w W W' : World} {x : Wk} {b c : Nat} {k f : Int} {af ro us ng : Bool} {r : Rd} (h : RnS w W x b c k f af ro us ng r) (hb : Below W.heap.size W W') : RnS w W' x b c k f af ro us ng r := ⟨h.hx.call hb, h.hr.call hb, h.ht.call hb, h.hd.call hb, h.lt, h.lt2, bthen h.hb hb⟩
/-- A cell of the Read in the making is set. -/
theorem RnS.set {w W : World} {x : Wk} {b c : Nat} {k f : Int} {af ro us ng : Bool} {r : Rd} (h : RnS w W x b c k f af ro us ng r) (i : Nat) (u : Value) (r' : Rd) (e : (encR r).setIfInBounds i u = encR r') : RnS w (W.setCell ⟨b, i, none⟩ u) x b c k f af ro us ng r' :=
  ⟨h.hx.far (by simp; have := h.lt; omega) u, h.hr.far (by simp; have := h.lt; omega) u, e ▸ h.ht.set i u, h.hd.far (by simp; have := h.lt2; omega) u, h.lt, h.lt2, bs h.hb (by simp; have := h.lt; omega) u⟩
set_option maxHeartbeats 4000000 in
theorem rnext_not (x : Wk) (v : Int) (w : World) (hx : ¬ WkOk x) :
    Calls Tryd.prog 18 #[.agg #[.bool x.on, .int .i64 x.a, .int .u64 x.p, .int .i8 x.l, .int .i64 x.f], .int .u64 v] w fun e w' => e = .returned (.tuple #[rdV zR, .int .i64 2]) ∧ Below w.heap.size w w' := by
  have HE := Lib.hid (show wkE x = 2 from (if_neg hx))
  clear hx
  have hK : Bk ((w.alloc (.cells #[.bool x.on, .int .i64 x.a, .int .u64 x.p, .int .i8 x.l, .int .i64 x.f] 26)).alloc (.cells (encR zR) 42)) (w.heap.size + 1) 42 (encR zR) := by
    have := Bk.new (w.alloc (.cells #[.bool x.on, .int .i64 x.a, .int .u64 x.p, .int .i8 x.l, .int .i64 x.f] 26)) 42 (encR zR)
    simpa using this
  have HK := Lib.hid hK
  have HB := Lib.hid (ba (ba (Below.refl w.heap.size w) (.cells #[.bool x.on, .int .i64 x.a, .int .u64 x.p, .int .i8 x.l, .int .i64 x.f] 26)) (.cells (encR zR) 42))
  clear hK
  go_enter Tryd.func18, Tryd.ntmps18
  go_wp2_with fail
  refine (rwcheck_any x _).mono ?_
  rintro e w1 ⟨rfl, hb⟩
  rw [HE.out]
  have HK1 := Lib.hid (HK.out.call hb)
  have HB1 := Lib.hid (bthen HB.out hb)
  clear hb HK HB HE
  go_wp2_with (refine put_read rfl _ _ rfl (w.heap.size + 1) zR _ rfl rfl HK1.out rfl ?_)
  refine bodyPost_ret (res_read2 rfl _ _ _ _ _ rfl rfl (HK1.out.row _) rfl) rfl ⟨rfl, ?_⟩
  exact brow HB1.out (by omega) _
end
section
open Go.RowKit
set_option linter.unusedVariables false
set_option linter.unusedSimpArgs false
set_option maxRecDepth 100000 in
set_option maxHeartbeats 4000000 in
theorem rnext_err (x : Wk) (v : Int) (w : World) (hv : U64 v) (hx : WkOk x) (hk : dk v x.l = 0) (he : (de v x.l == 0) = false) :
    Calls Tryd.prog 18 #[.agg #[.bool x.on, .int .i64 x.a, .int .u64 x.p, .int .i8 x.l, .int .i64 x.f], .int .u64 v] w fun e w' => e = .returned (.tuple #[rdV (rdM x), .int .i64 0]) ∧ Below w.heap.size w w' := by
  have HE := Lib.hid (show wkE x = 0 from (if_pos hx))
  obtain ⟨-, l0, l3, -, -, -, -, hp⟩ := hx
  have HK0 := Lib.hid hk
  clear hk
  have hK : Bk ((w.alloc (.cells #[.bool x.on, .int .i64 x.a, .int .u64 x.p, .int .i8 x.l, .int .i64 x.f] 26)).alloc (.cells (encR zR) 42)) (w.heap.size + 1) 42 (encR zR) := by
    have := Bk.new (w.alloc (.cells #[.bool x.on, .int .i64 x.a, .int .u64 x.p, .int .i8 x.l, .int .i64 x.f] 26)) 42 (encR zR)
    simpa using this
  have hX := (Bk.new w 26 #[.bool x.on, .int .i64 x.a, .int .u64 x.p, .int .i8 x.l, .int .i64 x.f]).call (ba (Below.refl _ _) (.cells (encR zR) 42))
  have HK := Lib.hid hK
  have HX := Lib.hid hX
  have HB := Lib.hid (ba (ba (Below.refl w.heap.size w) (.cells #[.bool x.on, .int .i64 x.a, .int .u64 x.p, .int .i8 x.l, .int .i64 x.f] 26)) (.cells (encR zR) 42))
  clear hK hX hp
  go_enter Tryd.func18, Tryd.ntmps18
  go_wp2_with fail
  refine (rwcheck_any x _).mono ?_
  rintro e w1 ⟨rfl, hb⟩
  rw [HE.out]
  have HK1 := Lib.hid ((HK.out.call hb).call (ba (Below.refl _ _) (.cells (encR zR) 42)))
  have hX1 := (HX.out.call hb).call (ba (Below.refl _ _) (.cells (encR zR) 42))
  have HT1 := Lib.hid (Bk.new w1 42 (encR zR))
  have HB1 := Lib.hid (ba (bthen HB.out hb) (.cells (encR zR) 42))
  have HL1 := Lib.hid (HK.out.call hb).lt
  have x3 : w1.cell? ⟨w.heap.size, 3, none⟩ = some (.int .i8 x.l) := (HX.out.call hb).cell 3
  have lx : w.heap.size < w1.heap.size := (HX.out.call hb).lt
  clear hb HK HB HE HX
  have HX1 := Lib.hid hX1
  clear hX1
  go_upto_region 4 with (refine put_read rfl _ _ rfl w1.heap.size zR _ rfl rfl HT1.out rfl ?_)
  have hB2 := brow HB1.out (g := w1.heap.size) (by have := HL1.out; omega) (encR zR)
  have hX2 := HX1.out.farRow (b := w1.heap.size) (by omega) (encR zR)
  have hK2 := HK1.out.farRow (b := w1.heap.size) (by have := HL1.out; omega) (encR zR)
  have hT2 := HT1.out.row (encR zR)
  refine (show ∀ W1 : World, Below w.heap.size w W1 → Bk W1 w.heap.size 26 #[.bool x.on, .int .i64 x.a, .int .u64 x.p, .int .i8 x.l, .int .i64 x.f] → Bk W1 (w.heap.size + 1) 42 (encR zR) → Bk W1 w1.heap.size 42 (encR zR) → Code.wp _ _ _ _ W1 from fun W1 hB hX hK hT => ?_) _ hB2 hX2 hK2 hT2
  clear hB2 hX2 hK2 hT2 HB1 HX1 HK1 HT1 x3 lx
  have x3 : W1.cell? ⟨w.heap.size, 3, none⟩ = some (.int .i8 x.l) := hX.cell 3
  have lx : w.heap.size < W1.heap.size := hX.lt
  have HX1 := Lib.hid hX
  have HK1 := Lib.hid hK
  have HT1 := Lib.hid hT
  have HB1 := Lib.hid hB
  clear hX hK hT hB
  go_wp2_with fail
  refine (r3Decode_any v x.l _ hv).mono ?_
  rintro e w2 ⟨rfl, hb⟩
  rw [HK0.out]
  clear HK0
  clear x3 lx
  generalize hf : df v x.l = f at *
  generalize dfl v x.l 10 = af at *
  generalize hro : dfl v x.l 7 = ro at *
  have HF := Lib.hid hf
  have HRO := Lib.hid hro
  clear hf hro
  generalize dfl v x.l 11 = ng at *
  generalize dfl v x.l 6 = us at *
  have hS2 : RnS w (w2.alloc (.cells #[.int .i8 0, .int .i64 f, .bool af, .bool ro, .bool us, .bool ng] 94)) x w1.heap.size w2.heap.size 0 f af ro us ng zR :=
    ⟨(HX1.out.call hb).call (ba (Below.refl _ _) _), (HK1.out.call hb).call (ba (Below.refl _ _) _), (HT1.out.call hb).call (ba (Below.refl _ _) _), Bk.new _ _ _, HL1.out, (HT1.out.call hb).lt, ba (bthen HB1.out hb) _⟩
  have HS2 := Lib.hid hS2
  clear hb HK1 HB1 HX1 HT1 HL1 hS2
  go_upto_region 5 with fail
  refine (show ∀ (W : World) (b c : Nat), RnS w W x b c 0 f af ro us ng zR → Code.wp _ _ _ ⟨#[_, _, _, _, _, _, .pointer (some ⟨b, 0, none⟩), .pointer (some ⟨c, 0, none⟩), _, _, _, _, _, _, _, _, _, _, _, _, _, _, _, _, _, _, _, _, _, _, _, _, _, _, _, _, _, _, _, _, _, _, _, _, _, _, _, _, _, _, _, _, _, _, _, _, _, _, _, _, _, _, _, _, _, _, _, _, _, _, _, _, _, _, _, _, _, _, _, _, _, _, _, _, _, _, _, _, _, _, _, _, _, _, _, _, _, _, _, _, _, _, _, _, _, _], _⟩ W from fun W b c hS => ?_) _ _ _ HS2.out
  clear HS2
  have l1 : w.heap.size ≠ b := by have := hS.lt; omega
  have l2 : b ≠ w.heap.size := by have := hS.lt; omega
  have l3 : c ≠ b := by have := hS.lt2; omega
  have l4 : b ≠ c := by have := hS.lt2; omega
  have x0 : W.cell? ⟨w.heap.size, 0, none⟩ = some (.bool x.on) := hS.hx.cell 0
  have x1 : W.cell? ⟨w.heap.size, 1, none⟩ = some (.int .i64 x.a) := hS.hx.cell 1
  have x2 : W.cell? ⟨w.heap.size, 2, none⟩ = some (.int .u64 x.p) := hS.hx.cell 2
  have x3 : W.cell? ⟨w.heap.size, 3, none⟩ = some (.int .i8 x.l) := hS.hx.cell 3
  have x4 : W.cell? ⟨w.heap.size, 4, none⟩ = some (.int .i64 x.f) := hS.hx.cell 4
  have d0 : W.cell? ⟨c, 0, none⟩ = some (.int .i8 0) := hS.hd.cell 0
  have d1 : W.cell? ⟨c, 1, none⟩ = some (.int .i64 f) := hS.hd.cell 1
  have d3 : W.cell? ⟨c, 3, none⟩ = some (.bool ro) := hS.hd.cell 3
  have d4 : W.cell? ⟨c, 4, none⟩ = some (.bool us) := hS.hd.cell 4
  have t15 : W.cell? ⟨b, 15, none⟩ = some (.bool false) := hS.ht.cell 15
  have z15 : W.frozen? ⟨b, 15, none⟩ = false := hS.ht.frozen 15
  have t16 : W.cell? ⟨b, 16, none⟩ = some (.int .u64 0) := hS.ht.cell 16
  have z16 : W.frozen? ⟨b, 16, none⟩ = false := hS.ht.frozen 16
  have t17 : W.cell? ⟨b, 17, none⟩ = some (.int .i8 0) := hS.ht.cell 17
  have z17 : W.frozen? ⟨b, 17, none⟩ = false := hS.ht.frozen 17
  go_upto_region 22 with fail
  clear x0 x1 x2 x3 x4 d0 d1 d3 d4 t15 z15 t16 z16 t17 z17
  refine (show ∀ W2 : World, RnS w W2 x b c 0 f af ro us ng (rdM x) → Code.wp _ _ _ _ W2 from fun W2 hS => ?_) _ ((((hS).set 15 (.bool true) (⟨zW, false, zS, false, zT, true, 0, 0, false, 0⟩) rfl).set 16 (.int .u64 x.p) (⟨zW, false, zS, false, zT, true, x.p, 0, false, 0⟩) rfl).set 17 (.int .i8 x.l) (rdM x) rfl)
  have HS := Lib.hid hS
  clear hS l1 l2 l3 l4
  go_wp2_with (first | (refine get_read rfl _ rfl b _ rfl HS.out.ht rfl ?_) | (refine put_read rfl _ _ rfl (w.heap.size + 1) (rdM x) _ rfl rfl HS.out.hr rfl ?_))
  refine bodyPost_ret (res_read2 rfl _ _ _ _ _ rfl rfl (HS.out.hr.row _) rfl) rfl ⟨(by (try rw [HF.out]); (try rw [HRO.out]); rfl), ?_⟩
  exact brow HS.out.hb (by omega) _
end
section
open Go.RowKit
set_option linter.unusedVariables false
set_option linter.unusedSimpArgs false
set_option maxRecDepth 100000 in
set_option maxHeartbeats 4000000 in
theorem rnext_none (x : Wk) (v : Int) (w : World) (hv : U64 v) (hx : WkOk x) (hk : dk v x.l = 0) (he : de v x.l = 0) :
    Calls Tryd.prog 18 #[.agg #[.bool x.on, .int .i64 x.a, .int .u64 x.p, .int .i8 x.l, .int .i64 x.f], .int .u64 v] w fun e w' => e = .returned (.tuple #[rdV (rdM x), .int .i64 0]) ∧ Below w.heap.size w w' := by
  have HE := Lib.hid (show wkE x = 0 from (if_pos hx))
  obtain ⟨-, l0, l3, -, -, -, -, hp⟩ := hx
  have HK0 := Lib.hid hk
  have HE0 := Lib.hid he
  clear hk he
  have hK : Bk ((w.alloc (.cells #[.bool x.on, .int .i64 x.a, .int .u64 x.p, .int .i8 x.l, .int .i64 x.f] 26)).alloc (.cells (encR zR) 42)) (w.heap.size + 1) 42 (encR zR) := by
    have := Bk.new (w.alloc (.cells #[.bool x.on, .int .i64 x.a, .int .u64 x.p, .int .i8 x.l, .int .i64 x.f] 26)) 42 (encR zR)
    simpa using this
  have hX := (Bk.new w 26 #[.bool x.on, .int .i64 x.a, .int .u64 x.p, .int .i8 x.l, .int .i64 x.f]).call (ba (Below.refl _ _) (.cells (encR zR) 42))
  have HK := Lib.hid hK
  have HX := Lib.hid hX
  have HB := Lib.hid (ba (ba (Below.refl w.heap.size w) (.cells #[.bool x.on, .int .i64 x.a, .int .u64 x.p, .int .i8 x.l, .int .i64 x.f] 26)) (.cells (encR zR) 42))
  clear hK hX hp
  go_enter Tryd.func18, Tryd.ntmps18
  go_wp2_with fail
  refine (rwcheck_any x _).mono ?_
  rintro e w1 ⟨rfl, hb⟩
  rw [HE.out]
  have HK1 := Lib.hid ((HK.out.call hb).call (ba (Below.refl _ _) (.cells (encR zR) 42)))
  have hX1 := (HX.out.call hb).call (ba (Below.refl _ _) (.cells (encR zR) 42))
  have HT1 := Lib.hid (Bk.new w1 42 (encR zR))
  have HB1 := Lib.hid (ba (bthen HB.out hb) (.cells (encR zR) 42))
  have HL1 := Lib.hid (HK.out.call hb).lt
  have x3 : w1.cell? ⟨w.heap.size, 3, none⟩ = some (.int .i8 x.l) := (HX.out.call hb).cell 3
  have lx : w.heap.size < w1.heap.size := (HX.out.call hb).lt
  clear hb HK HB HE HX
  have HX1 := Lib.hid hX1
  clear hX1
  go_upto_region 4 with (refine put_read rfl _ _ rfl w1.heap.size zR _ rfl rfl HT1.out rfl ?_)
  have hB2 := brow HB1.out (g := w1.heap.size) (by have := HL1.out; omega) (encR zR)
  have hX2 := HX1.out.farRow (b := w1.heap.size) (by omega) (encR zR)
  have hK2 := HK1.out.farRow (b := w1.heap.size) (by have := HL1.out; omega) (encR zR)
  have hT2 := HT1.out.row (encR zR)
  refine (show ∀ W1 : World, Below w.heap.size w W1 → Bk W1 w.heap.size 26 #[.bool x.on, .int .i64 x.a, .int .u64 x.p, .int .i8 x.l, .int .i64 x.f] → Bk W1 (w.heap.size + 1) 42 (encR zR) → Bk W1 w1.heap.size 42 (encR zR) → Code.wp _ _ _ _ W1 from fun W1 hB hX hK hT => ?_) _ hB2 hX2 hK2 hT2
  clear hB2 hX2 hK2 hT2 HB1 HX1 HK1 HT1 x3 lx
  have x3 : W1.cell? ⟨w.heap.size, 3, none⟩ = some (.int .i8 x.l) := hX.cell 3
  have lx : w.heap.size < W1.heap.size := hX.lt
  have HX1 := Lib.hid hX
  have HK1 := Lib.hid hK
  have HT1 := Lib.hid hT
  have HB1 := Lib.hid hB
  clear hX hK hT hB
  go_wp2_with fail
  refine (r3Decode_any v x.l _ hv).mono ?_
  rintro e w2 ⟨rfl, hb⟩
  rw [HK0.out, HE0.out]
  clear HK0 HE0
  clear x3 lx
  generalize hf : df v x.l = f at *
  generalize dfl v x.l 10 = af at *
  generalize hro : dfl v x.l 7 = ro at *
  have HF := Lib.hid hf
  have HRO := Lib.hid hro
  clear hf hro
  generalize dfl v x.l 11 = ng at *
  generalize dfl v x.l 6 = us at *
  have hS2 : RnS w (w2.alloc (.cells #[.int .i8 0, .int .i64 f, .bool af, .bool ro, .bool us, .bool ng] 94)) x w1.heap.size w2.heap.size 0 f af ro us ng zR :=
    ⟨(HX1.out.call hb).call (ba (Below.refl _ _) _), (HK1.out.call hb).call (ba (Below.refl _ _) _), (HT1.out.call hb).call (ba (Below.refl _ _) _), Bk.new _ _ _, HL1.out, (HT1.out.call hb).lt, ba (bthen HB1.out hb) _⟩
  have HS2 := Lib.hid hS2
  clear hb HK1 HB1 HX1 HT1 HL1 hS2
  go_upto_region 5 with fail
  refine (show ∀ (W : World) (b c : Nat), RnS w W x b c 0 f af ro us ng zR → Code.wp _ _ _ ⟨#[_, _, _, _, _, _, .pointer (some ⟨b, 0, none⟩), .pointer (some ⟨c, 0, none⟩), _, _, _, _, _, _, _, _, _, _, _, _, _, _, _, _, _, _, _, _, _, _, _, _, _, _, _, _, _, _, _, _, _, _, _, _, _, _, _, _, _, _, _, _, _, _, _, _, _, _, _, _, _, _, _, _, _, _, _, _, _, _, _, _, _, _, _, _, _, _, _, _, _, _, _, _, _, _, _, _, _, _, _, _, _, _, _, _, _, _, _, _, _, _, _, _, _, _], _⟩ W from fun W b c hS => ?_) _ _ _ HS2.out
  clear HS2
  have l1 : w.heap.size ≠ b := by have := hS.lt; omega
  have l2 : b ≠ w.heap.size := by have := hS.lt; omega
  have l3 : c ≠ b := by have := hS.lt2; omega
  have l4 : b ≠ c := by have := hS.lt2; omega
  have x0 : W.cell? ⟨w.heap.size, 0, none⟩ = some (.bool x.on) := hS.hx.cell 0
  have x1 : W.cell? ⟨w.heap.size, 1, none⟩ = some (.int .i64 x.a) := hS.hx.cell 1
  have x2 : W.cell? ⟨w.heap.size, 2, none⟩ = some (.int .u64 x.p) := hS.hx.cell 2
  have x3 : W.cell? ⟨w.heap.size, 3, none⟩ = some (.int .i8 x.l) := hS.hx.cell 3
  have x4 : W.cell? ⟨w.heap.size, 4, none⟩ = some (.int .i64 x.f) := hS.hx.cell 4
  have d0 : W.cell? ⟨c, 0, none⟩ = some (.int .i8 0) := hS.hd.cell 0
  have d1 : W.cell? ⟨c, 1, none⟩ = some (.int .i64 f) := hS.hd.cell 1
  have d3 : W.cell? ⟨c, 3, none⟩ = some (.bool ro) := hS.hd.cell 3
  have d4 : W.cell? ⟨c, 4, none⟩ = some (.bool us) := hS.hd.cell 4
  have t15 : W.cell? ⟨b, 15, none⟩ = some (.bool false) := hS.ht.cell 15
  have z15 : W.frozen? ⟨b, 15, none⟩ = false := hS.ht.frozen 15
  have t16 : W.cell? ⟨b, 16, none⟩ = some (.int .u64 0) := hS.ht.cell 16
  have z16 : W.frozen? ⟨b, 16, none⟩ = false := hS.ht.frozen 16
  have t17 : W.cell? ⟨b, 17, none⟩ = some (.int .i8 0) := hS.ht.cell 17
  have z17 : W.frozen? ⟨b, 17, none⟩ = false := hS.ht.frozen 17
  go_upto_region 22 with fail
  clear x0 x1 x2 x3 x4 d0 d1 d3 d4 t15 z15 t16 z16 t17 z17
  refine (show ∀ W2 : World, RnS w W2 x b c 0 f af ro us ng (rdM x) → Code.wp _ _ _ _ W2 from fun W2 hS => ?_) _ ((((hS).set 15 (.bool true) (⟨zW, false, zS, false, zT, true, 0, 0, false, 0⟩) rfl).set 16 (.int .u64 x.p) (⟨zW, false, zS, false, zT, true, x.p, 0, false, 0⟩) rfl).set 17 (.int .i8 x.l) (rdM x) rfl)
  have HS := Lib.hid hS
  clear hS l1 l2 l3 l4
  go_wp2_with (first | (refine get_read rfl _ rfl b _ rfl HS.out.ht rfl ?_) | (refine put_read rfl _ _ rfl (w.heap.size + 1) (rdM x) _ rfl rfl HS.out.hr rfl ?_))
  refine bodyPost_ret (res_read2 rfl _ _ _ _ _ rfl rfl (HS.out.hr.row _) rfl) rfl ⟨(by (try rw [HF.out]); (try rw [HRO.out]); rfl), ?_⟩
  exact brow HS.out.hb (by omega) _
end
section
open Go.RowKit
set_option linter.unusedVariables false
set_option linter.unusedSimpArgs false
set_option maxRecDepth 100000 in
set_option maxHeartbeats 4000000 in
theorem rnext_deny (x : Wk) (v : Int) (w : World) (hv : U64 v) (hx : WkOk x) (hk : dk v x.l = 2) (he : de v x.l = 0) (hu : dfl v x.l 6 = false) :
    Calls Tryd.prog 18 #[.agg #[.bool x.on, .int .i64 x.a, .int .u64 x.p, .int .i8 x.l, .int .i64 x.f], .int .u64 v] w fun e w' => e = .returned (.tuple #[rdV (rdM x), .int .i64 0]) ∧ Below w.heap.size w w' := by
  have HE := Lib.hid (show wkE x = 0 from (if_pos hx))
  obtain ⟨-, l0, l3, -, -, -, -, hp⟩ := hx
  have HK0 := Lib.hid hk
  have HE0 := Lib.hid he
  have HU0 := Lib.hid hu
  clear hk he hu
  have hK : Bk ((w.alloc (.cells #[.bool x.on, .int .i64 x.a, .int .u64 x.p, .int .i8 x.l, .int .i64 x.f] 26)).alloc (.cells (encR zR) 42)) (w.heap.size + 1) 42 (encR zR) := by
    have := Bk.new (w.alloc (.cells #[.bool x.on, .int .i64 x.a, .int .u64 x.p, .int .i8 x.l, .int .i64 x.f] 26)) 42 (encR zR)
    simpa using this
  have hX := (Bk.new w 26 #[.bool x.on, .int .i64 x.a, .int .u64 x.p, .int .i8 x.l, .int .i64 x.f]).call (ba (Below.refl _ _) (.cells (encR zR) 42))
  have HK := Lib.hid hK
  have HX := Lib.hid hX
  have HB := Lib.hid (ba (ba (Below.refl w.heap.size w) (.cells #[.bool x.on, .int .i64 x.a, .int .u64 x.p, .int .i8 x.l, .int .i64 x.f] 26)) (.cells (encR zR) 42))
  clear hK hX hp
  go_enter Tryd.func18, Tryd.ntmps18
  go_wp2_with fail
  refine (rwcheck_any x _).mono ?_
  rintro e w1 ⟨rfl, hb⟩
  rw [HE.out]
  have HK1 := Lib.hid ((HK.out.call hb).call (ba (Below.refl _ _) (.cells (encR zR) 42)))
  have hX1 := (HX.out.call hb).call (ba (Below.refl _ _) (.cells (encR zR) 42))
  have HT1 := Lib.hid (Bk.new w1 42 (encR zR))
  have HB1 := Lib.hid (ba (bthen HB.out hb) (.cells (encR zR) 42))
  have HL1 := Lib.hid (HK.out.call hb).lt
  have x3 : w1.cell? ⟨w.heap.size, 3, none⟩ = some (.int .i8 x.l) := (HX.out.call hb).cell 3
  have lx : w.heap.size < w1.heap.size := (HX.out.call hb).lt
  clear hb HK HB HE HX
  have HX1 := Lib.hid hX1
  clear hX1
  go_upto_region 4 with (refine put_read rfl _ _ rfl w1.heap.size zR _ rfl rfl HT1.out rfl ?_)
  have hB2 := brow HB1.out (g := w1.heap.size) (by have := HL1.out; omega) (encR zR)
  have hX2 := HX1.out.farRow (b := w1.heap.size) (by omega) (encR zR)
  have hK2 := HK1.out.farRow (b := w1.heap.size) (by have := HL1.out; omega) (encR zR)
  have hT2 := HT1.out.row (encR zR)
  refine (show ∀ W1 : World, Below w.heap.size w W1 → Bk W1 w.heap.size 26 #[.bool x.on, .int .i64 x.a, .int .u64 x.p, .int .i8 x.l, .int .i64 x.f] → Bk W1 (w.heap.size + 1) 42 (encR zR) → Bk W1 w1.heap.size 42 (encR zR) → Code.wp _ _ _ _ W1 from fun W1 hB hX hK hT => ?_) _ hB2 hX2 hK2 hT2
  clear hB2 hX2 hK2 hT2 HB1 HX1 HK1 HT1 x3 lx
  have x3 : W1.cell? ⟨w.heap.size, 3, none⟩ = some (.int .i8 x.l) := hX.cell 3
  have lx : w.heap.size < W1.heap.size := hX.lt
  have HX1 := Lib.hid hX
  have HK1 := Lib.hid hK
  have HT1 := Lib.hid hT
  have HB1 := Lib.hid hB
  clear hX hK hT hB
  go_wp2_with fail
  refine (r3Decode_any v x.l _ hv).mono ?_
  rintro e w2 ⟨rfl, hb⟩
  rw [HK0.out, HE0.out, HU0.out]
  clear HK0 HE0 HU0
  clear x3 lx
  generalize hf : df v x.l = f at *
  generalize dfl v x.l 10 = af at *
  generalize hro : dfl v x.l 7 = ro at *
  have HF := Lib.hid hf
  have HRO := Lib.hid hro
  clear hf hro
  generalize dfl v x.l 11 = ng at *
  have hS2 : RnS w (w2.alloc (.cells #[.int .i8 2, .int .i64 f, .bool af, .bool ro, .bool false, .bool ng] 94)) x w1.heap.size w2.heap.size 2 f af ro false ng zR :=
    ⟨(HX1.out.call hb).call (ba (Below.refl _ _) _), (HK1.out.call hb).call (ba (Below.refl _ _) _), (HT1.out.call hb).call (ba (Below.refl _ _) _), Bk.new _ _ _, HL1.out, (HT1.out.call hb).lt, ba (bthen HB1.out hb) _⟩
  have HS2 := Lib.hid hS2
  clear hb HK1 HB1 HX1 HT1 HL1 hS2
  go_upto_region 5 with fail
  refine (show ∀ (W : World) (b c : Nat), RnS w W x b c 2 f af ro false ng zR → Code.wp _ _ _ ⟨#[_, _, _, _, _, _, .pointer (some ⟨b, 0, none⟩), .pointer (some ⟨c, 0, none⟩), _, _, _, _, _, _, _, _, _, _, _, _, _, _, _, _, _, _, _, _, _, _, _, _, _, _, _, _, _, _, _, _, _, _, _, _, _, _, _, _, _, _, _, _, _, _, _, _, _, _, _, _, _, _, _, _, _, _, _, _, _, _, _, _, _, _, _, _, _, _, _, _, _, _, _, _, _, _, _, _, _, _, _, _, _, _, _, _, _, _, _, _, _, _, _, _, _, _], _⟩ W from fun W b c hS => ?_) _ _ _ HS2.out
  clear HS2
  have l1 : w.heap.size ≠ b := by have := hS.lt; omega
  have l2 : b ≠ w.heap.size := by have := hS.lt; omega
  have l3 : c ≠ b := by have := hS.lt2; omega
  have l4 : b ≠ c := by have := hS.lt2; omega
  have x0 : W.cell? ⟨w.heap.size, 0, none⟩ = some (.bool x.on) := hS.hx.cell 0
  have x1 : W.cell? ⟨w.heap.size, 1, none⟩ = some (.int .i64 x.a) := hS.hx.cell 1
  have x2 : W.cell? ⟨w.heap.size, 2, none⟩ = some (.int .u64 x.p) := hS.hx.cell 2
  have x3 : W.cell? ⟨w.heap.size, 3, none⟩ = some (.int .i8 x.l) := hS.hx.cell 3
  have x4 : W.cell? ⟨w.heap.size, 4, none⟩ = some (.int .i64 x.f) := hS.hx.cell 4
  have d0 : W.cell? ⟨c, 0, none⟩ = some (.int .i8 2) := hS.hd.cell 0
  have d1 : W.cell? ⟨c, 1, none⟩ = some (.int .i64 f) := hS.hd.cell 1
  have d3 : W.cell? ⟨c, 3, none⟩ = some (.bool ro) := hS.hd.cell 3
  have d4 : W.cell? ⟨c, 4, none⟩ = some (.bool false) := hS.hd.cell 4
  have t15 : W.cell? ⟨b, 15, none⟩ = some (.bool false) := hS.ht.cell 15
  have z15 : W.frozen? ⟨b, 15, none⟩ = false := hS.ht.frozen 15
  have t16 : W.cell? ⟨b, 16, none⟩ = some (.int .u64 0) := hS.ht.cell 16
  have z16 : W.frozen? ⟨b, 16, none⟩ = false := hS.ht.frozen 16
  have t17 : W.cell? ⟨b, 17, none⟩ = some (.int .i8 0) := hS.ht.cell 17
  have z17 : W.frozen? ⟨b, 17, none⟩ = false := hS.ht.frozen 17
  go_upto_region 22 with fail
  clear x0 x1 x2 x3 x4 d0 d1 d3 d4 t15 z15 t16 z16 t17 z17
  refine (show ∀ W2 : World, RnS w W2 x b c 2 f af ro false ng (rdM x) → Code.wp _ _ _ _ W2 from fun W2 hS => ?_) _ ((((hS).set 15 (.bool true) (⟨zW, false, zS, false, zT, true, 0, 0, false, 0⟩) rfl).set 16 (.int .u64 x.p) (⟨zW, false, zS, false, zT, true, x.p, 0, false, 0⟩) rfl).set 17 (.int .i8 x.l) (rdM x) rfl)
  have HS := Lib.hid hS
  clear hS l1 l2 l3 l4
  go_wp2_with (first | (refine get_read rfl _ rfl b _ rfl HS.out.ht rfl ?_) | (refine put_read rfl _ _ rfl (w.heap.size + 1) (rdM x) _ rfl rfl HS.out.hr rfl ?_))
  refine bodyPost_ret (res_read2 rfl _ _ _ _ _ rfl rfl (HS.out.hr.row _) rfl) rfl ⟨(by (try rw [HF.out]); (try rw [HRO.out]); rfl), ?_⟩
  exact brow HS.out.hb (by omega) _
end
end Go.Proofs.YtgdkkhdhomehdaaDoor
