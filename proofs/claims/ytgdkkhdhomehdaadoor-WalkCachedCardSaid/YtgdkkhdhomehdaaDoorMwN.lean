/-
  Layer 12: Next, the last choice: by the kind of the word.
  Layer 12: Next: what it comes to, for any walk and any word.
  Layer 12: where a walk begins; its word.
-/
import Derived.Test.YtgdkkhdhomehdaaDoorMwM
import Derived.Test.YtgdkkhdhomehdaaDoorMwK
import Derived.Test.YtgdkkhdhomehdaaDoorMwA
import Derived.Deep.RegionHeld
import Derived.RegionTactic
namespace Go.Proofs.YtgdkkhdhomehdaaDoor
section
open Go.RowKit
set_option linter.unusedVariables false
set_option linter.unusedSimpArgs false
/-- What stands in front of the last choice: the walk and the descriptor. -/
structure NxH (w W : World) (x : Wk) (b : Nat) (k f : Int) (af ro us ng : Bool) : Prop where
  hx : Bk W w.heap.size 26 #[.bool x.on, .int .i64 x.a, .int .u64 x.p, .int .i8 x.l, .int .i64 x.f]
  hd : Bk W b 94 #[.int .i8 k, .int .i64 f, .bool af, .bool ro, .bool us, .bool ng]
  lt : w.heap.size + 1 < b
  hb : Below w.heap.size w W
theorem NxH.call {w W W' : World} {x : Wk} {b : Nat} {k f : Int} {af ro us ng : Bool} (h : NxH w W x b k f af ro us ng) (hb : Below W.heap.size W W') : NxH w W' x b k f af ro us ng := ⟨h.hx.call hb, h.hd.call hb, h.lt, bthen h.hb hb⟩
theorem NxH.row {w W : World} {x : Wk} {b : Nat} {k f : Int} {af ro us ng : Bool} (h : NxH w W x b k f af ro us ng) (cs : Array Value) : NxH w (W.setRow (w.heap.size + 1) cs) x b k f af ro us ng :=
  ⟨h.hx.farRow (by omega) cs, h.hd.farRow (by have := h.lt; omega) cs, h.lt, brow h.hb (by omega) cs⟩
set_option maxRecDepth 100000 in
set_option maxHeartbeats 4000000 in
theorem next_0 (x : Wk) (v : Int) (r : Rd) (w : World) (hG : G w) (hv : U64 v) (hx : WkOk x) (he : de v x.l = 0) (hk : dk v x.l = 0)
    (hC : ∀ w' : World, G w' → Calls Tryd.prog 39 #[.agg #[.bool x.on, .int .i64 x.a, .int .u64 x.p, .int .i8 x.l, .int .i64 x.f], .int .u64 v, .agg #[.int .i8 0, .int .i64 (df v x.l), .bool (dfl v x.l 10), .bool (dfl v x.l 7), .bool (dfl v x.l 6), .bool (dfl v x.l 11)]] w' fun e w'' => e = .returned (rdV r) ∧ Below w'.heap.size w' w'') :
    Calls Tryd.prog 17 #[.agg #[.bool x.on, .int .i64 x.a, .int .u64 x.p, .int .i8 x.l, .int .i64 x.f], .int .u64 v] w fun e w' => e = .returned (.tuple #[rdV r, .int .i64 0]) ∧ Below w.heap.size w w' := by
  have HE := Lib.hid (show wkE x = 0 from (if_pos hx))
  have HK0 := Lib.hid hk
  have HD0 := Lib.hid he
  have HC := Lib.hid hC
  obtain ⟨-, l0, l3, -⟩ := hx
  have hK : Bk ((w.alloc (.cells #[.bool x.on, .int .i64 x.a, .int .u64 x.p, .int .i8 x.l, .int .i64 x.f] 26)).alloc (.cells (encR zR) 42)) (w.heap.size + 1) 42 (encR zR) := by
    have := Bk.new (w.alloc (.cells #[.bool x.on, .int .i64 x.a, .int .u64 x.p, .int .i8 x.l, .int .i64 x.f] 26)) 42 (encR zR)
    simpa using this
  have hX := (Bk.new w 26 #[.bool x.on, .int .i64 x.a, .int .u64 x.p, .int .i8 x.l, .int .i64 x.f]).call (ba (Below.refl _ _) (.cells (encR zR) 42))
  have HK := Lib.hid hK
  have HX := Lib.hid hX
  have HB := Lib.hid (ba (ba (Below.refl w.heap.size w) (.cells #[.bool x.on, .int .i64 x.a, .int .u64 x.p, .int .i8 x.l, .int .i64 x.f] 26)) (.cells (encR zR) 42))
  clear hK hX hk he hC
  go_enter Tryd.func17, Tryd.ntmps17
  go_wp2_with fail
  refine (wcheck_any x _).mono ?_
  rintro e w1 ⟨rfl, hb⟩
  rw [HE.out]
  have HK1 := Lib.hid (HK.out.call hb)
  have hX1 := (HX.out.call hb)
  have HB1 := Lib.hid (bthen HB.out hb)
  clear hb HK HB HE HX
  have x3 : w1.cell? ⟨w.heap.size, 3, none⟩ = some (.int .i8 x.l) := hX1.cell 3
  have HX1 := Lib.hid hX1
  have hg := hG.call HB1.out
  clear hX1
  go_wp2_with fail
  refine (dDecode_any v x.l _ hg hv).mono ?_
  rintro e w2 ⟨rfl, hb⟩
  rw [HK0.out, HD0.out]
  clear hg x3 HK0 HD0
  generalize df v x.l = f at *
  generalize dfl v x.l 10 = af at *
  generalize dfl v x.l 7 = ro at *
  generalize dfl v x.l 6 = us at *
  generalize dfl v x.l 11 = ng at *
  have hR2 := (HK1.out.call hb).call (ba (Below.refl _ _) (.cells #[.int .i8 0, .int .i64 f, .bool af, .bool ro, .bool us, .bool ng] 94))
  have hS2 : NxH w (w2.alloc (.cells #[.int .i8 0, .int .i64 f, .bool af, .bool ro, .bool us, .bool ng] 94)) x w2.heap.size 0 f af ro us ng :=
    ⟨(HX1.out.call hb).call (ba (Below.refl _ _) _), Bk.new _ _ _, (HK1.out.call hb).lt, ba (bthen HB1.out hb) _⟩
  have HR2 := Lib.hid hR2
  have HS2 := Lib.hid hS2
  clear hb HK1 HB1 HX1 hR2 hS2
  go_upto_region 7 with fail
  have HG := Lib.hid hG
  clear hG
  refine (show ∀ (W : World) (b : Nat), Bk W (w.heap.size + 1) 42 (encR zR) → NxH w W x b 0 f af ro us ng → Code.wp _ _ _ ⟨#[_, _, _, _, _, _, _, .pointer (some ⟨b, 0, none⟩), _, _, _, _, _, _, _, _, _, _, _, _, _, _, _, _, _, _, _, _, _, _, _, _, _, _, _, _, _], _⟩ W from fun W b hR hS => ?_) _ _ HR2.out HS2.out
  clear HR2 HS2
  have HR := Lib.hid hR
  clear hR
  refine wp_region_held_drew (S := fun w' => NxH w w' x b 0 f af ro us ng) (by kernel_rfl) (hS.call (bd (Below.refl _ _))) (fun hHeld => ?_)
  refine wpAnyH_take (i := 1) (oi := ⟨_, _, _, _, _, _⟩) (v := ?v1) rfl (by kernel_rfl) (by kernel_rfl) (by kernel_rfl) (fun _ _ _ h => h) (Or.inl ⟨by rfl, ?hy1⟩) hHeld ?rest1
  case hy1 => (intro w' hSw; go_simp; try with_reducible rfl)
  try simp only [Act.put, List.setIfInBounds_toArray, List.set_cons_zero, List.set_cons_succ]
  refine wpAnyH_take (i := 2) (oi := ⟨_, _, _, _, _, _⟩) (v := ?v2) rfl (by kernel_rfl) (by kernel_rfl) (by kernel_rfl) (fun _ _ _ h => h) (Or.inl ⟨by rfl, ?hy2⟩) hHeld ?rest2
  case hy2 => (intro w' hSw; have x0 : w'.cell? ⟨b, 0, none⟩ = some (.int .i8 0) := hSw.hd.cell 0; go_simp; try with_reducible rfl)
  try simp only [Act.put, List.setIfInBounds_toArray, List.set_cons_zero, List.set_cons_succ]
  refine wpAnyH_take (i := 4) (oi := ⟨_, _, _, _, _, _⟩) (v := ?v4) rfl (by kernel_rfl) (by kernel_rfl) (by kernel_rfl) (fun _ _ _ h => h) (Or.inl ⟨by rfl, ?hy4⟩) hHeld ?rest4
  case hy4 => (intro w' hSw; have x0 := hSw.hx.cell 0; have x1 := hSw.hx.cell 1; have x2 := hSw.hx.cell 2; have x3 := hSw.hx.cell 3; have x4 := hSw.hx.cell 4; simp only [List.getElem?_toArray, List.getElem?_cons_zero, List.getElem?_cons_succ] at x0 x1 x2 x3 x4; go_simp; try with_reducible rfl)
  try simp only [Act.put, List.setIfInBounds_toArray, List.set_cons_zero, List.set_cons_succ]
  refine wpAnyH_take (i := 5) (oi := ⟨_, _, _, _, _, _⟩) (v := ?v5) rfl (by kernel_rfl) (by kernel_rfl) (by kernel_rfl) (fun _ _ _ h => h) (Or.inl ⟨by rfl, ?hy5⟩) hHeld ?rest5
  case hy5 => (intro w' hSw; go_simp; try with_reducible rfl)
  try simp only [Act.put, List.setIfInBounds_toArray, List.set_cons_zero, List.set_cons_succ]
  refine wpAnyH_take (i := 6) (oi := ⟨_, _, _, _, _, _⟩) (v := ?v6) rfl (by kernel_rfl) (by kernel_rfl) (by kernel_rfl) (fun _ _ _ h => h) (Or.inl ⟨by rfl, ?hy6⟩) hHeld ?rest6
  case hy6 => (intro w' hSw; have x0 := hSw.hd.cell 0; have x1 := hSw.hd.cell 1; have x2 := hSw.hd.cell 2; have x3 := hSw.hd.cell 3; have x4 := hSw.hd.cell 4; have x5 := hSw.hd.cell 5; simp only [List.getElem?_toArray, List.getElem?_cons_zero, List.getElem?_cons_succ] at x0 x1 x2 x3 x4 x5; go_simp; try with_reducible rfl)
  try simp only [Act.put, List.setIfInBounds_toArray, List.set_cons_zero, List.set_cons_succ]
  refine wpAnyH_ready (rs := [0]) (by kernel_rfl) (by simp) ?_
  refine AllReadyH.cons (o := ⟨_, _, _, _, _, _⟩) rfl (fun K hK => ?_) AllReadyH.nil
  go_simp
  refine (meanings_any _).mono ?_
  rintro e w3 ⟨rfl, hb⟩
  have hS3 := hHeld.call hb
  have HR3 := Lib.hid ((HR.out.call (bd (Below.refl _ _))).call hb)
  clear hb hHeld hS HR
  go_wp2_with fail
  refine hK.out _ _ hS3 (fun hHeld => ?_)
  clear hS3 hK K
  try simp only [Act.put, List.setIfInBounds_toArray, List.set_cons_zero, List.set_cons_succ]
  refine wpAnyH_take (i := 3) (oi := ⟨_, _, _, _, _, _⟩) (v := .func (.func 39) #[] #[]) rfl (by kernel_rfl) (by kernel_rfl) (by kernel_rfl) (fun _ _ _ h => h) (Or.inl ⟨by rfl, ?hy3⟩) hHeld ?rest3
  case hy3 => (intro w' hSw; have i0 : (Instr.index 99 (.agg #[.func (.func 39) #[] #[], .func (.func 71) #[] #[], .func (.func 72) #[] #[]]) (.int .i8 0)).run Tryd.prog w' = .ok (.func (.func 39) #[] #[]) w' := (by kernel_rfl); go_simp; try with_reducible rfl)
  try simp only [Act.put, List.setIfInBounds_toArray, List.set_cons_zero, List.set_cons_succ]
  refine wpAnyH_ready (rs := [7]) (by kernel_rfl) (by simp) ?_
  refine AllReadyH.cons (o := ⟨_, _, _, _, _, _⟩) rfl (fun K hK => ?_) AllReadyH.nil
  go_simp
  refine (HC.out _ (HG.out.call hHeld.hb)).mono ?_
  rintro e w4 ⟨rfl, hb⟩
  have hS4 := hHeld.call hb
  have HR4 := Lib.hid (HR3.out.call hb)
  clear hb hHeld HR3
  go_wp2_with fail
  refine hK.out _ _ hS4 (fun hHeld => ?_)
  clear hS4 hK K
  try simp only [Act.put, List.setIfInBounds_toArray, List.set_cons_zero, List.set_cons_succ]
  refine wpAnyH_ready (rs := [8]) (by kernel_rfl) (by simp) ?_
  refine AllReadyH.cons (o := ⟨_, _, _, _, _, _⟩) rfl (fun K hK => ?_) AllReadyH.nil
  rw [if_pos (by rfl)]
  refine wp_store_row 42 (.tmp 4) (.tmp 36) ?a1 (w.heap.size + 1) (encR r) ?a2 ?a3 42 (encR zR) HR4.out readInfo rfl (encR_one r) ?a4
  case a1 => rfl
  case a2 => rfl
  case a3 => rfl
  refine hK.out _ _ (hHeld.row _) (fun hHeld => ?_)
  clear hK K
  try simp only [Act.put, List.setIfInBounds_toArray, List.set_cons_zero, List.set_cons_succ]
  refine wpAnyH_take (i := 9) (oi := ⟨_, _, _, _, _, _⟩) (v := ?v9) rfl (by kernel_rfl) (by kernel_rfl) (by kernel_rfl) (fun _ _ _ h => h) (Or.inl ⟨by rfl, ?hy9⟩) hHeld ?rest9
  case hy9 => (intro w' hSw; go_simp; try with_reducible rfl)
  try simp only [Act.put, List.setIfInBounds_toArray, List.set_cons_zero, List.set_cons_succ]
  refine wpAnyH_done (by kernel_rfl) ?_ _
  go_wp2_with fail
  refine bodyPost_ret (res_read2 rfl _ _ _ _ _ rfl rfl (HR4.out.row _) rfl) rfl ⟨rfl, ?_⟩
  exact hHeld.hb
set_option maxRecDepth 100000 in
set_option maxHeartbeats 4000000 in
theorem next_1 (x : Wk) (v : Int) (r : Rd) (w : World) (hG : G w) (hv : U64 v) (hx : WkOk x) (he : de v x.l = 0) (hk : dk v x.l = 1)
    (hC : ∀ w' : World, G w' → Calls Tryd.prog 71 #[.agg #[.bool x.on, .int .i64 x.a, .int .u64 x.p, .int .i8 x.l, .int .i64 x.f], .int .u64 v, .agg #[.int .i8 1, .int .i64 (df v x.l), .bool (dfl v x.l 10), .bool (dfl v x.l 7), .bool (dfl v x.l 6), .bool (dfl v x.l 11)]] w' fun e w'' => e = .returned (rdV r) ∧ Below w'.heap.size w' w'') :
    Calls Tryd.prog 17 #[.agg #[.bool x.on, .int .i64 x.a, .int .u64 x.p, .int .i8 x.l, .int .i64 x.f], .int .u64 v] w fun e w' => e = .returned (.tuple #[rdV r, .int .i64 0]) ∧ Below w.heap.size w w' := by
  have HE := Lib.hid (show wkE x = 0 from (if_pos hx))
  have HK0 := Lib.hid hk
  have HD0 := Lib.hid he
  have HC := Lib.hid hC
  obtain ⟨-, l0, l3, -⟩ := hx
  have hK : Bk ((w.alloc (.cells #[.bool x.on, .int .i64 x.a, .int .u64 x.p, .int .i8 x.l, .int .i64 x.f] 26)).alloc (.cells (encR zR) 42)) (w.heap.size + 1) 42 (encR zR) := by
    have := Bk.new (w.alloc (.cells #[.bool x.on, .int .i64 x.a, .int .u64 x.p, .int .i8 x.l, .int .i64 x.f] 26)) 42 (encR zR)
    simpa using this
  have hX := (Bk.new w 26 #[.bool x.on, .int .i64 x.a, .int .u64 x.p, .int .i8 x.l, .int .i64 x.f]).call (ba (Below.refl _ _) (.cells (encR zR) 42))
  have HK := Lib.hid hK
  have HX := Lib.hid hX
  have HB := Lib.hid (ba (ba (Below.refl w.heap.size w) (.cells #[.bool x.on, .int .i64 x.a, .int .u64 x.p, .int .i8 x.l, .int .i64 x.f] 26)) (.cells (encR zR) 42))
  clear hK hX hk he hC
  go_enter Tryd.func17, Tryd.ntmps17
  go_wp2_with fail
  refine (wcheck_any x _).mono ?_
  rintro e w1 ⟨rfl, hb⟩
  rw [HE.out]
  have HK1 := Lib.hid (HK.out.call hb)
  have hX1 := (HX.out.call hb)
  have HB1 := Lib.hid (bthen HB.out hb)
  clear hb HK HB HE HX
  have x3 : w1.cell? ⟨w.heap.size, 3, none⟩ = some (.int .i8 x.l) := hX1.cell 3
  have HX1 := Lib.hid hX1
  have hg := hG.call HB1.out
  clear hX1
  go_wp2_with fail
  refine (dDecode_any v x.l _ hg hv).mono ?_
  rintro e w2 ⟨rfl, hb⟩
  rw [HK0.out, HD0.out]
  clear hg x3 HK0 HD0
  generalize df v x.l = f at *
  generalize dfl v x.l 10 = af at *
  generalize dfl v x.l 7 = ro at *
  generalize dfl v x.l 6 = us at *
  generalize dfl v x.l 11 = ng at *
  have hR2 := (HK1.out.call hb).call (ba (Below.refl _ _) (.cells #[.int .i8 1, .int .i64 f, .bool af, .bool ro, .bool us, .bool ng] 94))
  have hS2 : NxH w (w2.alloc (.cells #[.int .i8 1, .int .i64 f, .bool af, .bool ro, .bool us, .bool ng] 94)) x w2.heap.size 1 f af ro us ng :=
    ⟨(HX1.out.call hb).call (ba (Below.refl _ _) _), Bk.new _ _ _, (HK1.out.call hb).lt, ba (bthen HB1.out hb) _⟩
  have HR2 := Lib.hid hR2
  have HS2 := Lib.hid hS2
  clear hb HK1 HB1 HX1 hR2 hS2
  go_upto_region 7 with fail
  have HG := Lib.hid hG
  clear hG
  refine (show ∀ (W : World) (b : Nat), Bk W (w.heap.size + 1) 42 (encR zR) → NxH w W x b 1 f af ro us ng → Code.wp _ _ _ ⟨#[_, _, _, _, _, _, _, .pointer (some ⟨b, 0, none⟩), _, _, _, _, _, _, _, _, _, _, _, _, _, _, _, _, _, _, _, _, _, _, _, _, _, _, _, _, _], _⟩ W from fun W b hR hS => ?_) _ _ HR2.out HS2.out
  clear HR2 HS2
  have HR := Lib.hid hR
  clear hR
  refine wp_region_held_drew (S := fun w' => NxH w w' x b 1 f af ro us ng) (by kernel_rfl) (hS.call (bd (Below.refl _ _))) (fun hHeld => ?_)
  refine wpAnyH_take (i := 1) (oi := ⟨_, _, _, _, _, _⟩) (v := ?v1) rfl (by kernel_rfl) (by kernel_rfl) (by kernel_rfl) (fun _ _ _ h => h) (Or.inl ⟨by rfl, ?hy1⟩) hHeld ?rest1
  case hy1 => (intro w' hSw; go_simp; try with_reducible rfl)
  try simp only [Act.put, List.setIfInBounds_toArray, List.set_cons_zero, List.set_cons_succ]
  refine wpAnyH_take (i := 2) (oi := ⟨_, _, _, _, _, _⟩) (v := ?v2) rfl (by kernel_rfl) (by kernel_rfl) (by kernel_rfl) (fun _ _ _ h => h) (Or.inl ⟨by rfl, ?hy2⟩) hHeld ?rest2
  case hy2 => (intro w' hSw; have x0 : w'.cell? ⟨b, 0, none⟩ = some (.int .i8 1) := hSw.hd.cell 0; go_simp; try with_reducible rfl)
  try simp only [Act.put, List.setIfInBounds_toArray, List.set_cons_zero, List.set_cons_succ]
  refine wpAnyH_take (i := 4) (oi := ⟨_, _, _, _, _, _⟩) (v := ?v4) rfl (by kernel_rfl) (by kernel_rfl) (by kernel_rfl) (fun _ _ _ h => h) (Or.inl ⟨by rfl, ?hy4⟩) hHeld ?rest4
  case hy4 => (intro w' hSw; have x0 := hSw.hx.cell 0; have x1 := hSw.hx.cell 1; have x2 := hSw.hx.cell 2; have x3 := hSw.hx.cell 3; have x4 := hSw.hx.cell 4; simp only [List.getElem?_toArray, List.getElem?_cons_zero, List.getElem?_cons_succ] at x0 x1 x2 x3 x4; go_simp; try with_reducible rfl)
  try simp only [Act.put, List.setIfInBounds_toArray, List.set_cons_zero, List.set_cons_succ]
  refine wpAnyH_take (i := 5) (oi := ⟨_, _, _, _, _, _⟩) (v := ?v5) rfl (by kernel_rfl) (by kernel_rfl) (by kernel_rfl) (fun _ _ _ h => h) (Or.inl ⟨by rfl, ?hy5⟩) hHeld ?rest5
  case hy5 => (intro w' hSw; go_simp; try with_reducible rfl)
  try simp only [Act.put, List.setIfInBounds_toArray, List.set_cons_zero, List.set_cons_succ]
  refine wpAnyH_take (i := 6) (oi := ⟨_, _, _, _, _, _⟩) (v := ?v6) rfl (by kernel_rfl) (by kernel_rfl) (by kernel_rfl) (fun _ _ _ h => h) (Or.inl ⟨by rfl, ?hy6⟩) hHeld ?rest6
  case hy6 => (intro w' hSw; have x0 := hSw.hd.cell 0; have x1 := hSw.hd.cell 1; have x2 := hSw.hd.cell 2; have x3 := hSw.hd.cell 3; have x4 := hSw.hd.cell 4; have x5 := hSw.hd.cell 5; simp only [List.getElem?_toArray, List.getElem?_cons_zero, List.getElem?_cons_succ] at x0 x1 x2 x3 x4 x5; go_simp; try with_reducible rfl)
  try simp only [Act.put, List.setIfInBounds_toArray, List.set_cons_zero, List.set_cons_succ]
  refine wpAnyH_ready (rs := [0]) (by kernel_rfl) (by simp) ?_
  refine AllReadyH.cons (o := ⟨_, _, _, _, _, _⟩) rfl (fun K hK => ?_) AllReadyH.nil
  go_simp
  refine (meanings_any _).mono ?_
  rintro e w3 ⟨rfl, hb⟩
  have hS3 := hHeld.call hb
  have HR3 := Lib.hid ((HR.out.call (bd (Below.refl _ _))).call hb)
  clear hb hHeld hS HR
  go_wp2_with fail
  refine hK.out _ _ hS3 (fun hHeld => ?_)
  clear hS3 hK K
  try simp only [Act.put, List.setIfInBounds_toArray, List.set_cons_zero, List.set_cons_succ]
  refine wpAnyH_take (i := 3) (oi := ⟨_, _, _, _, _, _⟩) (v := .func (.func 71) #[] #[]) rfl (by kernel_rfl) (by kernel_rfl) (by kernel_rfl) (fun _ _ _ h => h) (Or.inl ⟨by rfl, ?hy3⟩) hHeld ?rest3
  case hy3 => (intro w' hSw; have i0 : (Instr.index 99 (.agg #[.func (.func 39) #[] #[], .func (.func 71) #[] #[], .func (.func 72) #[] #[]]) (.int .i8 1)).run Tryd.prog w' = .ok (.func (.func 71) #[] #[]) w' := (by kernel_rfl); go_simp; try with_reducible rfl)
  try simp only [Act.put, List.setIfInBounds_toArray, List.set_cons_zero, List.set_cons_succ]
  refine wpAnyH_ready (rs := [7]) (by kernel_rfl) (by simp) ?_
  refine AllReadyH.cons (o := ⟨_, _, _, _, _, _⟩) rfl (fun K hK => ?_) AllReadyH.nil
  go_simp
  refine (HC.out _ (HG.out.call hHeld.hb)).mono ?_
  rintro e w4 ⟨rfl, hb⟩
  have hS4 := hHeld.call hb
  have HR4 := Lib.hid (HR3.out.call hb)
  clear hb hHeld HR3
  go_wp2_with fail
  refine hK.out _ _ hS4 (fun hHeld => ?_)
  clear hS4 hK K
  try simp only [Act.put, List.setIfInBounds_toArray, List.set_cons_zero, List.set_cons_succ]
  refine wpAnyH_ready (rs := [8]) (by kernel_rfl) (by simp) ?_
  refine AllReadyH.cons (o := ⟨_, _, _, _, _, _⟩) rfl (fun K hK => ?_) AllReadyH.nil
  rw [if_pos (by rfl)]
  refine wp_store_row 42 (.tmp 4) (.tmp 36) ?a1 (w.heap.size + 1) (encR r) ?a2 ?a3 42 (encR zR) HR4.out readInfo rfl (encR_one r) ?a4
  case a1 => rfl
  case a2 => rfl
  case a3 => rfl
  refine hK.out _ _ (hHeld.row _) (fun hHeld => ?_)
  clear hK K
  try simp only [Act.put, List.setIfInBounds_toArray, List.set_cons_zero, List.set_cons_succ]
  refine wpAnyH_take (i := 9) (oi := ⟨_, _, _, _, _, _⟩) (v := ?v9) rfl (by kernel_rfl) (by kernel_rfl) (by kernel_rfl) (fun _ _ _ h => h) (Or.inl ⟨by rfl, ?hy9⟩) hHeld ?rest9
  case hy9 => (intro w' hSw; go_simp; try with_reducible rfl)
  try simp only [Act.put, List.setIfInBounds_toArray, List.set_cons_zero, List.set_cons_succ]
  refine wpAnyH_done (by kernel_rfl) ?_ _
  go_wp2_with fail
  refine bodyPost_ret (res_read2 rfl _ _ _ _ _ rfl rfl (HR4.out.row _) rfl) rfl ⟨rfl, ?_⟩
  exact hHeld.hb
set_option maxRecDepth 100000 in
set_option maxHeartbeats 4000000 in
theorem next_2 (x : Wk) (v : Int) (r : Rd) (w : World) (hG : G w) (hv : U64 v) (hx : WkOk x) (he : de v x.l = 0) (hk : dk v x.l = 2)
    (hC : ∀ w' : World, G w' → Calls Tryd.prog 72 #[.agg #[.bool x.on, .int .i64 x.a, .int .u64 x.p, .int .i8 x.l, .int .i64 x.f], .int .u64 v, .agg #[.int .i8 2, .int .i64 (df v x.l), .bool (dfl v x.l 10), .bool (dfl v x.l 7), .bool (dfl v x.l 6), .bool (dfl v x.l 11)]] w' fun e w'' => e = .returned (rdV r) ∧ Below w'.heap.size w' w'') :
    Calls Tryd.prog 17 #[.agg #[.bool x.on, .int .i64 x.a, .int .u64 x.p, .int .i8 x.l, .int .i64 x.f], .int .u64 v] w fun e w' => e = .returned (.tuple #[rdV r, .int .i64 0]) ∧ Below w.heap.size w w' := by
  have HE := Lib.hid (show wkE x = 0 from (if_pos hx))
  have HK0 := Lib.hid hk
  have HD0 := Lib.hid he
  have HC := Lib.hid hC
  obtain ⟨-, l0, l3, -⟩ := hx
  have hK : Bk ((w.alloc (.cells #[.bool x.on, .int .i64 x.a, .int .u64 x.p, .int .i8 x.l, .int .i64 x.f] 26)).alloc (.cells (encR zR) 42)) (w.heap.size + 1) 42 (encR zR) := by
    have := Bk.new (w.alloc (.cells #[.bool x.on, .int .i64 x.a, .int .u64 x.p, .int .i8 x.l, .int .i64 x.f] 26)) 42 (encR zR)
    simpa using this
  have hX := (Bk.new w 26 #[.bool x.on, .int .i64 x.a, .int .u64 x.p, .int .i8 x.l, .int .i64 x.f]).call (ba (Below.refl _ _) (.cells (encR zR) 42))
  have HK := Lib.hid hK
  have HX := Lib.hid hX
  have HB := Lib.hid (ba (ba (Below.refl w.heap.size w) (.cells #[.bool x.on, .int .i64 x.a, .int .u64 x.p, .int .i8 x.l, .int .i64 x.f] 26)) (.cells (encR zR) 42))
  clear hK hX hk he hC
  go_enter Tryd.func17, Tryd.ntmps17
  go_wp2_with fail
  refine (wcheck_any x _).mono ?_
  rintro e w1 ⟨rfl, hb⟩
  rw [HE.out]
  have HK1 := Lib.hid (HK.out.call hb)
  have hX1 := (HX.out.call hb)
  have HB1 := Lib.hid (bthen HB.out hb)
  clear hb HK HB HE HX
  have x3 : w1.cell? ⟨w.heap.size, 3, none⟩ = some (.int .i8 x.l) := hX1.cell 3
  have HX1 := Lib.hid hX1
  have hg := hG.call HB1.out
  clear hX1
  go_wp2_with fail
  refine (dDecode_any v x.l _ hg hv).mono ?_
  rintro e w2 ⟨rfl, hb⟩
  rw [HK0.out, HD0.out]
  clear hg x3 HK0 HD0
  generalize df v x.l = f at *
  generalize dfl v x.l 10 = af at *
  generalize dfl v x.l 7 = ro at *
  generalize dfl v x.l 6 = us at *
  generalize dfl v x.l 11 = ng at *
  have hR2 := (HK1.out.call hb).call (ba (Below.refl _ _) (.cells #[.int .i8 2, .int .i64 f, .bool af, .bool ro, .bool us, .bool ng] 94))
  have hS2 : NxH w (w2.alloc (.cells #[.int .i8 2, .int .i64 f, .bool af, .bool ro, .bool us, .bool ng] 94)) x w2.heap.size 2 f af ro us ng :=
    ⟨(HX1.out.call hb).call (ba (Below.refl _ _) _), Bk.new _ _ _, (HK1.out.call hb).lt, ba (bthen HB1.out hb) _⟩
  have HR2 := Lib.hid hR2
  have HS2 := Lib.hid hS2
  clear hb HK1 HB1 HX1 hR2 hS2
  go_upto_region 7 with fail
  have HG := Lib.hid hG
  clear hG
  refine (show ∀ (W : World) (b : Nat), Bk W (w.heap.size + 1) 42 (encR zR) → NxH w W x b 2 f af ro us ng → Code.wp _ _ _ ⟨#[_, _, _, _, _, _, _, .pointer (some ⟨b, 0, none⟩), _, _, _, _, _, _, _, _, _, _, _, _, _, _, _, _, _, _, _, _, _, _, _, _, _, _, _, _, _], _⟩ W from fun W b hR hS => ?_) _ _ HR2.out HS2.out
  clear HR2 HS2
  have HR := Lib.hid hR
  clear hR
  refine wp_region_held_drew (S := fun w' => NxH w w' x b 2 f af ro us ng) (by kernel_rfl) (hS.call (bd (Below.refl _ _))) (fun hHeld => ?_)
  refine wpAnyH_take (i := 1) (oi := ⟨_, _, _, _, _, _⟩) (v := ?v1) rfl (by kernel_rfl) (by kernel_rfl) (by kernel_rfl) (fun _ _ _ h => h) (Or.inl ⟨by rfl, ?hy1⟩) hHeld ?rest1
  case hy1 => (intro w' hSw; go_simp; try with_reducible rfl)
  try simp only [Act.put, List.setIfInBounds_toArray, List.set_cons_zero, List.set_cons_succ]
  refine wpAnyH_take (i := 2) (oi := ⟨_, _, _, _, _, _⟩) (v := ?v2) rfl (by kernel_rfl) (by kernel_rfl) (by kernel_rfl) (fun _ _ _ h => h) (Or.inl ⟨by rfl, ?hy2⟩) hHeld ?rest2
  case hy2 => (intro w' hSw; have x0 : w'.cell? ⟨b, 0, none⟩ = some (.int .i8 2) := hSw.hd.cell 0; go_simp; try with_reducible rfl)
  try simp only [Act.put, List.setIfInBounds_toArray, List.set_cons_zero, List.set_cons_succ]
  refine wpAnyH_take (i := 4) (oi := ⟨_, _, _, _, _, _⟩) (v := ?v4) rfl (by kernel_rfl) (by kernel_rfl) (by kernel_rfl) (fun _ _ _ h => h) (Or.inl ⟨by rfl, ?hy4⟩) hHeld ?rest4
  case hy4 => (intro w' hSw; have x0 := hSw.hx.cell 0; have x1 := hSw.hx.cell 1; have x2 := hSw.hx.cell 2; have x3 := hSw.hx.cell 3; have x4 := hSw.hx.cell 4; simp only [List.getElem?_toArray, List.getElem?_cons_zero, List.getElem?_cons_succ] at x0 x1 x2 x3 x4; go_simp; try with_reducible rfl)
  try simp only [Act.put, List.setIfInBounds_toArray, List.set_cons_zero, List.set_cons_succ]
  refine wpAnyH_take (i := 5) (oi := ⟨_, _, _, _, _, _⟩) (v := ?v5) rfl (by kernel_rfl) (by kernel_rfl) (by kernel_rfl) (fun _ _ _ h => h) (Or.inl ⟨by rfl, ?hy5⟩) hHeld ?rest5
  case hy5 => (intro w' hSw; go_simp; try with_reducible rfl)
  try simp only [Act.put, List.setIfInBounds_toArray, List.set_cons_zero, List.set_cons_succ]
  refine wpAnyH_take (i := 6) (oi := ⟨_, _, _, _, _, _⟩) (v := ?v6) rfl (by kernel_rfl) (by kernel_rfl) (by kernel_rfl) (fun _ _ _ h => h) (Or.inl ⟨by rfl, ?hy6⟩) hHeld ?rest6
  case hy6 => (intro w' hSw; have x0 := hSw.hd.cell 0; have x1 := hSw.hd.cell 1; have x2 := hSw.hd.cell 2; have x3 := hSw.hd.cell 3; have x4 := hSw.hd.cell 4; have x5 := hSw.hd.cell 5; simp only [List.getElem?_toArray, List.getElem?_cons_zero, List.getElem?_cons_succ] at x0 x1 x2 x3 x4 x5; go_simp; try with_reducible rfl)
  try simp only [Act.put, List.setIfInBounds_toArray, List.set_cons_zero, List.set_cons_succ]
  refine wpAnyH_ready (rs := [0]) (by kernel_rfl) (by simp) ?_
  refine AllReadyH.cons (o := ⟨_, _, _, _, _, _⟩) rfl (fun K hK => ?_) AllReadyH.nil
  go_simp
  refine (meanings_any _).mono ?_
  rintro e w3 ⟨rfl, hb⟩
  have hS3 := hHeld.call hb
  have HR3 := Lib.hid ((HR.out.call (bd (Below.refl _ _))).call hb)
  clear hb hHeld hS HR
  go_wp2_with fail
  refine hK.out _ _ hS3 (fun hHeld => ?_)
  clear hS3 hK K
  try simp only [Act.put, List.setIfInBounds_toArray, List.set_cons_zero, List.set_cons_succ]
  refine wpAnyH_take (i := 3) (oi := ⟨_, _, _, _, _, _⟩) (v := .func (.func 72) #[] #[]) rfl (by kernel_rfl) (by kernel_rfl) (by kernel_rfl) (fun _ _ _ h => h) (Or.inl ⟨by rfl, ?hy3⟩) hHeld ?rest3
  case hy3 => (intro w' hSw; have i0 : (Instr.index 99 (.agg #[.func (.func 39) #[] #[], .func (.func 71) #[] #[], .func (.func 72) #[] #[]]) (.int .i8 2)).run Tryd.prog w' = .ok (.func (.func 72) #[] #[]) w' := (by kernel_rfl); go_simp; try with_reducible rfl)
  try simp only [Act.put, List.setIfInBounds_toArray, List.set_cons_zero, List.set_cons_succ]
  refine wpAnyH_ready (rs := [7]) (by kernel_rfl) (by simp) ?_
  refine AllReadyH.cons (o := ⟨_, _, _, _, _, _⟩) rfl (fun K hK => ?_) AllReadyH.nil
  go_simp
  refine (HC.out _ (HG.out.call hHeld.hb)).mono ?_
  rintro e w4 ⟨rfl, hb⟩
  have hS4 := hHeld.call hb
  have HR4 := Lib.hid (HR3.out.call hb)
  clear hb hHeld HR3
  go_wp2_with fail
  refine hK.out _ _ hS4 (fun hHeld => ?_)
  clear hS4 hK K
  try simp only [Act.put, List.setIfInBounds_toArray, List.set_cons_zero, List.set_cons_succ]
  refine wpAnyH_ready (rs := [8]) (by kernel_rfl) (by simp) ?_
  refine AllReadyH.cons (o := ⟨_, _, _, _, _, _⟩) rfl (fun K hK => ?_) AllReadyH.nil
  rw [if_pos (by rfl)]
  refine wp_store_row 42 (.tmp 4) (.tmp 36) ?a1 (w.heap.size + 1) (encR r) ?a2 ?a3 42 (encR zR) HR4.out readInfo rfl (encR_one r) ?a4
  case a1 => rfl
  case a2 => rfl
  case a3 => rfl
  refine hK.out _ _ (hHeld.row _) (fun hHeld => ?_)
  clear hK K
  try simp only [Act.put, List.setIfInBounds_toArray, List.set_cons_zero, List.set_cons_succ]
  refine wpAnyH_take (i := 9) (oi := ⟨_, _, _, _, _, _⟩) (v := ?v9) rfl (by kernel_rfl) (by kernel_rfl) (by kernel_rfl) (fun _ _ _ h => h) (Or.inl ⟨by rfl, ?hy9⟩) hHeld ?rest9
  case hy9 => (intro w' hSw; go_simp; try with_reducible rfl)
  try simp only [Act.put, List.setIfInBounds_toArray, List.set_cons_zero, List.set_cons_succ]
  refine wpAnyH_done (by kernel_rfl) ?_ _
  go_wp2_with fail
  refine bodyPost_ret (res_read2 rfl _ _ _ _ _ rfl rfl (HR4.out.row _) rfl) rfl ⟨rfl, ?_⟩
  exact hHeld.hb
end
section
open Go.RowKit
set_option linter.unusedVariables false
set_option linter.unusedSimpArgs false
open Classical in
noncomputable def nxR (x : Wk) (v : Int) : Rd := if WkOk x then rd x v else zR
open Classical in
noncomputable def nxE (x : Wk) : Int := if WkOk x then 0 else 2
theorem de_zero {v l : Int} (h0 : 0 ≤ l) (h3 : l ≤ 3) (hk : dk v l ≠ 0) : de v l = 0 := by
  rcases dk_cases v l h0 h3 with ⟨h, -⟩ | ⟨h, -, hg⟩ | ⟨h, -, hg⟩
  · exact absurd h hk
  all_goals
    simp only [good, Bool.and_eq_true] at hg
    unfold de
    rw [if_pos hg.1]
    split
    · rfl
    · rw [if_pos hg.2]
theorem rd_miss {x : Wk} {v : Int} (h : dk v x.l = 0) : rd x v = rdM x := by unfold rd; rw [h, if_neg (by omega), if_neg (by omega)]
theorem rd_table {x : Wk} {v : Int} (h : dk v x.l = 1) : rd x v = rdB x (df v x.l) := by unfold rd; rw [h, if_pos rfl]; rfl
theorem rd_deny {x : Wk} {v : Int} (h : dk v x.l = 2) (hu : dfl v x.l 6 = false) : rd x v = rdM x := by unfold rd; rw [h, if_neg (by omega), if_neg (by rw [hu]; simp)]
theorem rd_old {x : Wk} {v : Int} (h : dk v x.l = 2) (hl : x.l = 3) (hu : dfl v x.l 6 = true) (ha : dfl v x.l 10 = true) : tch v = false ∧ rd x v = rdQ x (df v x.l) (dfl v x.l 7) false 0 := by
  have ht : tch v = false := by rw [hl] at ha; simp [tch, ha]
  refine ⟨ht, ?_⟩
  unfold rd
  rw [h, if_neg (by omega), if_pos ⟨rfl, hu⟩]
  unfold rdP rdQ
  rw [ht]
  rfl
theorem rd_new {x : Wk} {v : Int} (h : dk v x.l = 2) (hl : x.l = 3) (hg : good v x.l = true) (hu : dfl v x.l 6 = true) (ha : dfl v x.l 10 = false) : tch v = true ∧ rd x v = rdQ x (df v x.l) (dfl v x.l 7) true (v + 1024) := by
  have ht : tch v = true := by rw [hl] at ha hg; simp [tch, ha, hg]
  refine ⟨ht, ?_⟩
  unfold rd
  rw [h, if_neg (by omega), if_pos ⟨rfl, hu⟩]
  unfold rdP rdQ
  rw [ht]
  rfl
/-- Next of a walk that may be. -/
theorem next_ok (x : Wk) (v : Int) (w : World) (hG : G w) (hv : U64 v) (hx : WkOk x) :
    Calls Tryd.prog 17 #[.agg #[.bool x.on, .int .i64 x.a, .int .u64 x.p, .int .i8 x.l, .int .i64 x.f], .int .u64 v] w fun e w' => e = .returned (.tuple #[rdV (rd x v), .int .i64 0]) ∧ Below w.heap.size w w' := by
  have hx' := hx
  obtain ⟨h1, l0, l3, -, -, -, -, hp⟩ := hx'
  rcases dk_cases v x.l l0 l3 with ⟨h, -⟩ | ⟨h, hl, hg⟩ | ⟨h, hl, hg⟩
  · rw [rd_miss h]
    by_cases he : de v x.l = 0
    · exact next_0 x v (rdM x) w hG hv hx he h (fun w' _ => missed_any x v _ _ _ _ _ _ w')
    · exact next_err x v w hG hv hx (by simpa using he)
  · rw [rd_table h]
    exact next_1 x v _ w hG hv hx (de_zero l0 l3 (by omega)) h (fun w' _ => below_any x v _ _ _ _ _ _ w' l0 hl hp)
  · have he := de_zero (v := v) l0 l3 (by omega)
    rcases hu : dfl v x.l 6 with _ | _
    · rw [rd_deny h hu]
      refine next_2 x v _ w hG hv hx he h (fun w' _ => ?_)
      rw [hu]
      exact ended_no x v _ _ _ _ _ w'
    · rcases ha : dfl v x.l 10 with _ | _
      · obtain ⟨ht, e⟩ := rd_new h hl hg hu ha
        rw [e]
        refine next_2 x v _ w hG hv hx he h (fun w' hG' => ?_)
        rw [hu, ha]
        exact ended_new x v _ _ _ _ w' hG' hv ht
      · obtain ⟨ht, e⟩ := rd_old h hl hu ha
        rw [e]
        refine next_2 x v _ w hG hv hx he h (fun w' _ => ?_)
        rw [hu, ha]
        exact ended_old x v _ _ _ _ w'
end
section
open Go.RowKit
set_option linter.unusedVariables false
set_option linter.unusedSimpArgs false
open Classical in
noncomputable def bgV (root asid page : Int) (xs : List Sb) : Wk := if BgOk root asid page xs then bgW root asid page xs else zW
open Classical in
noncomputable def bgE (root asid page : Int) (xs : List Sb) : Int := if BgOk root asid page xs then 0 else 2
theorem bg_cases (root asid page : Int) (xs : List Sb) : (BgOk root asid page xs ∧ bgV root asid page xs = bgW root asid page xs ∧ bgE root asid page xs = 0) ∨ (¬ BgOk root asid page xs ∧ bgV root asid page xs = zW ∧ bgE root asid page xs = 2) := by
  by_cases h : BgOk root asid page xs
  · exact .inl ⟨h, if_pos h, if_pos h⟩
  · exact .inr ⟨h, if_neg h, if_neg h⟩
theorem bgW_none {root asid page : Int} {xs : List Sb} (h : bestO xs asid page = none) : bgW root asid page xs = ⟨true, asid, page, 0, root⟩ := by unfold bgW; rw [h]
theorem bgW_some {root asid page : Int} {xs : List Sb} {s : Sb} (h : bestO xs asid page = some s) : bgW root asid page xs = ⟨true, asid, page, s.l, s.f⟩ := by unfold bgW; rw [h]
def wkV (x : Wk) : Value := .agg #[.bool x.on, .int .i64 x.a, .int .u64 x.p, .int .i8 x.l, .int .i64 x.f]
theorem ret_bg {a b : Wk} {c d : Int} (h : a = b) (k : c = d) : Ending.returned (.tuple #[wkV a, .int .i64 c]) = .returned (.tuple #[wkV b, .int .i64 d]) := by rw [h, k]
set_option maxRecDepth 100000 in
set_option maxHeartbeats 4000000 in
theorem begin_any (root asid page : Int) (O : Option Addr) (cap : Nat) (xs : List Sb) (w : World) (hI : RK encS 4 w O xs) (hcap : xs.length ≤ cap) :
    Calls Tryd.prog 11 #[.int .i64 root, .int .i64 asid, .int .u64 page, .slice O xs.length cap] w
      fun e w' => e = .returned (.tuple #[wkV (bgV root asid page xs), .int .i64 (bgE root asid page xs)]) ∧ Below w.heap.size w w' := by
  have HB0 := Lib.hid (ba (ba (Below.refl w.heap.size w) (.cells #[.bool false, .int .i64 0, .int .u64 0, .int .i8 0, .int .i64 0] 26)) (.cells #[.bool true, .int .i64 asid, .int .u64 page, .int .i8 0, .int .i64 root] 26))
  have e1 : (w.alloc (.cells #[.bool false, .int .i64 0, .int .u64 0, .int .i8 0, .int .i64 0] 26)).heap.size = w.heap.size + 1 := by simp
  have HR := Lib.hid ((Arr.new w #[.bool false, .int .i64 0, .int .u64 0, .int .i8 0, .int .i64 0] 26).alloc (.cells #[.bool true, .int .i64 asid, .int .u64 page, .int .i8 0, .int .i64 root] 26))
  have HW := Lib.hid (e1 ▸ Arr.new (w.alloc (.cells #[.bool false, .int .i64 0, .int .u64 0, .int .i8 0, .int .i64 0] 26)) #[.bool true, .int .i64 asid, .int .u64 page, .int .i8 0, .int .i64 root] 26)
  have HI := Lib.hid (hI.call HB0.out)
  clear hI e1
  by_cases hr : root < 1
  · have HN := Lib.hid (show bgV root asid page xs = zW ∧ bgE root asid page xs = 2 from by
      rcases bg_cases root asid page xs with ⟨h, -, -⟩ | ⟨-, h⟩
      · have := h.1; omega
      · exact h)
    go_enter Tryd.func11, Tryd.ntmps11
    go_wp2_with fail
    refine bodyPost_ret (v := .tuple #[wkV zW, .int .i64 2]) (by simp [results, Tryd.results11, go_sem, wkV, zW]) rfl ⟨ret_bg HN.out.1.symm HN.out.2.symm, ?_⟩
    exact HB0.out
  · go_enter Tryd.func11, Tryd.ntmps11
    go_wp2_with fail
    generalize (w.alloc (.cells #[.bool false, .int .i64 0, .int .u64 0, .int .i8 0, .int .i64 0] 26)).alloc (.cells #[.bool true, .int .i64 asid, .int .u64 page, .int .i8 0, .int .i64 root] 26) = W1 at *
    refine (wcheck_any ⟨true, asid, page, 0, root⟩ _).mono ?_
    rintro e w1 ⟨rfl, hb⟩
    have HB1 := Lib.hid (bthen HB0.out hb)
    have HR1 := Lib.hid (HR.out.call hb)
    have HW1 := Lib.hid (HW.out.call hb)
    have HI1 := Lib.hid (HI.out.call hb)
    clear hb HB0 HR HW HI
    rcases wkE_cases ⟨true, asid, page, 0, root⟩ with ⟨hk, h2⟩ | ⟨hk, h2⟩
    · rw [h2]
      have HK := Lib.hid hk
      clear hk h2
      go_wp2_with fail
      refine (checkS_out O cap xs _ HI1.out hcap).mono ?_
      rintro e w2 ⟨rfl, hb⟩
      have HB2 := Lib.hid (bthen HB1.out hb)
      have HR2 := Lib.hid (HR1.out.call hb)
      have HW2 := Lib.hid (HW1.out.call hb)
      have HI2 := Lib.hid (HI1.out.call hb)
      clear hb HB1 HR1 HW1 HI1
      rcases ckE_cases mayS plS 4 xs with ⟨hc, h2⟩ | ⟨hc, h2⟩
      · rw [h2]
        have HN := Lib.hid (show bgV root asid page xs = bgW root asid page xs ∧ bgE root asid page xs = 0 from by
          rcases bg_cases root asid page xs with ⟨-, h⟩ | ⟨h, -⟩
          · exact h
          · exact absurd ⟨by omega, HK.out, hc⟩ h)
        clear hc h2
        go_wp2_with fail
        refine (best_out O cap xs asid page _ HI2.out hcap).mono ?_
        rintro e w3 ⟨rfl, hb⟩
        have HB3 := Lib.hid (bthen HB2.out hb)
        have HR3 := Lib.hid (HR2.out.call hb)
        have HW3 := Lib.hid (HW2.out.call hb)
        clear hb HB2 HR2 HW2 HI2
        cases hbo : bestO xs asid page with
        | none =>
          have HS := Lib.hid (bgW_none (root := root) hbo)
          clear hbo
          simp only [Option.getD_none, Option.isSome_none]
          obtain ⟨r0, r1, r2, r3, r4⟩ := HR3.out.c5
          obtain ⟨z0, z1, z2, z3, z4⟩ := HR3.out.f5
          obtain ⟨s0, s1, s2, s3, s4⟩ := HW3.out.c5
          have l1 := HR3.out.lt
          have l2 := HW3.out.lt
          have hq := fun o => ((HR3.out.put5 (.bool true) (.int .i64 asid) (.int .u64 page) (.int .i8 0) (.int .i64 root)).alloc o).c5
          have HQ := Lib.hid hq
          clear hq
          go_wp2_with fail
          have hq := HQ.out
          clear HQ
          refine bodyPost_ret (v := .tuple #[wkV ⟨true, asid, page, 0, root⟩, .int .i64 0]) (by simp [results, Tryd.results11, go_sem, wkV, hq]) rfl ⟨ret_bg (HN.out.1.trans HS.out).symm HN.out.2.symm, ?_⟩
          repeat (first | (with_reducible refine bs ?_ (Nat.le_refl _) _) | (with_reducible apply ba) | (with_reducible exact HB3.out))
        | some s =>
          have HS := Lib.hid (bgW_some (root := root) hbo)
          clear hbo
          simp only [Option.getD_some, Option.isSome_some]
          obtain ⟨r0, r1, r2, r3, r4⟩ := HR3.out.c5
          obtain ⟨z0, z1, z2, z3, z4⟩ := HR3.out.f5
          obtain ⟨s0, s1, s2, s3, s4⟩ := HW3.out.c5
          obtain ⟨y0, y1, y2, y3, y4⟩ := HW3.out.f5
          have l1 := HR3.out.lt
          have l2 := HW3.out.lt
          go_wp2_with fail
          go_region
          have hq := fun o => ((((HR3.out.far (p := ⟨w.heap.size + 1, 3, none⟩) (by simp) (.int .i8 s.l)).far (p := ⟨w.heap.size + 1, 4, none⟩) (by simp) (.int .i64 s.f)).put5 (.bool true) (.int .i64 asid) (.int .u64 page) (.int .i8 s.l) (.int .i64 s.f)).alloc o).c5
          have HQ := Lib.hid hq
          clear hq
          go_wp2_with fail
          have hq := HQ.out
          clear HQ
          refine bodyPost_ret (v := .tuple #[wkV ⟨true, asid, page, s.l, s.f⟩, .int .i64 0]) (by simp [results, Tryd.results11, go_sem, wkV, hq]) rfl ⟨ret_bg (HN.out.1.trans HS.out).symm HN.out.2.symm, ?_⟩
          repeat (first | (with_reducible refine bs ?_ (Nat.le_refl _) _) | (with_reducible refine bs ?_ (Nat.le_succ _) _) | (with_reducible apply ba) | (with_reducible apply bd) | (with_reducible exact HB3.out))
      · rw [h2]
        have HN := Lib.hid (show bgV root asid page xs = zW ∧ bgE root asid page xs = 2 from by
          rcases bg_cases root asid page xs with ⟨h, -, -⟩ | ⟨-, h⟩
          · exact absurd h.2.2 hc
          · exact h)
        clear hc h2
        obtain ⟨r0, r1, r2, r3, r4⟩ := HR2.out.c5
        obtain ⟨z0, z1, z2, z3, z4⟩ := HR2.out.f5
        go_wp2_with fail
        refine bodyPost_ret (v := .tuple #[wkV zW, .int .i64 2]) (by simp [results, Tryd.results11, go_sem, wkV, zW, r0, r1, r2, r3, r4]) rfl ⟨ret_bg HN.out.1.symm HN.out.2.symm, ?_⟩
        repeat (first | (with_reducible refine bs ?_ (Nat.le_refl _) _) | (with_reducible exact HB2.out))
    · rw [h2]
      have HN := Lib.hid (show bgV root asid page xs = zW ∧ bgE root asid page xs = 2 from by
        rcases bg_cases root asid page xs with ⟨h, -, -⟩ | ⟨-, h⟩
        · exact absurd h.2.1 hk
        · exact h)
      clear hk h2
      obtain ⟨r0, r1, r2, r3, r4⟩ := HR1.out.c5
      obtain ⟨z0, z1, z2, z3, z4⟩ := HR1.out.f5
      go_wp2_with fail
      refine bodyPost_ret (v := .tuple #[wkV zW, .int .i64 2]) (by simp [results, Tryd.results11, go_sem, wkV, zW, r0, r1, r2, r3, r4]) rfl ⟨ret_bg HN.out.1.symm HN.out.2.symm, ?_⟩
      repeat (first | (with_reducible refine bs ?_ (Nat.le_refl _) _) | (with_reducible exact HB1.out))
set_option maxRecDepth 100000 in
set_option maxHeartbeats 4000000 in
theorem wword_yes (x : Wk) (w : World) (hx : WkOk x) (hp : U64 x.p) : Calls Tryd.prog 13 #[.agg #[.bool x.on, .int .i64 x.a, .int .u64 x.p, .int .i8 x.l, .int .i64 x.f]] w fun e w' => e = .returned (.tuple #[.int .u64 (wdN x), .int .i64 0]) ∧ Below w.heap.size w w' := by
  have HE := Lib.hid (show wkE x = 0 from (if_pos hx))
  have hk : aOk x.p x.l = true := (aOk_iff _ _).2 ⟨hx.2.2.2.2.2.2.2, hx.2.1, hx.2.2.1⟩
  have hi := aIdx_bound x.p x.l
  have hk2 : wordOk x.f (aIdx x.p x.l) = true := (wordOk_iff _ _).2 ⟨hx.2.2.2.1, by have := hx.2.2.2.2.1; omega, hi.1, hi.2⟩
  have HK := Lib.hid hk
  have HK2 := Lib.hid hk2
  obtain ⟨-, l0, l3, -⟩ := hx
  clear hk hk2 hi
  have HB0 := Lib.hid (ba (Below.refl w.heap.size w) (.cells #[.bool x.on, .int .i64 x.a, .int .u64 x.p, .int .i8 x.l, .int .i64 x.f] 26))
  have HR := Lib.hid (Arr.new w #[.bool x.on, .int .i64 x.a, .int .u64 x.p, .int .i8 x.l, .int .i64 x.f] 26)
  go_enter Tryd.func13, Tryd.ntmps13
  go_wp2_with fail
  refine (wcheck_any x _).mono ?_
  rintro e w1 ⟨rfl, hb⟩
  have HB1 := Lib.hid (bthen HB0.out hb)
  have HR1 := Lib.hid (HR.out.call hb)
  clear hb HB0 HR
  rw [HE.out]
  have c2 := HR1.out.cell 2 _ rfl
  have c3 := HR1.out.cell 3 _ rfl
  have c4 := HR1.out.cell 4 _ rfl
  go_wp2_with fail
  refine (index_yes x.p x.l _ hp HK.out).mono ?_
  rintro e w2 ⟨rfl, hb⟩
  have HB2 := Lib.hid (bthen HB1.out hb)
  obtain ⟨-, -, c2, c3, c4⟩ := (HR1.out.call hb).c5
  clear hb HB1 HR1
  go_wp2_with fail
  refine (word_yes x.f (aIdx x.p x.l) _ HK2.out).mono ?_
  rintro e w3 ⟨rfl, rfl⟩
  go_wp2_with fail
  go_ret2
  exact ⟨rfl, HB2.out⟩
end
end Go.Proofs.YtgdkkhdhomehdaaDoor
