/-
  The law WalkBegins: the walk (printed by gen/wklawb.py).
-/
import Derived.Test.YtgdkkhdhomehdaaDoorMwP
import Derived.Test.YtgdkkhdhomehdaaDoorMwS
import Derived.Deep.DeepCutAuto
import Derived.Deep.RegionHeld
namespace Go.Proofs.YtgdkkhdhomehdaaDoor
section
open Go.RowKit
set_option linter.unusedVariables false
set_option linter.unusedSimpArgs false
open Classical in
noncomputable def wdV (x : Wk) : Int := if WkOk x then wdN x else 0
theorem wword_any (x : Wk) (w : World) (hp : U64 x.p) : Calls Tryd.prog 13 #[.agg #[.bool x.on, .int .i64 x.a, .int .u64 x.p, .int .i8 x.l, .int .i64 x.f]] w fun e w' => e = .returned (.tuple #[.int .u64 (wdV x), .int .i64 (wkE x)]) ∧ Below w.heap.size w w' := by
  by_cases h : WkOk x
  · rw [show wdV x = wdN x from if_pos h, show wkE x = 0 from if_pos h]
    exact wword_yes x w h hp
  · rw [show wdV x = 0 from if_neg h, show wkE x = 2 from if_neg h]
    exact wword_no x w h
theorem rwword_any (x : Wk) (w : World) (hp : U64 x.p) : Calls Tryd.prog 14 #[.agg #[.bool x.on, .int .i64 x.a, .int .u64 x.p, .int .i8 x.l, .int .i64 x.f]] w fun e w' => e = .returned (.tuple #[.int .u64 (wdV x), .int .i64 (wkE x)]) ∧ Below w.heap.size w w' := by
  by_cases h : WkOk x
  · rw [show wdV x = wdN x from if_pos h, show wkE x = 0 from if_pos h]
    exact rwword_yes x w h hp
  · rw [show wdV x = 0 from if_neg h, show wkE x = 2 from if_neg h]
    exact rwword_no x w h
set_option maxRecDepth 100000 in
set_option maxHeartbeats 16000000 in
theorem walkBegins_in (root asid page : Int) (O : Option Addr) (cap : Nat) (xs : List Sb) (x : Wk) (w : World) (hG : G w) (hI : RK encS 4 w O xs) (hcap : xs.length ≤ cap) (hm : cap ≤ maxLen) (hl : xs.length ≤ 20) (hp : U64 x.p) :
    Calls Tryd.prog 3 #[.int .i64 root, .int .i64 asid, .int .u64 page, .slice O xs.length cap, .agg #[.bool x.on, .int .i64 x.a, .int .u64 x.p, .int .i8 x.l, .int .i64 x.f]] w fun e w' => e = .returned (.bool true) ∧ Below w.heap.size w w' := by
  have HG := Lib.hid hG
  have HM := Lib.hid hm
  have HB := Lib.hid (ba (Below.refl w.heap.size w) (.cells #[.bool x.on, .int .i64 x.a, .int .u64 x.p, .int .i8 x.l, .int .i64 x.f] 26))
  have HX := Lib.hid (Bk.new w 26 #[.bool x.on, .int .i64 x.a, .int .u64 x.p, .int .i8 x.l, .int .i64 x.f])
  have HI := Lib.hid (hI.call HB.out)
  have HP := Lib.hid hp
  clear hG hI hm hp
  go_enter Tryd.func3, Tryd.ntmps3
  go_wp2_with fail
  refine (begin_any root asid page O cap xs _ HI.out hcap).mono ?_
  rintro e w1 ⟨rfl, hb⟩
  have HB1 := Lib.hid (bthen HB.out hb)
  have HX1 := Lib.hid (HX.out.call hb)
  have HI1 := Lib.hid (HI.out.call hb)
  clear hb HB HX HI
  generalize hy : bgV root asid page xs = y at *
  have HY := Lib.hid hy
  clear hy
  simp only [wkV]
  have HB2 := Lib.hid (ba HB1.out (.cells #[.bool y.on, .int .i64 y.a, .int .u64 y.p, .int .i8 y.l, .int .i64 y.f] 26))
  have HX2 := Lib.hid (HX1.out.call (ba (Below.refl _ _) (.cells #[.bool y.on, .int .i64 y.a, .int .u64 y.p, .int .i8 y.l, .int .i64 y.f] 26)))
  have HI2 := Lib.hid (HI1.out.call (ba (Below.refl _ _) (.cells #[.bool y.on, .int .i64 y.a, .int .u64 y.p, .int .i8 y.l, .int .i64 y.f] 26)))
  have HY2 := Lib.hid (Bk.new w1 26 #[.bool y.on, .int .i64 y.a, .int .u64 y.p, .int .i8 y.l, .int .i64 y.f])
  clear HB1 HX1 HI1
  go_wp2_with fail
  generalize w1.heap.size = g1 at *
  generalize w1.alloc (.cells #[.bool y.on, .int .i64 y.a, .int .u64 y.p, .int .i8 y.l, .int .i64 y.f] 26) = W1 at *
  refine (rbegin_any root asid page O cap xs _ HI2.out hcap HM.out).mono ?_
  rintro e w2 ⟨rfl, hb⟩
  rw [HY.out]
  simp only [wkV]
  have HB3 := Lib.hid (ba (bthen HB2.out hb) (.cells #[.bool y.on, .int .i64 y.a, .int .u64 y.p, .int .i8 y.l, .int .i64 y.f] 26))
  have hX3 := (HX2.out.call hb).call (ba (Below.refl _ _) (.cells #[.bool y.on, .int .i64 y.a, .int .u64 y.p, .int .i8 y.l, .int .i64 y.f] 26))
  have HY3 := Lib.hid ((HY2.out.call hb).call (ba (Below.refl _ _) (.cells #[.bool y.on, .int .i64 y.a, .int .u64 y.p, .int .i8 y.l, .int .i64 y.f] 26)))
  have HZ3 := Lib.hid (Bk.new w2 26 #[.bool y.on, .int .i64 y.a, .int .u64 y.p, .int .i8 y.l, .int .i64 y.f])
  have q0 : w2.cell? ⟨w.heap.size, 0, none⟩ = some (.bool x.on) := (HX2.out.call hb).cell 0
  have q1 : w2.cell? ⟨w.heap.size, 1, none⟩ = some (.int .i64 x.a) := (HX2.out.call hb).cell 1
  have q2 : w2.cell? ⟨w.heap.size, 2, none⟩ = some (.int .u64 x.p) := (HX2.out.call hb).cell 2
  have q3 : w2.cell? ⟨w.heap.size, 3, none⟩ = some (.int .i8 x.l) := (HX2.out.call hb).cell 3
  have q4 : w2.cell? ⟨w.heap.size, 4, none⟩ = some (.int .i64 x.f) := (HX2.out.call hb).cell 4
  have lq := (HX2.out.call hb).lt
  clear hb HB2 HX2 HI2 HY2
  have HX3 := Lib.hid hX3
  clear hX3
  go_wp2_with fail
  generalize w2.heap.size = g2 at *
  generalize w2.alloc (.cells #[.bool y.on, .int .i64 y.a, .int .u64 y.p, .int .i8 y.l, .int .i64 y.f] 26) = W2 at *
  clear q0 q1 q2 q3 q4 lq
  refine (wword_any x _ HP.out).mono ?_
  rintro e w3 ⟨rfl, hb⟩
  have HB := Lib.hid (bthen HB3.out hb)
  have hX := HX3.out.call hb
  have HY4 := Lib.hid (HY3.out.call hb)
  have HZ4 := Lib.hid (HZ3.out.call hb)
  clear hb HB3 HX3 HY3 HZ3
  have q0 : w3.cell? ⟨w.heap.size, 0, none⟩ = some (.bool x.on) := hX.cell 0
  have q1 : w3.cell? ⟨w.heap.size, 1, none⟩ = some (.int .i64 x.a) := hX.cell 1
  have q2 : w3.cell? ⟨w.heap.size, 2, none⟩ = some (.int .u64 x.p) := hX.cell 2
  have q3 : w3.cell? ⟨w.heap.size, 3, none⟩ = some (.int .i8 x.l) := hX.cell 3
  have q4 : w3.cell? ⟨w.heap.size, 4, none⟩ = some (.int .i64 x.f) := hX.cell 4
  have HX4 := Lib.hid hX
  clear hX
  go_wp2_with fail
  clear q0 q1 q2 q3 q4
  refine (rwword_any x _ HP.out).mono ?_
  rintro e W ⟨rfl, hb⟩
  have hX := HX4.out.call hb
  have hY := HY4.out.call hb
  have hZ := HZ4.out.call hb
  replace HB := Lib.hid (bthen HB.out hb)
  clear hb HX4 HY4 HZ4
  have q0 : W.cell? ⟨w.heap.size, 0, none⟩ = some (.bool x.on) := hX.cell 0
  have q1 : W.cell? ⟨w.heap.size, 1, none⟩ = some (.int .i64 x.a) := hX.cell 1
  have q2 : W.cell? ⟨w.heap.size, 2, none⟩ = some (.int .u64 x.p) := hX.cell 2
  have q3 : W.cell? ⟨w.heap.size, 3, none⟩ = some (.int .i8 x.l) := hX.cell 3
  have q4 : W.cell? ⟨w.heap.size, 4, none⟩ = some (.int .i64 x.f) := hX.cell 4
  have y0 : W.cell? ⟨g1, 0, none⟩ = some (.bool y.on) := hY.cell 0
  have y1 : W.cell? ⟨g1, 1, none⟩ = some (.int .i64 y.a) := hY.cell 1
  have y2 : W.cell? ⟨g1, 2, none⟩ = some (.int .u64 y.p) := hY.cell 2
  have y3 : W.cell? ⟨g1, 3, none⟩ = some (.int .i8 y.l) := hY.cell 3
  have y4 : W.cell? ⟨g1, 4, none⟩ = some (.int .i64 y.f) := hY.cell 4
  have z0 : W.cell? ⟨g2, 0, none⟩ = some (.bool y.on) := hZ.cell 0
  have z1 : W.cell? ⟨g2, 1, none⟩ = some (.int .i64 y.a) := hZ.cell 1
  have z2 : W.cell? ⟨g2, 2, none⟩ = some (.int .u64 y.p) := hZ.cell 2
  have z3 : W.cell? ⟨g2, 3, none⟩ = some (.int .i8 y.l) := hZ.cell 3
  have z4 : W.cell? ⟨g2, 4, none⟩ = some (.int .i64 y.f) := hZ.cell 4
  have l1 : w.heap.size < W.heap.size := hX.lt
  have l2 : g1 < W.heap.size := hY.lt
  have l3 : g2 < W.heap.size := hZ.lt
  clear hX hY hZ
  go_wp2_with fail
  refine wp_region_held_drew (S := fun w' => Below W.heap.size W w') (by kernel_rfl) (bd (Below.refl _ _)) (fun hHeld => ?_)
  refine wpAnyH_take (i := 0) (oi := ⟨_, _, _, _, _, _⟩) (v := ?v0) rfl (by kernel_rfl) (by kernel_rfl) (by kernel_rfl) (fun _ _ _ h => h) (Or.inl ⟨by rfl, ?hy0⟩) hHeld ?rest0
  case hy0 => (intro w' hSw; obtain ⟨hcc, hff⟩ := bcell hSw; go_simp; try with_reducible rfl)
  try simp only [Act.put, List.setIfInBounds_toArray, List.set_cons_zero, List.set_cons_succ]
  refine wpAnyH_take (i := 1) (oi := ⟨_, _, _, _, _, _⟩) (v := ?v1) rfl (by kernel_rfl) (by kernel_rfl) (by kernel_rfl) (fun _ _ _ h => h) (Or.inl ⟨by rfl, ?hy1⟩) hHeld ?rest1
  case hy1 => (intro w' hSw; obtain ⟨hcc, hff⟩ := bcell hSw; go_simp; try with_reducible rfl)
  try simp only [Act.put, List.setIfInBounds_toArray, List.set_cons_zero, List.set_cons_succ]
  refine wpAnyH_take (i := 2) (oi := ⟨_, _, _, _, _, _⟩) (v := ?v2) rfl (by kernel_rfl) (by kernel_rfl) (by kernel_rfl) (fun _ _ _ h => h) (Or.inl ⟨by rfl, ?hy2⟩) hHeld ?rest2
  case hy2 => (intro w' hSw; go_simp; try with_reducible rfl)
  try simp only [Act.put, List.setIfInBounds_toArray, List.set_cons_zero, List.set_cons_succ]
  refine wpAnyH_take (i := 3) (oi := ⟨_, _, _, _, _, _⟩) (v := ?v3) rfl (by kernel_rfl) (by kernel_rfl) (by kernel_rfl) (fun _ _ _ h => h) (Or.inl ⟨by rfl, ?hy3⟩) hHeld ?rest3
  case hy3 => (intro w' hSw; go_simp; try with_reducible rfl)
  try simp only [Act.put, List.setIfInBounds_toArray, List.set_cons_zero, List.set_cons_succ]
  first
      | (refine wpAnyH_take (i := 4) (oi := ⟨_, _, _, _, _, _⟩) (v := undef) rfl (by kernel_rfl) (by kernel_rfl) (by kernel_rfl) (fun _ _ _ h => h) (Or.inr ⟨by rfl, rfl⟩) hHeld ?_)
      | (refine wpAnyH_take (i := 4) (oi := ⟨_, _, _, _, _, _⟩) (v := ?v4) rfl (by kernel_rfl) (by kernel_rfl) (by kernel_rfl) (fun _ _ _ h => h) (Or.inl ⟨by rfl, ?hy4⟩) hHeld ?rest4; case hy4 => (intro w' hSw; go_simp; try with_reducible rfl))
  try simp only [Act.put, List.setIfInBounds_toArray, List.set_cons_zero, List.set_cons_succ]
  first
      | (refine wpAnyH_take (i := 5) (oi := ⟨_, _, _, _, _, _⟩) (v := undef) rfl (by kernel_rfl) (by kernel_rfl) (by kernel_rfl) (fun _ _ _ h => h) (Or.inr ⟨by rfl, rfl⟩) hHeld ?_)
      | (refine wpAnyH_take (i := 5) (oi := ⟨_, _, _, _, _, _⟩) (v := ?v5) rfl (by kernel_rfl) (by kernel_rfl) (by kernel_rfl) (fun _ _ _ h => h) (Or.inl ⟨by rfl, ?hy5⟩) hHeld ?rest5; case hy5 => (intro w' hSw; go_simp; try with_reducible rfl))
  try simp only [Act.put, List.setIfInBounds_toArray, List.set_cons_zero, List.set_cons_succ]
  first
      | (refine wpAnyH_take (i := 6) (oi := ⟨_, _, _, _, _, _⟩) (v := undef) rfl (by kernel_rfl) (by kernel_rfl) (by kernel_rfl) (fun _ _ _ h => h) (Or.inr ⟨by rfl, rfl⟩) hHeld ?_)
      | (refine wpAnyH_take (i := 6) (oi := ⟨_, _, _, _, _, _⟩) (v := ?v6) rfl (by kernel_rfl) (by kernel_rfl) (by kernel_rfl) (fun _ _ _ h => h) (Or.inl ⟨by rfl, ?hy6⟩) hHeld ?rest6; case hy6 => (intro w' hSw; go_simp; try with_reducible rfl))
  try simp only [Act.put, List.setIfInBounds_toArray, List.set_cons_zero, List.set_cons_succ]
  refine wpAnyH_take (i := 7) (oi := ⟨_, _, _, _, _, _⟩) (v := ?v7) rfl (by kernel_rfl) (by kernel_rfl) (by kernel_rfl) (fun _ _ _ h => h) (Or.inl ⟨by rfl, ?hy7⟩) hHeld ?rest7
  case hy7 => (intro w' hSw; go_simp; try with_reducible rfl)
  try simp only [Act.put, List.setIfInBounds_toArray, List.set_cons_zero, List.set_cons_succ]
  refine wpAnyH_take (i := 8) (oi := ⟨_, _, _, _, _, _⟩) (v := ?v8) rfl (by kernel_rfl) (by kernel_rfl) (by kernel_rfl) (fun _ _ _ h => h) (Or.inl ⟨by rfl, ?hy8⟩) hHeld ?rest8
  case hy8 => (intro w' hSw; go_simp; try with_reducible rfl)
  try simp only [Act.put, List.setIfInBounds_toArray, List.set_cons_zero, List.set_cons_succ]
  first
      | (refine wpAnyH_take (i := 9) (oi := ⟨_, _, _, _, _, _⟩) (v := undef) rfl (by kernel_rfl) (by kernel_rfl) (by kernel_rfl) (fun _ _ _ h => h) (Or.inr ⟨by rfl, rfl⟩) hHeld ?_)
      | (refine wpAnyH_take (i := 9) (oi := ⟨_, _, _, _, _, _⟩) (v := ?v9) rfl (by kernel_rfl) (by kernel_rfl) (by kernel_rfl) (fun _ _ _ h => h) (Or.inl ⟨by rfl, ?hy9⟩) hHeld ?rest9; case hy9 => (intro w' hSw; go_simp; try with_reducible rfl))
  try simp only [Act.put, List.setIfInBounds_toArray, List.set_cons_zero, List.set_cons_succ]
  first
      | (refine wpAnyH_take (i := 10) (oi := ⟨_, _, _, _, _, _⟩) (v := undef) rfl (by kernel_rfl) (by kernel_rfl) (by kernel_rfl) (fun _ _ _ h => h) (Or.inr ⟨by rfl, rfl⟩) hHeld ?_)
      | (refine wpAnyH_take (i := 10) (oi := ⟨_, _, _, _, _, _⟩) (v := ?v10) rfl (by kernel_rfl) (by kernel_rfl) (by kernel_rfl) (fun _ _ _ h => h) (Or.inl ⟨by rfl, ?hy10⟩) hHeld ?rest10; case hy10 => (intro w' hSw; go_simp; try with_reducible rfl))
  try simp only [Act.put, List.setIfInBounds_toArray, List.set_cons_zero, List.set_cons_succ]
  first
      | (refine wpAnyH_take (i := 11) (oi := ⟨_, _, _, _, _, _⟩) (v := undef) rfl (by kernel_rfl) (by kernel_rfl) (by kernel_rfl) (fun _ _ _ h => h) (Or.inr ⟨by rfl, rfl⟩) hHeld ?_)
      | (refine wpAnyH_take (i := 11) (oi := ⟨_, _, _, _, _, _⟩) (v := ?v11) rfl (by kernel_rfl) (by kernel_rfl) (by kernel_rfl) (fun _ _ _ h => h) (Or.inl ⟨by rfl, ?hy11⟩) hHeld ?rest11; case hy11 => (intro w' hSw; go_simp; try with_reducible rfl))
  try simp only [Act.put, List.setIfInBounds_toArray, List.set_cons_zero, List.set_cons_succ]
  refine wpAnyH_take (i := 12) (oi := ⟨_, _, _, _, _, _⟩) (v := ?v12) rfl (by kernel_rfl) (by kernel_rfl) (by kernel_rfl) (fun _ _ _ h => h) (Or.inl ⟨by rfl, ?hy12⟩) hHeld ?rest12
  case hy12 => (intro w' hSw; go_simp; try with_reducible rfl)
  try simp only [Act.put, List.setIfInBounds_toArray, List.set_cons_zero, List.set_cons_succ]
  refine wpAnyH_take (i := 13) (oi := ⟨_, _, _, _, _, _⟩) (v := ?v13) rfl (by kernel_rfl) (by kernel_rfl) (by kernel_rfl) (fun _ _ _ h => h) (Or.inl ⟨by rfl, ?hy13⟩) hHeld ?rest13
  case hy13 => (intro w' hSw; go_simp; try with_reducible rfl)
  try simp only [Act.put, List.setIfInBounds_toArray, List.set_cons_zero, List.set_cons_succ]
  first
      | (refine wpAnyH_take (i := 14) (oi := ⟨_, _, _, _, _, _⟩) (v := undef) rfl (by kernel_rfl) (by kernel_rfl) (by kernel_rfl) (fun _ _ _ h => h) (Or.inr ⟨by rfl, rfl⟩) hHeld ?_)
      | (refine wpAnyH_take (i := 14) (oi := ⟨_, _, _, _, _, _⟩) (v := ?v14) rfl (by kernel_rfl) (by kernel_rfl) (by kernel_rfl) (fun _ _ _ h => h) (Or.inl ⟨by rfl, ?hy14⟩) hHeld ?rest14; case hy14 => (intro w' hSw; go_simp; try with_reducible rfl))
  try simp only [Act.put, List.setIfInBounds_toArray, List.set_cons_zero, List.set_cons_succ]
  first
      | (refine wpAnyH_take (i := 15) (oi := ⟨_, _, _, _, _, _⟩) (v := undef) rfl (by kernel_rfl) (by kernel_rfl) (by kernel_rfl) (fun _ _ _ h => h) (Or.inr ⟨by rfl, rfl⟩) hHeld ?_)
      | (refine wpAnyH_take (i := 15) (oi := ⟨_, _, _, _, _, _⟩) (v := ?v15) rfl (by kernel_rfl) (by kernel_rfl) (by kernel_rfl) (fun _ _ _ h => h) (Or.inl ⟨by rfl, ?hy15⟩) hHeld ?rest15; case hy15 => (intro w' hSw; go_simp; try with_reducible rfl))
  try simp only [Act.put, List.setIfInBounds_toArray, List.set_cons_zero, List.set_cons_succ]
  first
      | (refine wpAnyH_take (i := 16) (oi := ⟨_, _, _, _, _, _⟩) (v := undef) rfl (by kernel_rfl) (by kernel_rfl) (by kernel_rfl) (fun _ _ _ h => h) (Or.inr ⟨by rfl, rfl⟩) hHeld ?_)
      | (refine wpAnyH_take (i := 16) (oi := ⟨_, _, _, _, _, _⟩) (v := ?v16) rfl (by kernel_rfl) (by kernel_rfl) (by kernel_rfl) (fun _ _ _ h => h) (Or.inl ⟨by rfl, ?hy16⟩) hHeld ?rest16; case hy16 => (intro w' hSw; go_simp; try with_reducible rfl))
  try simp only [Act.put, List.setIfInBounds_toArray, List.set_cons_zero, List.set_cons_succ]
  refine wpAnyH_take (i := 17) (oi := ⟨_, _, _, _, _, _⟩) (v := ?v17) rfl (by kernel_rfl) (by kernel_rfl) (by kernel_rfl) (fun _ _ _ h => h) (Or.inl ⟨by rfl, ?hy17⟩) hHeld ?rest17
  case hy17 => (intro w' hSw; go_simp; try with_reducible rfl)
  try simp only [Act.put, List.setIfInBounds_toArray, List.set_cons_zero, List.set_cons_succ]
  refine wpAnyH_take (i := 18) (oi := ⟨_, _, _, _, _, _⟩) (v := ?v18) rfl (by kernel_rfl) (by kernel_rfl) (by kernel_rfl) (fun _ _ _ h => h) (Or.inl ⟨by rfl, ?hy18⟩) hHeld ?rest18
  case hy18 => (intro w' hSw; go_simp; try with_reducible rfl)
  try simp only [Act.put, List.setIfInBounds_toArray, List.set_cons_zero, List.set_cons_succ]
  first
      | (refine wpAnyH_take (i := 19) (oi := ⟨_, _, _, _, _, _⟩) (v := undef) rfl (by kernel_rfl) (by kernel_rfl) (by kernel_rfl) (fun _ _ _ h => h) (Or.inr ⟨by rfl, rfl⟩) hHeld ?_)
      | (refine wpAnyH_take (i := 19) (oi := ⟨_, _, _, _, _, _⟩) (v := ?v19) rfl (by kernel_rfl) (by kernel_rfl) (by kernel_rfl) (fun _ _ _ h => h) (Or.inl ⟨by rfl, ?hy19⟩) hHeld ?rest19; case hy19 => (intro w' hSw; obtain ⟨hcc, hff⟩ := bcell hSw; go_simp; try with_reducible rfl))
  try simp only [Act.put, List.setIfInBounds_toArray, List.set_cons_zero, List.set_cons_succ]
  first
      | (refine wpAnyH_take (i := 21) (oi := ⟨_, _, _, _, _, _⟩) (v := undef) rfl (by kernel_rfl) (by kernel_rfl) (by kernel_rfl) (fun _ _ _ h => h) (Or.inr ⟨by rfl, rfl⟩) hHeld ?_)
      | (refine wpAnyH_take (i := 21) (oi := ⟨_, _, _, _, _, _⟩) (v := ?v21) rfl (by kernel_rfl) (by kernel_rfl) (by kernel_rfl) (fun _ _ _ h => h) (Or.inl ⟨by rfl, ?hy21⟩) hHeld ?rest21; case hy21 => (intro w' hSw; obtain ⟨hcc, hff⟩ := bcell hSw; go_simp; try with_reducible rfl))
  try simp only [Act.put, List.setIfInBounds_toArray, List.set_cons_zero, List.set_cons_succ]
  refine wpAnyH_ready (rs := [20]) (by kernel_rfl) (by simp) ?_
  refine AllReadyH.cons (o := ⟨_, _, _, _, _, _⟩) rfl (fun K hK => ?_) AllReadyH.nil
  go_simp
  refine (wcheck_any x _).mono ?_
  rintro e wr1 ⟨rfl, hb⟩
  go_wp2_with fail
  have hB2 := bthen hHeld hb
  clear hHeld hb
  refine hK.out _ _ hB2 (fun hHeld => ?_)
  clear hB2 hK K
  try simp only [Act.put, List.setIfInBounds_toArray, List.set_cons_zero, List.set_cons_succ]
  refine wpAnyH_ready (rs := [22]) (by kernel_rfl) (by simp) ?_
  refine AllReadyH.cons (o := ⟨_, _, _, _, _, _⟩) rfl (fun K hK => ?_) AllReadyH.nil
  go_simp
  refine (rwcheck_any x _).mono ?_
  rintro e wr2 ⟨rfl, hb⟩
  go_wp2_with fail
  have hB2 := bthen hHeld hb
  clear hHeld hb
  refine hK.out _ _ hB2 (fun hHeld => ?_)
  clear hB2 hK K
  try simp only [Act.put, List.setIfInBounds_toArray, List.set_cons_zero, List.set_cons_succ]
  first
      | (refine wpAnyH_take (i := 23) (oi := ⟨_, _, _, _, _, _⟩) (v := undef) rfl (by kernel_rfl) (by kernel_rfl) (by kernel_rfl) (fun _ _ _ h => h) (Or.inr ⟨by rfl, rfl⟩) hHeld ?_)
      | (refine wpAnyH_take (i := 23) (oi := ⟨_, _, _, _, _, _⟩) (v := ?v23) rfl (by kernel_rfl) (by kernel_rfl) (by kernel_rfl) (fun _ _ _ h => h) (Or.inl ⟨by rfl, ?hy23⟩) hHeld ?rest23; case hy23 => (intro w' hSw; go_simp; try with_reducible rfl))
  try simp only [Act.put, List.setIfInBounds_toArray, List.set_cons_zero, List.set_cons_succ]
  refine wpAnyH_take (i := 24) (oi := ⟨_, _, _, _, _, _⟩) (v := ?v24) rfl (by kernel_rfl) (by kernel_rfl) (by kernel_rfl) (fun _ _ _ h => h) (Or.inl ⟨by rfl, ?hy24⟩) hHeld ?rest24
  case hy24 => (intro w' hSw; go_simp; try with_reducible rfl)
  try simp only [Act.put, List.setIfInBounds_toArray, List.set_cons_zero, List.set_cons_succ]
  refine wpAnyH_take (i := 25) (oi := ⟨_, _, _, _, _, _⟩) (v := ?v25) rfl (by kernel_rfl) (by kernel_rfl) (by kernel_rfl) (fun _ _ _ h => h) (Or.inl ⟨by rfl, ?hy25⟩) hHeld ?rest25
  case hy25 => (intro w' hSw; go_simp; try with_reducible rfl)
  try simp only [Act.put, List.setIfInBounds_toArray, List.set_cons_zero, List.set_cons_succ]
  refine wpAnyH_ready (rs := [26]) (by kernel_rfl) (by simp) ?_
  refine AllReadyH.cons (o := ⟨_, _, _, _, _, _⟩) rfl (fun K hK => ?_) AllReadyH.nil
  go_simp
  refine (wakes12_any _ (HG.out.call (bthen HB.out hHeld))).mono ?_
  rintro e wr3 ⟨rfl, hb⟩
  go_wp2_with fail
  have hB2 := bthen hHeld hb
  clear hHeld hb
  refine hK.out _ _ hB2 (fun hHeld => ?_)
  clear hB2 hK K
  try simp only [Act.put, List.setIfInBounds_toArray, List.set_cons_zero, List.set_cons_succ]
  refine wpAnyH_take (i := 27) (oi := ⟨_, _, _, _, _, _⟩) (v := ?v27) rfl (by kernel_rfl) (by kernel_rfl) (by kernel_rfl) (fun _ _ _ h => h) (Or.inl ⟨by rfl, ?hy27⟩) hHeld ?rest27
  case hy27 => (intro w' hSw; go_simp; try with_reducible rfl)
  try simp only [Act.put, List.setIfInBounds_toArray, List.set_cons_zero, List.set_cons_succ]
  refine wpAnyH_take (i := 28) (oi := ⟨_, _, _, _, _, _⟩) (v := ?v28) rfl (by kernel_rfl) (by kernel_rfl) (by kernel_rfl) (fun _ _ _ h => h) (Or.inl ⟨by rfl, ?hy28⟩) hHeld ?rest28
  case hy28 => (intro w' hSw; go_simp; try with_reducible rfl)
  try simp only [Act.put, List.setIfInBounds_toArray, List.set_cons_zero, List.set_cons_succ]
  refine wpAnyH_done (by kernel_rfl) ?_ _
  have HBZ := Lib.hid (bthen HB.out hHeld)
  clear hHeld
  go_wp2_with fail
  go_ret
  exact ⟨rfl, HBZ.out⟩
theorem walkBegins_any (root asid page : Int) (O : Option Addr) (cap : Nat) (xs : List Sb) (x : Wk) (w : World) (hG : G w) (hI : RK encS 4 w O xs) (hcap : xs.length ≤ cap) (hm : cap ≤ maxLen) (hp : U64 x.p) :
    Calls Tryd.prog 3 #[.int .i64 root, .int .i64 asid, .int .u64 page, .slice O xs.length cap, .agg #[.bool x.on, .int .i64 x.a, .int .u64 x.p, .int .i8 x.l, .int .i64 x.f]] w fun e w' => e = .returned (.bool true) ∧ Below w.heap.size w w' := by
  by_cases h : xs.length ≤ 20
  · exact walkBegins_in root asid page O cap xs x w hG hI hcap hm h hp
  · have h2 : 20 < xs.length := by omega
    unfold maxLen at hm
    have HB := Lib.hid (ba (Below.refl w.heap.size w) (.cells #[.bool x.on, .int .i64 x.a, .int .u64 x.p, .int .i8 x.l, .int .i64 x.f] 26))
    have hg := hG.call HB.out
    clear h hI hG
    go_enter Tryd.func3, Tryd.ntmps3
    go_wp2_with fail
    refine (wakes12_any _ hg).mono ?_
    rintro e w1 ⟨rfl, hb⟩
    have HB1 := Lib.hid (bthen HB.out hb)
    clear hb hg
    go_wp2_with fail
    go_ret
    exact ⟨rfl, HB1.out⟩
end
end Go.Proofs.YtgdkkhdhomehdaaDoor
