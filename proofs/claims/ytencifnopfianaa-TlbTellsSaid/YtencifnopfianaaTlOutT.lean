/-
  Package tlb's functions, as they are called (T).
-/
import Derived.Test.YtencifnopfianaaTlFillT
import Derived.Test.YtencifnopfianaaTlWithoutT
import Derived.Test.YtencifnopfianaaTlDropT
namespace Go.Proofs.Ytencifnopfianaa
open Go.RowKit
set_option linter.unusedVariables false
set_option linter.unusedSimpArgs false
theorem checkT_out (O : Option Addr) (cap : Nat) (xs : List Tb) (w : World) (hI : RK encT 4 w O xs) (hcap : xs.length ≤ cap) :
    Calls Try.prog 8 #[.slice O xs.length cap] w fun e w' => e = .returned (.int .i64 (ckE mayT plT 8 xs)) ∧ Below w.heap.size w w' := by
  have HI := Lib.hid hI
  clear hI
  go_enter Try.func8, Try.ntmps8
  go_wp2_with fail
  refine (kindT_any _).mono ?_
  rintro e w1 ⟨rfl, hb1⟩
  have HB1 := Lib.hid hb1
  clear hb1
  go_wp2_with fail
  refine (checkT_any O cap xs _ (HI.out.call HB1.out) hcap).mono ?_
  rintro e w2 ⟨rfl, hb2⟩
  have HB2 := Lib.hid (bthen HB1.out hb2)
  clear hb2
  go_wp2_with fail
  go_ret
  exact ⟨rfl, HB2.out⟩
set_option maxRecDepth 100000 in
set_option maxHeartbeats 4000000 in
theorem fillT_out (O : Option Addr) (cap : Nat) (xs : List Tb) (ev : Tb) (w : World) (hI : RK encT 4 w O xs) (hcap : xs.length ≤ cap) :
    Calls Try.prog 13 #[.slice O xs.length cap, .agg #[.int .i64 ev.a, .int .u64 ev.p, .int .i64 ev.f, .bool ev.ro]] w fun e w' => ∃ v, e = .returned (.tuple #[v, .int .i64 (filE mayT plT 8 xs ev)]) ∧ Ow encT 4 25 w' w.heap.size v (filL mayT plT 8 xs ev) ∧ Below w.heap.size w w' := by
  have HB0 := Lib.hid (ba (Below.refl w.heap.size w) (.cells #[.int .i64 ev.a, .int .u64 ev.p, .int .i64 ev.f, .bool ev.ro] 25))
  have HV := Lib.hid (Arr.new w #[.int .i64 ev.a, .int .u64 ev.p, .int .i64 ev.f, .bool ev.ro] 25)
  have HI := Lib.hid (hI.call HB0.out)
  clear hI
  go_enter Try.func13, Try.ntmps13
  go_wp2_with fail
  generalize w.alloc (.cells #[.int .i64 ev.a, .int .u64 ev.p, .int .i64 ev.f, .bool ev.ro] 25) = W0 at *
  have a0 := HV.out.cell 0 _ rfl
  have a1 := HV.out.cell 1 _ rfl
  have a2 := HV.out.cell 2 _ rfl
  have a3 := HV.out.cell 3 _ rfl
  have lV := HV.out.lt
  refine wp_region_held_drew (S := fun w' => Below W0.heap.size W0 w') (by kernel_rfl) (bd (Below.refl _ _)) (fun hHeld => ?_)
  refine wpAnyH_take (i := 1) (oi := ⟨_, _, _, _, _, _⟩) (v := ?v1) rfl (by kernel_rfl) (by kernel_rfl) (by kernel_rfl) (fun _ _ _ h => h) (Or.inl ⟨by rfl, ?hy1⟩) hHeld ?rest1
  case hy1 => (intro w' hSw; go_simp; try with_reducible rfl)
  try simp only [Act.put, List.setIfInBounds_toArray, List.set_cons_zero, List.set_cons_succ]
  refine wpAnyH_take (i := 2) (oi := ⟨_, _, _, _, _, _⟩) (v := ?v2) rfl (by kernel_rfl) (by kernel_rfl) (by kernel_rfl) (fun _ _ _ h => h) (Or.inl ⟨by rfl, ?hy2⟩) hHeld ?rest2
  case hy2 => (intro w' hSw; obtain ⟨hcc, hff⟩ := bcell hSw; go_simp; try with_reducible rfl)
  try simp only [Act.put, List.setIfInBounds_toArray, List.set_cons_zero, List.set_cons_succ]
  refine wpAnyH_ready (rs := [0]) (by kernel_rfl) (by simp) ?_
  refine AllReadyH.cons (o := ⟨_, _, _, _, _, _⟩) rfl (fun K hK => ?_) AllReadyH.nil
  go_simp
  refine (kindT_any _).mono ?_
  rintro e wr1 ⟨rfl, hb⟩
  go_wp2_with fail
  have hB2 := bthen hHeld hb
  clear hHeld hb
  refine hK.out _ _ hB2 (fun hHeld => ?_)
  clear hB2 hK K
  try simp only [Act.put, List.setIfInBounds_toArray, List.set_cons_zero, List.set_cons_succ]
  refine wpAnyH_ready (rs := [3]) (by kernel_rfl) (by simp) ?_
  refine AllReadyH.cons (o := ⟨_, _, _, _, _, _⟩) rfl (fun K hK => ?_) AllReadyH.nil
  go_simp
  refine (fillT_any O cap xs ev _ (HI.out.call hHeld) hcap).mono ?_
  rintro e wr2 ⟨vf, rfl, hOf, hb⟩
  have HOf := Lib.hid hOf
  have HW1 := Lib.hid hHeld.size
  clear hOf
  go_wp2_with fail
  have hB2 := bthen hHeld hb
  clear hHeld hb
  refine hK.out _ _ hB2 (fun hHeld => ?_)
  clear hB2 hK K
  try simp only [Act.put, List.setIfInBounds_toArray, List.set_cons_zero, List.set_cons_succ]
  refine wpAnyH_take (i := 4) (oi := ⟨_, _, _, _, _, _⟩) (v := ?v4) rfl (by kernel_rfl) (by kernel_rfl) (by kernel_rfl) (fun _ _ _ h => h) (Or.inl ⟨by rfl, ?hy4⟩) hHeld ?rest4
  case hy4 => (intro w' hSw; go_simp; try with_reducible rfl)
  try simp only [Act.put, List.setIfInBounds_toArray, List.set_cons_zero, List.set_cons_succ]
  refine wpAnyH_take (i := 5) (oi := ⟨_, _, _, _, _, _⟩) (v := ?v5) rfl (by kernel_rfl) (by kernel_rfl) (by kernel_rfl) (fun _ _ _ h => h) (Or.inl ⟨by rfl, ?hy5⟩) hHeld ?rest5
  case hy5 => (intro w' hSw; go_simp; try with_reducible rfl)
  try simp only [Act.put, List.setIfInBounds_toArray, List.set_cons_zero, List.set_cons_succ]
  refine wpAnyH_take (i := 6) (oi := ⟨_, _, _, _, _, _⟩) (v := ?v6) rfl (by kernel_rfl) (by kernel_rfl) (by kernel_rfl) (fun _ _ _ h => h) (Or.inl ⟨by rfl, ?hy6⟩) hHeld ?rest6
  case hy6 => (intro w' hSw; go_simp; try with_reducible rfl)
  try simp only [Act.put, List.setIfInBounds_toArray, List.set_cons_zero, List.set_cons_succ]
  refine wpAnyH_take (i := 7) (oi := ⟨_, _, _, _, _, _⟩) (v := ?v7) rfl (by kernel_rfl) (by kernel_rfl) (by kernel_rfl) (fun _ _ _ h => h) (Or.inl ⟨by rfl, ?hy7⟩) hHeld ?rest7
  case hy7 => (intro w' hSw; go_simp; try with_reducible rfl)
  try simp only [Act.put, List.setIfInBounds_toArray, List.set_cons_zero, List.set_cons_succ]
  refine wpAnyH_done (by kernel_rfl) ?_ _
  have HH := Lib.hid hHeld
  clear hHeld
  go_wp2_with fail
  go_ret2
  exact ⟨vf, rfl, HOf.out.low (by have := HB0.out.size; have := HW1.out; omega), bthen HB0.out HH.out⟩
theorem withoutT_out (O : Option Addr) (cap : Nat) (xs : List Tb) (k : Int) (w : World) (hI : RK encT 4 w O xs) (hcap : xs.length ≤ cap) (hm : cap ≤ maxLen) :
    Calls Try.prog 19 #[.slice O xs.length cap, .int .i64 k] w fun e w' => ∃ v, e = .returned (.tuple #[v, .int .i64 (witE mayT plT 8 xs k)]) ∧ Ow encT 4 25 w' w.heap.size v (witL mayT plT 8 xs k) ∧ Below w.heap.size w w' := by
  have HI := Lib.hid hI
  have HM := Lib.hid hm
  clear hI hm
  go_enter Try.func19, Try.ntmps19
  go_wp2_with fail
  refine (kindT_any _).mono ?_
  rintro e w1 ⟨rfl, hb1⟩
  have HB1 := Lib.hid hb1
  clear hb1
  go_wp2_with fail
  refine (withoutT_any O cap xs k _ (HI.out.call HB1.out) hcap HM.out).mono ?_
  rintro e w2 ⟨v, rfl, hO, hb2⟩
  have HO := Lib.hid (hO.low HB1.out.size)
  have HB2 := Lib.hid (bthen HB1.out hb2)
  clear hb2 hO
  go_wp2_with fail
  go_ret2
  exact ⟨v, rfl, HO.out, HB2.out⟩
theorem dropT_out (O : Option Addr) (cap : Nat) (xs : List Tb) (tk ta tp : Int) (w : World) (hI : RK encT 4 w O xs) (hcap : xs.length ≤ cap) :
    Calls Try.prog 11 #[.slice O xs.length cap, .agg #[.int .i8 tk, .int .i64 ta, .int .u64 tp]] w fun e w' => ∃ v, e = .returned v ∧ Ow encT 4 25 w' w.heap.size v (drpL mayT plT 8 xs (fun y : Tb => hitB tk ta tp y.a y.p)) ∧ Below w.heap.size w w' := by
  have HB0 := Lib.hid (ba (Below.refl w.heap.size w) (.cells #[.int .i8 tk, .int .i64 ta, .int .u64 tp] 28))
  have HV := Lib.hid (Arr.new w #[.int .i8 tk, .int .i64 ta, .int .u64 tp] 28)
  have HI := Lib.hid (hI.call HB0.out)
  clear hI
  go_enter Try.func11, Try.ntmps11
  go_wp2_with fail
  generalize w.alloc (.cells #[.int .i8 tk, .int .i64 ta, .int .u64 tp] 28) = W0 at *
  refine (kindT_any _).mono ?_
  rintro e w1 ⟨rfl, hb1⟩
  have HB1 := Lib.hid hb1
  clear hb1
  go_wp2_with fail
  refine (dropT_any O cap xs tk ta tp w.heap.size _ (HI.out.call HB1.out) hcap (TCaught.call ⟨HV.out.cell 0 _ rfl, HV.out.cell 1 _ rfl, HV.out.cell 2 _ rfl⟩ HB1.out)).mono ?_
  rintro e w2 ⟨v, rfl, hO, hb2⟩
  have HO := Lib.hid (hO.low (Nat.le_trans HB0.out.size HB1.out.size))
  have HB2 := Lib.hid (bthen (bthen HB0.out HB1.out) hb2)
  clear hb2 hO
  go_wp2_with fail
  go_ret
  exact ⟨v, rfl, HO.out, HB2.out⟩
end Go.Proofs.Ytencifnopfianaa
