/-
  Package tlb's functions, as they are called (S).
-/
import Derived.Test.YtencifnopfianaaTlFillS
import Derived.Test.YtencifnopfianaaTlWithoutS
import Derived.Test.YtencifnopfianaaTlDropS
namespace Go.Proofs.Ytencifnopfianaa
open Go.RowKit
set_option linter.unusedVariables false
set_option linter.unusedSimpArgs false
theorem checkS_out (O : Option Addr) (cap : Nat) (xs : List Sb) (w : World) (hI : RK encS 4 w O xs) (hcap : xs.length ≤ cap) :
    Calls Try.prog 15 #[.slice O xs.length cap] w fun e w' => e = .returned (.int .i64 (ckE mayS plS 4 xs)) ∧ Below w.heap.size w w' := by
  have HI := Lib.hid hI
  clear hI
  go_enter Try.func15, Try.ntmps15
  go_wp2_with fail
  refine (kindS_any _).mono ?_
  rintro e w1 ⟨rfl, hb1⟩
  have HB1 := Lib.hid hb1
  clear hb1
  go_wp2_with fail
  refine (checkS_any O cap xs _ (HI.out.call HB1.out) hcap).mono ?_
  rintro e w2 ⟨rfl, hb2⟩
  have HB2 := Lib.hid (bthen HB1.out hb2)
  clear hb2
  go_wp2_with fail
  go_ret
  exact ⟨rfl, HB2.out⟩
set_option maxRecDepth 100000 in
set_option maxHeartbeats 4000000 in
theorem fillS_out (O : Option Addr) (cap : Nat) (xs : List Sb) (ev : Sb) (w : World) (hI : RK encS 4 w O xs) (hcap : xs.length ≤ cap) :
    Calls Try.prog 24 #[.slice O xs.length cap, .agg #[.int .i64 ev.a, .int .i8 ev.l, .int .u64 ev.p, .int .i64 ev.f]] w fun e w' => ∃ v, e = .returned (.tuple #[v, .int .i64 (filE mayS plS 4 xs ev)]) ∧ Ow encS 4 44 w' w.heap.size v (filL mayS plS 4 xs ev) ∧ Below w.heap.size w w' := by
  have HB0 := Lib.hid (ba (Below.refl w.heap.size w) (.cells #[.int .i64 ev.a, .int .i8 ev.l, .int .u64 ev.p, .int .i64 ev.f] 44))
  have HV := Lib.hid (Arr.new w #[.int .i64 ev.a, .int .i8 ev.l, .int .u64 ev.p, .int .i64 ev.f] 44)
  have HI := Lib.hid (hI.call HB0.out)
  clear hI
  go_enter Try.func24, Try.ntmps24
  go_wp2_with fail
  generalize w.alloc (.cells #[.int .i64 ev.a, .int .i8 ev.l, .int .u64 ev.p, .int .i64 ev.f] 44) = W0 at *
  have a0 := HV.out.cell 0 _ rfl
  have a1 := HV.out.cell 1 _ rfl
  have a2 := HV.out.cell 2 _ rfl
  have a3 := HV.out.cell 3 _ rfl
  have lV := HV.out.lt
  refine wp_region_held_drew (S := fun w' => Below W0.heap.size W0 w') (by kernel_rfl) (bd (Below.refl _ _)) (fun hHeld => ?_)
  refine wpAnyH_take (i := 1) (oi := ⟨_, _, _, _, _, _⟩) (v := ?v1) rfl (by kernel_rfl) (by kernel_rfl) (by kernel_rfl) (fun _ _ _ h => h) (Or.inl ⟨by rfl, ?hy1⟩) hHeld ?rest1
  case hy1 => (intro w' hSw; go_simp; try with_reducible rfl)
  try simp only [Act.put, List.setIfInBounds_toArray, List.set_cons_zero, List.set_cons_succ]
  refine wpAnyH_take (i := 2) (oi := ⟨_, _, _, _, _, _⟩) (v := ?v2) rfl (by kernel_rfl) (by kernel_rfl) (by kernel_rfl) (fun _ _ _ h => h) (Or.inl ⟨by rfl, ?hy2⟩) hHeld ?rest2
  case hy2 => (intro w' hSw; obtain ⟨hcc, hff⟩ := bcell hSw; go_simp; try with_reducible rfl)
  try simp only [Act.put, List.setIfInBounds_toArray, List.set_cons_zero, List.set_cons_succ]
  refine wpAnyH_ready (rs := [0]) (by kernel_rfl) (by simp) ?_
  refine AllReadyH.cons (o := ⟨_, _, _, _, _, _⟩) rfl (fun K hK => ?_) AllReadyH.nil
  go_simp
  refine (kindS_any _).mono ?_
  rintro e wr1 ⟨rfl, hb⟩
  go_wp2_with fail
  have hB2 := bthen hHeld hb
  clear hHeld hb
  refine hK.out _ _ hB2 (fun hHeld => ?_)
  clear hB2 hK K
  try simp only [Act.put, List.setIfInBounds_toArray, List.set_cons_zero, List.set_cons_succ]
  refine wpAnyH_ready (rs := [3]) (by kernel_rfl) (by simp) ?_
  refine AllReadyH.cons (o := ⟨_, _, _, _, _, _⟩) rfl (fun K hK => ?_) AllReadyH.nil
  go_simp
  refine (fillS_any O cap xs ev _ (HI.out.call hHeld) hcap).mono ?_
  rintro e wr2 ⟨vf, rfl, hOf, hb⟩
  have HOf := Lib.hid hOf
  have HW1 := Lib.hid hHeld.size
  clear hOf
  go_wp2_with fail
  have hB2 := bthen hHeld hb
  clear hHeld hb
  refine hK.out _ _ hB2 (fun hHeld => ?_)
  clear hB2 hK K
  try simp only [Act.put, List.setIfInBounds_toArray, List.set_cons_zero, List.set_cons_succ]
  refine wpAnyH_take (i := 4) (oi := ⟨_, _, _, _, _, _⟩) (v := ?v4) rfl (by kernel_rfl) (by kernel_rfl) (by kernel_rfl) (fun _ _ _ h => h) (Or.inl ⟨by rfl, ?hy4⟩) hHeld ?rest4
  case hy4 => (intro w' hSw; go_simp; try with_reducible rfl)
  try simp only [Act.put, List.setIfInBounds_toArray, List.set_cons_zero, List.set_cons_succ]
  refine wpAnyH_take (i := 5) (oi := ⟨_, _, _, _, _, _⟩) (v := ?v5) rfl (by kernel_rfl) (by kernel_rfl) (by kernel_rfl) (fun _ _ _ h => h) (Or.inl ⟨by rfl, ?hy5⟩) hHeld ?rest5
  case hy5 => (intro w' hSw; go_simp; try with_reducible rfl)
  try simp only [Act.put, List.setIfInBounds_toArray, List.set_cons_zero, List.set_cons_succ]
  refine wpAnyH_take (i := 6) (oi := ⟨_, _, _, _, _, _⟩) (v := ?v6) rfl (by kernel_rfl) (by kernel_rfl) (by kernel_rfl) (fun _ _ _ h => h) (Or.inl ⟨by rfl, ?hy6⟩) hHeld ?rest6
  case hy6 => (intro w' hSw; go_simp; try with_reducible rfl)
  try simp only [Act.put, List.setIfInBounds_toArray, List.set_cons_zero, List.set_cons_succ]
  refine wpAnyH_take (i := 7) (oi := ⟨_, _, _, _, _, _⟩) (v := ?v7) rfl (by kernel_rfl) (by kernel_rfl) (by kernel_rfl) (fun _ _ _ h => h) (Or.inl ⟨by rfl, ?hy7⟩) hHeld ?rest7
  case hy7 => (intro w' hSw; go_simp; try with_reducible rfl)
  try simp only [Act.put, List.setIfInBounds_toArray, List.set_cons_zero, List.set_cons_succ]
  refine wpAnyH_done (by kernel_rfl) ?_ _
  have HH := Lib.hid hHeld
  clear hHeld
  go_wp2_with fail
  go_ret2
  exact ⟨vf, rfl, HOf.out.low (by have := HB0.out.size; have := HW1.out; omega), bthen HB0.out HH.out⟩
theorem withoutS_out (O : Option Addr) (cap : Nat) (xs : List Sb) (k : Int) (w : World) (hI : RK encS 4 w O xs) (hcap : xs.length ≤ cap) (hm : cap ≤ maxLen) :
    Calls Try.prog 26 #[.slice O xs.length cap, .int .i64 k] w fun e w' => ∃ v, e = .returned (.tuple #[v, .int .i64 (witE mayS plS 4 xs k)]) ∧ Ow encS 4 44 w' w.heap.size v (witL mayS plS 4 xs k) ∧ Below w.heap.size w w' := by
  have HI := Lib.hid hI
  have HM := Lib.hid hm
  clear hI hm
  go_enter Try.func26, Try.ntmps26
  go_wp2_with fail
  refine (kindS_any _).mono ?_
  rintro e w1 ⟨rfl, hb1⟩
  have HB1 := Lib.hid hb1
  clear hb1
  go_wp2_with fail
  refine (withoutS_any O cap xs k _ (HI.out.call HB1.out) hcap HM.out).mono ?_
  rintro e w2 ⟨v, rfl, hO, hb2⟩
  have HO := Lib.hid (hO.low HB1.out.size)
  have HB2 := Lib.hid (bthen HB1.out hb2)
  clear hb2 hO
  go_wp2_with fail
  go_ret2
  exact ⟨v, rfl, HO.out, HB2.out⟩
theorem dropS_out (O : Option Addr) (cap : Nat) (xs : List Sb) (tk ta tp : Int) (w : World) (hI : RK encS 4 w O xs) (hcap : xs.length ≤ cap) :
    Calls Try.prog 17 #[.slice O xs.length cap, .agg #[.int .i8 tk, .int .i64 ta, .int .u64 tp]] w fun e w' => ∃ v, e = .returned v ∧ Ow encS 4 44 w' w.heap.size v (drpL mayS plS 4 xs (fun y : Sb => stepB tk ta tp y.a y.l y.p)) ∧ Below w.heap.size w w' := by
  have HB0 := Lib.hid (ba (Below.refl w.heap.size w) (.cells #[.int .i8 tk, .int .i64 ta, .int .u64 tp] 28))
  have HV := Lib.hid (Arr.new w #[.int .i8 tk, .int .i64 ta, .int .u64 tp] 28)
  have HI := Lib.hid (hI.call HB0.out)
  clear hI
  go_enter Try.func17, Try.ntmps17
  go_wp2_with fail
  generalize w.alloc (.cells #[.int .i8 tk, .int .i64 ta, .int .u64 tp] 28) = W0 at *
  refine (kindS_any _).mono ?_
  rintro e w1 ⟨rfl, hb1⟩
  have HB1 := Lib.hid hb1
  clear hb1
  go_wp2_with fail
  refine (dropS_any O cap xs tk ta tp w.heap.size _ (HI.out.call HB1.out) hcap (TCaught.call ⟨HV.out.cell 0 _ rfl, HV.out.cell 1 _ rfl, HV.out.cell 2 _ rfl⟩ HB1.out)).mono ?_
  rintro e w2 ⟨v, rfl, hO, hb2⟩
  have HO := Lib.hid (hO.low (Nat.le_trans HB0.out.size HB1.out.size))
  have HB2 := Lib.hid (bthen (bthen HB0.out HB1.out) hb2)
  clear hb2 hO
  go_wp2_with fail
  go_ret
  exact ⟨v, rfl, HO.out, HB2.out⟩
end Go.Proofs.Ytencifnopfianaa
