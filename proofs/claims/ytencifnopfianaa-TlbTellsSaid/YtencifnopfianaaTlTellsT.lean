/-
  TlbTells: the walk.
-/
import Derived.Test.YtencifnopfianaaTlRefFT
import Derived.Test.YtencifnopfianaaTlRefDT
import Derived.Test.YtencifnopfianaaTlRefB
namespace Go.Proofs.Ytencifnopfianaa
open Go.RowKit
set_option linter.unusedVariables false
set_option linter.unusedSimpArgs false
theorem fil_lenT (xs : List Tb) (ev : Tb) (h : xs.length ≤ 30) : (filL mayT plT 8 xs ev).length ≤ 1000 := by
  unfold filL
  split
  · split
    · rw [List.length_set]; omega
    · rw [List.length_append]
      split
      · rw [List.length_drop]; simp; omega
      · simp; omega
  · simp
theorem wit_lenT (xs : List Tb) (k : Int) (h : xs.length ≤ 30) : (witL mayT plT 8 xs k).length ≤ 1000 := by
  unfold witL
  split
  · rw [List.length_append, List.length_take, List.length_drop]; omega
  · simp
theorem drp_lenT (xs : List Tb) (hit : Tb → Bool) (h : xs.length ≤ 30) : (drpL mayT plT 8 xs hit).length ≤ 1000 := by
  unfold drpL
  split
  · exact Nat.le_trans (List.length_filter_le _ _) (by omega)
  · simp
set_option maxRecDepth 100000 in
set_option maxHeartbeats 40000000 in
theorem tellsT_few (O : Option Addr) (cap : Nat) (xs : List Tb) (ev : Tb) (tk ta tp asid page k : Int) (w : World) (hI : RK encT 4 w O xs) (hcap : xs.length ≤ cap) (hm : cap ≤ maxLen) (h30 : xs.length ≤ 30) :
    Calls Try.prog 6 #[.slice O xs.length cap, .agg #[.int .i64 ev.a, .int .u64 ev.p, .int .i64 ev.f, .bool ev.ro], .agg #[.int .i8 tk, .int .i64 ta, .int .u64 tp], .int .i64 asid, .int .u64 page, .int .i64 k] w fun e w' => e = .returned (.bool true) ∧ Below w.heap.size w w' := by
  have HM := Lib.hid hm
  have hB0 := ba (ba (Below.refl w.heap.size w) (.cells #[.int .i64 ev.a, .int .u64 ev.p, .int .i64 ev.f, .bool ev.ro] 25)) (.cells #[.int .i8 tk, .int .i64 ta, .int .u64 tp] 28)
  have e1 : (w.alloc (.cells #[.int .i64 ev.a, .int .u64 ev.p, .int .i64 ev.f, .bool ev.ro] 25)).heap.size = w.heap.size + 1 := by simp
  have HB := Lib.hid hB0
  have HV := Lib.hid ((Arr.new w #[.int .i64 ev.a, .int .u64 ev.p, .int .i64 ev.f, .bool ev.ro] 25).alloc (.cells #[.int .i8 tk, .int .i64 ta, .int .u64 tp] 28))
  have HT := Lib.hid (e1 ▸ Arr.new (w.alloc (.cells #[.int .i64 ev.a, .int .u64 ev.p, .int .i64 ev.f, .bool ev.ro] 25)) #[.int .i8 tk, .int .i64 ta, .int .u64 tp] 28)
  have HI := Lib.hid (hI.call hB0)
  have LF := Lib.hid (fil_lenT xs ev h30)
  have LW := Lib.hid (wit_lenT xs k h30)
  have LD := Lib.hid (drp_lenT xs (fun y : Tb => hitB tk ta tp y.a y.p) h30)
  clear hI hB0 e1 hm
  have v0 := HV.out.cell 0 _ rfl
  have v1 := HV.out.cell 1 _ rfl
  have v2 := HV.out.cell 2 _ rfl
  have v3 := HV.out.cell 3 _ rfl
  go_enter Try.func6, Try.ntmps6
  go_wp2_with fail
  clear v0 v1 v2 v3
  generalize (w.alloc (.cells #[.int .i64 ev.a, .int .u64 ev.p, .int .i64 ev.f, .bool ev.ro] 25)).alloc (.cells #[.int .i8 tk, .int .i64 ta, .int .u64 tp] 28) = W0 at *
  refine (fillT_out O cap xs ev _ HI.out hcap).mono ?_
  rintro e w1 ⟨v, rfl, hO, hb⟩
  obtain ⟨fs, hfs⟩ : ∃ fs, filL mayT plT 8 xs ev = fs := ⟨_, rfl⟩
  obtain ⟨fe, hfe⟩ : ∃ fe, filE mayT plT 8 xs ev = fe := ⟨_, rfl⟩
  obtain ⟨ws, hws⟩ : ∃ ws, witL mayT plT 8 xs k = ws := ⟨_, rfl⟩
  obtain ⟨we, hwe⟩ : ∃ we, witE mayT plT 8 xs k = we := ⟨_, rfl⟩
  obtain ⟨ds, hds⟩ : ∃ ds, drpL mayT plT 8 xs (fun y : Tb => hitB tk ta tp y.a y.p) = ds := ⟨_, rfl⟩
  obtain ⟨ce, hce⟩ : ∃ ce, ckE mayT plT 8 xs = ce := ⟨_, rfl⟩
  obtain ⟨oo, hoo⟩ : ∃ oo, fndO xs asid page = oo := ⟨_, rfl⟩
  have EF := Lib.hid hfs
  have EE := Lib.hid hfe
  have EW := Lib.hid hws
  have EX := Lib.hid hwe
  have ED := Lib.hid hds
  have EC := Lib.hid hce
  have EO := Lib.hid hoo
  rw [hfs] at hO LF
  rw [hws] at LW
  rw [hds] at LD
  rw [hfe]
  clear hfs hfe hws hwe hds hce hoo
  obtain ⟨O1, p1, rfl, l1, m1, r1⟩ := hO.form encT_len
  have R1 := Lib.hid r1
  clear hO r1 m1
  have HB := Lib.hid (bthen HB.out hb)
  have HV := Lib.hid (HV.out.call hb)
  have HT := Lib.hid (HT.out.call hb)
  have HI := Lib.hid (HI.out.call hb)
  clear hb
  have v0 := HV.out.cell 0 _ rfl
  have v1 := HV.out.cell 1 _ rfl
  have v2 := HV.out.cell 2 _ rfl
  have v3 := HV.out.cell 3 _ rfl
  go_wp2_with fail
  clear v0 v1 v2 v3
  refine (rfillT_any O cap xs ev _ HI.out hcap).mono ?_
  rintro e w2 ⟨O2, p2, rfl, l2, r2, hb⟩
  rw [EF.out] at l2 r2
  rw [EE.out, EF.out]
  have R2 := Lib.hid r2
  clear r2
  have HB := Lib.hid (bthen HB.out hb)
  have HV := Lib.hid (HV.out.call hb)
  have HT := Lib.hid (HT.out.call hb)
  have HI := Lib.hid (HI.out.call hb)
  have R1 := Lib.hid (R1.out.call hb)
  clear hb
  go_wp2_with fail
  refine (withoutT_out O cap xs k _ HI.out hcap HM.out).mono ?_
  rintro e w3 ⟨v, rfl, hO, hb⟩
  rw [EW.out] at hO
  rw [EX.out]
  obtain ⟨O3, p3, rfl, l3, m3, r3⟩ := hO.form encT_len
  have R3 := Lib.hid r3
  clear hO r3 m3
  have HB := Lib.hid (bthen HB.out hb)
  have HV := Lib.hid (HV.out.call hb)
  have HT := Lib.hid (HT.out.call hb)
  have HI := Lib.hid (HI.out.call hb)
  have R1 := Lib.hid (R1.out.call hb)
  have R2 := Lib.hid (R2.out.call hb)
  clear hb
  go_wp2_with fail
  refine (rwithoutT_any O cap xs k _ HI.out hcap HM.out).mono ?_
  rintro e w4 ⟨v, rfl, hO, hb⟩
  rw [EW.out] at hO
  rw [EX.out]
  obtain ⟨O4, p4, rfl, l4, m4, r4⟩ := hO.form encT_len
  have R4 := Lib.hid r4
  clear hO r4 m4
  have HB := Lib.hid (bthen HB.out hb)
  have HV := Lib.hid (HV.out.call hb)
  have HT := Lib.hid (HT.out.call hb)
  have HI := Lib.hid (HI.out.call hb)
  have R1 := Lib.hid (R1.out.call hb)
  have R2 := Lib.hid (R2.out.call hb)
  have R3 := Lib.hid (R3.out.call hb)
  clear hb
  go_wp2_with fail
  refine (find_out O cap xs asid page _ HI.out hcap).mono ?_
  rintro e w5 ⟨rfl, hb⟩
  rw [EO.out]
  obtain ⟨ov, hov⟩ : ∃ ov, oo.getD zT = ov := ⟨_, rfl⟩
  obtain ⟨ob, hob⟩ : ∃ ob, oo.isSome = ob := ⟨_, rfl⟩
  rw [hov, hob]
  have EV1 := Lib.hid hov
  have EB1 := Lib.hid hob
  clear hov hob
  have HB := Lib.hid (bthen HB.out hb)
  have HV := Lib.hid (HV.out.call hb)
  have HT := Lib.hid (HT.out.call hb)
  have HI := Lib.hid (HI.out.call hb)
  have R1 := Lib.hid (R1.out.call hb)
  have R2 := Lib.hid (R2.out.call hb)
  have R3 := Lib.hid (R3.out.call hb)
  have R4 := Lib.hid (R4.out.call hb)
  clear hb
  have hq := ba (Below.refl _ w5) (.cells #[.int .i64 ov.a, .int .u64 ov.p, .int .i64 ov.f, .bool ov.ro] 25)
  have HX := Lib.hid (Arr.new w5 #[.int .i64 ov.a, .int .u64 ov.p, .int .i64 ov.f, .bool ov.ro] 25)
  have HB := Lib.hid (bthen HB.out hq)
  have HV := Lib.hid (HV.out.call hq)
  have HT := Lib.hid (HT.out.call hq)
  have HI := Lib.hid (HI.out.call hq)
  have R1 := Lib.hid (R1.out.call hq)
  have R2 := Lib.hid (R2.out.call hq)
  have R3 := Lib.hid (R3.out.call hq)
  have R4 := Lib.hid (R4.out.call hq)
  clear hq
  go_wp2_with fail
  generalize w5.heap.size = Y5 at *
  generalize w5.alloc (.cells #[.int .i64 ov.a, .int .u64 ov.p, .int .i64 ov.f, .bool ov.ro] 25) = W5 at *
  refine (rfind_any O cap xs asid page _ HI.out hcap).mono ?_
  rintro e w6 ⟨rfl, hb⟩
  rw [EO.out, EV1.out, EB1.out]
  have HB := Lib.hid (bthen HB.out hb)
  have HV := Lib.hid (HV.out.call hb)
  have HT := Lib.hid (HT.out.call hb)
  have HI := Lib.hid (HI.out.call hb)
  have R1 := Lib.hid (R1.out.call hb)
  have R2 := Lib.hid (R2.out.call hb)
  have R3 := Lib.hid (R3.out.call hb)
  have R4 := Lib.hid (R4.out.call hb)
  have HX := Lib.hid (HX.out.call hb)
  clear hb
  have hq := ba (Below.refl _ w6) (.cells #[.int .i64 ov.a, .int .u64 ov.p, .int .i64 ov.f, .bool ov.ro] 25)
  have HY := Lib.hid (Arr.new w6 #[.int .i64 ov.a, .int .u64 ov.p, .int .i64 ov.f, .bool ov.ro] 25)
  have HB := Lib.hid (bthen HB.out hq)
  have HV := Lib.hid (HV.out.call hq)
  have HT := Lib.hid (HT.out.call hq)
  have HI := Lib.hid (HI.out.call hq)
  have R1 := Lib.hid (R1.out.call hq)
  have R2 := Lib.hid (R2.out.call hq)
  have R3 := Lib.hid (R3.out.call hq)
  have R4 := Lib.hid (R4.out.call hq)
  have HX := Lib.hid (HX.out.call hq)
  clear hq
  go_wp2_with fail
  generalize w6.heap.size = Y6 at *
  generalize w6.alloc (.cells #[.int .i64 ov.a, .int .u64 ov.p, .int .i64 ov.f, .bool ov.ro] 25) = W9 at *
  have x0 := HX.out.cell 0 _ rfl
  have x1 := HX.out.cell 1 _ rfl
  have x2 := HX.out.cell 2 _ rfl
  have x3 := HX.out.cell 3 _ rfl
  have y0 := HY.out.cell 0 _ rfl
  have y1 := HY.out.cell 1 _ rfl
  have y2 := HY.out.cell 2 _ rfl
  have y3 := HY.out.cell 3 _ rfl
  have t0 := HT.out.cell 0 _ rfl
  have t1 := HT.out.cell 1 _ rfl
  have t2 := HT.out.cell 2 _ rfl
  have lX := HX.out.lt
  have lY := HY.out.lt
  have lT := HT.out.lt
  refine wp_region_held_drew (S := fun w' => Below W9.heap.size W9 w') (by kernel_rfl) (bd (Below.refl _ _)) (fun hHeld => ?_)
  refine wpAnyH_take (i := 0) (oi := ⟨_, _, _, _, _, _⟩) (v := ?v0) rfl (by kernel_rfl) (by kernel_rfl) (by kernel_rfl) (fun _ _ _ h => h) (Or.inl ⟨by rfl, ?hy0⟩) hHeld ?rest0
  case hy0 => (intro w' hSw; go_simp; try with_reducible rfl)
  try simp only [Act.put, List.setIfInBounds_toArray, List.set_cons_zero, List.set_cons_succ]
  refine wpAnyH_take (i := 2) (oi := ⟨_, _, _, _, _, _⟩) (v := ?v2) rfl (by kernel_rfl) (by kernel_rfl) (by kernel_rfl) (fun _ _ _ h => h) (Or.inl ⟨by rfl, ?hy2⟩) hHeld ?rest2
  case hy2 => (intro w' hSw; go_simp; try with_reducible rfl)
  try simp only [Act.put, List.setIfInBounds_toArray, List.set_cons_zero, List.set_cons_succ]
  refine wpAnyH_ready (rs := [1]) (by kernel_rfl) (by simp) ?_
  refine AllReadyH.cons (o := ⟨_, _, _, _, _, _⟩) rfl (fun K hK => ?_) AllReadyH.nil
  go_simp
  refine (checkT_out O cap xs _ (HI.out.call hHeld) hcap).mono ?_
  rintro e wr1 ⟨rfl, hb⟩
  rw [EC.out]
  have R1 := Lib.hid (R1.out.call (bthen hHeld hb))
  have R2 := Lib.hid (R2.out.call (bthen hHeld hb))
  have R3 := Lib.hid (R3.out.call (bthen hHeld hb))
  have R4 := Lib.hid (R4.out.call (bthen hHeld hb))
  go_wp2_with fail
  have hB2 := bthen hHeld hb
  clear hHeld hb
  refine hK.out _ _ hB2 (fun hHeld => ?_)
  clear hB2 hK K
  try simp only [Act.put, List.setIfInBounds_toArray, List.set_cons_zero, List.set_cons_succ]
  refine wpAnyH_ready (rs := [3]) (by kernel_rfl) (by simp) ?_
  refine AllReadyH.cons (o := ⟨_, _, _, _, _, _⟩) rfl (fun K hK => ?_) AllReadyH.nil
  go_simp
  refine (rcheckT_any O cap xs _ (HI.out.call hHeld) hcap).mono ?_
  rintro e wr2 ⟨rfl, hb⟩
  rw [EC.out]
  have R1 := Lib.hid (R1.out.call hb)
  have R2 := Lib.hid (R2.out.call hb)
  have R3 := Lib.hid (R3.out.call hb)
  have R4 := Lib.hid (R4.out.call hb)
  go_wp2_with fail
  have hB2 := bthen hHeld hb
  clear hHeld hb
  refine hK.out _ _ hB2 (fun hHeld => ?_)
  clear hB2 hK K
  try simp only [Act.put, List.setIfInBounds_toArray, List.set_cons_zero, List.set_cons_succ]
  refine wpAnyH_take (i := 4) (oi := ⟨_, _, _, _, _, _⟩) (v := ?v4) rfl (by kernel_rfl) (by kernel_rfl) (by kernel_rfl) (fun _ _ _ h => h) (Or.inl ⟨by rfl, ?hy4⟩) hHeld ?rest4
  case hy4 => (intro w' hSw; go_simp; try with_reducible rfl)
  try simp only [Act.put, List.setIfInBounds_toArray, List.set_cons_zero, List.set_cons_succ]
  refine wpAnyH_take (i := 5) (oi := ⟨_, _, _, _, _, _⟩) (v := ?v5) rfl (by kernel_rfl) (by kernel_rfl) (by kernel_rfl) (fun _ _ _ h => h) (Or.inl ⟨by rfl, ?hy5⟩) hHeld ?rest5
  case hy5 => (intro w' hSw; go_simp; try with_reducible rfl)
  try simp only [Act.put, List.setIfInBounds_toArray, List.set_cons_zero, List.set_cons_succ]
  first
      | (refine wpAnyH_take (i := 6) (oi := ⟨_, _, _, _, _, _⟩) (v := undef) rfl (by kernel_rfl) (by kernel_rfl) (by kernel_rfl) (fun _ _ _ h => h) (Or.inr ⟨by rfl, rfl⟩) hHeld ?_)
      | (refine wpAnyH_take (i := 6) (oi := ⟨_, _, _, _, _, _⟩) (v := ?v6) rfl (by kernel_rfl) (by kernel_rfl) (by kernel_rfl) (fun _ _ _ h => h) (Or.inl ⟨by rfl, ?hy6⟩) hHeld ?rest6; case hy6 => (intro w' hSw; go_simp; try with_reducible rfl))
  try simp only [Act.put, List.setIfInBounds_toArray, List.set_cons_zero, List.set_cons_succ]
  first
      | (refine wpAnyH_take (i := 7) (oi := ⟨_, _, _, _, _, _⟩) (v := undef) rfl (by kernel_rfl) (by kernel_rfl) (by kernel_rfl) (fun _ _ _ h => h) (Or.inr ⟨by rfl, rfl⟩) hHeld ?_)
      | (refine wpAnyH_take (i := 7) (oi := ⟨_, _, _, _, _, _⟩) (v := ?v7) rfl (by kernel_rfl) (by kernel_rfl) (by kernel_rfl) (fun _ _ _ h => h) (Or.inl ⟨by rfl, ?hy7⟩) hHeld ?rest7; case hy7 => (intro w' hSw; go_simp; try with_reducible rfl))
  try simp only [Act.put, List.setIfInBounds_toArray, List.set_cons_zero, List.set_cons_succ]
  refine wpAnyH_ready (rs := [8]) (by kernel_rfl) (by simp) ?_
  refine AllReadyH.cons (o := ⟨_, _, _, _, _, _⟩) rfl (fun K hK => ?_) AllReadyH.nil
  go_simp
  refine (sameT_at fs.length rfl O1 O2 p1 p2 _ R1.out R2.out l1 l2 LF.out).mono ?_
  rintro e wr3 ⟨rfl, hb⟩
  have R3 := Lib.hid (R3.out.call hb)
  have R4 := Lib.hid (R4.out.call hb)
  go_wp2_with fail
  have hB2 := bthen hHeld hb
  clear hHeld hb
  refine hK.out _ _ hB2 (fun hHeld => ?_)
  clear hB2 hK K
  try simp only [Act.put, List.setIfInBounds_toArray, List.set_cons_zero, List.set_cons_succ]
  refine wpAnyH_take (i := 9) (oi := ⟨_, _, _, _, _, _⟩) (v := ?v9) rfl (by kernel_rfl) (by kernel_rfl) (by kernel_rfl) (fun _ _ _ h => h) (Or.inl ⟨by rfl, ?hy9⟩) hHeld ?rest9
  case hy9 => (intro w' hSw; go_simp; try with_reducible rfl)
  try simp only [Act.put, List.setIfInBounds_toArray, List.set_cons_zero, List.set_cons_succ]
  refine wpAnyH_take (i := 10) (oi := ⟨_, _, _, _, _, _⟩) (v := ?v10) rfl (by kernel_rfl) (by kernel_rfl) (by kernel_rfl) (fun _ _ _ h => h) (Or.inl ⟨by rfl, ?hy10⟩) hHeld ?rest10
  case hy10 => (intro w' hSw; go_simp; try with_reducible rfl)
  try simp only [Act.put, List.setIfInBounds_toArray, List.set_cons_zero, List.set_cons_succ]
  first
      | (refine wpAnyH_take (i := 11) (oi := ⟨_, _, _, _, _, _⟩) (v := undef) rfl (by kernel_rfl) (by kernel_rfl) (by kernel_rfl) (fun _ _ _ h => h) (Or.inr ⟨by rfl, rfl⟩) hHeld ?_)
      | (refine wpAnyH_take (i := 11) (oi := ⟨_, _, _, _, _, _⟩) (v := ?v11) rfl (by kernel_rfl) (by kernel_rfl) (by kernel_rfl) (fun _ _ _ h => h) (Or.inl ⟨by rfl, ?hy11⟩) hHeld ?rest11; case hy11 => (intro w' hSw; go_simp; try with_reducible rfl))
  try simp only [Act.put, List.setIfInBounds_toArray, List.set_cons_zero, List.set_cons_succ]
  first
      | (refine wpAnyH_take (i := 12) (oi := ⟨_, _, _, _, _, _⟩) (v := undef) rfl (by kernel_rfl) (by kernel_rfl) (by kernel_rfl) (fun _ _ _ h => h) (Or.inr ⟨by rfl, rfl⟩) hHeld ?_)
      | (refine wpAnyH_take (i := 12) (oi := ⟨_, _, _, _, _, _⟩) (v := ?v12) rfl (by kernel_rfl) (by kernel_rfl) (by kernel_rfl) (fun _ _ _ h => h) (Or.inl ⟨by rfl, ?hy12⟩) hHeld ?rest12; case hy12 => (intro w' hSw; go_simp; try with_reducible rfl))
  try simp only [Act.put, List.setIfInBounds_toArray, List.set_cons_zero, List.set_cons_succ]
  first
      | (refine wpAnyH_take (i := 13) (oi := ⟨_, _, _, _, _, _⟩) (v := undef) rfl (by kernel_rfl) (by kernel_rfl) (by kernel_rfl) (fun _ _ _ h => h) (Or.inr ⟨by rfl, rfl⟩) hHeld ?_)
      | (refine wpAnyH_take (i := 13) (oi := ⟨_, _, _, _, _, _⟩) (v := ?v13) rfl (by kernel_rfl) (by kernel_rfl) (by kernel_rfl) (fun _ _ _ h => h) (Or.inl ⟨by rfl, ?hy13⟩) hHeld ?rest13; case hy13 => (intro w' hSw; go_simp; try with_reducible rfl))
  try simp only [Act.put, List.setIfInBounds_toArray, List.set_cons_zero, List.set_cons_succ]
  refine wpAnyH_take (i := 14) (oi := ⟨_, _, _, _, _, _⟩) (v := ?v14) rfl (by kernel_rfl) (by kernel_rfl) (by kernel_rfl) (fun _ _ _ h => h) (Or.inl ⟨by rfl, ?hy14⟩) hHeld ?rest14
  case hy14 => (intro w' hSw; go_simp; try with_reducible rfl)
  try simp only [Act.put, List.setIfInBounds_toArray, List.set_cons_zero, List.set_cons_succ]
  refine wpAnyH_take (i := 15) (oi := ⟨_, _, _, _, _, _⟩) (v := ?v15) rfl (by kernel_rfl) (by kernel_rfl) (by kernel_rfl) (fun _ _ _ h => h) (Or.inl ⟨by rfl, ?hy15⟩) hHeld ?rest15
  case hy15 => (intro w' hSw; go_simp; try with_reducible rfl)
  try simp only [Act.put, List.setIfInBounds_toArray, List.set_cons_zero, List.set_cons_succ]
  first
      | (refine wpAnyH_take (i := 16) (oi := ⟨_, _, _, _, _, _⟩) (v := undef) rfl (by kernel_rfl) (by kernel_rfl) (by kernel_rfl) (fun _ _ _ h => h) (Or.inr ⟨by rfl, rfl⟩) hHeld ?_)
      | (refine wpAnyH_take (i := 16) (oi := ⟨_, _, _, _, _, _⟩) (v := ?v16) rfl (by kernel_rfl) (by kernel_rfl) (by kernel_rfl) (fun _ _ _ h => h) (Or.inl ⟨by rfl, ?hy16⟩) hHeld ?rest16; case hy16 => (intro w' hSw; go_simp; try with_reducible rfl))
  try simp only [Act.put, List.setIfInBounds_toArray, List.set_cons_zero, List.set_cons_succ]
  first
      | (refine wpAnyH_take (i := 17) (oi := ⟨_, _, _, _, _, _⟩) (v := undef) rfl (by kernel_rfl) (by kernel_rfl) (by kernel_rfl) (fun _ _ _ h => h) (Or.inr ⟨by rfl, rfl⟩) hHeld ?_)
      | (refine wpAnyH_take (i := 17) (oi := ⟨_, _, _, _, _, _⟩) (v := ?v17) rfl (by kernel_rfl) (by kernel_rfl) (by kernel_rfl) (fun _ _ _ h => h) (Or.inl ⟨by rfl, ?hy17⟩) hHeld ?rest17; case hy17 => (intro w' hSw; go_simp; try with_reducible rfl))
  try simp only [Act.put, List.setIfInBounds_toArray, List.set_cons_zero, List.set_cons_succ]
  refine wpAnyH_ready (rs := [18]) (by kernel_rfl) (by simp) ?_
  refine AllReadyH.cons (o := ⟨_, _, _, _, _, _⟩) rfl (fun K hK => ?_) AllReadyH.nil
  go_simp
  refine (sameT_at ws.length rfl O3 O4 p3 p4 _ R3.out R4.out l3 l4 LW.out).mono ?_
  rintro e wr4 ⟨rfl, hb⟩
  go_wp2_with fail
  have hB2 := bthen hHeld hb
  clear hHeld hb
  refine hK.out _ _ hB2 (fun hHeld => ?_)
  clear hB2 hK K
  try simp only [Act.put, List.setIfInBounds_toArray, List.set_cons_zero, List.set_cons_succ]
  refine wpAnyH_take (i := 19) (oi := ⟨_, _, _, _, _, _⟩) (v := ?v19) rfl (by kernel_rfl) (by kernel_rfl) (by kernel_rfl) (fun _ _ _ h => h) (Or.inl ⟨by rfl, ?hy19⟩) hHeld ?rest19
  case hy19 => (intro w' hSw; go_simp; try with_reducible rfl)
  try simp only [Act.put, List.setIfInBounds_toArray, List.set_cons_zero, List.set_cons_succ]
  refine wpAnyH_take (i := 20) (oi := ⟨_, _, _, _, _, _⟩) (v := ?v20) rfl (by kernel_rfl) (by kernel_rfl) (by kernel_rfl) (fun _ _ _ h => h) (Or.inl ⟨by rfl, ?hy20⟩) hHeld ?rest20
  case hy20 => (intro w' hSw; go_simp; try with_reducible rfl)
  try simp only [Act.put, List.setIfInBounds_toArray, List.set_cons_zero, List.set_cons_succ]
  first
      | (refine wpAnyH_take (i := 21) (oi := ⟨_, _, _, _, _, _⟩) (v := undef) rfl (by kernel_rfl) (by kernel_rfl) (by kernel_rfl) (fun _ _ _ h => h) (Or.inr ⟨by rfl, rfl⟩) hHeld ?_)
      | (refine wpAnyH_take (i := 21) (oi := ⟨_, _, _, _, _, _⟩) (v := ?v21) rfl (by kernel_rfl) (by kernel_rfl) (by kernel_rfl) (fun _ _ _ h => h) (Or.inl ⟨by rfl, ?hy21⟩) hHeld ?rest21; case hy21 => (intro w' hSw; go_simp; try with_reducible rfl))
  try simp only [Act.put, List.setIfInBounds_toArray, List.set_cons_zero, List.set_cons_succ]
  first
      | (refine wpAnyH_take (i := 22) (oi := ⟨_, _, _, _, _, _⟩) (v := undef) rfl (by kernel_rfl) (by kernel_rfl) (by kernel_rfl) (fun _ _ _ h => h) (Or.inr ⟨by rfl, rfl⟩) hHeld ?_)
      | (refine wpAnyH_take (i := 22) (oi := ⟨_, _, _, _, _, _⟩) (v := ?v22) rfl (by kernel_rfl) (by kernel_rfl) (by kernel_rfl) (fun _ _ _ h => h) (Or.inl ⟨by rfl, ?hy22⟩) hHeld ?rest22; case hy22 => (intro w' hSw; go_simp; try with_reducible rfl))
  try simp only [Act.put, List.setIfInBounds_toArray, List.set_cons_zero, List.set_cons_succ]
  first
      | (refine wpAnyH_take (i := 23) (oi := ⟨_, _, _, _, _, _⟩) (v := undef) rfl (by kernel_rfl) (by kernel_rfl) (by kernel_rfl) (fun _ _ _ h => h) (Or.inr ⟨by rfl, rfl⟩) hHeld ?_)
      | (refine wpAnyH_take (i := 23) (oi := ⟨_, _, _, _, _, _⟩) (v := ?v23) rfl (by kernel_rfl) (by kernel_rfl) (by kernel_rfl) (fun _ _ _ h => h) (Or.inl ⟨by rfl, ?hy23⟩) hHeld ?rest23; case hy23 => (intro w' hSw; go_simp; try with_reducible rfl))
  try simp only [Act.put, List.setIfInBounds_toArray, List.set_cons_zero, List.set_cons_succ]
  refine wpAnyH_take (i := 24) (oi := ⟨_, _, _, _, _, _⟩) (v := ?v24) rfl (by kernel_rfl) (by kernel_rfl) (by kernel_rfl) (fun _ _ _ h => h) (Or.inl ⟨by rfl, ?hy24⟩) hHeld ?rest24
  case hy24 => (intro w' hSw; go_simp; try with_reducible rfl)
  try simp only [Act.put, List.setIfInBounds_toArray, List.set_cons_zero, List.set_cons_succ]
  refine wpAnyH_take (i := 25) (oi := ⟨_, _, _, _, _, _⟩) (v := ?v25) rfl (by kernel_rfl) (by kernel_rfl) (by kernel_rfl) (fun _ _ _ h => h) (Or.inl ⟨by rfl, ?hy25⟩) hHeld ?rest25
  case hy25 => (intro w' hSw; go_simp; try with_reducible rfl)
  try simp only [Act.put, List.setIfInBounds_toArray, List.set_cons_zero, List.set_cons_succ]
  first
      | (refine wpAnyH_take (i := 26) (oi := ⟨_, _, _, _, _, _⟩) (v := undef) rfl (by kernel_rfl) (by kernel_rfl) (by kernel_rfl) (fun _ _ _ h => h) (Or.inr ⟨by rfl, rfl⟩) hHeld ?_)
      | (refine wpAnyH_take (i := 26) (oi := ⟨_, _, _, _, _, _⟩) (v := ?v26) rfl (by kernel_rfl) (by kernel_rfl) (by kernel_rfl) (fun _ _ _ h => h) (Or.inl ⟨by rfl, ?hy26⟩) hHeld ?rest26; case hy26 => (intro w' hSw; obtain ⟨hcc, hff⟩ := bcell hSw; go_simp; try with_reducible rfl))
  try simp only [Act.put, List.setIfInBounds_toArray, List.set_cons_zero, List.set_cons_succ]
  first
      | (refine wpAnyH_take (i := 27) (oi := ⟨_, _, _, _, _, _⟩) (v := undef) rfl (by kernel_rfl) (by kernel_rfl) (by kernel_rfl) (fun _ _ _ h => h) (Or.inr ⟨by rfl, rfl⟩) hHeld ?_)
      | (refine wpAnyH_take (i := 27) (oi := ⟨_, _, _, _, _, _⟩) (v := ?v27) rfl (by kernel_rfl) (by kernel_rfl) (by kernel_rfl) (fun _ _ _ h => h) (Or.inl ⟨by rfl, ?hy27⟩) hHeld ?rest27; case hy27 => (intro w' hSw; obtain ⟨hcc, hff⟩ := bcell hSw; go_simp; try with_reducible rfl))
  try simp only [Act.put, List.setIfInBounds_toArray, List.set_cons_zero, List.set_cons_succ]
  first
      | (refine wpAnyH_take (i := 28) (oi := ⟨_, _, _, _, _, _⟩) (v := undef) rfl (by kernel_rfl) (by kernel_rfl) (by kernel_rfl) (fun _ _ _ h => h) (Or.inr ⟨by rfl, rfl⟩) hHeld ?_)
      | (refine wpAnyH_take (i := 28) (oi := ⟨_, _, _, _, _, _⟩) (v := ?v28) rfl (by kernel_rfl) (by kernel_rfl) (by kernel_rfl) (fun _ _ _ h => h) (Or.inl ⟨by rfl, ?hy28⟩) hHeld ?rest28; case hy28 => (intro w' hSw; go_simp; try with_reducible rfl))
  try simp only [Act.put, List.setIfInBounds_toArray, List.set_cons_zero, List.set_cons_succ]
  refine wpAnyH_take (i := 29) (oi := ⟨_, _, _, _, _, _⟩) (v := ?v29) rfl (by kernel_rfl) (by kernel_rfl) (by kernel_rfl) (fun _ _ _ h => h) (Or.inl ⟨by rfl, ?hy29⟩) hHeld ?rest29
  case hy29 => (intro w' hSw; go_simp; try with_reducible rfl)
  try simp only [Act.put, List.setIfInBounds_toArray, List.set_cons_zero, List.set_cons_succ]
  refine wpAnyH_take (i := 30) (oi := ⟨_, _, _, _, _, _⟩) (v := ?v30) rfl (by kernel_rfl) (by kernel_rfl) (by kernel_rfl) (fun _ _ _ h => h) (Or.inl ⟨by rfl, ?hy30⟩) hHeld ?rest30
  case hy30 => (intro w' hSw; go_simp; try with_reducible rfl)
  try simp only [Act.put, List.setIfInBounds_toArray, List.set_cons_zero, List.set_cons_succ]
  first
      | (refine wpAnyH_take (i := 31) (oi := ⟨_, _, _, _, _, _⟩) (v := undef) rfl (by kernel_rfl) (by kernel_rfl) (by kernel_rfl) (fun _ _ _ h => h) (Or.inr ⟨by rfl, rfl⟩) hHeld ?_)
      | (refine wpAnyH_take (i := 31) (oi := ⟨_, _, _, _, _, _⟩) (v := ?v31) rfl (by kernel_rfl) (by kernel_rfl) (by kernel_rfl) (fun _ _ _ h => h) (Or.inl ⟨by rfl, ?hy31⟩) hHeld ?rest31; case hy31 => (intro w' hSw; go_simp; try with_reducible rfl))
  try simp only [Act.put, List.setIfInBounds_toArray, List.set_cons_zero, List.set_cons_succ]
  first
      | (refine wpAnyH_take (i := 32) (oi := ⟨_, _, _, _, _, _⟩) (v := undef) rfl (by kernel_rfl) (by kernel_rfl) (by kernel_rfl) (fun _ _ _ h => h) (Or.inr ⟨by rfl, rfl⟩) hHeld ?_)
      | (refine wpAnyH_take (i := 32) (oi := ⟨_, _, _, _, _, _⟩) (v := ?v32) rfl (by kernel_rfl) (by kernel_rfl) (by kernel_rfl) (fun _ _ _ h => h) (Or.inl ⟨by rfl, ?hy32⟩) hHeld ?rest32; case hy32 => (intro w' hSw; go_simp; try with_reducible rfl))
  try simp only [Act.put, List.setIfInBounds_toArray, List.set_cons_zero, List.set_cons_succ]
  first
      | (refine wpAnyH_take (i := 33) (oi := ⟨_, _, _, _, _, _⟩) (v := undef) rfl (by kernel_rfl) (by kernel_rfl) (by kernel_rfl) (fun _ _ _ h => h) (Or.inr ⟨by rfl, rfl⟩) hHeld ?_)
      | (refine wpAnyH_take (i := 33) (oi := ⟨_, _, _, _, _, _⟩) (v := ?v33) rfl (by kernel_rfl) (by kernel_rfl) (by kernel_rfl) (fun _ _ _ h => h) (Or.inl ⟨by rfl, ?hy33⟩) hHeld ?rest33; case hy33 => (intro w' hSw; go_simp; try with_reducible rfl))
  try simp only [Act.put, List.setIfInBounds_toArray, List.set_cons_zero, List.set_cons_succ]
  refine wpAnyH_take (i := 34) (oi := ⟨_, _, _, _, _, _⟩) (v := ?v34) rfl (by kernel_rfl) (by kernel_rfl) (by kernel_rfl) (fun _ _ _ h => h) (Or.inl ⟨by rfl, ?hy34⟩) hHeld ?rest34
  case hy34 => (intro w' hSw; go_simp; try with_reducible rfl)
  try simp only [Act.put, List.setIfInBounds_toArray, List.set_cons_zero, List.set_cons_succ]
  refine wpAnyH_take (i := 35) (oi := ⟨_, _, _, _, _, _⟩) (v := ?v35) rfl (by kernel_rfl) (by kernel_rfl) (by kernel_rfl) (fun _ _ _ h => h) (Or.inl ⟨by rfl, ?hy35⟩) hHeld ?rest35
  case hy35 => (intro w' hSw; go_simp; try with_reducible rfl)
  try simp only [Act.put, List.setIfInBounds_toArray, List.set_cons_zero, List.set_cons_succ]
  first
      | (refine wpAnyH_take (i := 36) (oi := ⟨_, _, _, _, _, _⟩) (v := undef) rfl (by kernel_rfl) (by kernel_rfl) (by kernel_rfl) (fun _ _ _ h => h) (Or.inr ⟨by rfl, rfl⟩) hHeld ?_)
      | (refine wpAnyH_take (i := 36) (oi := ⟨_, _, _, _, _, _⟩) (v := ?v36) rfl (by kernel_rfl) (by kernel_rfl) (by kernel_rfl) (fun _ _ _ h => h) (Or.inl ⟨by rfl, ?hy36⟩) hHeld ?rest36; case hy36 => (intro w' hSw; go_simp; try with_reducible rfl))
  try simp only [Act.put, List.setIfInBounds_toArray, List.set_cons_zero, List.set_cons_succ]
  first
      | (refine wpAnyH_take (i := 37) (oi := ⟨_, _, _, _, _, _⟩) (v := undef) rfl (by kernel_rfl) (by kernel_rfl) (by kernel_rfl) (fun _ _ _ h => h) (Or.inr ⟨by rfl, rfl⟩) hHeld ?_)
      | (refine wpAnyH_take (i := 37) (oi := ⟨_, _, _, _, _, _⟩) (v := ?v37) rfl (by kernel_rfl) (by kernel_rfl) (by kernel_rfl) (fun _ _ _ h => h) (Or.inl ⟨by rfl, ?hy37⟩) hHeld ?rest37; case hy37 => (intro w' hSw; obtain ⟨hcc, hff⟩ := bcell hSw; go_simp; try with_reducible rfl))
  try simp only [Act.put, List.setIfInBounds_toArray, List.set_cons_zero, List.set_cons_succ]
  first
      | (refine wpAnyH_take (i := 39) (oi := ⟨_, _, _, _, _, _⟩) (v := undef) rfl (by kernel_rfl) (by kernel_rfl) (by kernel_rfl) (fun _ _ _ h => h) (Or.inr ⟨by rfl, rfl⟩) hHeld ?_)
      | (refine wpAnyH_take (i := 39) (oi := ⟨_, _, _, _, _, _⟩) (v := ?v39) rfl (by kernel_rfl) (by kernel_rfl) (by kernel_rfl) (fun _ _ _ h => h) (Or.inl ⟨by rfl, ?hy39⟩) hHeld ?rest39; case hy39 => (intro w' hSw; go_simp; try with_reducible rfl))
  try simp only [Act.put, List.setIfInBounds_toArray, List.set_cons_zero, List.set_cons_succ]
  first
      | (refine wpAnyH_take (i := 40) (oi := ⟨_, _, _, _, _, _⟩) (v := undef) rfl (by kernel_rfl) (by kernel_rfl) (by kernel_rfl) (fun _ _ _ h => h) (Or.inr ⟨by rfl, rfl⟩) hHeld ?_)
      | (refine wpAnyH_take (i := 40) (oi := ⟨_, _, _, _, _, _⟩) (v := ?v40) rfl (by kernel_rfl) (by kernel_rfl) (by kernel_rfl) (fun _ _ _ h => h) (Or.inl ⟨by rfl, ?hy40⟩) hHeld ?rest40; case hy40 => (intro w' hSw; obtain ⟨hcc, hff⟩ := bcell hSw; go_simp; try with_reducible rfl))
  try simp only [Act.put, List.setIfInBounds_toArray, List.set_cons_zero, List.set_cons_succ]
  refine wpAnyH_ready (rs := [38]) (by kernel_rfl) (by simp) ?_
  refine AllReadyH.cons (o := ⟨_, _, _, _, _, _⟩) rfl (fun K hK => ?_) AllReadyH.nil
  go_simp
  refine (dropT_out O cap xs tk ta tp _ (HI.out.call hHeld) hcap).mono ?_
  rintro e wr5 ⟨v5, rfl, hO5, hb⟩
  rw [ED.out] at hO5
  obtain ⟨O5, p5, rfl, l5, m5, r5⟩ := hO5.form encT_len
  have R5 := Lib.hid r5
  clear hO5 r5 m5
  go_wp2_with fail
  have hB2 := bthen hHeld hb
  clear hHeld hb
  refine hK.out _ _ hB2 (fun hHeld => ?_)
  clear hB2 hK K
  try simp only [Act.put, List.setIfInBounds_toArray, List.set_cons_zero, List.set_cons_succ]
  refine wpAnyH_ready (rs := [41]) (by kernel_rfl) (by simp) ?_
  refine AllReadyH.cons (o := ⟨_, _, _, _, _, _⟩) rfl (fun K hK => ?_) AllReadyH.nil
  go_simp
  refine (rdropT_any O cap xs tk ta tp _ (HI.out.call hHeld) hcap HM.out).mono ?_
  rintro e wr6 ⟨v6, rfl, hO6, hb⟩
  rw [ED.out] at hO6
  obtain ⟨O6, p6, rfl, l6, m6, r6⟩ := hO6.form encT_len
  have R6 := Lib.hid r6
  clear hO6 r6 m6
  have R5 := Lib.hid (R5.out.call hb)
  go_wp2_with fail
  have hB2 := bthen hHeld hb
  clear hHeld hb
  refine hK.out _ _ hB2 (fun hHeld => ?_)
  clear hB2 hK K
  try simp only [Act.put, List.setIfInBounds_toArray, List.set_cons_zero, List.set_cons_succ]
  refine wpAnyH_ready (rs := [42]) (by kernel_rfl) (by simp) ?_
  refine AllReadyH.cons (o := ⟨_, _, _, _, _, _⟩) rfl (fun K hK => ?_) AllReadyH.nil
  go_simp
  refine (sameT_at ds.length rfl O5 O6 p5 p6 _ R5.out R6.out l5 l6 LD.out).mono ?_
  rintro e wr7 ⟨rfl, hb⟩
  go_wp2_with fail
  have hB2 := bthen hHeld hb
  clear hHeld hb
  refine hK.out _ _ hB2 (fun hHeld => ?_)
  clear hB2 hK K
  try simp only [Act.put, List.setIfInBounds_toArray, List.set_cons_zero, List.set_cons_succ]
  refine wpAnyH_take (i := 43) (oi := ⟨_, _, _, _, _, _⟩) (v := ?v43) rfl (by kernel_rfl) (by kernel_rfl) (by kernel_rfl) (fun _ _ _ h => h) (Or.inl ⟨by rfl, ?hy43⟩) hHeld ?rest43
  case hy43 => (intro w' hSw; go_simp; try with_reducible rfl)
  try simp only [Act.put, List.setIfInBounds_toArray, List.set_cons_zero, List.set_cons_succ]
  refine wpAnyH_take (i := 44) (oi := ⟨_, _, _, _, _, _⟩) (v := ?v44) rfl (by kernel_rfl) (by kernel_rfl) (by kernel_rfl) (fun _ _ _ h => h) (Or.inl ⟨by rfl, ?hy44⟩) hHeld ?rest44
  case hy44 => (intro w' hSw; go_simp; try with_reducible rfl)
  try simp only [Act.put, List.setIfInBounds_toArray, List.set_cons_zero, List.set_cons_succ]
  refine wpAnyH_ready (rs := [45]) (by kernel_rfl) (by simp) ?_
  refine AllReadyH.cons (o := ⟨_, _, _, _, _, _⟩) rfl (fun K hK => ?_) AllReadyH.nil
  go_simp
  refine (wakes11_any _).mono ?_
  rintro e wr8 ⟨rfl, hb⟩
  go_wp2_with fail
  have hB2 := bthen hHeld hb
  clear hHeld hb
  refine hK.out _ _ hB2 (fun hHeld => ?_)
  clear hB2 hK K
  try simp only [Act.put, List.setIfInBounds_toArray, List.set_cons_zero, List.set_cons_succ]
  refine wpAnyH_take (i := 46) (oi := ⟨_, _, _, _, _, _⟩) (v := ?v46) rfl (by kernel_rfl) (by kernel_rfl) (by kernel_rfl) (fun _ _ _ h => h) (Or.inl ⟨by rfl, ?hy46⟩) hHeld ?rest46
  case hy46 => (intro w' hSw; go_simp; try with_reducible rfl)
  try simp only [Act.put, List.setIfInBounds_toArray, List.set_cons_zero, List.set_cons_succ]
  refine wpAnyH_take (i := 47) (oi := ⟨_, _, _, _, _, _⟩) (v := ?v47) rfl (by kernel_rfl) (by kernel_rfl) (by kernel_rfl) (fun _ _ _ h => h) (Or.inl ⟨by rfl, ?hy47⟩) hHeld ?rest47
  case hy47 => (intro w' hSw; go_simp; try with_reducible rfl)
  try simp only [Act.put, List.setIfInBounds_toArray, List.set_cons_zero, List.set_cons_succ]
  refine wpAnyH_done (by kernel_rfl) ?_ _
  have HH := Lib.hid hHeld
  clear hHeld
  go_wp2_with fail
  go_ret
  exact ⟨rfl, bthen HB.out HH.out⟩
theorem tellsT_any (O : Option Addr) (cap : Nat) (xs : List Tb) (ev : Tb) (tk ta tp asid page k : Int) (w : World) (hI : RK encT 4 w O xs) (hcap : xs.length ≤ cap) (hm : cap ≤ maxLen) :
    Calls Try.prog 6 #[.slice O xs.length cap, .agg #[.int .i64 ev.a, .int .u64 ev.p, .int .i64 ev.f, .bool ev.ro], .agg #[.int .i8 tk, .int .i64 ta, .int .u64 tp], .int .i64 asid, .int .u64 page, .int .i64 k] w fun e w' => e = .returned (.bool true) ∧ Below w.heap.size w w' := by
  by_cases h : xs.length ≤ 30
  · exact tellsT_few O cap xs ev tk ta tp asid page k w hI hcap hm h
  · have h' : 30 < xs.length := by omega
    obtain ⟨len, hlen⟩ : ∃ len, len = xs.length := ⟨_, rfl⟩
    rw [← hlen] at h' ⊢
    have HB := Lib.hid (ba (ba (Below.refl w.heap.size w) (.cells #[.int .i64 ev.a, .int .u64 ev.p, .int .i64 ev.f, .bool ev.ro] 25)) (.cells #[.int .i8 tk, .int .i64 ta, .int .u64 tp] 28))
    clear h hcap hI hlen hm
    go_enter Try.func6, Try.ntmps6
    go_wp2_with fail
    refine (wakes11_any _).mono ?_
    rintro e w99 ⟨rfl, hb⟩
    have HB := Lib.hid (bthen HB.out hb)
    clear hb
    go_wp2_with fail
    go_ret
    exact ⟨rfl, HB.out⟩
end Go.Proofs.Ytencifnopfianaa
