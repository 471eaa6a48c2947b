/-
  The law LockPlays of layer 18: the walk.
-/
import Derived.Test.YtlhbofgcgfbchaaLockRef
namespace Go.Proofs.Ytlhbofgcgfbchaa
open Go.RowKit Go.Maps
set_option linter.unusedVariables false
set_option linter.unusedSimpArgs false

/-- What holds at the loop's head. -/
def LpRel (w0 : World) (p q len : Nat) (i : Value) (w : World) : Prop :=
  ∃ (k kk : Nat) (c : Nat → Nat → Int) (F G : Nat → Prop), i = .int .i64 k ∧ k ≤ len ∧ kk ≤ k + 2 ∧ Pair w0 w p q 1 c c F G kk
set_option maxRecDepth 100000 in
set_option maxHeartbeats 4000000 in
theorem lockPlays_few (nx sv t : Int) (w : World) (O : Option Addr) (len cap : Nat) (zs : Nat → Int) (hl : len ≤ 100) (hI : Ints w O len zs) (hc : len ≤ cap) :
    Calls Try.prog 7 #[.int .u64 nx, .int .u64 sv, .int .u64 t, .slice O len cap] w fun e w' => e = .returned (.bool true) ∧ Below w.heap.size w w' := by
  have HI := Lib.hid hI
  clear hI
  go_enter Try.func7, Try.ntmps7
  go_wp2_with fail
  refine (new_yes 1 _ (by omega) (by omega)).mono ?_
  rintro e w1 ⟨p, F, rfl, hM, hB, hF⟩
  have HF := Lib.hid hF
  have HB := Lib.hid hB
  have HA := Lib.hid hM.all
  clear hF hB
  go_wp2_with fail
  refine (rnew_yes 1 _ (by omega) (by omega)).mono ?_
  rintro e w2 ⟨q, G, rfl, hN, hB, hG⟩
  have hP : Pair w w2 p q 1 (fun _ _ => 0) (fun _ _ => 0) F G 0 := ⟨hM.call hB, hN, fun y h h' => Nat.not_lt.2 (hG y h') (HA.out y h), HF.out, fun y h => Nat.le_trans HB.out.size (hG y h), bthen HB.out hB⟩
  clear hM hN hB hG HA HF HB
  go_wp2_with fail
  refine (write_yes p 1 0 0 0 0 nx _ F _ hP.mem (by omega) (by omega) ⟨by omega, by omega⟩ (by decide) (by decide) (by omega)).mono ?_
  rintro e w3 ⟨rfl, F3, k3, m1, m2, m3, m4, m5⟩
  replace hP := hP.one m1 m3 m4
  clear m1 m3 m4 m5
  go_wp2_with fail
  refine (write_yes p 1 k3 0 1 1 sv _ F3 _ hP.mem (by omega) (by omega) ⟨by omega, by omega⟩ (by decide) (by decide) (by omega)).mono ?_
  rintro e w4 ⟨rfl, F4, k4, m1, m2', m3, m4, m5⟩
  replace hP := hP.one m1 m3 m4
  clear m1 m3 m4 m5
  go_wp2_with fail
  refine (rwrite_yes q 1 0 0 0 nx _ G _ hP.ref (by omega) ⟨by omega, by omega⟩ (by decide) (by decide) (by omega)).mono ?_
  rintro e w5 ⟨rfl, G5, m1, m3, m4, m5⟩
  replace hP := hP.two m1 m3 m4
  clear m1 m3 m4 m5
  go_wp2_with fail
  refine (rwrite_yes q 1 0 1 1 sv _ G5 _ hP.ref (by omega) ⟨by omega, by omega⟩ (by decide) (by decide) (by omega)).mono ?_
  rintro e w6 ⟨rfl, G6, m1, m3, m4, m5⟩
  replace hP := hP.two m1 m3 m4
  clear m1 m3 m4 m5
  have HP := Lib.hid hP
  clear hP
  go_wp2_with fail
  go_loopw [13] (fun i wr => LpRel w p q len i wr) (fun i _ => len - (intOf i).toNat)
  case atStart => exact ⟨0, k4, _, F4, G6, rfl, by omega, by omega, HP.out⟩
  case round =>
    clear HP
    obtain ⟨k, kk, c, F, G, rfl, hk, hkk, hP⟩ := hrel
    by_cases hlt : k < len
    · obtain ⟨b, off, rfl, hcell⟩ := (HI.out.call hP.below) (by omega)
      have cz := hcell k hlt
      have HC := Lib.hid hcell
      have HP := Lib.hid hP
      clear hcell hP
      rcases h0 : (zs k == 0) with _ | _
      · rcases h1 : (zs k == 1) with _ | _
        · go_wp2_with fail
          have hP := HP.out
          clear HP
          refine (lServed_any p 1 _ t _ _ _ hP.mem (by omega) (by omega)).mono ?_
          rintro e wa ⟨rfl, hb⟩
          replace hP := hP.call hb
          clear hb
          go_wp2_with fail
          refine (rServed_any q 1 t _ _ _ hP.ref (by omega) (by omega)).mono ?_
          rintro e wb ⟨rfl, rfl⟩
          go_wp2_with fail
          refine (lWaiting_any p 1 _ _ _ _ hP.mem (by omega) (by omega)).mono ?_
          rintro e wc ⟨rfl, hb⟩
          rw [wt_eq]
          replace hP := hP.call hb
          clear hb
          go_wp2_with fail
          refine (rWaiting_any q 1 _ _ _ hP.ref (by omega) (by omega)).mono ?_
          rintro e wd ⟨rfl, rfl⟩
          go_wp2_with fail
          go_roundw
          case rel => exact ⟨k + 1, _, _, _, _, by go_num, by omega, by omega, hP⟩
          case measure => simp [intOf]; omega
        · have hz1 : zs k = 1 := by simpa using h1
          rw [hz1] at cz
          clear h0 h1
          go_wp2_with fail
          refine (lPass_any p 1 _ _ _ _ HP.out.mem (by omega) (by omega)).mono ?_
          rintro e we ⟨rfl, hb⟩
          have hP := HP.out.call (ba hb (.cells #[.int .i8 0, .int .u64 1, .int .u64 (IntKind.u64.wrap (c 0 1 + 1)), .int .i64 0, .int .i64 0] 29))
          have hEa := Bk.new we 29 #[.int .i8 0, .int .u64 1, .int .u64 (IntKind.u64.wrap (c 0 1 + 1)), .int .i64 0, .int .i64 0]
          have nEa : ¬ F we.heap.size ∧ ¬ G we.heap.size := ⟨fun h => by have := HP.out.mem.all _ h; have := hb.size; omega, fun h => by have := HP.out.ref.all _ h; have := hb.size; omega⟩
          have HEa := Lib.hid hEa
          have HNa := Lib.hid nEa
          clear hb HP hEa nEa
          go_wp2_with fail
          refine (rPass_any q 1 _ _ _ hP.ref (by omega) (by omega)).mono ?_
          rintro e wf ⟨rfl, hb⟩
          have hEa := (HEa.out.call hb).call (ba (Below.refl _ _) (.cells #[.int .i8 0, .int .u64 1, .int .u64 (IntKind.u64.wrap (c 0 1 + 1)), .int .i64 0, .int .i64 0] 29))
          have hEb := Bk.new wf 29 #[.int .i8 0, .int .u64 1, .int .u64 (IntKind.u64.wrap (c 0 1 + 1)), .int .i64 0, .int .i64 0]
          have nEb : ¬ F wf.heap.size ∧ ¬ G wf.heap.size := ⟨fun h => by have := hP.mem.all _ h; have := hb.size; omega, fun h => by have := hP.ref.all _ h; have := hb.size; omega⟩
          replace hP := hP.call (ba hb (.cells #[.int .i8 0, .int .u64 1, .int .u64 (IntKind.u64.wrap (c 0 1 + 1)), .int .i64 0, .int .i64 0] 29))
          have HNb := Lib.hid nEb
          have HS := Lib.hid (And.intro hEa hEb)
          clear hb HEa hEa hEb nEb
          go_wp2_with fail
          generalize we.heap.size = ga at *
          generalize hgb : wf.heap.size = gb at *
          have HGB := Lib.hid hgb
          clear hgb
          generalize wf.alloc (.cells #[.int .i8 0, .int .u64 1, .int .u64 (IntKind.u64.wrap (c 0 1 + 1)), .int .i64 0, .int .i64 0] 29) = W at *
          refine wp_region_held_drew (S := fun w' => Bk w' ga 29 #[.int .i8 0, .int .u64 1, .int .u64 (IntKind.u64.wrap (c 0 1 + 1)), .int .i64 0, .int .i64 0] ∧ Bk w' gb 29 #[.int .i8 0, .int .u64 1, .int .u64 (IntKind.u64.wrap (c 0 1 + 1)), .int .i64 0, .int .i64 0]) (by kernel_rfl) HS.out (fun hHeld => ?_)
          refine wpAnyH_take (i := 0) (oi := ⟨_, _, _, _, _, _⟩) (v := ?v0) rfl (by kernel_rfl) (by kernel_rfl) (by kernel_rfl) (fun _ _ _ h => h) (Or.inl ⟨by rfl, ?hy0⟩) hHeld ?rest0
          case hy0 => (intro w' hSw; have x0 : w'.cell? ⟨ga, 0, none⟩ = some (.int .i8 0) := hSw.1.cell 0; have x1 : w'.cell? ⟨ga, 1, none⟩ = some (.int .u64 1) := hSw.1.cell 1; have x2 : w'.cell? ⟨ga, 2, none⟩ = some (.int .u64 (IntKind.u64.wrap (c 0 1 + 1))) := hSw.1.cell 2; have x3 : w'.cell? ⟨ga, 3, none⟩ = some (.int .i64 0) := hSw.1.cell 3; have x4 : w'.cell? ⟨ga, 4, none⟩ = some (.int .i64 0) := hSw.1.cell 4; go_simp; try with_reducible rfl)
          try simp only [Act.put, List.setIfInBounds_toArray, List.set_cons_zero, List.set_cons_succ]
          refine wpAnyH_take (i := 1) (oi := ⟨_, _, _, _, _, _⟩) (v := ?v1) rfl (by kernel_rfl) (by kernel_rfl) (by kernel_rfl) (fun _ _ _ h => h) (Or.inl ⟨by rfl, ?hy1⟩) hHeld ?rest1
          case hy1 => (intro w' hSw; have y0 : w'.cell? ⟨gb, 0, none⟩ = some (.int .i8 0) := hSw.2.cell 0; have y1 : w'.cell? ⟨gb, 1, none⟩ = some (.int .u64 1) := hSw.2.cell 1; have y2 : w'.cell? ⟨gb, 2, none⟩ = some (.int .u64 (IntKind.u64.wrap (c 0 1 + 1))) := hSw.2.cell 2; have y3 : w'.cell? ⟨gb, 3, none⟩ = some (.int .i64 0) := hSw.2.cell 3; have y4 : w'.cell? ⟨gb, 4, none⟩ = some (.int .i64 0) := hSw.2.cell 4; go_simp; try with_reducible rfl)
          try simp only [Act.put, List.setIfInBounds_toArray, List.set_cons_zero, List.set_cons_succ]
          refine wpAnyH_take (i := 2) (oi := ⟨_, _, _, _, _, _⟩) (v := ?v2) rfl (by kernel_rfl) (by kernel_rfl) (by kernel_rfl) (fun _ _ _ h => h) (Or.inl ⟨by rfl, ?hy2⟩) hHeld ?rest2
          case hy2 => (intro w' hSw; go_simp; try with_reducible rfl)
          try simp only [Act.put, List.setIfInBounds_toArray, List.set_cons_zero, List.set_cons_succ]
          refine wpAnyH_take (i := 3) (oi := ⟨_, _, _, _, _, _⟩) (v := ?v3) rfl (by kernel_rfl) (by kernel_rfl) (by kernel_rfl) (fun _ _ _ h => h) (Or.inl ⟨by rfl, ?hy3⟩) hHeld ?rest3
          case hy3 => (intro w' hSw; go_simp; try with_reducible rfl)
          try simp only [Act.put, List.setIfInBounds_toArray, List.set_cons_zero, List.set_cons_succ]
          refine wpAnyH_take (i := 4) (oi := ⟨_, _, _, _, _, _⟩) (v := ?v4) rfl (by kernel_rfl) (by kernel_rfl) (by kernel_rfl) (fun _ _ _ h => h) (Or.inl ⟨by rfl, ?hy4⟩) hHeld ?rest4
          case hy4 => (intro w' hSw; go_simp; try with_reducible rfl)
          try simp only [Act.put, List.setIfInBounds_toArray, List.set_cons_zero, List.set_cons_succ]
          refine wpAnyH_take (i := 5) (oi := ⟨_, _, _, _, _, _⟩) (v := ?v5) rfl (by kernel_rfl) (by kernel_rfl) (by kernel_rfl) (fun _ _ _ h => h) (Or.inl ⟨by rfl, ?hy5⟩) hHeld ?rest5
          case hy5 => (intro w' hSw; go_simp; try with_reducible rfl)
          try simp only [Act.put, List.setIfInBounds_toArray, List.set_cons_zero, List.set_cons_succ]
          refine wpAnyH_take (i := 6) (oi := ⟨_, _, _, _, _, _⟩) (v := ?v6) rfl (by kernel_rfl) (by kernel_rfl) (by kernel_rfl) (fun _ _ _ h => h) (Or.inl ⟨by rfl, ?hy6⟩) hHeld ?rest6
          case hy6 => (intro w' hSw; go_simp; try with_reducible rfl)
          try simp only [Act.put, List.setIfInBounds_toArray, List.set_cons_zero, List.set_cons_succ]
          refine wpAnyH_take (i := 7) (oi := ⟨_, _, _, _, _, _⟩) (v := ?v7) rfl (by kernel_rfl) (by kernel_rfl) (by kernel_rfl) (fun _ _ _ h => h) (Or.inl ⟨by rfl, ?hy7⟩) hHeld ?rest7
          case hy7 => (intro w' hSw; go_simp; try with_reducible rfl)
          try simp only [Act.put, List.setIfInBounds_toArray, List.set_cons_zero, List.set_cons_succ]
          refine wpAnyH_take (i := 8) (oi := ⟨_, _, _, _, _, _⟩) (v := ?v8) rfl (by kernel_rfl) (by kernel_rfl) (by kernel_rfl) (fun _ _ _ h => h) (Or.inl ⟨by rfl, ?hy8⟩) hHeld ?rest8
          case hy8 => (intro w' hSw; go_simp; try with_reducible rfl)
          try simp only [Act.put, List.setIfInBounds_toArray, List.set_cons_zero, List.set_cons_succ]
          refine wpAnyH_take (i := 9) (oi := ⟨_, _, _, _, _, _⟩) (v := ?v9) rfl (by kernel_rfl) (by kernel_rfl) (by kernel_rfl) (fun _ _ _ h => h) (Or.inl ⟨by rfl, ?hy9⟩) hHeld ?rest9
          case hy9 => (intro w' hSw; go_simp; try with_reducible rfl)
          try simp only [Act.put, List.setIfInBounds_toArray, List.set_cons_zero, List.set_cons_succ]
          refine wpAnyH_take (i := 10) (oi := ⟨_, _, _, _, _, _⟩) (v := ?v10) rfl (by kernel_rfl) (by kernel_rfl) (by kernel_rfl) (fun _ _ _ h => h) (Or.inl ⟨by rfl, ?hy10⟩) hHeld ?rest10
          case hy10 => (intro w' hSw; have x0 : w'.cell? ⟨ga, 0, none⟩ = some (.int .i8 0) := hSw.1.cell 0; have x1 : w'.cell? ⟨ga, 1, none⟩ = some (.int .u64 1) := hSw.1.cell 1; have x2 : w'.cell? ⟨ga, 2, none⟩ = some (.int .u64 (IntKind.u64.wrap (c 0 1 + 1))) := hSw.1.cell 2; have x3 : w'.cell? ⟨ga, 3, none⟩ = some (.int .i64 0) := hSw.1.cell 3; have x4 : w'.cell? ⟨ga, 4, none⟩ = some (.int .i64 0) := hSw.1.cell 4; go_simp; try with_reducible rfl)
          try simp only [Act.put, List.setIfInBounds_toArray, List.set_cons_zero, List.set_cons_succ]
          refine wpAnyH_take (i := 12) (oi := ⟨_, _, _, _, _, _⟩) (v := ?v12) rfl (by kernel_rfl) (by kernel_rfl) (by kernel_rfl) (fun _ _ _ h => h) (Or.inl ⟨by rfl, ?hy12⟩) hHeld ?rest12
          case hy12 => (intro w' hSw; go_simp; try with_reducible rfl)
          try simp only [Act.put, List.setIfInBounds_toArray, List.set_cons_zero, List.set_cons_succ]
          refine wpAnyH_take (i := 13) (oi := ⟨_, _, _, _, _, _⟩) (v := ?v13) rfl (by kernel_rfl) (by kernel_rfl) (by kernel_rfl) (fun _ _ _ h => h) (Or.inl ⟨by rfl, ?hy13⟩) hHeld ?rest13
          case hy13 => (intro w' hSw; have y0 : w'.cell? ⟨gb, 0, none⟩ = some (.int .i8 0) := hSw.2.cell 0; have y1 : w'.cell? ⟨gb, 1, none⟩ = some (.int .u64 1) := hSw.2.cell 1; have y2 : w'.cell? ⟨gb, 2, none⟩ = some (.int .u64 (IntKind.u64.wrap (c 0 1 + 1))) := hSw.2.cell 2; have y3 : w'.cell? ⟨gb, 3, none⟩ = some (.int .i64 0) := hSw.2.cell 3; have y4 : w'.cell? ⟨gb, 4, none⟩ = some (.int .i64 0) := hSw.2.cell 4; go_simp; try with_reducible rfl)
          try simp only [Act.put, List.setIfInBounds_toArray, List.set_cons_zero, List.set_cons_succ]
          refine wpAnyH_ready (rs := [11]) (by kernel_rfl) (by simp) ?_
          refine AllReadyH.cons (o := ⟨_, _, _, _, _, _⟩) rfl (fun K hK => ?_) AllReadyH.nil
          go_simp
          refine (reach_word p 1 kk 0 1 1 _ 0 0 _ F _ hP.mem.drew (by omega) (by omega) ⟨by omega, by omega⟩ (by decide) (by decide) (by omega)).mono ?_
          rintro e W1 ⟨rfl, F1, k1, m1, m2, m3, m4, m5⟩
          have HS1 := Lib.hid (And.intro (hHeld.1.keep m3 HNa.out.1) (hHeld.2.keep m3 HNb.out.1))
          have hP1 := (hP.call (bd (Below.refl _ _))).one m1 m3 m4
          clear m1 m3 m4 m5 hHeld hP
          go_wp2_with fail
          refine hK.out _ _ HS1.out (fun hHeld => ?_)
          clear hK K
          try simp only [Act.put, List.setIfInBounds_toArray, List.set_cons_zero, List.set_cons_succ]
          refine wpAnyH_ready (rs := [14]) (by kernel_rfl) (by simp) ?_
          refine AllReadyH.cons (o := ⟨_, _, _, _, _, _⟩) rfl (fun K hK => ?_) AllReadyH.nil
          go_simp
          refine (rreach_word q 1 0 1 1 _ 0 0 _ G _ hP1.ref (by omega) ⟨by omega, by omega⟩ (by decide) (by decide) (by omega)).mono ?_
          rintro e W2 ⟨rfl, G2, m1, m3, m4, m5⟩
          have HS2 := Lib.hid (And.intro (hHeld.1.keep m3 HNa.out.2) (hHeld.2.keep m3 HNb.out.2))
          have hP := hP1.two m1 m3 m4
          clear m1 m3 m4 m5 hHeld hP1
          go_wp2_with fail
          refine hK.out _ _ HS2.out (fun hHeld => ?_)
          clear hK K
          try simp only [Act.put, List.setIfInBounds_toArray, List.set_cons_zero, List.set_cons_succ]
          refine wpAnyH_take (i := 15) (oi := ⟨_, _, _, _, _, _⟩) (v := ?v15) rfl (by kernel_rfl) (by kernel_rfl) (by kernel_rfl) (fun _ _ _ h => h) (Or.inl ⟨by rfl, ?hy15⟩) hHeld ?rest15
          case hy15 => (intro w' hSw; go_simp; try with_reducible rfl)
          try simp only [Act.put, List.setIfInBounds_toArray, List.set_cons_zero, List.set_cons_succ]
          refine wpAnyH_take (i := 16) (oi := ⟨_, _, _, _, _, _⟩) (v := ?v16) rfl (by kernel_rfl) (by kernel_rfl) (by kernel_rfl) (fun _ _ _ h => h) (Or.inl ⟨by rfl, ?hy16⟩) hHeld ?rest16
          case hy16 => (intro w' hSw; go_simp; try with_reducible rfl)
          try simp only [Act.put, List.setIfInBounds_toArray, List.set_cons_zero, List.set_cons_succ]
          refine wpAnyH_done (by kernel_rfl) ?_ _
          clear hHeld HS HS1 HS2
          go_wp2_with fail
          refine (lServed_any p 1 _ t _ _ _ hP.mem (by omega) (by omega)).mono ?_
          rintro e wa ⟨rfl, hb⟩
          replace hP := hP.call hb
          clear hb
          go_wp2_with fail
          refine (rServed_any q 1 t _ _ _ hP.ref (by omega) (by omega)).mono ?_
          rintro e wb ⟨rfl, rfl⟩
          go_wp2_with fail
          refine (lWaiting_any p 1 _ _ _ _ hP.mem (by omega) (by omega)).mono ?_
          rintro e wc ⟨rfl, hb⟩
          rw [wt_eq]
          replace hP := hP.call hb
          clear hb
          go_wp2_with fail
          refine (rWaiting_any q 1 _ _ _ hP.ref (by omega) (by omega)).mono ?_
          rintro e wd ⟨rfl, rfl⟩
          go_wp2_with fail
          go_roundw
          case rel => exact ⟨k + 1, _, _, _, _, by go_num, by omega, by omega, hP⟩
          case measure => simp [intOf]; omega
      · have hz0 : zs k = 0 := by simpa using h0
        rw [hz0] at cz
        clear h0
        go_wp2_with fail
        refine (lTake_any p 1 kk _ _ _ HP.out.mem (by omega) (by omega) (by omega)).mono ?_
        rintro e we ⟨rfl, F1, k1, m1, m2, m3, m4, m5⟩
        have hP1 := HP.out.one m1 m3 m4
        clear m1 m3 m4 m5 HP
        go_wp2_with fail
        refine (rTake_any q 1 _ _ _ hP1.ref (by omega) (by omega)).mono ?_
        rintro e wf ⟨rfl, G1, m1, m3, m4, m5⟩
        have hP := hP1.two m1 m3 m4
        clear m1 m3 m4 m5 hP1
        go_wp2_with fail
        refine (lServed_any p 1 _ t _ _ _ hP.mem (by omega) (by omega)).mono ?_
        rintro e wa ⟨rfl, hb⟩
        replace hP := hP.call hb
        clear hb
        go_wp2_with fail
        refine (rServed_any q 1 t _ _ _ hP.ref (by omega) (by omega)).mono ?_
        rintro e wb ⟨rfl, rfl⟩
        go_wp2_with fail
        refine (lWaiting_any p 1 _ _ _ _ hP.mem (by omega) (by omega)).mono ?_
        rintro e wc ⟨rfl, hb⟩
        rw [wt_eq]
        replace hP := hP.call hb
        clear hb
        go_wp2_with fail
        refine (rWaiting_any q 1 _ _ _ hP.ref (by omega) (by omega)).mono ?_
        rintro e wd ⟨rfl, rfl⟩
        go_wp2_with fail
        go_roundw
        case rel => exact ⟨k + 1, _, _, _, _, by go_num, by omega, by omega, hP⟩
        case measure => simp [intOf]; omega
    · have HP := Lib.hid hP
      clear hP
      go_wp2_with fail
      refine (wakes18_any _).mono ?_
      rintro e wz ⟨rfl, hb⟩
      go_wp2_with fail
      go_ret
      exact ⟨rfl, bthen HP.out.below hb⟩
theorem lockPlays_any (nx sv t : Int) (w : World) (O : Option Addr) (len cap : Nat) (zs : Nat → Int) (hI : Ints w O len zs) (hc : len ≤ cap) (hm : len ≤ maxLen) :
    Calls Try.prog 7 #[.int .u64 nx, .int .u64 sv, .int .u64 t, .slice O len cap] w fun e w' => e = .returned (.bool true) ∧ Below w.heap.size w w' := by
  by_cases hl : len ≤ 100
  · exact lockPlays_few nx sv t w O len cap zs hl hI hc
  · have h2 : 100 < len := by omega
    unfold maxLen at hm
    clear hl hI
    go_enter Try.func7, Try.ntmps7
    go_wp2_with fail
    refine (wakes18_any _).mono ?_
    rintro e wz ⟨rfl, hb⟩
    go_wp2_with fail
    go_ret
    exact ⟨rfl, hb⟩
end Go.Proofs.Ytlhbofgcgfbchaa
