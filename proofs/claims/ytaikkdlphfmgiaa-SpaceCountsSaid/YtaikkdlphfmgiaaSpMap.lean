/-
  space.Map: its walk.
-/
import Derived.Test.YtaikkdlphfmgiaaSpMapP
import Derived.Test.YtaikkdlphfmgiaaSpPgs
namespace Go.Proofs.Ytaikkdlphfmgiaa
open Go.RowKit
set_option linter.unusedVariables false
set_option linter.unusedSimpArgs false
set_option maxHeartbeats 4000000 in
set_option maxRecDepth 100000 in
theorem map_any (O : Option Addr) (len cap : Nat) (l : List Reg) (r : Reg) (w : World) (hI : RegsK w O l) (hl : l.length = len) (hcap : len ≤ cap) (hwf : ∀ i, i < len → (rg l i).wf) (hr : r.wf) :
    Calls Try.prog 8 #[.slice O len cap, gV r] w fun e w' => Told w w' e (mapE l r) (insR l r) := by
  have HI := Lib.hid hI
  have HL := Lib.hid hl
  have HW := Lib.hid hwf
  obtain ⟨⟨f0, f1⟩, c0, c1⟩ := hr
  clear hI hl hwf
  have HA0 := Lib.hid (Arr.new w #[.int .u64 r.f, .int .i64 r.c, .bool r.w] 25)
  have HB0 := Lib.hid (ba (Below.refl w.heap.size w) (.cells #[.int .u64 r.f, .int .i64 r.c, .bool r.w] 25))
  unfold gV
  go_enter Try.func8, Try.ntmps8
  go_wp2_with fail
  generalize w.alloc (.cells #[.int .u64 r.f, .int .i64 r.c, .bool r.w] 25) = W0 at *
  refine (spCheck_any O len cap l _ (HI.out.call HB0.out) HL.out hcap HW.out).mono ?_
  rintro e w1 ⟨rfl, hb1⟩
  have HA1 := Lib.hid (HA0.out.call hb1)
  have HB1 := Lib.hid (bthen HB0.out hb1)
  have HX1 := Lib.hid hb1
  clear hb1
  rcases hck : chk l with _ | _
  · have HV := Lib.hid (show ckV l = 2 by simp [ckV, hck])
    have HE := Lib.hid (show mapE l r = 2 by simp [mapE, hck])
    clear hck
    rw [HV.out]
    go_wp2_with fail
    refine bodyPost_ret (results_tmp2 rfl _ _ _) rfl ?_
    rw [HE.out]
    exact Told.no _ (by omega) HB1.out
  have HV := Lib.hid (show ckV l = 0 by simp [ckV, hck])
  have HCK := Lib.hid hck
  have hch := (chk_parts hck).2.1
  have h8' : len ≤ 8 := by have := (chk_parts hck).1; have := HL.out; omega
  have HCH := Lib.hid hch
  have HPB := Lib.hid (show ∀ k, k < len → 0 ≤ (rg l k).c ∧ (rg l k).c ≤ 34359738368 from fun k hk => by have := chain_at l 0 hch k (by have := HL.out; omega); omega)
  have HPG := Lib.hid (show 0 ≤ pgs l ∧ pgs l ≤ 16 from ⟨chain_pgs l 0 hch, (chk_parts hck).2.2⟩)
  clear hck hch
  rw [HV.out]
  have z0 := HA1.out.cell 0 _ rfl
  have z1 := HA1.out.cell 1 _ rfl
  go_wp2_with fail
  rcases he : eB r.f r.c with _ | _
  · have HE := Lib.hid (show mapE l r = 190 by simp [mapE, HCK.out, he])
    refine (spEnd_no r.f r.c _ ⟨f0, f1⟩ ⟨c0, c1⟩ he).mono ?_
    rintro e w2 ⟨rfl, rfl⟩
    clear he
    go_wp2_with fail
    refine bodyPost_ret (results_tmp2 rfl _ _ _) rfl ?_
    rw [HE.out]
    exact Told.no _ (by omega) HB1.out
  obtain ⟨e1, e2, e3⟩ := (eB_iff r.f r.c).1 he
  have HEB := Lib.hid he
  refine (spEnd_yes r.f r.c _ ⟨f0, f1⟩ he).mono ?_
  rintro e w2 ⟨rfl, rfl⟩
  clear he
  go_wp2_with fail
  refine (spPlace_any O len cap r.f l _ (HI.out.call HB1.out) HL.out hcap h8' HCH.out).mono ?_
  rintro e w3 ⟨k, rfl, hk, hb3⟩
  have HA3 := Lib.hid (HA1.out.call hb3)
  have HB3 := Lib.hid (bthen HB1.out hb3)
  have HX3 := Lib.hid (bthen HX1.out hb3)
  have HK := Lib.hid hk
  have hkl : k ≤ len := by have := HL.out; have := hk.1; omega
  clear hb3 hk z0 z1 HA1 HB1 HX1
  go_upto_region 8 with fail
  go_cut [41] from 29 to 42 (fun v41 wx => v41 = .bool (decide (k < len ∧ (rg l k).f < r.f + r.c)) ∧ wx = w3)
  case first =>
    by_cases hkn : k < len
    · obtain ⟨b, off, rfl, hc⟩ := (HI.out.call HB3.out) (by have := HL.out; omega)
      obtain ⟨d0, d1, d2⟩ := hc k (by have := HL.out; omega)
      clear hc
      go_wp2_with fail
      go_meet
      case rel => exact ⟨by simp [hkn], rfl⟩
    · go_wp2_with fail
      go_meet
      case rel => exact ⟨by simp [hkn], rfl⟩
  case rest =>
    obtain ⟨rfl, rfl⟩ := hcut
    by_cases hov : k < len ∧ (rg l k).f < r.f + r.c
    · have HE := Lib.hid (show mapE l r = 190 by simp [mapE, HCK.out, HEB.out, ovl_plc_yes HK.out (by have := HL.out; omega) hov.2])
      rw [decide_eq_true hov]
      go_wp2_with fail
      refine bodyPost_ret (results_tmp2 rfl _ _ _) rfl ?_
      rw [HE.out]
      exact Told.no _ (by omega) HB3.out
    have hnk : k < l.length → ¬ (rg l k).f < r.f + r.c := fun h1 h2 => hov ⟨by have := HL.out; omega, h2⟩
    have HOV := Lib.hid (ovl_plc_no HCH.out HK.out hnk)
    have HINS := Lib.hid (insR_plc HCH.out HK.out hnk e1)
    rw [decide_eq_false hov]
    have p0 := HPG.out.1
    have p1 := HPG.out.2
    have hw : IntKind.i64.wrap (pgs l + r.c) = pgs l + r.c := by rw [IntKind.wrap_i64]; omega
    clear hov hnk
    go_upto_region 10 with fail
    by_cases hbig : 16 < pgs l + r.c
    · have hdec : decide (16 < pgs l + r.c) = true := by simpa using hbig
      rename_i hKJ
      have hKJ := Lib.hid hKJ
      refine wp_region_held_drew (S := fun w' => Arr w' w.heap.size [.int .u64 r.f, .int .i64 r.c, .bool r.w]) (by kernel_rfl) HA3.out.drew (fun hHeld => ?_)
      refine wpAnyH_take (i := 0) (oi := ⟨_, _, _, _, _, _⟩) (v := ?v0x1) rfl (by kernel_rfl) (by kernel_rfl) (by kernel_rfl) (fun _ _ _ h => h) (Or.inl ⟨by rfl, ?hy0x1⟩) hHeld ?rest0x1
      case hy0x1 => (intro w' hSw; go_simp; try with_reducible rfl)
      try simp only [Act.put, List.setIfInBounds_toArray, List.set_cons_zero, List.set_cons_succ]
      refine wpAnyH_take (i := 2) (oi := ⟨_, _, _, _, _, _⟩) (v := ?v2x2) rfl (by kernel_rfl) (by kernel_rfl) (by kernel_rfl) (fun _ _ _ h => h) (Or.inl ⟨by rfl, ?hy2x2⟩) hHeld ?rest2x2
      case hy2x2 => (intro w' hSw; go_simp; try with_reducible rfl)
      try simp only [Act.put, List.setIfInBounds_toArray, List.set_cons_zero, List.set_cons_succ]
      refine wpAnyH_take (i := 3) (oi := ⟨_, _, _, _, _, _⟩) (v := ?v3x3) rfl (by kernel_rfl) (by kernel_rfl) (by kernel_rfl) (fun _ _ _ h => h) (Or.inl ⟨by rfl, ?hy3x3⟩) hHeld ?rest3x3
      case hy3x3 => (intro w' hSw; have z0 := hSw.cell 0 _ rfl; have z1 := hSw.cell 1 _ rfl; have z2 := hSw.cell 2 _ rfl; go_simp; try with_reducible rfl)
      try simp only [Act.put, List.setIfInBounds_toArray, List.set_cons_zero, List.set_cons_succ]
      refine wpAnyH_ready (rs := [1]) (by kernel_rfl) (by simp) ?_
      refine AllReadyH.cons (o := ⟨_, _, _, _, _, _⟩) rfl (fun K hK => ?_) AllReadyH.nil
      go_simp
      refine (spPages_any O len cap l _ (HI.out.call (bd HB3.out)) HL.out hcap (by omega) (fun k hk => HPB.out k hk)).mono ?_
      rintro e w4 ⟨rfl, hb4⟩
      have HA4 := Lib.hid (HA3.out.drew.call hb4)
      have HB4 := Lib.hid (bthen (bd HB3.out) hb4)
      have HX4 := Lib.hid (bthen (bd HX3.out) hb4)
      clear hb4 HA3 HB3 HX3
      go_wp2_with fail
      refine hK.out _ _ HA4.out (fun hHeld => ?_)
      clear hK K
      try simp only [Act.put, List.setIfInBounds_toArray, List.set_cons_zero, List.set_cons_succ]
      refine wpAnyH_take (i := 4) (oi := ⟨_, _, _, _, _, _⟩) (v := ?v4x4) rfl (by kernel_rfl) (by kernel_rfl) (by kernel_rfl) (fun _ _ _ h => h) (Or.inl ⟨by rfl, ?hy4x4⟩) hHeld ?rest4x4
      case hy4x4 => (intro w' hSw; go_simp; try with_reducible rfl)
      try simp only [Act.put, List.setIfInBounds_toArray, List.set_cons_zero, List.set_cons_succ]
      refine wpAnyH_take (i := 5) (oi := ⟨_, _, _, _, _, _⟩) (v := ?v5x5) rfl (by kernel_rfl) (by kernel_rfl) (by kernel_rfl) (fun _ _ _ h => h) (Or.inl ⟨by rfl, ?hy5x5⟩) hHeld ?rest5x5
      case hy5x5 => (intro w' hSw; go_simp; try with_reducible rfl)
      try simp only [Act.put, List.setIfInBounds_toArray, List.set_cons_zero, List.set_cons_succ]
      try simp only [hw, hdec]
      refine wpAnyH_take (i := 6) (oi := ⟨_, _, _, _, _, _⟩) (v := ?v6x6) rfl (by kernel_rfl) (by kernel_rfl) (by kernel_rfl) (fun _ _ _ h => h) (Or.inl ⟨by rfl, ?hy6x6⟩) hHeld ?rest6x6
      case hy6x6 => (intro w' hSw; go_simp; try with_reducible rfl)
      try simp only [Act.put, List.setIfInBounds_toArray, List.set_cons_zero, List.set_cons_succ]
      refine wpAnyH_take (i := 7) (oi := ⟨_, _, _, _, _, _⟩) (v := undef) rfl (by kernel_rfl) (by kernel_rfl) (by kernel_rfl) (fun _ _ _ h => h) (Or.inr ⟨by rfl, rfl⟩) hHeld ?_
      try simp only [Act.put, List.setIfInBounds_toArray, List.set_cons_zero, List.set_cons_succ]
      refine wpAnyH_take (i := 8) (oi := ⟨_, _, _, _, _, _⟩) (v := undef) rfl (by kernel_rfl) (by kernel_rfl) (by kernel_rfl) (fun _ _ _ h => h) (Or.inr ⟨by rfl, rfl⟩) hHeld ?_
      try simp only [Act.put, List.setIfInBounds_toArray, List.set_cons_zero, List.set_cons_succ]
      refine wpAnyH_take (i := 9) (oi := ⟨_, _, _, _, _, _⟩) (v := undef) rfl (by kernel_rfl) (by kernel_rfl) (by kernel_rfl) (fun _ _ _ h => h) (Or.inr ⟨by rfl, rfl⟩) hHeld ?_
      try simp only [Act.put, List.setIfInBounds_toArray, List.set_cons_zero, List.set_cons_succ]
      refine wpAnyH_take (i := 10) (oi := ⟨_, _, _, _, _, _⟩) (v := undef) rfl (by kernel_rfl) (by kernel_rfl) (by kernel_rfl) (fun _ _ _ h => h) (Or.inr ⟨by rfl, rfl⟩) hHeld ?_
      try simp only [Act.put, List.setIfInBounds_toArray, List.set_cons_zero, List.set_cons_succ]
      refine wpAnyH_take (i := 11) (oi := ⟨_, _, _, _, _, _⟩) (v := ?v11x7) rfl (by kernel_rfl) (by kernel_rfl) (by kernel_rfl) (fun _ _ _ h => h) (Or.inl ⟨by rfl, ?hy11x7⟩) hHeld ?rest11x7
      case hy11x7 => (intro w' hSw; go_simp; try with_reducible rfl)
      try simp only [Act.put, List.setIfInBounds_toArray, List.set_cons_zero, List.set_cons_succ]
      refine wpAnyH_done (by kernel_rfl) ?_ _
      refine hKJ.out _ _ ?_
      clear hKJ
      have HE := Lib.hid (show mapE l r = 20 by unfold mapE; rw [HCK.out, HEB.out, HOV.out, if_pos rfl, if_pos rfl, if_neg (by simp), if_neg (by omega)])
      go_wp2_with fail
      refine bodyPost_ret (results_tmp2 rfl _ _ _) rfl ?_
      rw [HE.out]
      exact Told.no _ (by omega) HB4.out
    · have hdec : decide (16 < pgs l + r.c) = false := by simpa using hbig
      rename_i hKJ
      have hKJ := Lib.hid hKJ
      refine wp_region_held_drew (S := fun w' => Arr w' w.heap.size [.int .u64 r.f, .int .i64 r.c, .bool r.w]) (by kernel_rfl) HA3.out.drew (fun hHeld => ?_)
      refine wpAnyH_take (i := 0) (oi := ⟨_, _, _, _, _, _⟩) (v := ?v0x8) rfl (by kernel_rfl) (by kernel_rfl) (by kernel_rfl) (fun _ _ _ h => h) (Or.inl ⟨by rfl, ?hy0x8⟩) hHeld ?rest0x8
      case hy0x8 => (intro w' hSw; go_simp; try with_reducible rfl)
      try simp only [Act.put, List.setIfInBounds_toArray, List.set_cons_zero, List.set_cons_succ]
      refine wpAnyH_take (i := 2) (oi := ⟨_, _, _, _, _, _⟩) (v := ?v2x9) rfl (by kernel_rfl) (by kernel_rfl) (by kernel_rfl) (fun _ _ _ h => h) (Or.inl ⟨by rfl, ?hy2x9⟩) hHeld ?rest2x9
      case hy2x9 => (intro w' hSw; go_simp; try with_reducible rfl)
      try simp only [Act.put, List.setIfInBounds_toArray, List.set_cons_zero, List.set_cons_succ]
      refine wpAnyH_take (i := 3) (oi := ⟨_, _, _, _, _, _⟩) (v := ?v3x10) rfl (by kernel_rfl) (by kernel_rfl) (by kernel_rfl) (fun _ _ _ h => h) (Or.inl ⟨by rfl, ?hy3x10⟩) hHeld ?rest3x10
      case hy3x10 => (intro w' hSw; have z0 := hSw.cell 0 _ rfl; have z1 := hSw.cell 1 _ rfl; have z2 := hSw.cell 2 _ rfl; go_simp; try with_reducible rfl)
      try simp only [Act.put, List.setIfInBounds_toArray, List.set_cons_zero, List.set_cons_succ]
      refine wpAnyH_ready (rs := [1]) (by kernel_rfl) (by simp) ?_
      refine AllReadyH.cons (o := ⟨_, _, _, _, _, _⟩) rfl (fun K hK => ?_) AllReadyH.nil
      go_simp
      refine (spPages_any O len cap l _ (HI.out.call (bd HB3.out)) HL.out hcap (by omega) (fun k hk => HPB.out k hk)).mono ?_
      rintro e w4 ⟨rfl, hb4⟩
      have HA4 := Lib.hid (HA3.out.drew.call hb4)
      have HB4 := Lib.hid (bthen (bd HB3.out) hb4)
      have HX4 := Lib.hid (bthen (bd HX3.out) hb4)
      clear hb4 HA3 HB3 HX3
      go_wp2_with fail
      refine hK.out _ _ HA4.out (fun hHeld => ?_)
      clear hK K
      try simp only [Act.put, List.setIfInBounds_toArray, List.set_cons_zero, List.set_cons_succ]
      refine wpAnyH_take (i := 4) (oi := ⟨_, _, _, _, _, _⟩) (v := ?v4x11) rfl (by kernel_rfl) (by kernel_rfl) (by kernel_rfl) (fun _ _ _ h => h) (Or.inl ⟨by rfl, ?hy4x11⟩) hHeld ?rest4x11
      case hy4x11 => (intro w' hSw; go_simp; try with_reducible rfl)
      try simp only [Act.put, List.setIfInBounds_toArray, List.set_cons_zero, List.set_cons_succ]
      refine wpAnyH_take (i := 5) (oi := ⟨_, _, _, _, _, _⟩) (v := ?v5x12) rfl (by kernel_rfl) (by kernel_rfl) (by kernel_rfl) (fun _ _ _ h => h) (Or.inl ⟨by rfl, ?hy5x12⟩) hHeld ?rest5x12
      case hy5x12 => (intro w' hSw; go_simp; try with_reducible rfl)
      try simp only [Act.put, List.setIfInBounds_toArray, List.set_cons_zero, List.set_cons_succ]
      try simp only [hw, hdec]
      refine wpAnyH_take (i := 6) (oi := ⟨_, _, _, _, _, _⟩) (v := ?v6x13) rfl (by kernel_rfl) (by kernel_rfl) (by kernel_rfl) (fun _ _ _ h => h) (Or.inl ⟨by rfl, ?hy6x13⟩) hHeld ?rest6x13
      case hy6x13 => (intro w' hSw; go_simp; try with_reducible rfl)
      try simp only [Act.put, List.setIfInBounds_toArray, List.set_cons_zero, List.set_cons_succ]
      refine wpAnyH_take (i := 7) (oi := ⟨_, _, _, _, _, _⟩) (v := ?v7x14) rfl (by kernel_rfl) (by kernel_rfl) (by kernel_rfl) (fun _ _ _ h => h) (Or.inl ⟨by rfl, ?hy7x14⟩) hHeld ?rest7x14
      case hy7x14 => (intro w' hSw; go_simp; try with_reducible rfl)
      try simp only [Act.put, List.setIfInBounds_toArray, List.set_cons_zero, List.set_cons_succ]
      refine wpAnyH_take (i := 8) (oi := ⟨_, _, _, _, _, _⟩) (v := ?v8x15) rfl (by kernel_rfl) (by kernel_rfl) (by kernel_rfl) (fun _ _ _ h => h) (Or.inl ⟨by rfl, ?hy8x15⟩) hHeld ?rest8x15
      case hy8x15 => (intro w' hSw; go_simp; try with_reducible rfl)
      try simp only [Act.put, List.setIfInBounds_toArray, List.set_cons_zero, List.set_cons_succ]
      refine wpAnyH_take (i := 9) (oi := ⟨_, _, _, _, _, _⟩) (v := ?v9x16) rfl (by kernel_rfl) (by kernel_rfl) (by kernel_rfl) (fun _ _ _ h => h) (Or.inl ⟨by rfl, ?hy9x16⟩) hHeld ?rest9x16
      case hy9x16 => (intro w' hSw; go_simp; try with_reducible rfl)
      try simp only [Act.put, List.setIfInBounds_toArray, List.set_cons_zero, List.set_cons_succ]
      refine wpAnyH_take (i := 10) (oi := ⟨_, _, _, _, _, _⟩) (v := ?v10x17) rfl (by kernel_rfl) (by kernel_rfl) (by kernel_rfl) (fun _ _ _ h => h) (Or.inl ⟨by rfl, ?hy10x17⟩) hHeld ?rest10x17
      case hy10x17 => (intro w' hSw; go_simp; try with_reducible rfl)
      try simp only [Act.put, List.setIfInBounds_toArray, List.set_cons_zero, List.set_cons_succ]
      refine wpAnyH_take (i := 11) (oi := ⟨_, _, _, _, _, _⟩) (v := ?v11x18) rfl (by kernel_rfl) (by kernel_rfl) (by kernel_rfl) (fun _ _ _ h => h) (Or.inl ⟨by rfl, ?hy11x18⟩) hHeld ?rest11x18
      case hy11x18 => (intro w' hSw; go_simp; try with_reducible rfl)
      try simp only [Act.put, List.setIfInBounds_toArray, List.set_cons_zero, List.set_cons_succ]
      refine wpAnyH_done (by kernel_rfl) ?_ _
      refine hKJ.out _ _ ?_
      clear hKJ
      by_cases h7 : len < 8
      · have HE := Lib.hid (show mapE l r = 0 by unfold mapE; rw [HCK.out, HEB.out, HOV.out, if_pos rfl, if_pos rfl, if_neg (by simp), if_pos ⟨by omega, by have := HL.out; omega⟩])
        have hd : decide ((8 : Int) < IntKind.i64.wrap ((len : Int) + 1)) = false := by rw [IntKind.wrap_i64]; simp only [decide_eq_false_iff_not]; omega
        simp only [hd]
        go_upto_region 12 with fail
        clear hd
        rename_i hKJ
        have hKJ := Lib.hid hKJ
        refine wp_region_held_drew (S := fun w' => Arr w' w.heap.size [.int .u64 r.f, .int .i64 r.c, .bool r.w]) (by kernel_rfl) HA4.out.drew (fun hHeld => ?_)
        refine wpAnyH_take (i := 0) (oi := ⟨_, _, _, _, _, _⟩) (v := ?v0x19) rfl (by kernel_rfl) (by kernel_rfl) (by kernel_rfl) (fun _ _ _ h => h) (Or.inl ⟨by rfl, ?hy0x19⟩) hHeld ?rest0x19
        case hy0x19 => (intro w' hSw; go_simp; try with_reducible rfl)
        try simp only [Act.put, List.setIfInBounds_toArray, List.set_cons_zero, List.set_cons_succ]
        refine wpAnyH_take (i := 2) (oi := ⟨_, _, _, _, _, _⟩) (v := ?v2x20) rfl (by kernel_rfl) (by kernel_rfl) (by kernel_rfl) (fun _ _ _ h => h) (Or.inl ⟨by rfl, ?hy2x20⟩) hHeld ?rest2x20
        case hy2x20 => (intro w' hSw; go_simp; try with_reducible rfl)
        try simp only [Act.put, List.setIfInBounds_toArray, List.set_cons_zero, List.set_cons_succ]
        refine wpAnyH_take (i := 3) (oi := ⟨_, _, _, _, _, _⟩) (v := ?v3x21) rfl (by kernel_rfl) (by kernel_rfl) (by kernel_rfl) (fun _ _ _ h => h) (Or.inl ⟨by rfl, ?hy3x21⟩) hHeld ?rest3x21
        case hy3x21 => (intro w' hSw; have z0 := hSw.cell 0 _ rfl; have z1 := hSw.cell 1 _ rfl; have z2 := hSw.cell 2 _ rfl; go_simp; try with_reducible rfl)
        try simp only [Act.put, List.setIfInBounds_toArray, List.set_cons_zero, List.set_cons_succ]
        refine wpAnyH_ready (rs := [1, 4]) (by kernel_rfl) (by simp) ?_
        refine AllReadyH.cons (o := ⟨_, _, _, _, _, _⟩) rfl (fun K hK => ?_) (AllReadyH.cons (o := ⟨_, _, _, _, _, _⟩) rfl (fun K hK => ?_) AllReadyH.nil)
        · go_simp
          refine (srclone_any O len cap l _ (HI.out.call (bd HB4.out)) HL.out hcap (by omega)).mono ?_
          rintro e w5 ⟨v5, rfl, ho5, hb5⟩
          have HO5 := Lib.hid (ho5.less (bd HX4.out).size)
          have HL5 := Lib.hid (fun g hg => (ho5.lt g hg).2)
          have HA5 := Lib.hid (HA4.out.drew.call hb5)
          have HB5 := Lib.hid (bthen (bd HX4.out) hb5)
          clear ho5 hb5
          go_wp2_with fail
          refine hK.out _ _ HA5.out (fun hHeld => ?_)
          clear hK K
          try simp only [Act.put, List.setIfInBounds_toArray, List.set_cons_zero, List.set_cons_succ]
          refine wpAnyH_ready (rs := [4]) (by kernel_rfl) (by simp) ?_
          refine AllReadyH.cons (o := ⟨_, _, _, _, _, _⟩) rfl (fun K hK => ?_) AllReadyH.nil
          go_simp
          have HA6 := Lib.hid (HA5.out.alloc (.cells #[.int .u64 r.f, .int .i64 r.c, .bool r.w] 25))
          have HO6 := Lib.hid (HO5.out.call (ba (Below.refl _ _) (.cells #[.int .u64 r.f, .int .i64 r.c, .bool r.w] 25)))
          have HB6 := Lib.hid (ba HB5.out (.cells #[.int .u64 r.f, .int .i64 r.c, .bool r.w] 25))
          have HR6 := Lib.hid (Bk.new w5 25 #[.int .u64 r.f, .int .i64 r.c, .bool r.w])
          have HNE6 := Lib.hid (show ∀ g, v5.ownBlock = some g → w5.heap.size ≠ g from fun g hg => by have := HL5.out g hg; omega)
          refine hK.out _ _ HA6.out (fun hHeld => ?_)
          clear hK K
          try simp only [Act.put, List.setIfInBounds_toArray, List.set_cons_zero, List.set_cons_succ]
          refine wpAnyH_ready (rs := [5]) (by kernel_rfl) (by simp) ?_
          refine AllReadyH.cons (o := ⟨_, _, _, _, _, _⟩) rfl (fun K hK => ?_) AllReadyH.nil
          go_simp
          refine (insert_any W0 _ l k _ r _ HO6.out HB6.out (by have := HL.out; omega) (by have := HL.out; omega) HR6.out HNE6.out).mono ?_
          rintro e w7 ⟨v7, rfl, ho7, hb7⟩
          have HO7 := Lib.hid ho7
          have HB7 := Lib.hid hb7
          clear ho7 hb7
          go_wp2_with fail
          refine hK.out _ _ (HA0.out.below HB7.out HA0.out.lt) (fun hHeld => ?_)
          clear hK K
          try simp only [Act.put, List.setIfInBounds_toArray, List.set_cons_zero, List.set_cons_succ]
          refine wpAnyH_take (i := 6) (oi := ⟨_, _, _, _, _, _⟩) (v := ?v6x22) rfl (by kernel_rfl) (by kernel_rfl) (by kernel_rfl) (fun _ _ _ h => h) (Or.inl ⟨by rfl, ?hy6x22⟩) hHeld ?rest6x22
          case hy6x22 => (intro w' hSw; go_simp; try with_reducible rfl)
          try simp only [Act.put, List.setIfInBounds_toArray, List.set_cons_zero, List.set_cons_succ]
          refine wpAnyH_take (i := 7) (oi := ⟨_, _, _, _, _, _⟩) (v := ?v7x23) rfl (by kernel_rfl) (by kernel_rfl) (by kernel_rfl) (fun _ _ _ h => h) (Or.inl ⟨by rfl, ?hy7x23⟩) hHeld ?rest7x23
          case hy7x23 => (intro w' hSw; go_simp; try with_reducible rfl)
          try simp only [Act.put, List.setIfInBounds_toArray, List.set_cons_zero, List.set_cons_succ]
          refine wpAnyH_done (by kernel_rfl) ?_ _
          refine hKJ.out _ _ ?_
          go_wp2_with fail
          refine bodyPost_ret (results_tmp2 rfl _ _ _) rfl ?_
          rw [HE.out]
          exact ⟨_, rfl, by unfold okL; rw [if_pos rfl, HINS.out]; exact HO7.out.less HB0.out.size, bthen HB0.out HB7.out⟩
        · go_simp
          have HA5 := Lib.hid (HA4.out.drew.alloc (.cells #[.int .u64 r.f, .int .i64 r.c, .bool r.w] 25))
          have HB5 := Lib.hid (ba (bd HX4.out) (.cells #[.int .u64 r.f, .int .i64 r.c, .bool r.w] 25))
          have HBZ := Lib.hid (ba (bd HB4.out) (.cells #[.int .u64 r.f, .int .i64 r.c, .bool r.w] 25))
          have HR5 := Lib.hid (Bk.new w4.drew 25 #[.int .u64 r.f, .int .i64 r.c, .bool r.w])
          refine hK.out _ _ HA5.out (fun hHeld => ?_)
          clear hK K
          try simp only [Act.put, List.setIfInBounds_toArray, List.set_cons_zero, List.set_cons_succ]
          refine wpAnyH_ready (rs := [1]) (by kernel_rfl) (by simp) ?_
          refine AllReadyH.cons (o := ⟨_, _, _, _, _, _⟩) rfl (fun K hK => ?_) AllReadyH.nil
          go_simp
          refine (srclone_any O len cap l _ (HI.out.call HBZ.out) HL.out hcap (by omega)).mono ?_
          rintro e w5 ⟨v5, rfl, ho5, hb5⟩
          have HA6 := Lib.hid (HA5.out.call hb5)
          have HO6 := Lib.hid (ho5.less HB5.out.size)
          have HNE6 := Lib.hid (show ∀ g, v5.ownBlock = some g → w4.heap.size ≠ g from fun g hg => by have := (ho5.lt g hg).1; simp only [World.size_alloc, World.size_drew] at this; omega)
          have HB6 := Lib.hid (bthen HB5.out hb5)
          have HR6 := Lib.hid (HR5.out.call hb5)
          clear ho5 hb5
          go_wp2_with fail
          refine hK.out _ _ HA6.out (fun hHeld => ?_)
          clear hK K
          try simp only [Act.put, List.setIfInBounds_toArray, List.set_cons_zero, List.set_cons_succ]
          refine wpAnyH_ready (rs := [5]) (by kernel_rfl) (by simp) ?_
          refine AllReadyH.cons (o := ⟨_, _, _, _, _, _⟩) rfl (fun K hK => ?_) AllReadyH.nil
          go_simp
          refine (insert_any W0 _ l k _ r _ HO6.out HB6.out (by have := HL.out; omega) (by have := HL.out; omega) HR6.out HNE6.out).mono ?_
          rintro e w7 ⟨v7, rfl, ho7, hb7⟩
          have HO7 := Lib.hid ho7
          have HB7 := Lib.hid hb7
          clear ho7 hb7
          go_wp2_with fail
          refine hK.out _ _ (HA0.out.below HB7.out HA0.out.lt) (fun hHeld => ?_)
          clear hK K
          try simp only [Act.put, List.setIfInBounds_toArray, List.set_cons_zero, List.set_cons_succ]
          refine wpAnyH_take (i := 6) (oi := ⟨_, _, _, _, _, _⟩) (v := ?v6x24) rfl (by kernel_rfl) (by kernel_rfl) (by kernel_rfl) (fun _ _ _ h => h) (Or.inl ⟨by rfl, ?hy6x24⟩) hHeld ?rest6x24
          case hy6x24 => (intro w' hSw; go_simp; try with_reducible rfl)
          try simp only [Act.put, List.setIfInBounds_toArray, List.set_cons_zero, List.set_cons_succ]
          refine wpAnyH_take (i := 7) (oi := ⟨_, _, _, _, _, _⟩) (v := ?v7x25) rfl (by kernel_rfl) (by kernel_rfl) (by kernel_rfl) (fun _ _ _ h => h) (Or.inl ⟨by rfl, ?hy7x25⟩) hHeld ?rest7x25
          case hy7x25 => (intro w' hSw; go_simp; try with_reducible rfl)
          try simp only [Act.put, List.setIfInBounds_toArray, List.set_cons_zero, List.set_cons_succ]
          refine wpAnyH_done (by kernel_rfl) ?_ _
          refine hKJ.out _ _ ?_
          go_wp2_with fail
          refine bodyPost_ret (results_tmp2 rfl _ _ _) rfl ?_
          rw [HE.out]
          exact ⟨_, rfl, by unfold okL; rw [if_pos rfl, HINS.out]; exact HO7.out.less HB0.out.size, bthen HB0.out HB7.out⟩
      · have HE := Lib.hid (show mapE l r = 20 by unfold mapE; rw [HCK.out, HEB.out, HOV.out, if_pos rfl, if_pos rfl, if_neg (by simp), if_neg (by have := HL.out; omega)])
        have hd : decide ((8 : Int) < IntKind.i64.wrap ((len : Int) + 1)) = true := by rw [IntKind.wrap_i64]; simp only [decide_eq_true_eq]; omega
        simp only [hd]
        go_wp2_with fail
        refine bodyPost_ret (results_tmp2 rfl _ _ _) rfl ?_
        rw [HE.out]
        exact Told.no _ (by omega) HB4.out
end Go.Proofs.Ytaikkdlphfmgiaa
