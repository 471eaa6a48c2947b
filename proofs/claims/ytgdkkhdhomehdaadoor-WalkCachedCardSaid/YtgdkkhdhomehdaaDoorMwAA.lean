/-
  The document's fill (S).
  Layer 12: the steps that a page's walk keeps (printed by gen/wkkept.py).
  The law WalkCached: the walk (printed by gen/wklawc.py).
-/
import Derived.Test.YtgdkkhdhomehdaaDoorMwS
import Derived.Test.YtgdkkhdhomehdaaDoorMwJ
import Derived.Test.YtgdkkhdhomehdaaDoorMwY
namespace Go.Proofs.YtgdkkhdhomehdaaDoor
section
open Go.RowKit
set_option linter.unusedVariables false
set_option linter.unusedSimpArgs false
set_option maxRecDepth 100000 in
set_option maxHeartbeats 16000000 in
theorem rfillS_any (O : Option Addr) (cap : Nat) (xs : List Sb) (ev : Sb) (w : World) (hI : RK encS 4 w O xs) (hcap : xs.length ≤ cap) :
    Calls Tryd.prog 48 #[.slice O xs.length cap, .agg #[.int .i64 ev.a, .int .i8 ev.l, .int .u64 ev.p, .int .i64 ev.f]] w fun e w' => ∃ O' c', e = .returned (.tuple #[.slice O' (filL mayS plS 4 xs ev).length c', .int .i64 (filE mayS plS 4 xs ev)]) ∧ (filL mayS plS 4 xs ev).length ≤ c' ∧ RK encS 4 w' O' (filL mayS plS 4 xs ev) ∧ Below w.heap.size w w' := by
  have HB0 := Lib.hid (ba (Below.refl w.heap.size w) (.cells #[.int .i64 ev.a, .int .i8 ev.l, .int .u64 ev.p, .int .i64 ev.f] 36))
  have HV := Lib.hid (Arr.new w #[.int .i64 ev.a, .int .i8 ev.l, .int .u64 ev.p, .int .i64 ev.f] 36)
  have HI := Lib.hid (hI.call HB0.out)
  clear hI
  obtain ⟨i0, hi, hz0, hz1, hz2⟩ := sbInfo
  go_enter Tryd.func48, Tryd.ntmps48
  go_wp2_with fail
  generalize w.alloc (.cells #[.int .i64 ev.a, .int .i8 ev.l, .int .u64 ev.p, .int .i64 ev.f] 36) = W0 at *
  refine (rcheckS_any O cap xs _ HI.out hcap).mono ?_
  rintro e W1 ⟨rfl, hb⟩
  have HB1 := Lib.hid (bthen HB0.out hb)
  have HI1 := Lib.hid (HI.out.call hb)
  have HV1 := Lib.hid (HV.out.call hb)
  clear hb HB0 HI HV
  rcases ckE_cases mayS plS 4 xs with ⟨hk, h2⟩ | ⟨hk, h2⟩
  · rw [h2]
    have a0 := HV1.out.cell 0 _ rfl
    have a1 := HV1.out.cell 1 _ rfl
    have a2 := HV1.out.cell 2 _ rfl
    have a3 := HV1.out.cell 3 _ rfl
    have HKK := Lib.hid hk
    clear h2 hk
    go_wp2_with fail
    refine (rmayS_any ev _).mono ?_
    rintro e Wc ⟨rfl, hb⟩
    have HBc := Lib.hid (bthen HB1.out hb)
    have HIc := Lib.hid (HI1.out.call hb)
    have HVc := Lib.hid (HV1.out.call hb)
    clear hb HB1 HI1 HV1 a0 a1 a2 a3
    rcases hm : mayS ev with _ | _
    · have HE1 := Lib.hid (show filL mayS plS 4 xs ev = [] from if_neg (fun h => by rw [hm] at h; exact Bool.noConfusion h.2))
      have HE2 := Lib.hid (show filE mayS plS 4 xs ev = 2 from if_neg (fun h => by rw [hm] at h; exact Bool.noConfusion h.2))
      clear hm
      go_wp2_with fail
      go_ret2
      exact ⟨none, 0, by rw [HE2.out, HE1.out]; rfl, by rw [HE1.out]; simp, by rw [HE1.out]; exact fun h => by simp at h, HBc.out⟩
    · have HE1 := Lib.hid (show filL mayS plS 4 xs ev = _ from if_pos ⟨HKK.out, hm⟩)
      have HE2 := Lib.hid (show filE mayS plS 4 xs ev = 0 from if_pos ⟨HKK.out, hm⟩)
      have h8 := HKK.out.1
      clear hm HKK
      obtain ⟨len, hlen⟩ : ∃ len, len = xs.length := ⟨_, rfl⟩
      rw [← hlen] at hcap h8 ⊢
      have HL := Lib.hid hlen
      clear hlen
      go_wp2_with (at_builtin; refine wp_app (enc := encS) rfl _ _ 23 rfl Wc.heap.size 36 i0 _ 32 Tryd.underlying23 hi hz0 hz1 hz2 rfl (by decide) encS_len encS_one _ [] rfl (Ow.nil _ _ _) xs O len cap rfl HL.out.symm HIc.out (by simp; omega) (by decide) Wc (Below.refl _ _) (Nat.le_refl _) ?_; intro v8 w8 hO8 hB8)
      rw [List.nil_append] at hO8
      obtain ⟨O8, c8, hv, lc8, mc8, r8⟩ := hO8.form encS_len
      rw [← HL.out] at hv lc8
      subst hv
      have HO8 := Lib.hid hO8
      have HB8 := Lib.hid hB8
      have HR8 := Lib.hid r8
      have l0 : w.heap.size < Wc.heap.size := HVc.out.lt
      clear hO8 hB8 r8
      go_loopw [7] (fun i wr => ∃ j : Nat, i = .int .i64 j ∧ j ≤ len ∧ NoB plS xs (plS ev) j ∧ Below w8.heap.size w8 wr) (fun i _ => len - (intOf i).toNat)
      case atStart => exact ⟨0, rfl, by omega, NoB.zero _ _, Below.refl _ _⟩
      case round =>
        obtain ⟨j, rfl, hj, hN, hBr⟩ := hrel
        have HO8 := Lib.hid (HO8.out.call hBr)
        have HR8 := Lib.hid (HR8.out.call hBr)
        have HN := Lib.hid hN
        have HB8 := Lib.hid (HB8.out.trans (hBr.mono HB8.out.size))
        have HBr := Lib.hid hBr
        clear hN hBr
        by_cases hlt : j < len
        · have HJ := Lib.hid (show j < xs.length by have := HL.out; omega)
          obtain ⟨y, hy⟩ : ∃ y, xs[j]? = some y := ⟨xs[j]'(by have := HL.out; omega), List.getElem?_eq_getElem _⟩
          have HY := Lib.hid hy
          obtain ⟨g, cg, hv, hg, hg2, hcg, -⟩ := HO8.out.head (by have := HL.out; omega)
          rw [← HL.out] at hv hcg
          simp only [Value.slice.injEq] at hv
          obtain ⟨rfl, -, rfl⟩ := hv
          obtain ⟨d0, d1, d2, d3⟩ := HO8.out.cells4 encS_len hy rfl
          have v0 := (HVc.out.call HB8.out).cell 0 _ rfl
          have v1 := (HVc.out.call HB8.out).cell 1 _ rfl
          have v2 := (HVc.out.call HB8.out).cell 2 _ rfl
          have v3 := (HVc.out.call HB8.out).cell 3 _ rfl
          have lV8 := (HVc.out.call HB8.out).lt
          have i1 : (0 : Int) ≤ (j : Int) := by omega
          have i2 : (j : Int) < (len : Int) := by omega
          clear hy
          by_cases hq : plS y = plS ev
          · have HE3 := Lib.hid (show filL mayS plS 4 xs ev = xs.set j ev from by rw [HE1.out, fd_hit HN.out HY.out hq])
            have HD := Lib.hid (decide_eq_true hq)
            have HX0 := trivial
            have HNN := trivial
            clear hq
            go_wp2_with fail
            refine wp_region_held_drew (S := fun w' => Below wr.heap.size wr w') (by kernel_rfl) (bd (Below.refl _ _)) (fun hHeld => ?_)
            refine wpAnyH_take (i := 0) (oi := ⟨_, _, _, _, _, _⟩) (v := ?va0) rfl (by kernel_rfl) (by kernel_rfl) (by kernel_rfl) (fun _ _ _ h => h) (Or.inl ⟨by rfl, ?hya0⟩) hHeld ?resta0
            case hya0 => (intro w' hSw; go_simp; try with_reducible rfl)
            try simp only [Act.put, List.setIfInBounds_toArray, List.set_cons_zero, List.set_cons_succ]
            refine wpAnyH_take (i := 1) (oi := ⟨_, _, _, _, _, _⟩) (v := ?va1) rfl (by kernel_rfl) (by kernel_rfl) (by kernel_rfl) (fun _ _ _ h => h) (Or.inl ⟨by rfl, ?hya1⟩) hHeld ?resta1
            case hya1 => (intro w' hSw; go_simp; try with_reducible rfl)
            try simp only [Act.put, List.setIfInBounds_toArray, List.set_cons_zero, List.set_cons_succ]
            refine wpAnyH_take (i := 2) (oi := ⟨_, _, _, _, _, _⟩) (v := ?va2) rfl (by kernel_rfl) (by kernel_rfl) (by kernel_rfl) (fun _ _ _ h => h) (Or.inl ⟨by rfl, ?hya2⟩) hHeld ?resta2
            case hya2 => (intro w' hSw; go_simp; try with_reducible rfl)
            try simp only [Act.put, List.setIfInBounds_toArray, List.set_cons_zero, List.set_cons_succ]
            refine wpAnyH_take (i := 3) (oi := ⟨_, _, _, _, _, _⟩) (v := ?va3) rfl (by kernel_rfl) (by kernel_rfl) (by kernel_rfl) (fun _ _ _ h => h) (Or.inl ⟨by rfl, ?hya3⟩) hHeld ?resta3
            case hya3 => (intro w' hSw; obtain ⟨hcc, hff⟩ := bcell hSw; go_simp; try with_reducible rfl)
            try simp only [Act.put, List.setIfInBounds_toArray, List.set_cons_zero, List.set_cons_succ]
            refine wpAnyH_take (i := 4) (oi := ⟨_, _, _, _, _, _⟩) (v := ?va4) rfl (by kernel_rfl) (by kernel_rfl) (by kernel_rfl) (fun _ _ _ h => h) (Or.inl ⟨by rfl, ?hya4⟩) hHeld ?resta4
            case hya4 => (intro w' hSw; obtain ⟨hcc, hff⟩ := bcell hSw; go_simp; try with_reducible rfl)
            try simp only [Act.put, List.setIfInBounds_toArray, List.set_cons_zero, List.set_cons_succ]
            refine wpAnyH_ready (rs := [5]) (by kernel_rfl) (by simp) ?_
            refine AllReadyH.cons (o := ⟨_, _, _, _, _, _⟩) rfl (fun K hK => ?_) AllReadyH.nil
            go_simp
            refine (rplaceS_any y ev _).mono ?_
            rintro e wra1 ⟨rfl, hb⟩
            rw [HD.out]
            go_wp2_with fail
            have hB2 := bthen hHeld hb
            clear hHeld hb
            refine hK.out _ _ hB2 (fun hHeld => ?_)
            clear hB2 hK K
            try simp only [Act.put, List.setIfInBounds_toArray, List.set_cons_zero, List.set_cons_succ]
            refine wpAnyH_done (by kernel_rfl) ?_ _
            have HB9 := Lib.hid (bthen HB8.out hHeld)
            have HO9 := Lib.hid (HO8.out.call hHeld)
            clear HX0 HNN d0 d1 d2 d3 v0 v1 v2 v3
            have HV9 := Lib.hid (HVc.out.call HB9.out)
            have b0 := HV9.out.cell 0 _ rfl
            have b1 := HV9.out.cell 1 _ rfl
            have b2 := HV9.out.cell 2 _ rfl
            have b3 := HV9.out.cell 3 _ rfl
            obtain ⟨c0, c1, c2, c3⟩ := HO9.out.cells4 encS_len HY.out rfl
            have f0 := HO9.out.frozen4 (j * 4)
            have f1 := HO9.out.frozen4 (j * 4 + 1)
            have f2 := HO9.out.frozen4 (j * 4 + 2)
            have f3 := HO9.out.frozen4 (j * 4 + 3)
            have lV := HV9.out.lt
            have lG : g < wra1.heap.size := HO9.out.lt g rfl |>.2
            have nG : ¬ w.heap.size = g := by omega
            go_wp2_with fail
            go_ret2
            have hput := Ow.put4 encS_len (xs := xs) (by rw [← HL.out]; exact HO9.out) ev HJ.out rfl
            rw [← HL.out] at hput
            obtain ⟨Oz, cz, ez, lz, -, rz⟩ := hput.form encS_len
            rw [List.length_set, ← HL.out] at ez lz
            refine ⟨Oz, cz, ?_, ?_, ?_, ?_⟩
            · rw [HE2.out, HE3.out, List.length_set, ← HL.out, ← ez]
              rfl
            · rw [HE3.out, List.length_set, ← HL.out]; exact lz
            · rw [HE3.out]; exact rz
            · exact bs (bs (bs (bs (bthen HBc.out HB9.out) (Nat.le_trans HBc.out.size hg) _) (Nat.le_trans HBc.out.size hg) _) (Nat.le_trans HBc.out.size hg) _) (Nat.le_trans HBc.out.size hg) _
          · have HS := Lib.hid (NoB.succ HN.out HY.out hq)
            have HD := Lib.hid (decide_eq_false hq)
            clear hq
            go_wp2_with fail
            refine wp_region_held_drew (S := fun w' => Below wr.heap.size wr w') (by kernel_rfl) (bd (Below.refl _ _)) (fun hHeld => ?_)
            refine wpAnyH_take (i := 0) (oi := ⟨_, _, _, _, _, _⟩) (v := ?vb0) rfl (by kernel_rfl) (by kernel_rfl) (by kernel_rfl) (fun _ _ _ h => h) (Or.inl ⟨by rfl, ?hyb0⟩) hHeld ?restb0
            case hyb0 => (intro w' hSw; go_simp; try with_reducible rfl)
            try simp only [Act.put, List.setIfInBounds_toArray, List.set_cons_zero, List.set_cons_succ]
            refine wpAnyH_take (i := 1) (oi := ⟨_, _, _, _, _, _⟩) (v := ?vb1) rfl (by kernel_rfl) (by kernel_rfl) (by kernel_rfl) (fun _ _ _ h => h) (Or.inl ⟨by rfl, ?hyb1⟩) hHeld ?restb1
            case hyb1 => (intro w' hSw; go_simp; try with_reducible rfl)
            try simp only [Act.put, List.setIfInBounds_toArray, List.set_cons_zero, List.set_cons_succ]
            refine wpAnyH_take (i := 2) (oi := ⟨_, _, _, _, _, _⟩) (v := ?vb2) rfl (by kernel_rfl) (by kernel_rfl) (by kernel_rfl) (fun _ _ _ h => h) (Or.inl ⟨by rfl, ?hyb2⟩) hHeld ?restb2
            case hyb2 => (intro w' hSw; go_simp; try with_reducible rfl)
            try simp only [Act.put, List.setIfInBounds_toArray, List.set_cons_zero, List.set_cons_succ]
            refine wpAnyH_take (i := 3) (oi := ⟨_, _, _, _, _, _⟩) (v := ?vb3) rfl (by kernel_rfl) (by kernel_rfl) (by kernel_rfl) (fun _ _ _ h => h) (Or.inl ⟨by rfl, ?hyb3⟩) hHeld ?restb3
            case hyb3 => (intro w' hSw; obtain ⟨hcc, hff⟩ := bcell hSw; go_simp; try with_reducible rfl)
            try simp only [Act.put, List.setIfInBounds_toArray, List.set_cons_zero, List.set_cons_succ]
            refine wpAnyH_take (i := 4) (oi := ⟨_, _, _, _, _, _⟩) (v := ?vb4) rfl (by kernel_rfl) (by kernel_rfl) (by kernel_rfl) (fun _ _ _ h => h) (Or.inl ⟨by rfl, ?hyb4⟩) hHeld ?restb4
            case hyb4 => (intro w' hSw; obtain ⟨hcc, hff⟩ := bcell hSw; go_simp; try with_reducible rfl)
            try simp only [Act.put, List.setIfInBounds_toArray, List.set_cons_zero, List.set_cons_succ]
            refine wpAnyH_ready (rs := [5]) (by kernel_rfl) (by simp) ?_
            refine AllReadyH.cons (o := ⟨_, _, _, _, _, _⟩) rfl (fun K hK => ?_) AllReadyH.nil
            go_simp
            refine (rplaceS_any y ev _).mono ?_
            rintro e wrb1 ⟨rfl, hb⟩
            rw [HD.out]
            go_wp2_with fail
            have hB2 := bthen hHeld hb
            clear hHeld hb
            refine hK.out _ _ hB2 (fun hHeld => ?_)
            clear hB2 hK K
            try simp only [Act.put, List.setIfInBounds_toArray, List.set_cons_zero, List.set_cons_succ]
            refine wpAnyH_done (by kernel_rfl) ?_ _
            have HH := Lib.hid hHeld
            clear hHeld
            go_wp2_with fail
            go_roundw
            case rel => exact ⟨j + 1, by go_num, by omega, HS.out, bthen HBr.out HH.out⟩
            case measure => simp [intOf]; omega
        · have HE4 := Lib.hid (fd_no HN.out (by have := HL.out; omega))
          by_cases hl : len = 4
          · have HE3 := Lib.hid (show filL mayS plS 4 xs ev = xs.drop 1 ++ [ev] from by rw [HE1.out, HE4.out]; simp only; rw [if_pos (HL.out.symm.trans hl)])
            subst hl
            obtain ⟨g, cg, hv, hg, hg2, hcg, -⟩ := HO8.out.head (by have := HL.out; omega)
            rw [← HL.out] at hv hcg
            simp only [Value.slice.injEq] at hv
            obtain ⟨rfl, -, rfl⟩ := hv
            have v0 := (HVc.out.call HB8.out).cell 0 _ rfl
            have v1 := (HVc.out.call HB8.out).cell 1 _ rfl
            have v2 := (HVc.out.call HB8.out).cell 2 _ rfl
            have v3 := (HVc.out.call HB8.out).cell 3 _ rfl
            have lV8 := (HVc.out.call HB8.out).lt
            have i3 : (1 : Int) ≤ (c8 : Int) := by omega
            have i4 : ¬ c8 = 1 := by omega
            have HB9 := Lib.hid (ba HB8.out (.cells #[.int .i64 ev.a, .int .i8 ev.l, .int .u64 ev.p, .int .i64 ev.f] 36))
            have HN9 := Lib.hid (Arr.new wr #[.int .i64 ev.a, .int .i8 ev.l, .int .u64 ev.p, .int .i64 ev.f] 36)
            have HO9 := Lib.hid (Ow.call HO8.out (ba (Below.refl _ _) (.cells #[.int .i64 ev.a, .int .i8 ev.l, .int .u64 ev.p, .int .i64 ev.f] 36)))
            go_wp2_with (at_builtin; refine wp_mid (enc := encS) (k := 4) rfl _ _ 23 rfl 36 i0 _ 32 Tryd.underlying23 hi hz0 hz1 hz2 rfl (by decide) encS_len encS_one Wc.heap.size g 4 c8 xs rfl HO9.out HL.out.symm (by decide) ev wr.heap.size rfl ?m1 (by decide) (by decide) Wc HB9.out (Nat.le_refl _) ?_)
            case m1 => first | exact fun q u hu => HN9.out.cell q u hu | exact fun q u hu => hu
            intro O9 c9 w9 l9 r9 hb9
            have HR9 := Lib.hid r9
            have HB10 := Lib.hid hb9
            clear r9 hb9
            go_wp2_with fail
            go_ret2
            exact ⟨O9, c9, by rw [HE2.out, HE3.out]; simp [← HL.out], by rw [HE3.out]; simp [← HL.out]; omega, by rw [HE3.out]; (try rw [List.drop_one]); exact HR9.out, bthen HBc.out HB10.out⟩
          · have HE3 := Lib.hid (show filL mayS plS 4 xs ev = xs ++ [ev] from by rw [HE1.out, HE4.out]; simp only; rw [if_neg (fun h => hl (HL.out.trans h))])
            have hl' : ¬ 4 ≤ len := by omega
            have hl'' : ¬ (4 : Int) ≤ (len : Int) := by omega
            have v0 := (HVc.out.call HB8.out).cell 0 _ rfl
            have v1 := (HVc.out.call HB8.out).cell 1 _ rfl
            have v2 := (HVc.out.call HB8.out).cell 2 _ rfl
            have v3 := (HVc.out.call HB8.out).cell 3 _ rfl
            have lV8 := (HVc.out.call HB8.out).lt
            have HO9 := Lib.hid (Ow.call HO8.out (ba (Below.refl _ _) (.cells #[.int .i64 ev.a, .int .i8 ev.l, .int .u64 ev.p, .int .i64 ev.f] 36)))
            have HB9 := Lib.hid (ba HB8.out (.cells #[.int .i64 ev.a, .int .i8 ev.l, .int .u64 ev.p, .int .i64 ev.f] 36))
            have HN9 := Lib.hid (Arr.new wr #[.int .i64 ev.a, .int .i8 ev.l, .int .u64 ev.p, .int .i64 ev.f] 36)
            go_wp2_with (at_builtin; refine wp_snoc (enc := encS) rfl _ _ 23 rfl Wc.heap.size 36 i0 _ 32 Tryd.underlying23 hi hz0 hz1 hz2 rfl (by decide) encS_len _ _ rfl HO9.out ev wr.heap.size rfl ?c1 ?c2 ?c3 (by decide) Wc HB9.out (Nat.le_refl _) ?_)
            case c1 => first | exact fun q u hu => HN9.out.cell q u hu | exact fun q u hu => hu
            case c2 => intro u hu; simp [encS] at hu; rcases hu with rfl | rfl | rfl | rfl <;> rfl
            case c3 => have := HL.out; omega
            intro v9 w9 hO9 hB9
            clear HO9 HB9
            have HO8 := Lib.hid hO9
            have HB8 := Lib.hid hB9
            clear hO9 hB9
            obtain ⟨O9, c9, hv, l9, m9, r9⟩ := HO8.out.form encS_len
            subst hv
            have HR9 := Lib.hid r9
            clear r9 m9
            go_wp2_with fail
            go_ret2
            exact ⟨O9, c9, by rw [HE2.out, HE3.out]; rfl, by rw [HE3.out]; exact l9, by rw [HE3.out]; exact HR9.out, bthen HBc.out HB8.out⟩
  · have HE1 := Lib.hid (show filL mayS plS 4 xs ev = [] from if_neg (fun h => hk h.1))
    have HE2 := Lib.hid (show filE mayS plS 4 xs ev = 2 from if_neg (fun h => hk h.1))
    rw [h2]
    clear hk h2
    go_wp2_with fail
    go_ret2
    exact ⟨none, 0, by rw [HE2.out, HE1.out]; rfl, by rw [HE1.out]; simp, by rw [HE1.out]; exact fun h => by simp at h, HB1.out⟩
end
section
open Go.RowKit Go.Maps
set_option linter.unusedVariables false
set_option linter.unusedSimpArgs false
/-- What stands at a round's head. -/
structure KpS (w W : World) (p k : Nat) (c : Nat → Nat → Int) (F : Nat → Prop) (b : Nat) (x : Wk) : Prop where
  mem : MemS W p 16 c F k
  hF : ∀ y, F y → y < w.heap.size
  hx : Bk W b 26 #[.bool x.on, .int .i64 x.a, .int .u64 x.p, .int .i8 x.l, .int .i64 x.f]
  lt : w.heap.size ≤ b
  hb : Below w.heap.size w W
section
variable {w W W' : World} {p k : Nat} {c : Nat → Nat → Int} {F : Nat → Prop} {b : Nat} {x : Wk}
theorem KpS.call (h : KpS w W p k c F b x) (hb : Below W.heap.size W W') : KpS w W' p k c F b x := ⟨h.mem.call hb, h.hF, h.hx.call hb, h.lt, bthen h.hb hb⟩
theorem KpS.walk (h : KpS w W p k c F b x) (y : Wk) : KpS w (((((W.setCell ⟨b, 0, none⟩ (.bool y.on)).setCell ⟨b, 1, none⟩ (.int .i64 y.a)).setCell ⟨b, 2, none⟩ (.int .u64 y.p)).setCell ⟨b, 3, none⟩ (.int .i8 y.l)).setCell ⟨b, 4, none⟩ (.int .i64 y.f)) p k c F b y := by
  have hl := h.lt
  have hK : ∀ (u : World) (i : Nat) (v : Value), Keeps (fun z => z = b) u (u.setCell ⟨b, i, none⟩ v) := fun u i v => Keeps.setCell (F := fun z => z = b) (p := ⟨b, i, none⟩) rfl v
  have hn : ∀ z, F z → ¬ z = b := fun z hz => by have := h.hF z hz; omega
  exact ⟨((((h.mem.keep (hK _ _ _) hn).keep (hK _ _ _) hn).keep (hK _ _ _) hn).keep (hK _ _ _) hn).keep (hK _ _ _) hn, h.hF, ((((h.hx.set 0 _).set 1 _).set 2 _).set 3 _).set 4 _, h.lt,
    bs (bs (bs (bs (bs h.hb (p := ⟨b, 0, none⟩) hl _) (p := ⟨b, 1, none⟩) hl _) (p := ⟨b, 2, none⟩) hl _) (p := ⟨b, 3, none⟩) hl _) (p := ⟨b, 4, none⟩) hl _⟩
end
theorem rkFar {α : Type} {enc : α → List Value} {k : Nat} {W : World} {O : Option Addr} {xs : List α} (h : RK enc k W O xs) {b : Nat} (hne : 0 < xs.length → ∀ g off, O = some ⟨g, off, none⟩ → g ≠ b) (i : Nat) (v : Value) : RK enc k (W.setCell ⟨b, i, none⟩ v) O xs := fun h0 => by
  obtain ⟨g, off, e, hc⟩ := h h0
  refine ⟨g, off, e, fun j x hx m u hu => ?_⟩
  have hg := hne h0 g off e
  rw [World.cell?_setCell_other _ _ _ _ (fun e' => hg (by injection e' with e1 _ _; exact e1.symm))]
  exact hc j x hx m u hu
/-- A row of steps does not lie in a walk's block. -/
theorem rk_ne {W : World} {O : Option Addr} {xs : List Sb} {b : Nat} {x : Wk} (h : RK encS 4 W O xs) (hb : Bk W b 26 #[.bool x.on, .int .i64 x.a, .int .u64 x.p, .int .i8 x.l, .int .i64 x.f]) : 0 < xs.length → ∀ g off, O = some ⟨g, off, none⟩ → g ≠ b := by
  intro h0 g off e eb
  subst eb
  obtain ⟨g', off', e', hc⟩ := h h0
  rw [e] at e'
  injection e' with e'
  injection e' with e1 e2 e3
  subst e1 e2
  obtain ⟨y, hy⟩ : ∃ y, xs[0]? = some y := ⟨xs[0], List.getElem?_eq_getElem h0⟩
  have c0 := hc 0 y hy 0 _ rfl
  have c1 := hc 0 y hy 1 _ rfl
  rw [hb.cell] at c0 c1
  simp only [Nat.zero_mul, Nat.add_zero] at c0 c1
  rcases (show off = 0 ∨ off = 1 ∨ off = 2 ∨ off = 3 ∨ 4 ≤ off by omega) with rfl | rfl | rfl | rfl | h4
  · simp at c0
  · simp at c1
  · simp at c0
  · simp at c0
  · rw [Array.getElem?_eq_none (by simp; omega)] at c1
    cases c1
theorem rkWalk {W : World} {O : Option Addr} {xs : List Sb} {b : Nat} {x : Wk} (h : RK encS 4 W O xs) (hb : Bk W b 26 #[.bool x.on, .int .i64 x.a, .int .u64 x.p, .int .i8 x.l, .int .i64 x.f]) (y : Wk) :
    RK encS 4 (((((W.setCell ⟨b, 0, none⟩ (.bool y.on)).setCell ⟨b, 1, none⟩ (.int .i64 y.a)).setCell ⟨b, 2, none⟩ (.int .u64 y.p)).setCell ⟨b, 3, none⟩ (.int .i8 y.l)).setCell ⟨b, 4, none⟩ (.int .i64 y.f)) O xs :=
  have hn := rk_ne h hb
  rkFar (rkFar (rkFar (rkFar (rkFar h hn 0 _) hn 1 _) hn 2 _) hn 3 _) hn 4 _
theorem rd_off {x : Wk} {v : Int} (h : (rd x v).k.on = false) (hx : WkOk x) : (rd x v).tb = false := by
  rcases rd_on x v hx with ⟨h1, -⟩ | ⟨-, h2⟩
  · rw [h] at h1; cases h1
  · unfold rd
    rw [if_neg h2]
    split <;> rfl
def KeRel (w : World) (p k : Nat) (c : Nat → Nat → Int) (F : Nat → Prop) (b : Nat) (root asid q : Int) (out i : Value) (W : World) : Prop :=
  ∃ (j : Nat) (x : Wk) (O : Option Addr) (cap : Nat) (xs : List Sb), i = .int .i64 j ∧ out = .slice O xs.length cap ∧ xs.length ≤ cap ∧ ((j ≤ 3 ∧ wat 16 c ⟨true, asid, q, 0, root⟩ j = some x) ∨ (j ≤ 4 ∧ x.on = false)) ∧ Kept 16 c asid q root xs ∧ RK encS 4 W O xs ∧ KpS w W p k c F b x
theorem KeStep {c : Nat → Nat → Int} {root asid q : Int} {j : Nat} {y : Wk} (h : wat 16 c ⟨true, asid, q, 0, root⟩ (j + 1) = some y) (ho : y.on = true) (hx : WkOk ⟨true, asid, q, 0, root⟩) :
    (j + 1 ≤ 3 ∧ wat 16 c ⟨true, asid, q, 0, root⟩ (j + 1) = some y) ∨ (j + 1 ≤ 4 ∧ y.on = false) := by
  obtain ⟨h1, h2, -⟩ := wat_ok 16 c asid q root hx _ y h
  have := h1.2.2.1
  exact .inl ⟨by omega, h⟩
def KeptO (w : World) (c : Nat → Nat → Int) (root asid q : Int) (e : Ending) (w' : World) : Prop :=
  ∃ (O : Option Addr) (cap : Nat) (xs : List Sb), e = .returned (.tuple #[.slice O xs.length cap, .bool true]) ∧ xs.length ≤ cap ∧ Kept 16 c asid q root xs ∧ RK encS 4 w' O xs ∧ Below w.heap.size w w'
set_option maxRecDepth 100000 in
set_option maxHeartbeats 16000000 in
theorem kept_any (p k : Nat) (c : Nat → Nat → Int) (F : Nat → Prop) (root asid q bs' : Int) (w : World) (hM : MemS w p 16 c F k) (hc : ∀ f i, U64 (c f i)) (hG : G w) (hq : U64 q) (hok : BgOk root asid q []) :
    Calls Tryd.prog 22 #[.pointer (some ⟨p, 0, none⟩), .int .i64 root, .int .i64 asid, .int .u64 q, .int .i64 bs'] w (KeptO w c root asid q) := by
  have HOK := Lib.hid hok
  have HC := Lib.hid hc
  have HG := Lib.hid hG
  have HQ := Lib.hid hq
  have HM := Lib.hid hM
  have HV := Lib.hid (show bgV root asid q [] = ⟨true, asid, q, 0, root⟩ ∧ bgE root asid q [] = 0 from by
    rcases bg_cases root asid q [] with ⟨-, h1, h2⟩ | ⟨h, -⟩
    · rw [h1, bgW_nil]; exact ⟨rfl, h2⟩
    · exact absurd hok h)
  clear hok hc hG hq hM
  go_enter Tryd.func22, Tryd.ntmps22
  go_wp2_with fail
  refine (begin_nil root asid q _).mono ?_
  rintro e w1 ⟨rfl, hb⟩
  rw [HV.out.1, HV.out.2]
  simp only [wkV]
  have HS := Lib.hid (show KpS w (w1.alloc (.cells #[.bool true, .int .i64 asid, .int .u64 q, .int .i8 0, .int .i64 root] 26)) p k c F w1.heap.size ⟨true, asid, q, 0, root⟩ from
    ⟨(HM.out.call hb).alloc _, HM.out.all, Bk.new _ _ _, hb.size, ba hb _⟩)
  clear hb HV
  go_wp2_with fail
  generalize w1.heap.size = b at *
  generalize w1.alloc (.cells #[.bool true, .int .i64 asid, .int .u64 q, .int .i8 0, .int .i64 root] 26) = W0 at *
  go_loopw [14, 15] (fun out i wr => KeRel w p k c F b root asid q out i wr) (fun _ i _ => 5 - (intOf i).toNat)
  case atStart => exact ⟨0, ⟨true, asid, q, 0, root⟩, none, 0, [], rfl, rfl, by simp, .inl ⟨by omega, rfl⟩, Kept.nil _ _ _ _ _, RK.none _, HS.out⟩
  case round =>
    obtain ⟨j, x, O, cap, xs, rfl, rfl, hcap, hcase, hkp, hI, hS⟩ := hrel
    clear HS
    have HKP := Lib.hid hkp
    have HI := Lib.hid hI
    have HCAP := Lib.hid hcap
    clear hkp hI hcap
    rcases hcase with ⟨hj, hw⟩ | ⟨hj, hon⟩
    · obtain ⟨hx, hlx, hpx, hax, hox⟩ := wat_ok 16 c asid q root HOK.out.2.1 j x hw
      obtain ⟨f, i, e1, e2, e3, e4, e5, e6, e7, e8, e9⟩ := wdN_div x hx
      have hsucc := fun y => wat_succ 16 c ⟨true, asid, q, 0, root⟩ j x y hw
      rw [e8, e9] at hsucc
      have HSU := Lib.hid hsucc
      have HWT := Lib.hid hw
      have HX := Lib.hid hx
      have HPX := Lib.hid (show U64 x.p by rw [hpx]; exact HQ.out)
      have HEQ := Lib.hid (And.intro hlx (And.intro hpx hax))
      have HE1 := Lib.hid e1
      have HE3 := Lib.hid e3
      have HE4 := Lib.hid e4
      have HE7 := Lib.hid e7
      have HON := Lib.hid hox
      clear hw hx hlx hpx hax hox e1 e2 e3 e4 e7 e8 e9 hsucc
      have x0 := hS.hx.cell 0
      have x1 := hS.hx.cell 1
      have x2 := hS.hx.cell 2
      have x3 := hS.hx.cell 3
      have x4 := hS.hx.cell 4
      simp only [List.getElem?_toArray, List.getElem?_cons_zero, List.getElem?_cons_succ] at x0 x1 x2 x3 x4
      rw [HON.out] at x0
      have HS2 := Lib.hid hS
      clear hS
      go_wp2_with fail
      refine (wword_on x _ HX.out HPX.out HON.out).mono ?_
      rintro e w3 ⟨rfl, hb⟩
      have HS3 := Lib.hid (HS2.out.call hb)
      have HI3 := Lib.hid (HI.out.call hb)
      clear hb HS2 HI x0 x1 x2 x3 x4
      by_cases hf : f < 16
      · go_wp2_with fail
        refine (read_yes p 16 k f i (wdN x) c F _ HS3.out.mem (by omega) HE7.out HE3.out HE4.out hf).mono ?_
        rintro e w4 ⟨rfl, rfl⟩
        have x0 := HS3.out.hx.cell 0
        have x1 := HS3.out.hx.cell 1
        have x2 := HS3.out.hx.cell 2
        have x3 := HS3.out.hx.cell 3
        have x4 := HS3.out.hx.cell 4
        simp only [List.getElem?_toArray, List.getElem?_cons_zero, List.getElem?_cons_succ] at x0 x1 x2 x3 x4
        have HU := Lib.hid (HC.out f i)
        have HSV := Lib.hid HSU.out
        clear HSU
        generalize hv : c f i = v at *
        clear hv
        go_wp2_with fail
        refine (next_ok x v _ (HG.out.call HS3.out.hb) HU.out HX.out).mono ?_
        rintro e w5 ⟨rfl, hb⟩
        have HS4 := Lib.hid (HS3.out.call hb)
        have HI4 := Lib.hid (HI3.out.call hb)
        clear hb HS3 HI3 x0 x1 x2 x3 x4
        have hro := rd_on x v HX.out
        have hoff := fun h => rd_off (x := x) (v := v) h HX.out
        have hsv := HSV.out
        generalize hr : rd x v = r at *
        simp only [rdV]
        have HN := Lib.hid (Bk.new w5 42 (encR zR))
        have HRO := Lib.hid hro
        have HOFF := Lib.hid hoff
        have HSV2 := Lib.hid hsv
        clear hro hoff hsv HSV hr
        go_upto_region 13 with (refine put_read rfl _ _ rfl w5.heap.size r _ rfl rfl HN.out rfl ?_)
        have hS5 := HS4.out.call (brow (ba (Below.refl w5.heap.size w5) (.cells (encR zR) 42)) (Nat.le_refl _) (encR r))
        have hI5 := HI4.out.call (brow (ba (Below.refl w5.heap.size w5) (.cells (encR zR) 42)) (Nat.le_refl _) (encR r))
        have hN5 := HN.out.row (encR r)
        have hne : b < w5.heap.size := HS4.out.hx.lt
        refine (show ∀ W : World, KpS w W p k c F b x → RK encS 4 W O xs → Bk W w5.heap.size 42 (encR r) → Code.wp _ _ _ _ W from fun W hS hI hN => ?_) _ hS5 hI5 hN5
        clear hS5 hI5 hN5 HN HS4 HI4
        have n1 : b ≠ w5.heap.size := by omega
        have n2 : w5.heap.size ≠ b := by omega
        have n3 := hN.lt
        have t5 : W.cell? ⟨w5.heap.size, 5, none⟩ = some (.bool r.tb) := hN.cell 5
        rcases HRO.out with ⟨o1, o2, o3, o4⟩ | ⟨o1, o2⟩
        · have htb : r.tb = true := by rw [o3]; rfl
          rw [htb] at t5
          have t6 : W.cell? ⟨w5.heap.size, 6, none⟩ = some (.int .i64 r.s.a) := hN.cell 6
          have t7 : W.cell? ⟨w5.heap.size, 7, none⟩ = some (.int .i8 r.s.l) := hN.cell 7
          have t8 : W.cell? ⟨w5.heap.size, 8, none⟩ = some (.int .u64 r.s.p) := hN.cell 8
          have t9 : W.cell? ⟨w5.heap.size, 9, none⟩ = some (.int .i64 r.s.f) := hN.cell 9
          have HW1 := Lib.hid ((HSV2.out r.k).2 ⟨by have := HE1.out; omega, o1, rfl⟩)
          have HS := Lib.hid hS
          have HI := Lib.hid hI
          have HN := Lib.hid hN
          have HO4 := Lib.hid o4
          have HON1 := Lib.hid o1
          have HRS := Lib.hid (show r.s = ⟨asid, (j : Int) + 1, aPre q ((j : Int) + 1), r.k.f⟩ by
            obtain ⟨g1, g2, g3⟩ := HEQ.out
            rw [o3]
            show (⟨x.a, x.l + 1, aPre x.p (x.l + 1), df v x.l⟩ : Sb) = ⟨asid, (j : Int) + 1, aPre q ((j : Int) + 1), df v x.l⟩
            rw [g1, g2, g3])
          clear hS hI hN o1 o2 o3 o4 HSV2 HRO HOFF htb
          have hon : r.k.on = true := HON1.out
          rcases hbit : (bits .and .i64 (bs' / 2 ^ j) 1 == 1) with _ | _
          · have hS := HS.out
            have hN := HN.out
            have t0 : W.cell? ⟨w5.heap.size, 0, none⟩ = some (.bool r.k.on) := hN.cell 0
            have t1 : W.cell? ⟨w5.heap.size, 1, none⟩ = some (.int .i64 r.k.a) := hN.cell 1
            have t2 : W.cell? ⟨w5.heap.size, 2, none⟩ = some (.int .u64 r.k.p) := hN.cell 2
            have t3 : W.cell? ⟨w5.heap.size, 3, none⟩ = some (.int .i8 r.k.l) := hN.cell 3
            have t4 : W.cell? ⟨w5.heap.size, 4, none⟩ = some (.int .i64 r.k.f) := hN.cell 4
            have y0 := hS.hx.cell 0
            have y1 := hS.hx.cell 1
            have y2 := hS.hx.cell 2
            have y3 := hS.hx.cell 3
            have y4 := hS.hx.cell 4
            simp only [List.getElem?_toArray, List.getElem?_cons_zero, List.getElem?_cons_succ] at y0 y1 y2 y3 y4
            have z0 := hS.hx.frozen 0
            have z1 := hS.hx.frozen 1
            have z2 := hS.hx.frozen 2
            have z3 := hS.hx.frozen 3
            have z4 := hS.hx.frozen 4
            rw [hon] at t0
            have HSW := Lib.hid (HS.out.walk r.k)
            have HIW := Lib.hid (rkWalk HI.out HS.out.hx r.k)
            rw [hon] at HSW HIW
            clear hS hN hon
            go_wp2_with fail
            go_roundw
            case rel => exact ⟨j + 1, r.k, O, cap, xs, by go_num, rfl, HCAP.out, KeStep HW1.out HON1.out HOK.out.2.1, HKP.out, HIW.out, HSW.out⟩
            case measure => simp [intOf]; omega
          · clear hon
            go_wp2_with fail
            refine (rfillS_any O cap xs r.s _ HI.out HCAP.out).mono ?_
            rintro e W6 ⟨O6, c6, rfl, hc6, hI6, hb⟩
            have hS := HS.out.call hb
            have hN := HN.out.call hb
            have HKP6 := Lib.hid (show Kept 16 c asid q root (filL mayS plS 4 xs r.s) by
              rw [HRS.out]
              exact HKP.out.add HQ.out.1 HOK.out.2.1 (by have := HO4.out; have := HEQ.out.1; omega) HW1.out)
            have hon : r.k.on = true := HON1.out
            clear t5 t6 t7 t8 t9 n3 hb
            generalize filL mayS plS 4 xs r.s = xs6 at *
            have n3 := hN.lt
            have t0 : W6.cell? ⟨w5.heap.size, 0, none⟩ = some (.bool r.k.on) := hN.cell 0
            have t1 : W6.cell? ⟨w5.heap.size, 1, none⟩ = some (.int .i64 r.k.a) := hN.cell 1
            have t2 : W6.cell? ⟨w5.heap.size, 2, none⟩ = some (.int .u64 r.k.p) := hN.cell 2
            have t3 : W6.cell? ⟨w5.heap.size, 3, none⟩ = some (.int .i8 r.k.l) := hN.cell 3
            have t4 : W6.cell? ⟨w5.heap.size, 4, none⟩ = some (.int .i64 r.k.f) := hN.cell 4
            have y0 := hS.hx.cell 0
            have y1 := hS.hx.cell 1
            have y2 := hS.hx.cell 2
            have y3 := hS.hx.cell 3
            have y4 := hS.hx.cell 4
            simp only [List.getElem?_toArray, List.getElem?_cons_zero, List.getElem?_cons_succ] at y0 y1 y2 y3 y4
            have z0 := hS.hx.frozen 0
            have z1 := hS.hx.frozen 1
            have z2 := hS.hx.frozen 2
            have z3 := hS.hx.frozen 3
            have z4 := hS.hx.frozen 4
            rw [hon] at t0
            have HSW := Lib.hid (hS.walk r.k)
            have HIW := Lib.hid (rkWalk hI6 hS.hx r.k)
            rw [hon] at HSW HIW
            have HC6 := Lib.hid hc6
            clear hS hN hon hI6 hc6
            go_wp2_with fail
            go_roundw
            case rel => exact ⟨j + 1, r.k, O6, c6, xs6, by go_num, rfl, HC6.out, KeStep HW1.out HON1.out HOK.out.2.1, HKP6.out, HIW.out, HSW.out⟩
            case measure => simp [intOf]; omega
        · have htb := HOFF.out o1
          rw [htb] at t5
          have HO1 := Lib.hid o1
          have t0 : W.cell? ⟨w5.heap.size, 0, none⟩ = some (.bool r.k.on) := hN.cell 0
          have t1 : W.cell? ⟨w5.heap.size, 1, none⟩ = some (.int .i64 r.k.a) := hN.cell 1
          have t2 : W.cell? ⟨w5.heap.size, 2, none⟩ = some (.int .u64 r.k.p) := hN.cell 2
          have t3 : W.cell? ⟨w5.heap.size, 3, none⟩ = some (.int .i8 r.k.l) := hN.cell 3
          have t4 : W.cell? ⟨w5.heap.size, 4, none⟩ = some (.int .i64 r.k.f) := hN.cell 4
          have y0 := hS.hx.cell 0
          have y1 := hS.hx.cell 1
          have y2 := hS.hx.cell 2
          have y3 := hS.hx.cell 3
          have y4 := hS.hx.cell 4
          simp only [List.getElem?_toArray, List.getElem?_cons_zero, List.getElem?_cons_succ] at y0 y1 y2 y3 y4
          have z0 := hS.hx.frozen 0
          have z1 := hS.hx.frozen 1
          have z2 := hS.hx.frozen 2
          have z3 := hS.hx.frozen 3
          have z4 := hS.hx.frozen 4
          have HSW := Lib.hid (hS.walk r.k)
          have HIW := Lib.hid (rkWalk hI hS.hx r.k)
          clear hS hI hN o1 o2 htb HSV2 HRO HOFF
          go_wp2_with fail
          go_roundw
          case rel => exact ⟨j + 1, r.k, O, cap, xs, by go_num, rfl, HCAP.out, .inr ⟨by omega, HO1.out⟩, HKP.out, HIW.out, HSW.out⟩
          case measure => simp [intOf]; omega
      · go_wp2_with fail
        refine (read_no p 16 k (wdN x) c F _ HS3.out.mem (by omega) HE7.out (by rw [HE3.out]; omega)).mono ?_
        rintro e w4 ⟨rfl, rfl⟩
        go_wp2_with fail
        go_ret2
        exact ⟨O, cap, xs, rfl, HCAP.out, HKP.out, HI3.out, HS3.out.hb⟩
    · have x0 := hS.hx.cell 0
      simp only [List.getElem?_toArray, List.getElem?_cons_zero] at x0
      rw [hon] at x0
      have HS := Lib.hid hS
      clear hS hon
      go_wp2_with fail
      go_ret2
      exact ⟨O, cap, xs, rfl, HCAP.out, HKP.out, HI.out, HS.out.hb⟩
end
section
open Go.RowKit Go.Maps
set_option linter.unusedVariables false
set_option linter.unusedSimpArgs false
theorem eq_miss (o : Bool) (p l : Int) (W : World) : (binOp .eql 40 (.agg #[.bool o, .int .u64 p, .int .i8 l]) (.agg #[.bool o, .int .u64 p, .int .i8 l])).run Tryd.prog W = .ok (.bool true) W := by
  go_simp
theorem bgW_p (root asid pg : Int) (xs : List Sb) : (bgW root asid pg xs).p = pg := by unfold bgW; split <;> rfl
def CaRel (w : World) (p k n : Nat) (c : Nat → Nat → Int) (F : Nat → Prop) (b g : Nat) (pg : Int) (want : Rd) (m0 : Int) (i : Value) (W : World) : Prop :=
  ∃ (j m : Nat) (x : Wk), i = .int .i64 j ∧ j ≤ m ∧ m ≤ 3 ∧ WkOk x ∧ x.l = m ∧ x.p = pg ∧ fin 16 c (4 - m) x = some (want, m0) ∧ KpS w W p k c F b x ∧ Bk W g 42 (encR want)
set_option maxRecDepth 100000 in
set_option maxHeartbeats 16000000 in
theorem walkCached_in (O : Option Addr) (len cap : Nat) (xs ys : Nat → Int) (root0 asid0 page0 other0 bits0 : Int) (w : World) (hG : G w) (hl : len ≤ 300) (hc : len ≤ cap) (hI : PairsK .u64 .u64 w O len xs ys) (hwf : ∀ i, i < len → U64 (xs i) ∧ U64 (ys i)) (hp : U64 page0) (hq : U64 other0) :
    Calls Tryd.prog 6 #[.slice O len cap, .int .i64 root0, .int .i64 asid0, .int .u64 page0, .int .u64 other0, .int .i64 bits0] w fun e w' => e = .returned (.bool true) ∧ Below w.heap.size w w' := by
  have HG := Lib.hid hG
  have HI := Lib.hid hI
  have HW := Lib.hid hwf
  have h0 := hp.1
  have h0' := hq.1
  have nr := norm_mod root0 15 (by omega) (by omega)
  have na := norm_mod asid0 255 (by omega) (by omega)
  clear hG hI hwf
  go_enter Tryd.func6, Tryd.ntmps6
  go_wp2_with fail
  refine (both_any O len cap xs ys _ hl hc HI.out HW.out).mono ?_
  rintro e w1 ⟨p, q, k, c, F, G1, rfl, hP, hcu, hk⟩
  have HPr := Lib.hid hP
  have HC := Lib.hid hcu
  clear hP hcu
  go_wp2_with fail
  obtain ⟨root, hroot⟩ : ∃ r : Int, r = 1 + (wrap64 (root0.tmod 15 + 15)).tmod 15 := ⟨_, rfl⟩
  obtain ⟨asid, hasid⟩ : ∃ r : Int, r = 1 + (wrap64 (asid0.tmod 255 + 255)).tmod 255 := ⟨_, rfl⟩
  obtain ⟨pg, hpage⟩ : ∃ r : Int, r = page0 % 34359738368 := ⟨_, rfl⟩
  obtain ⟨ot, hother⟩ : ∃ r : Int, r = other0 % 34359738368 := ⟨_, rfl⟩
  have hr1 : 1 ≤ root ∧ root ≤ 15 := by omega
  have ha1 : 1 ≤ asid ∧ asid ≤ 255 := by omega
  have hp1 : U64 pg ∧ pg < 34359738368 := ⟨⟨by omega, by omega⟩, by omega⟩
  have hq1 : U64 ot ∧ ot < 34359738368 := ⟨⟨by omega, by omega⟩, by omega⟩
  rw [← hroot, ← hasid, ← hpage, ← hother]
  clear hroot hasid hpage hother nr na h0 h0' hp hq
  have HP := Lib.hid hp1.1
  have HQ := Lib.hid hq1.1
  have HOK := Lib.hid (show BgOk root asid pg [] from ⟨hr1.1, ⟨rfl, by simp, by simp, by simp; omega, by simp; omega, ha1.1, ha1.2, hp1.2⟩, ck_nil4⟩)
  have HOQ := Lib.hid (show BgOk root asid ot [] from ⟨hr1.1, ⟨rfl, by simp, by simp, by simp; omega, by simp; omega, ha1.1, ha1.2, hq1.2⟩, ck_nil4⟩)
  clear hr1 ha1 hp1 hq1
  refine (kept_any p k c F root asid ot bits0 _ HPr.out.mem HC.out (HG.out.call HPr.out.below) HQ.out HOQ.out).mono ?_
  rintro e w2 ⟨O2, cap2, st, rfl, hcap2, hkp, hI2, hb⟩
  have HKP := Lib.hid hkp
  have HI2 := Lib.hid hI2
  have HCAP := Lib.hid hcap2
  have HM2 := Lib.hid (HPr.out.mem.call hb)
  have HF2 := Lib.hid HPr.out.hF
  have HB2 := Lib.hid (bthen HPr.out.below hb)
  clear hb hkp hI2 hcap2 HPr
  go_wp2_with fail
  refine (wall_any p k root asid pg c F _ HM2.out HC.out (HG.out.call HB2.out) HP.out).mono ?_
  rintro e w3 ⟨rfl, hb⟩
  have HM3 := Lib.hid (HM2.out.call hb)
  have HI3 := Lib.hid (HI2.out.call hb)
  have HB3 := Lib.hid (bthen HB2.out hb)
  clear hb HM2 HI2 HB2
  cases hfin : fin 16 c 4 ⟨true, asid, pg, 0, root⟩ with
  | none =>
    rw [all_none HOK.out hfin]
    simp only [allV, rdV]
    clear hfin
    have HN := Lib.hid (Bk.new w3 42 (encR zR))
    have HB4 := Lib.hid (bthen HB3.out (brow (ba (Below.refl w3.heap.size w3) (.cells (encR zR) 42)) (Nat.le_refl _) (encR zR)))
    go_upto_region 12 with (refine put_read rfl _ _ rfl w3.heap.size zR _ rfl rfl HN.out rfl ?_)
    refine (show ∀ W : World, Below w.heap.size w W → Code.wp _ _ _ _ W from fun W hB => ?_) _ HB4.out
    clear HB4 HN HB3 HM3 HI3
    have HB := Lib.hid hB
    clear hB
    go_wp2_with fail
    refine (wakes12_any _ (HG.out.call HB.out)).mono ?_
    rintro e w5 ⟨rfl, hb⟩
    have HB5 := Lib.hid (bthen HB.out hb)
    clear hb
    go_wp2_with fail
    go_ret
    exact ⟨rfl, HB5.out⟩
  | some rm =>
    obtain ⟨r, m0⟩ := rm
    rw [all_some HOK.out hfin]
    simp only [allV, rdV]
    have hm4 := (fin_words 16 c 4 _ r m0 HOK.out.2.1 rfl hfin).1
    obtain ⟨kk, hk3, hbo, hbl, hbf⟩ := kept_same HKP.out HP.out.1 HQ.out.1 HOQ.out.2.1 HOK.out.2.1
    have HV := Lib.hid (show bgV root asid pg st = bgW root asid pg st ∧ bgE root asid pg st = 0 from by
      rcases bg_cases root asid pg st with ⟨-, h⟩ | ⟨h, -⟩
      · exact h
      · exact absurd ⟨HOK.out.1, HOK.out.2.1, HKP.out.1⟩ h)
    have HBO := Lib.hid hbo
    have HBL := Lib.hid hbl
    have HBF := Lib.hid (hbf.symm.trans hfin)
    have HBP := Lib.hid (bgW_p root asid pg st)
    clear hfin hbo hbl hbf
    have HN := Lib.hid (Bk.new w3 42 (encR zR))
    have hq3 := brow (ba (Below.refl w3.heap.size w3) (.cells (encR zR) 42)) (Nat.le_refl _) (encR r)
    have HB4 := Lib.hid (bthen HB3.out hq3)
    have HM4 := Lib.hid (HM3.out.call hq3)
    have HI4 := Lib.hid (HI3.out.call hq3)
    have HT4 := Lib.hid (HN.out.row (encR r))
    have HMA := Lib.hid HM3.out.all
    clear HB3 HM3 HI3 hq3
    go_upto_region 12 with (refine put_read rfl _ _ rfl w3.heap.size r _ rfl rfl HN.out rfl ?_)
    refine (show ∀ W : World, Below w.heap.size w W → MemS W p 16 c F k → RK encS 4 W O2 st → Bk W w3.heap.size 42 (encR r) → Code.wp _ _ _ _ W from fun W hB hM hI hT => ?_) _ HB4.out HM4.out HI4.out HT4.out
    clear HB4 HM4 HI4 HT4 HN
    have HB := Lib.hid hB
    have HM := Lib.hid hM
    have HI4 := Lib.hid hI
    have HT := Lib.hid hT
    clear hB hM hI hT
    go_wp2_with fail
    refine (begin_any root asid pg O2 cap2 st _ HI4.out HCAP.out).mono ?_
    rintro e w5 ⟨rfl, hb⟩
    rw [HV.out.1, HV.out.2]
    generalize hy : bgW root asid pg st = y at *
    simp only [wkV]
    have HS := Lib.hid (show KpS W (w5.alloc (.cells #[.bool y.on, .int .i64 y.a, .int .u64 y.p, .int .i8 y.l, .int .i64 y.f] 26)) p k c F w5.heap.size y from
      ⟨(HM.out.call hb).alloc _, HM.out.all, Bk.new _ _ _, hb.size, ba hb _⟩)
    have HT5 := Lib.hid ((HT.out.call hb).call (ba (Below.refl _ _) (.cells #[.bool y.on, .int .i64 y.a, .int .u64 y.p, .int .i8 y.l, .int .i64 y.f] 26)))
    have hgb : w3.heap.size < w5.heap.size := (HT.out.call hb).lt
    clear hb hy HV HT HM HI4
    go_wp2_with fail
    generalize w5.heap.size = b at *
    generalize w5.alloc (.cells #[.bool y.on, .int .i64 y.a, .int .u64 y.p, .int .i8 y.l, .int .i64 y.f] 26) = W0 at *
    generalize w3.heap.size = g at *
    go_loopw [22] (fun i wr => CaRel W p k 0 c F b g pg r m0 i wr) (fun i _ => 5 - (intOf i).toNat)
    case atStart => exact ⟨0, kk, y, rfl, by omega, hk3, HBO.out, HBL.out, HBP.out, HBF.out, HS.out, HT5.out⟩
    case round =>
      obtain ⟨j, m, x, rfl, hjm, hm3, hx, hlx, hpx, hfx, hS, hT⟩ := hrel
      clear HS HT5
      obtain ⟨f, i, e1, e2, e3, e4, e5, e6, e7, e8, e9⟩ := wdN_div x hx
      have hstep := fin_step 16 c (4 - m) x hx (by omega)
      rw [e8, e9, hfx] at hstep
      have hf : f < 16 := by
        by_cases h : f < 16
        · exact h
        · rw [if_pos (by rw [e1]; omega)] at hstep; cases hstep
      rw [if_neg (by rw [e1]; omega)] at hstep
      have HST := Lib.hid hstep
      have HX := Lib.hid hx
      have HPX := Lib.hid (show U64 x.p by rw [hpx]; exact HP.out)
      have HPX2 := Lib.hid hpx
      have HLX := Lib.hid hlx
      have HE3 := Lib.hid e3
      have HE4 := Lib.hid e4
      have HE7 := Lib.hid e7
      have HON := Lib.hid hx.1
      clear hx hlx hpx hfx hstep e1 e2 e3 e4 e7 e8 e9
      have x0 := hS.hx.cell 0
      have x1 := hS.hx.cell 1
      have x2 := hS.hx.cell 2
      have x3 := hS.hx.cell 3
      have x4 := hS.hx.cell 4
      simp only [List.getElem?_toArray, List.getElem?_cons_zero, List.getElem?_cons_succ] at x0 x1 x2 x3 x4
      rw [HON.out] at x0
      have HS2 := Lib.hid hS
      have HT2 := Lib.hid hT
      clear hS hT
      go_wp2_with fail
      refine (wword_on x _ HX.out HPX.out HON.out).mono ?_
      rintro e w6 ⟨rfl, hb⟩
      have HS3 := Lib.hid (HS2.out.call hb)
      have HT3 := Lib.hid (HT2.out.call hb)
      clear hb HS2 HT2 x0 x1 x2 x3 x4
      go_wp2_with fail
      refine (read_yes p 16 k f i (wdN x) c F _ HS3.out.mem (by omega) HE7.out HE3.out HE4.out hf).mono ?_
      rintro e w7 ⟨rfl, rfl⟩
      have x0 := HS3.out.hx.cell 0
      have x1 := HS3.out.hx.cell 1
      have x2 := HS3.out.hx.cell 2
      have x3 := HS3.out.hx.cell 3
      have x4 := HS3.out.hx.cell 4
      simp only [List.getElem?_toArray, List.getElem?_cons_zero, List.getElem?_cons_succ] at x0 x1 x2 x3 x4
      have HU := Lib.hid (HC.out f i)
      have HSV := Lib.hid HST.out
      clear HST
      generalize hv : c f i = v at *
      clear hv
      go_wp2_with fail
      refine (next_ok x v _ (HG.out.call (bthen HB.out HS3.out.hb)) HU.out HX.out).mono ?_
      rintro e w8 ⟨rfl, hb⟩
      have HS4 := Lib.hid (HS3.out.call hb)
      have HT4 := Lib.hid (HT3.out.call hb)
      clear hb HS3 HT3 x0 x1 x2 x3 x4
      have hro := rd_on x v HX.out
      have hsv := HSV.out
      generalize hr : rd x v = s at *
      simp only [rdV]
      have HN := Lib.hid (Bk.new w8 42 (encR zR))
      have HRO := Lib.hid hro
      have HSV2 := Lib.hid hsv
      clear hro hsv HSV hr
      go_upto_region 23 with (refine put_read rfl _ _ rfl w8.heap.size s _ rfl rfl HN.out rfl ?_)
      have hq8 := brow (ba (Below.refl w8.heap.size w8) (.cells (encR zR) 42)) (Nat.le_refl _) (encR s)
      have hS5 := HS4.out.call hq8
      have hT5 := HT4.out.call hq8
      have hN5 := HN.out.row (encR s)
      have hne : b < w8.heap.size := HS4.out.hx.lt
      clear hq8
      refine (show ∀ W9 : World, KpS W W9 p k c F b x → Bk W9 g 42 (encR r) → Bk W9 w8.heap.size 42 (encR s) → Code.wp _ _ _ _ W9 from fun W9 hS hT hN => ?_) _ hS5 hT5 hN5
      clear hS5 hT5 hN5 HN HS4 HT4
      have n1 : b ≠ w8.heap.size := by omega
      have n2 : w8.heap.size ≠ b := by omega
      have n3 := hN.lt
      rcases HRO.out with ⟨o1, o2, o3, o4⟩ | ⟨o1, o2⟩
      · have hfx := HSV2.out
        rw [if_pos o1] at hfx
        have HO1 := Lib.hid o1
        have HO3 := Lib.hid o3
        have HO4 := Lib.hid o4
        have HFX := Lib.hid hfx
        have t0 : W9.cell? ⟨w8.heap.size, 0, none⟩ = some (.bool s.k.on) := hN.cell 0
        have t1 : W9.cell? ⟨w8.heap.size, 1, none⟩ = some (.int .i64 s.k.a) := hN.cell 1
        have t2 : W9.cell? ⟨w8.heap.size, 2, none⟩ = some (.int .u64 s.k.p) := hN.cell 2
        have t3 : W9.cell? ⟨w8.heap.size, 3, none⟩ = some (.int .i8 s.k.l) := hN.cell 3
        have t4 : W9.cell? ⟨w8.heap.size, 4, none⟩ = some (.int .i64 s.k.f) := hN.cell 4
        rw [o1] at t0
        have y0 := hS.hx.cell 0
        have y1 := hS.hx.cell 1
        have y2 := hS.hx.cell 2
        have y3 := hS.hx.cell 3
        have y4 := hS.hx.cell 4
        simp only [List.getElem?_toArray, List.getElem?_cons_zero, List.getElem?_cons_succ] at y0 y1 y2 y3 y4
        have z0 := hS.hx.frozen 0
        have z1 := hS.hx.frozen 1
        have z2 := hS.hx.frozen 2
        have z3 := hS.hx.frozen 3
        have z4 := hS.hx.frozen 4
        have HSW := Lib.hid (hS.walk s.k)
        have HTW := Lib.hid (((((hT.far (p := ⟨b, 0, none⟩) (by simp; omega) (.bool s.k.on)).far (p := ⟨b, 1, none⟩) (by simp; omega) (.int .i64 s.k.a)).far (p := ⟨b, 2, none⟩) (by simp; omega) (.int .u64 s.k.p)).far (p := ⟨b, 3, none⟩) (by simp; omega) (.int .i8 s.k.l)).far (p := ⟨b, 4, none⟩) (by simp; omega) (.int .i64 s.k.f))
        rw [o1] at HSW HTW
        clear hS hT hN o1 o2 o3 o4 hfx HSV2 HRO
        go_wp2_with fail
        go_roundw
        case rel =>
          refine ⟨j + 1, m + 1, s.k, by go_num, by omega, by have := HO4.out; have := HLX.out; omega, by rw [HO3.out]; exact rdT_ok x _ HX.out HO4.out, by rw [HO3.out]; show x.l + 1 = _; have := HLX.out; omega, by rw [HO3.out]; exact HPX2.out, ?_, HSW.out, HTW.out⟩
          rw [show 4 - (m + 1) = 4 - m - 1 by omega]
          exact HFX.out.symm
        case measure => simp [intOf]; omega
      · have hfx := HSV2.out
        rw [if_neg (by rw [o1]; exact Bool.noConfusion)] at hfx
        injection hfx with hfx
        injection hfx with hrs _
        subst hrs
        have t0 : W9.cell? ⟨w8.heap.size, 0, none⟩ = some (.bool r.k.on) := hN.cell 0
        rw [o1] at t0
        have t10 : W9.cell? ⟨w8.heap.size, 10, none⟩ = some (.bool r.en) := hN.cell 10
        have t11 : W9.cell? ⟨w8.heap.size, 11, none⟩ = some (.int .i64 r.t.a) := hN.cell 11
        have t12 : W9.cell? ⟨w8.heap.size, 12, none⟩ = some (.int .u64 r.t.p) := hN.cell 12
        have t13 : W9.cell? ⟨w8.heap.size, 13, none⟩ = some (.int .i64 r.t.f) := hN.cell 13
        have t14 : W9.cell? ⟨w8.heap.size, 14, none⟩ = some (.bool r.t.ro) := hN.cell 14
        have t15 : W9.cell? ⟨w8.heap.size, 15, none⟩ = some (.bool r.mo) := hN.cell 15
        have t16 : W9.cell? ⟨w8.heap.size, 16, none⟩ = some (.int .u64 r.mp) := hN.cell 16
        have t17 : W9.cell? ⟨w8.heap.size, 17, none⟩ = some (.int .i8 r.ml) := hN.cell 17
        have t18 : W9.cell? ⟨w8.heap.size, 18, none⟩ = some (.bool r.to) := hN.cell 18
        have t19 : W9.cell? ⟨w8.heap.size, 19, none⟩ = some (.int .u64 r.wd) := hN.cell 19
        have s10 : W9.cell? ⟨g, 10, none⟩ = some (.bool r.en) := hT.cell 10
        have s11 : W9.cell? ⟨g, 11, none⟩ = some (.int .i64 r.t.a) := hT.cell 11
        have s12 : W9.cell? ⟨g, 12, none⟩ = some (.int .u64 r.t.p) := hT.cell 12
        have s13 : W9.cell? ⟨g, 13, none⟩ = some (.int .i64 r.t.f) := hT.cell 13
        have s14 : W9.cell? ⟨g, 14, none⟩ = some (.bool r.t.ro) := hT.cell 14
        have s15 : W9.cell? ⟨g, 15, none⟩ = some (.bool r.mo) := hT.cell 15
        have s16 : W9.cell? ⟨g, 16, none⟩ = some (.int .u64 r.mp) := hT.cell 16
        have s17 : W9.cell? ⟨g, 17, none⟩ = some (.int .i8 r.ml) := hT.cell 17
        have s18 : W9.cell? ⟨g, 18, none⟩ = some (.bool r.to) := hT.cell 18
        have s19 : W9.cell? ⟨g, 19, none⟩ = some (.int .u64 r.wd) := hT.cell 19
        have hE1 := eq_tlb r.t.a r.t.p r.t.f r.t.a r.t.p r.t.f r.t.ro r.t.ro
        simp only [beq_self_eq_true, Bool.and_true] at hE1
        have hE2 := eq_miss r.mo r.mp r.ml
        have HB9 := Lib.hid (bthen HB.out hS.hb)
        clear hS hT hN o1 o2 HSV2 HRO
        go_wp2_with fail
        refine (wakes12_any _ (HG.out.call HB9.out)).mono ?_
        rintro e w10 ⟨rfl, hb⟩
        have HB10 := Lib.hid (bthen HB9.out hb)
        clear hb
        go_wp2_with fail
        go_ret
        exact ⟨rfl, HB10.out⟩
theorem walkCached_any (O : Option Addr) (len cap : Nat) (xs ys : Nat → Int) (root asid page other bits0 : Int) (w : World) (hG : G w) (hc : len ≤ cap) (hm : cap ≤ maxLen) (hI : PairsK .u64 .u64 w O len xs ys) (hwf : ∀ i, i < len → (Lit.int .u64 (xs i)).wf = true ∧ (Lit.int .u64 (ys i)).wf = true) (hp : U64 page) (hq : U64 other) :
    Calls Tryd.prog 6 #[.slice O len cap, .int .i64 root, .int .i64 asid, .int .u64 page, .int .u64 other, .int .i64 bits0] w fun e w' => e = .returned (.bool true) ∧ Below w.heap.size w w' := by
  by_cases h : len ≤ 300
  · exact walkCached_in O len cap xs ys root asid page other bits0 w hG h hc hI (fun i hi => ⟨u64_wf (hwf i hi).1, u64_wf (hwf i hi).2⟩) hp hq
  · have h2 : 300 < len := by omega
    unfold maxLen at hm
    clear h hI hwf
    go_enter Tryd.func6, Tryd.ntmps6
    go_wp2_with fail
    refine (wakes12_any _ hG).mono ?_
    rintro e w1 ⟨rfl, hb⟩
    go_wp2_with fail
    go_ret
    exact ⟨rfl, hb⟩
end
end Go.Proofs.YtgdkkhdhomehdaaDoor
