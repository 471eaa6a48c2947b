/-
  The document's fill (S).
-/
import Derived.Test.YtencifnopfianaaTlRefCS
import Derived.Test.YtencifnopfianaaTlMid
namespace Go.Proofs.Ytencifnopfianaa
open Go.RowKit
set_option linter.unusedVariables false
set_option linter.unusedSimpArgs false
set_option maxRecDepth 100000 in
set_option maxHeartbeats 16000000 in
theorem rfillS_any (O : Option Addr) (cap : Nat) (xs : List Sb) (ev : Sb) (w : World) (hI : RK encS 4 w O xs) (hcap : xs.length ≤ cap) :
    Calls Try.prog 25 #[.slice O xs.length cap, .agg #[.int .i64 ev.a, .int .i8 ev.l, .int .u64 ev.p, .int .i64 ev.f]] w fun e w' => ∃ O' c', e = .returned (.tuple #[.slice O' (filL mayS plS 4 xs ev).length c', .int .i64 (filE mayS plS 4 xs ev)]) ∧ (filL mayS plS 4 xs ev).length ≤ c' ∧ RK encS 4 w' O' (filL mayS plS 4 xs ev) ∧ Below w.heap.size w w' := by
  have HB0 := Lib.hid (ba (Below.refl w.heap.size w) (.cells #[.int .i64 ev.a, .int .i8 ev.l, .int .u64 ev.p, .int .i64 ev.f] 44))
  have HV := Lib.hid (Arr.new w #[.int .i64 ev.a, .int .i8 ev.l, .int .u64 ev.p, .int .i64 ev.f] 44)
  have HI := Lib.hid (hI.call HB0.out)
  clear hI
  obtain ⟨i0, hi, hz0, hz1, hz2⟩ := sbInfo
  go_enter Try.func25, Try.ntmps25
  go_wp2_with fail
  generalize w.alloc (.cells #[.int .i64 ev.a, .int .i8 ev.l, .int .u64 ev.p, .int .i64 ev.f] 44) = W0 at *
  refine (rcheckS_any O cap xs _ HI.out hcap).mono ?_
  rintro e W1 ⟨rfl, hb⟩
  have HB1 := Lib.hid (bthen HB0.out hb)
  have HI1 := Lib.hid (HI.out.call hb)
  have HV1 := Lib.hid (HV.out.call hb)
  clear hb HB0 HI HV
  rcases ckE_cases mayS plS 4 xs with ⟨hk, h2⟩ | ⟨hk, h2⟩
  · rw [h2]
    have a0 := HV1.out.cell 0 _ rfl
    have a1 := HV1.out.cell 1 _ rfl
    have a2 := HV1.out.cell 2 _ rfl
    have a3 := HV1.out.cell 3 _ rfl
    have HKK := Lib.hid hk
    clear h2 hk
    go_wp2_with fail
    refine (rmayS_any ev _).mono ?_
    rintro e Wc ⟨rfl, hb⟩
    have HBc := Lib.hid (bthen HB1.out hb)
    have HIc := Lib.hid (HI1.out.call hb)
    have HVc := Lib.hid (HV1.out.call hb)
    clear hb HB1 HI1 HV1 a0 a1 a2 a3
    rcases hm : mayS ev with _ | _
    · have HE1 := Lib.hid (show filL mayS plS 4 xs ev = [] from if_neg (fun h => by rw [hm] at h; exact Bool.noConfusion h.2))
      have HE2 := Lib.hid (show filE mayS plS 4 xs ev = 2 from if_neg (fun h => by rw [hm] at h; exact Bool.noConfusion h.2))
      clear hm
      go_wp2_with fail
      go_ret2
      exact ⟨none, 0, by rw [HE2.out, HE1.out]; rfl, by rw [HE1.out]; simp, by rw [HE1.out]; exact fun h => by simp at h, HBc.out⟩
    · have HE1 := Lib.hid (show filL mayS plS 4 xs ev = _ from if_pos ⟨HKK.out, hm⟩)
      have HE2 := Lib.hid (show filE mayS plS 4 xs ev = 0 from if_pos ⟨HKK.out, hm⟩)
      have h8 := HKK.out.1
      clear hm HKK
      obtain ⟨len, hlen⟩ : ∃ len, len = xs.length := ⟨_, rfl⟩
      rw [← hlen] at hcap h8 ⊢
      have HL := Lib.hid hlen
      clear hlen
      go_wp2_with (at_builtin; refine wp_app (enc := encS) rfl _ _ 41 rfl Wc.heap.size 44 i0 _ 32 Try.underlying41 hi hz0 hz1 hz2 rfl (by decide) encS_len encS_one _ [] rfl (Ow.nil _ _ _) xs O len cap rfl HL.out.symm HIc.out (by simp; omega) (by decide) Wc (Below.refl _ _) (Nat.le_refl _) ?_; intro v8 w8 hO8 hB8)
      rw [List.nil_append] at hO8
      obtain ⟨O8, c8, hv, lc8, mc8, r8⟩ := hO8.form encS_len
      rw [← HL.out] at hv lc8
      subst hv
      have HO8 := Lib.hid hO8
      have HB8 := Lib.hid hB8
      have HR8 := Lib.hid r8
      have l0 : w.heap.size < Wc.heap.size := HVc.out.lt
      clear hO8 hB8 r8
      go_loopw [7] (fun i wr => ∃ j : Nat, i = .int .i64 j ∧ j ≤ len ∧ NoB plS xs (plS ev) j ∧ Below w8.heap.size w8 wr) (fun i _ => len - (intOf i).toNat)
      case atStart => exact ⟨0, rfl, by omega, NoB.zero _ _, Below.refl _ _⟩
      case round =>
        obtain ⟨j, rfl, hj, hN, hBr⟩ := hrel
        have HO8 := Lib.hid (HO8.out.call hBr)
        have HR8 := Lib.hid (HR8.out.call hBr)
        have HN := Lib.hid hN
        have HB8 := Lib.hid (HB8.out.trans (hBr.mono HB8.out.size))
        have HBr := Lib.hid hBr
        clear hN hBr
        by_cases hlt : j < len
        · have HJ := Lib.hid (show j < xs.length by have := HL.out; omega)
          obtain ⟨y, hy⟩ : ∃ y, xs[j]? = some y := ⟨xs[j]'(by have := HL.out; omega), List.getElem?_eq_getElem _⟩
          have HY := Lib.hid hy
          obtain ⟨g, cg, hv, hg, hg2, hcg, -⟩ := HO8.out.head (by have := HL.out; omega)
          rw [← HL.out] at hv hcg
          simp only [Value.slice.injEq] at hv
          obtain ⟨rfl, -, rfl⟩ := hv
          obtain ⟨d0, d1, d2, d3⟩ := HO8.out.cells4 encS_len hy rfl
          have v0 := (HVc.out.call HB8.out).cell 0 _ rfl
          have v1 := (HVc.out.call HB8.out).cell 1 _ rfl
          have v2 := (HVc.out.call HB8.out).cell 2 _ rfl
          have v3 := (HVc.out.call HB8.out).cell 3 _ rfl
          have lV8 := (HVc.out.call HB8.out).lt
          have i1 : (0 : Int) ≤ (j : Int) := by omega
          have i2 : (j : Int) < (len : Int) := by omega
          clear hy
          by_cases hq : plS y = plS ev
          · have HE3 := Lib.hid (show filL mayS plS 4 xs ev = xs.set j ev from by rw [HE1.out, fd_hit HN.out HY.out hq])
            have HD := Lib.hid (decide_eq_true hq)
            have HX0 := trivial
            have HNN := trivial
            clear hq
            go_wp2_with fail
            refine wp_region_held_drew (S := fun w' => Below wr.heap.size wr w') (by kernel_rfl) (bd (Below.refl _ _)) (fun hHeld => ?_)
            refine wpAnyH_take (i := 0) (oi := ⟨_, _, _, _, _, _⟩) (v := ?va0) rfl (by kernel_rfl) (by kernel_rfl) (by kernel_rfl) (fun _ _ _ h => h) (Or.inl ⟨by rfl, ?hya0⟩) hHeld ?resta0
            case hya0 => (intro w' hSw; go_simp; try with_reducible rfl)
            try simp only [Act.put, List.setIfInBounds_toArray, List.set_cons_zero, List.set_cons_succ]
            refine wpAnyH_take (i := 1) (oi := ⟨_, _, _, _, _, _⟩) (v := ?va1) rfl (by kernel_rfl) (by kernel_rfl) (by kernel_rfl) (fun _ _ _ h => h) (Or.inl ⟨by rfl, ?hya1⟩) hHeld ?resta1
            case hya1 => (intro w' hSw; go_simp; try with_reducible rfl)
            try simp only [Act.put, List.setIfInBounds_toArray, List.set_cons_zero, List.set_cons_succ]
            refine wpAnyH_take (i := 2) (oi := ⟨_, _, _, _, _, _⟩) (v := ?va2) rfl (by kernel_rfl) (by kernel_rfl) (by kernel_rfl) (fun _ _ _ h => h) (Or.inl ⟨by rfl, ?hya2⟩) hHeld ?resta2
            case hya2 => (intro w' hSw; go_simp; try with_reducible rfl)
            try simp only [Act.put, List.setIfInBounds_toArray, List.set_cons_zero, List.set_cons_succ]
            refine wpAnyH_take (i := 3) (oi := ⟨_, _, _, _, _, _⟩) (v := ?va3) rfl (by kernel_rfl) (by kernel_rfl) (by kernel_rfl) (fun _ _ _ h => h) (Or.inl ⟨by rfl, ?hya3⟩) hHeld ?resta3
            case hya3 => (intro w' hSw; obtain ⟨hcc, hff⟩ := bcell hSw; go_simp; try with_reducible rfl)
            try simp only [Act.put, List.setIfInBounds_toArray, List.set_cons_zero, List.set_cons_succ]
            refine wpAnyH_take (i := 4) (oi := ⟨_, _, _, _, _, _⟩) (v := ?va4) rfl (by kernel_rfl) (by kernel_rfl) (by kernel_rfl) (fun _ _ _ h => h) (Or.inl ⟨by rfl, ?hya4⟩) hHeld ?resta4
            case hya4 => (intro w' hSw; obtain ⟨hcc, hff⟩ := bcell hSw; go_simp; try with_reducible rfl)
            try simp only [Act.put, List.setIfInBounds_toArray, List.set_cons_zero, List.set_cons_succ]
            refine wpAnyH_ready (rs := [5]) (by kernel_rfl) (by simp) ?_
            refine AllReadyH.cons (o := ⟨_, _, _, _, _, _⟩) rfl (fun K hK => ?_) AllReadyH.nil
            go_simp
            refine (place_any y ev _).mono ?_
            rintro e wra1 ⟨rfl, hb⟩
            rw [HD.out]
            go_wp2_with fail
            have hB2 := bthen hHeld hb
            clear hHeld hb
            refine hK.out _ _ hB2 (fun hHeld => ?_)
            clear hB2 hK K
            try simp only [Act.put, List.setIfInBounds_toArray, List.set_cons_zero, List.set_cons_succ]
            refine wpAnyH_done (by kernel_rfl) ?_ _
            have HB9 := Lib.hid (bthen HB8.out hHeld)
            have HO9 := Lib.hid (HO8.out.call hHeld)
            clear HX0 HNN d0 d1 d2 d3 v0 v1 v2 v3
            have HV9 := Lib.hid (HVc.out.call HB9.out)
            have b0 := HV9.out.cell 0 _ rfl
            have b1 := HV9.out.cell 1 _ rfl
            have b2 := HV9.out.cell 2 _ rfl
            have b3 := HV9.out.cell 3 _ rfl
            obtain ⟨c0, c1, c2, c3⟩ := HO9.out.cells4 encS_len HY.out rfl
            have f0 := HO9.out.frozen4 (j * 4)
            have f1 := HO9.out.frozen4 (j * 4 + 1)
            have f2 := HO9.out.frozen4 (j * 4 + 2)
            have f3 := HO9.out.frozen4 (j * 4 + 3)
            have lV := HV9.out.lt
            have lG : g < wra1.heap.size := HO9.out.lt g rfl |>.2
            have nG : ¬ w.heap.size = g := by omega
            go_wp2_with fail
            go_ret2
            have hput := Ow.put4 encS_len (xs := xs) (by rw [← HL.out]; exact HO9.out) ev HJ.out rfl
            rw [← HL.out] at hput
            obtain ⟨Oz, cz, ez, lz, -, rz⟩ := hput.form encS_len
            rw [List.length_set, ← HL.out] at ez lz
            refine ⟨Oz, cz, ?_, ?_, ?_, ?_⟩
            · rw [HE2.out, HE3.out, List.length_set, ← HL.out, ← ez]
              rfl
            · rw [HE3.out, List.length_set, ← HL.out]; exact lz
            · rw [HE3.out]; exact rz
            · exact bs (bs (bs (bs (bthen HBc.out HB9.out) (Nat.le_trans HBc.out.size hg) _) (Nat.le_trans HBc.out.size hg) _) (Nat.le_trans HBc.out.size hg) _) (Nat.le_trans HBc.out.size hg) _
          · have HS := Lib.hid (NoB.succ HN.out HY.out hq)
            have HD := Lib.hid (decide_eq_false hq)
            clear hq
            go_wp2_with fail
            refine wp_region_held_drew (S := fun w' => Below wr.heap.size wr w') (by kernel_rfl) (bd (Below.refl _ _)) (fun hHeld => ?_)
            refine wpAnyH_take (i := 0) (oi := ⟨_, _, _, _, _, _⟩) (v := ?vb0) rfl (by kernel_rfl) (by kernel_rfl) (by kernel_rfl) (fun _ _ _ h => h) (Or.inl ⟨by rfl, ?hyb0⟩) hHeld ?restb0
            case hyb0 => (intro w' hSw; go_simp; try with_reducible rfl)
            try simp only [Act.put, List.setIfInBounds_toArray, List.set_cons_zero, List.set_cons_succ]
            refine wpAnyH_take (i := 1) (oi := ⟨_, _, _, _, _, _⟩) (v := ?vb1) rfl (by kernel_rfl) (by kernel_rfl) (by kernel_rfl) (fun _ _ _ h => h) (Or.inl ⟨by rfl, ?hyb1⟩) hHeld ?restb1
            case hyb1 => (intro w' hSw; go_simp; try with_reducible rfl)
            try simp only [Act.put, List.setIfInBounds_toArray, List.set_cons_zero, List.set_cons_succ]
            refine wpAnyH_take (i := 2) (oi := ⟨_, _, _, _, _, _⟩) (v := ?vb2) rfl (by kernel_rfl) (by kernel_rfl) (by kernel_rfl) (fun _ _ _ h => h) (Or.inl ⟨by rfl, ?hyb2⟩) hHeld ?restb2
            case hyb2 => (intro w' hSw; go_simp; try with_reducible rfl)
            try simp only [Act.put, List.setIfInBounds_toArray, List.set_cons_zero, List.set_cons_succ]
            refine wpAnyH_take (i := 3) (oi := ⟨_, _, _, _, _, _⟩) (v := ?vb3) rfl (by kernel_rfl) (by kernel_rfl) (by kernel_rfl) (fun _ _ _ h => h) (Or.inl ⟨by rfl, ?hyb3⟩) hHeld ?restb3
            case hyb3 => (intro w' hSw; obtain ⟨hcc, hff⟩ := bcell hSw; go_simp; try with_reducible rfl)
            try simp only [Act.put, List.setIfInBounds_toArray, List.set_cons_zero, List.set_cons_succ]
            refine wpAnyH_take (i := 4) (oi := ⟨_, _, _, _, _, _⟩) (v := ?vb4) rfl (by kernel_rfl) (by kernel_rfl) (by kernel_rfl) (fun _ _ _ h => h) (Or.inl ⟨by rfl, ?hyb4⟩) hHeld ?restb4
            case hyb4 => (intro w' hSw; obtain ⟨hcc, hff⟩ := bcell hSw; go_simp; try with_reducible rfl)
            try simp only [Act.put, List.setIfInBounds_toArray, List.set_cons_zero, List.set_cons_succ]
            refine wpAnyH_ready (rs := [5]) (by kernel_rfl) (by simp) ?_
            refine AllReadyH.cons (o := ⟨_, _, _, _, _, _⟩) rfl (fun K hK => ?_) AllReadyH.nil
            go_simp
            refine (place_any y ev _).mono ?_
            rintro e wrb1 ⟨rfl, hb⟩
            rw [HD.out]
            go_wp2_with fail
            have hB2 := bthen hHeld hb
            clear hHeld hb
            refine hK.out _ _ hB2 (fun hHeld => ?_)
            clear hB2 hK K
            try simp only [Act.put, List.setIfInBounds_toArray, List.set_cons_zero, List.set_cons_succ]
            refine wpAnyH_done (by kernel_rfl) ?_ _
            have HH := Lib.hid hHeld
            clear hHeld
            go_wp2_with fail
            go_roundw
            case rel => exact ⟨j + 1, by go_num, by omega, HS.out, bthen HBr.out HH.out⟩
            case measure => simp [intOf]; omega
        · have HE4 := Lib.hid (fd_no HN.out (by have := HL.out; omega))
          by_cases hl : len = 4
          · have HE3 := Lib.hid (show filL mayS plS 4 xs ev = xs.drop 1 ++ [ev] from by rw [HE1.out, HE4.out]; simp only; rw [if_pos (HL.out.symm.trans hl)])
            subst hl
            obtain ⟨g, cg, hv, hg, hg2, hcg, -⟩ := HO8.out.head (by have := HL.out; omega)
            rw [← HL.out] at hv hcg
            simp only [Value.slice.injEq] at hv
            obtain ⟨rfl, -, rfl⟩ := hv
            have v0 := (HVc.out.call HB8.out).cell 0 _ rfl
            have v1 := (HVc.out.call HB8.out).cell 1 _ rfl
            have v2 := (HVc.out.call HB8.out).cell 2 _ rfl
            have v3 := (HVc.out.call HB8.out).cell 3 _ rfl
            have lV8 := (HVc.out.call HB8.out).lt
            have i3 : (1 : Int) ≤ (c8 : Int) := by omega
            have i4 : ¬ c8 = 1 := by omega
            have HB9 := Lib.hid (ba HB8.out (.cells #[.int .i64 ev.a, .int .i8 ev.l, .int .u64 ev.p, .int .i64 ev.f] 44))
            have HN9 := Lib.hid (Arr.new wr #[.int .i64 ev.a, .int .i8 ev.l, .int .u64 ev.p, .int .i64 ev.f] 44)
            have HO9 := Lib.hid (Ow.call HO8.out (ba (Below.refl _ _) (.cells #[.int .i64 ev.a, .int .i8 ev.l, .int .u64 ev.p, .int .i64 ev.f] 44)))
            go_wp2_with (at_builtin; refine wp_mid (enc := encS) (k := 4) rfl _ _ 41 rfl 44 i0 _ 32 Try.underlying41 hi hz0 hz1 hz2 rfl (by decide) encS_len encS_one Wc.heap.size g 4 c8 xs rfl HO9.out HL.out.symm (by decide) ev wr.heap.size rfl ?m1 (by decide) (by decide) Wc HB9.out (Nat.le_refl _) ?_)
            case m1 => first | exact fun q u hu => HN9.out.cell q u hu | exact fun q u hu => hu
            intro O9 c9 w9 l9 r9 hb9
            have HR9 := Lib.hid r9
            have HB10 := Lib.hid hb9
            clear r9 hb9
            go_wp2_with fail
            go_ret2
            exact ⟨O9, c9, by rw [HE2.out, HE3.out]; simp [← HL.out], by rw [HE3.out]; simp [← HL.out]; omega, by rw [HE3.out]; (try rw [List.drop_one]); exact HR9.out, bthen HBc.out HB10.out⟩
          · have HE3 := Lib.hid (show filL mayS plS 4 xs ev = xs ++ [ev] from by rw [HE1.out, HE4.out]; simp only; rw [if_neg (fun h => hl (HL.out.trans h))])
            have hl' : ¬ 4 ≤ len := by omega
            have hl'' : ¬ (4 : Int) ≤ (len : Int) := by omega
            have v0 := (HVc.out.call HB8.out).cell 0 _ rfl
            have v1 := (HVc.out.call HB8.out).cell 1 _ rfl
            have v2 := (HVc.out.call HB8.out).cell 2 _ rfl
            have v3 := (HVc.out.call HB8.out).cell 3 _ rfl
            have lV8 := (HVc.out.call HB8.out).lt
            have HO9 := Lib.hid (Ow.call HO8.out (ba (Below.refl _ _) (.cells #[.int .i64 ev.a, .int .i8 ev.l, .int .u64 ev.p, .int .i64 ev.f] 44)))
            have HB9 := Lib.hid (ba HB8.out (.cells #[.int .i64 ev.a, .int .i8 ev.l, .int .u64 ev.p, .int .i64 ev.f] 44))
            have HN9 := Lib.hid (Arr.new wr #[.int .i64 ev.a, .int .i8 ev.l, .int .u64 ev.p, .int .i64 ev.f] 44)
            go_wp2_with (at_builtin; refine wp_snoc (enc := encS) rfl _ _ 41 rfl Wc.heap.size 44 i0 _ 32 Try.underlying41 hi hz0 hz1 hz2 rfl (by decide) encS_len _ _ rfl HO9.out ev wr.heap.size rfl ?c1 ?c2 ?c3 (by decide) Wc HB9.out (Nat.le_refl _) ?_)
            case c1 => first | exact fun q u hu => HN9.out.cell q u hu | exact fun q u hu => hu
            case c2 => intro u hu; simp [encS] at hu; rcases hu with rfl | rfl | rfl | rfl <;> rfl
            case c3 => have := HL.out; omega
            intro v9 w9 hO9 hB9
            clear HO9 HB9
            have HO8 := Lib.hid hO9
            have HB8 := Lib.hid hB9
            clear hO9 hB9
            obtain ⟨O9, c9, hv, l9, m9, r9⟩ := HO8.out.form encS_len
            subst hv
            have HR9 := Lib.hid r9
            clear r9 m9
            go_wp2_with fail
            go_ret2
            exact ⟨O9, c9, by rw [HE2.out, HE3.out]; rfl, by rw [HE3.out]; exact l9, by rw [HE3.out]; exact HR9.out, bthen HBc.out HB8.out⟩
  · have HE1 := Lib.hid (show filL mayS plS 4 xs ev = [] from if_neg (fun h => hk h.1))
    have HE2 := Lib.hid (show filE mayS plS 4 xs ev = 2 from if_neg (fun h => hk h.1))
    rw [h2]
    clear hk h2
    go_wp2_with fail
    go_ret2
    exact ⟨none, 0, by rw [HE2.out, HE1.out]; rfl, by rw [HE1.out]; simp, by rw [HE1.out]; exact fun h => by simp at h, HB1.out⟩
end Go.Proofs.Ytencifnopfianaa
