/-
  Package tlb's fill (T).
-/
import Derived.Test.YtencifnopfianaaTlCheckT
import Derived.Test.YtencifnopfianaaTlRows
import Derived.Deep.QuietTactic
import Derived.Deep.RegionHeld
import Derived.Deep.RegionHeld3
namespace Go.Proofs.Ytencifnopfianaa
open Go.RowKit
set_option linter.unusedVariables false
set_option linter.unusedSimpArgs false
set_option maxRecDepth 100000 in
set_option maxHeartbeats 4000000 in
theorem fillT_any (O : Option Addr) (cap : Nat) (xs : List Tb) (ev : Tb) (w : World) (hI : RK encT 4 w O xs) (hcap : xs.length ≤ cap) :
    Calls Try.prog 39 #[.agg #[.int .i64 8, .func (.func 57) #[] #[], .func (.func 59) #[] #[]], .slice O xs.length cap, .agg #[.int .i64 ev.a, .int .u64 ev.p, .int .i64 ev.f, .bool ev.ro]] w fun e w' => ∃ v, e = .returned (.tuple #[v, .int .i64 (filE mayT plT 8 xs ev)]) ∧ Ow encT 4 25 w' w.heap.size v (filL mayT plT 8 xs ev) ∧ Below w.heap.size w w' := by
  have HB0 := Lib.hid (ba (ba (Below.refl w.heap.size w) (.cells #[.int .i64 8, .func (.func 57) #[] #[], .func (.func 59) #[] #[]] 61)) (.cells #[.int .i64 ev.a, .int .u64 ev.p, .int .i64 ev.f, .bool ev.ro] 25))
  have HK := Lib.hid ((Arr.new w #[.int .i64 8, .func (.func 57) #[] #[], .func (.func 59) #[] #[]] 61).alloc (.cells #[.int .i64 ev.a, .int .u64 ev.p, .int .i64 ev.f, .bool ev.ro] 25))
  have HV := Lib.hid (show Arr _ (w.heap.size + 1) _ from (show (w.alloc (.cells #[.int .i64 8, .func (.func 57) #[] #[], .func (.func 59) #[] #[]] 61)).heap.size = w.heap.size + 1 by simp) ▸ Arr.new (w.alloc (.cells #[.int .i64 8, .func (.func 57) #[] #[], .func (.func 59) #[] #[]] 61)) #[.int .i64 ev.a, .int .u64 ev.p, .int .i64 ev.f, .bool ev.ro] 25)
  have HI := Lib.hid (hI.call HB0.out)
  clear hI
  obtain ⟨i0, hi, hz0, hz1, hz2⟩ := tbInfo
  have lX : w.heap.size + 1 < ((w.alloc (.cells #[.int .i64 8, .func (.func 57) #[] #[], .func (.func 59) #[] #[]] 61)).alloc (.cells #[.int .i64 ev.a, .int .u64 ev.p, .int .i64 ev.f, .bool ev.ro] 25)).heap.size := by simp
  go_enter Try.func39, Try.ntmps39
  go_wp2_with fail
  generalize (w.alloc (.cells #[.int .i64 8, .func (.func 57) #[] #[], .func (.func 59) #[] #[]] 61)).alloc (.cells #[.int .i64 ev.a, .int .u64 ev.p, .int .i64 ev.f, .bool ev.ro] 25) = W0 at *
  refine (checkT_any O cap xs _ HI.out hcap).mono ?_
  rintro e W1 ⟨rfl, hb⟩
  have HB1 := Lib.hid (bthen HB0.out hb)
  have HI1 := Lib.hid (HI.out.call hb)
  have HK1 := Lib.hid (HK.out.call hb)
  have HV1 := Lib.hid (HV.out.call hb)
  have lX1 : w.heap.size + 1 < W1.heap.size := Nat.lt_of_lt_of_le lX hb.size
  clear hb HB0 HI HK HV lX
  rcases ckE_cases mayT plT 8 xs with ⟨hk, h2⟩ | ⟨hk, h2⟩
  · rw [h2]
    have k1 := HK1.out.cell 1 _ rfl
    have a0 := HV1.out.cell 0 _ rfl
    have a1 := HV1.out.cell 1 _ rfl
    have a2 := HV1.out.cell 2 _ rfl
    have a3 := HV1.out.cell 3 _ rfl
    have HKK := Lib.hid hk
    clear h2 hk
    go_wp2_with fail
    refine (mayT_any ev _).mono ?_
    rintro e Wc ⟨rfl, hb⟩
    have HBc := Lib.hid (bthen HB1.out hb)
    have HIc := Lib.hid (HI1.out.call hb)
    have HKc := Lib.hid (HK1.out.call hb)
    have HVc := Lib.hid (HV1.out.call hb)
    have lXc : w.heap.size + 1 < Wc.heap.size := Nat.lt_of_lt_of_le lX1 hb.size
    clear hb HB1 HI1 HK1 HV1 lX1 k1 a0 a1 a2 a3
    rcases hm : mayT ev with _ | _
    · have HE1 := Lib.hid (show filL mayT plT 8 xs ev = [] from if_neg (fun h => by rw [hm] at h; exact Bool.noConfusion h.2))
      have HE2 := Lib.hid (show filE mayT plT 8 xs ev = 2 from if_neg (fun h => by rw [hm] at h; exact Bool.noConfusion h.2))
      clear hm
      go_wp2_with fail
      go_ret2
      exact ⟨_, by rw [HE2.out]; rfl, by rw [HE1.out]; exact Ow.nil _ _ _, HBc.out⟩
    · have HE1 := Lib.hid (show filL mayT plT 8 xs ev = _ from if_pos ⟨HKK.out, hm⟩)
      have HE2 := Lib.hid (show filE mayT plT 8 xs ev = 0 from if_pos ⟨HKK.out, hm⟩)
      have h8 := HKK.out.1
      clear hm HKK
      obtain ⟨len, hlen⟩ : ∃ len, len = xs.length := ⟨_, rfl⟩
      rw [← hlen] at hcap h8 ⊢
      have h1000 : len ≤ 1000 := by omega
      have HL := Lib.hid hlen
      clear hlen
      go_wp2_with (first
        | (refine wp_make (enc := encT) (k := 4) rfl _ _ 22 rfl Wc.heap.size 25 i0 _ 32 Try.underlying22 hi hz0 hz1 hz2 _ _ _ (len + 1) rfl rfl (by omega) (by omega) (by decide) Wc (Below.refl _ _) (Nat.le_refl _) ?_; intro v7 w7 hO7 hB7)
        | (at_builtin; refine wp_app (enc := encT) rfl _ _ 22 rfl Wc.heap.size 25 i0 _ 32 Try.underlying22 hi hz0 hz1 hz2 rfl (by decide) encT_len encT_one _ [] rfl hO7 xs O len cap rfl HL.out.symm (HIc.out.call hB7) (by simp; omega) (by decide) Wc hB7 (Nat.le_refl _) ?_; intro v8 w8 hO8 hB8))
      rw [List.nil_append] at hO8
      have HO8 := Lib.hid hO8
      have HB8 := Lib.hid hB8
      have HK8 := Lib.hid (HKc.out.call hB8)
      have HV8 := Lib.hid (HVc.out.call hB8)
      have HI8 := Lib.hid (HIc.out.call hB8)
      have l8 : w.heap.size + 1 < w8.heap.size := Nat.lt_of_lt_of_le lXc hB8.size
      clear hO7 hB7 hO8 hB8 HKc
      have lK : w.heap.size < w8.heap.size := by omega
      have k0 := HK8.out.cell 0 _ rfl
      have k1 := HK8.out.cell 1 _ rfl
      have k2 := HK8.out.cell 2 _ rfl
      have a0 := HV8.out.cell 0 _ rfl
      have a1 := HV8.out.cell 1 _ rfl
      have a2 := HV8.out.cell 2 _ rfl
      have a3 := HV8.out.cell 3 _ rfl
      rcases fv_cases (pl := plT) xs (ev.a, 0, ev.p) with ⟨n, h1, h2, h3⟩ | ⟨h1, h2⟩
      · have HF := Lib.hid h2
        have HE3 := Lib.hid (show filL mayT plT 8 xs ev = xs.set n ev from by rw [HE1.out, show fdx plT xs (plT ev) = some n from h1])
        have H3 := Lib.hid h3
        obtain ⟨x, hx⟩ : ∃ x, xs[n]? = some x := ⟨xs[n], List.getElem?_eq_getElem h3⟩
        have HX := Lib.hid hx
        have hn : n < len := by have := HL.out; omega
        have j0 : (0 : Int) ≤ (n : Int) := by omega
        have j1 : (n : Int) < (len : Int) := by omega
        obtain ⟨g, cg, hv, hg, hg2, hcg, hcm⟩ := HO8.out.head (by omega)
        rw [← HL.out] at hv
        subst hv
        clear h1 h2 h3 hx HE1
        refine wp_region_held_drew (S := fun w' => Below w8.heap.size w8 w') (by kernel_rfl) (bd (Below.refl _ _)) (fun hHeld => ?_)
        refine wpAnyH_take (i := 0) (oi := ⟨_, _, _, _, _, _⟩) (v := ?va0) rfl (by kernel_rfl) (by kernel_rfl) (by kernel_rfl) (fun _ _ _ h => h) (Or.inl ⟨by rfl, ?hya0⟩) hHeld ?resta0
        case hya0 => (intro w' hSw; obtain ⟨hcc, hff⟩ := bcell hSw; go_simp; try with_reducible rfl)
        try simp only [Act.put, List.setIfInBounds_toArray, List.set_cons_zero, List.set_cons_succ]
        refine wpAnyH_take (i := 1) (oi := ⟨_, _, _, _, _, _⟩) (v := ?va1) rfl (by kernel_rfl) (by kernel_rfl) (by kernel_rfl) (fun _ _ _ h => h) (Or.inl ⟨by rfl, ?hya1⟩) hHeld ?resta1
        case hya1 => (intro w' hSw; go_simp; try with_reducible rfl)
        try simp only [Act.put, List.setIfInBounds_toArray, List.set_cons_zero, List.set_cons_succ]
        refine wpAnyH_take (i := 2) (oi := ⟨_, _, _, _, _, _⟩) (v := ?va2) rfl (by kernel_rfl) (by kernel_rfl) (by kernel_rfl) (fun _ _ _ h => h) (Or.inl ⟨by rfl, ?hya2⟩) hHeld ?resta2
        case hya2 => (intro w' hSw; go_simp; try with_reducible rfl)
        try simp only [Act.put, List.setIfInBounds_toArray, List.set_cons_zero, List.set_cons_succ]
        refine wpAnyH_take (i := 3) (oi := ⟨_, _, _, _, _, _⟩) (v := ?va3) rfl (by kernel_rfl) (by kernel_rfl) (by kernel_rfl) (fun _ _ _ h => h) (Or.inl ⟨by rfl, ?hya3⟩) hHeld ?resta3
        case hya3 => (intro w' hSw; obtain ⟨hcc, hff⟩ := bcell hSw; go_simp; try with_reducible rfl)
        try simp only [Act.put, List.setIfInBounds_toArray, List.set_cons_zero, List.set_cons_succ]
        refine wpAnyH_take (i := 4) (oi := ⟨_, _, _, _, _, _⟩) (v := ?va4) rfl (by kernel_rfl) (by kernel_rfl) (by kernel_rfl) (fun _ _ _ h => h) (Or.inl ⟨by rfl, ?hya4⟩) hHeld ?resta4
        case hya4 => (intro w' hSw; obtain ⟨hcc, hff⟩ := bcell hSw; go_simp; try with_reducible rfl)
        try simp only [Act.put, List.setIfInBounds_toArray, List.set_cons_zero, List.set_cons_succ]
        refine wpAnyH_ready (rs := [5]) (by kernel_rfl) (by simp) ?_
        refine AllReadyH.cons (o := ⟨_, _, _, _, _, _⟩) rfl (fun K hK => ?_) AllReadyH.nil
        go_simp
        refine (atT_any ev _).mono ?_
        rintro e wra1 ⟨rfl, hb⟩
        go_wp2_with fail
        have hB2 := bthen hHeld hb
        clear hHeld hb
        refine hK.out _ _ hB2 (fun hHeld => ?_)
        clear hB2 hK K
        try simp only [Act.put, List.setIfInBounds_toArray, List.set_cons_zero, List.set_cons_succ]
        refine wpAnyH_ready (rs := [6]) (by kernel_rfl) (by simp) ?_
        refine AllReadyH.cons (o := ⟨_, _, _, _, _, _⟩) rfl (fun K hK => ?_) AllReadyH.nil
        go_simp
        refine (findT_at len HL.out.symm O cap ev.a (0) ev.p _ (RK.call HI8.out hHeld) hcap h1000).mono ?_
        rintro e wra2 ⟨rfl, hb⟩
        rw [HF.out]
        go_wp2_with fail
        have hB2 := bthen hHeld hb
        clear hHeld hb
        refine hK.out _ _ hB2 (fun hHeld => ?_)
        clear hB2 hK K
        try simp only [Act.put, List.setIfInBounds_toArray, List.set_cons_zero, List.set_cons_succ]
        refine wpAnyH_take (i := 7) (oi := ⟨_, _, _, _, _, _⟩) (v := ?va7) rfl (by kernel_rfl) (by kernel_rfl) (by kernel_rfl) (fun _ _ _ h => h) (Or.inl ⟨by rfl, ?hya7⟩) hHeld ?resta7
        case hya7 => (intro w' hSw; go_simp; try with_reducible rfl)
        try simp only [Act.put, List.setIfInBounds_toArray, List.set_cons_zero, List.set_cons_succ]
        refine wpAnyH_done (by kernel_rfl) ?_ _
        have HB9 := Lib.hid (bthen HB8.out hHeld)
        have HO9 := Lib.hid (HO8.out.call hHeld)
        have HV9 := Lib.hid (HV8.out.call hHeld)
        have l9 : w.heap.size + 1 < wra2.heap.size := Nat.lt_of_lt_of_le l8 hHeld.size
        have g9 : g < wra2.heap.size := Nat.lt_of_lt_of_le hg2 hHeld.size
        clear a0 a1 a2 a3 k0 k1 k2 hHeld lK l8 HK8 HO8 HV8 HI8 HIc
        have b0 := HV9.out.cell 0 _ rfl
        have b1 := HV9.out.cell 1 _ rfl
        have b2 := HV9.out.cell 2 _ rfl
        have b3 := HV9.out.cell 3 _ rfl
        obtain ⟨c0, c1, c2, c3⟩ := HO9.out.cells4 encT_len HX.out rfl
        have f0 := HO9.out.frozen4 (n * 4)
        have f1 := HO9.out.frozen4 (n * 4 + 1)
        have f2 := HO9.out.frozen4 (n * 4 + 2)
        have f3 := HO9.out.frozen4 (n * 4 + 3)
        go_wp2_with fail
        go_ret2
        refine ⟨_, by rw [HE2.out]; rfl, ?_, ?_⟩
        · rw [HE3.out]
          have := Ow.put4 encT_len (xs := xs) (by rw [← HL.out]; exact HO9.out) ev H3.out rfl
          rw [← HL.out] at this
          exact this.low HBc.out.size
        · exact bs (bs (bs (bs (bthen HBc.out HB9.out) (Nat.le_trans HBc.out.size hg) _) (Nat.le_trans HBc.out.size hg) _) (Nat.le_trans HBc.out.size hg) _) (Nat.le_trans HBc.out.size hg) _
      · have HF := Lib.hid h2
        by_cases hl : len = 8
        · have HE3 := Lib.hid (show filL mayT plT 8 xs ev = xs.drop 1 ++ [ev] from by rw [HE1.out, show fdx plT xs (plT ev) = none from h1]; simp only; rw [if_pos (HL.out.symm.trans hl)])
          obtain ⟨b, off, hO, -⟩ := HI8.out (by have := HL.out; omega)
          subst hO hl
          obtain ⟨g, cg, hv, hg, hg2, hcg, hcm⟩ := HO8.out.head (by have := HL.out; omega)
          rw [← HL.out] at hv
          subst hv
          clear h1 h2 HE1
          refine wp_region_held_drew (S := fun w' => Below w8.heap.size w8 w') (by kernel_rfl) (bd (Below.refl _ _)) (fun hHeld => ?_)
          refine wpAnyH_take (i := 0) (oi := ⟨_, _, _, _, _, _⟩) (v := ?vb0) rfl (by kernel_rfl) (by kernel_rfl) (by kernel_rfl) (fun _ _ _ h => h) (Or.inl ⟨by rfl, ?hyb0⟩) hHeld ?restb0
          case hyb0 => (intro w' hSw; obtain ⟨hcc, hff⟩ := bcell hSw; go_simp; try with_reducible rfl)
          try simp only [Act.put, List.setIfInBounds_toArray, List.set_cons_zero, List.set_cons_succ]
          refine wpAnyH_take (i := 1) (oi := ⟨_, _, _, _, _, _⟩) (v := ?vb1) rfl (by kernel_rfl) (by kernel_rfl) (by kernel_rfl) (fun _ _ _ h => h) (Or.inl ⟨by rfl, ?hyb1⟩) hHeld ?restb1
          case hyb1 => (intro w' hSw; go_simp; try with_reducible rfl)
          try simp only [Act.put, List.setIfInBounds_toArray, List.set_cons_zero, List.set_cons_succ]
          refine wpAnyH_take (i := 2) (oi := ⟨_, _, _, _, _, _⟩) (v := ?vb2) rfl (by kernel_rfl) (by kernel_rfl) (by kernel_rfl) (fun _ _ _ h => h) (Or.inl ⟨by rfl, ?hyb2⟩) hHeld ?restb2
          case hyb2 => (intro w' hSw; go_simp; try with_reducible rfl)
          try simp only [Act.put, List.setIfInBounds_toArray, List.set_cons_zero, List.set_cons_succ]
          refine wpAnyH_take (i := 3) (oi := ⟨_, _, _, _, _, _⟩) (v := ?vb3) rfl (by kernel_rfl) (by kernel_rfl) (by kernel_rfl) (fun _ _ _ h => h) (Or.inl ⟨by rfl, ?hyb3⟩) hHeld ?restb3
          case hyb3 => (intro w' hSw; obtain ⟨hcc, hff⟩ := bcell hSw; go_simp; try with_reducible rfl)
          try simp only [Act.put, List.setIfInBounds_toArray, List.set_cons_zero, List.set_cons_succ]
          refine wpAnyH_take (i := 4) (oi := ⟨_, _, _, _, _, _⟩) (v := ?vb4) rfl (by kernel_rfl) (by kernel_rfl) (by kernel_rfl) (fun _ _ _ h => h) (Or.inl ⟨by rfl, ?hyb4⟩) hHeld ?restb4
          case hyb4 => (intro w' hSw; obtain ⟨hcc, hff⟩ := bcell hSw; go_simp; try with_reducible rfl)
          try simp only [Act.put, List.setIfInBounds_toArray, List.set_cons_zero, List.set_cons_succ]
          refine wpAnyH_ready (rs := [5]) (by kernel_rfl) (by simp) ?_
          refine AllReadyH.cons (o := ⟨_, _, _, _, _, _⟩) rfl (fun K hK => ?_) AllReadyH.nil
          go_simp
          refine (atT_any ev _).mono ?_
          rintro e wrb1 ⟨rfl, hb⟩
          go_wp2_with fail
          have hB2 := bthen hHeld hb
          clear hHeld hb
          refine hK.out _ _ hB2 (fun hHeld => ?_)
          clear hB2 hK K
          try simp only [Act.put, List.setIfInBounds_toArray, List.set_cons_zero, List.set_cons_succ]
          refine wpAnyH_ready (rs := [6]) (by kernel_rfl) (by simp) ?_
          refine AllReadyH.cons (o := ⟨_, _, _, _, _, _⟩) rfl (fun K hK => ?_) AllReadyH.nil
          go_simp
          refine (findT_at 8 HL.out.symm (some ⟨b, off, none⟩) cap ev.a (0) ev.p _ (RK.call HI8.out hHeld) hcap h1000).mono ?_
          rintro e wrb2 ⟨rfl, hb⟩
          rw [HF.out]
          go_wp2_with fail
          have hB2 := bthen hHeld hb
          clear hHeld hb
          refine hK.out _ _ hB2 (fun hHeld => ?_)
          clear hB2 hK K
          try simp only [Act.put, List.setIfInBounds_toArray, List.set_cons_zero, List.set_cons_succ]
          refine wpAnyH_take (i := 7) (oi := ⟨_, _, _, _, _, _⟩) (v := ?vb7) rfl (by kernel_rfl) (by kernel_rfl) (by kernel_rfl) (fun _ _ _ h => h) (Or.inl ⟨by rfl, ?hyb7⟩) hHeld ?restb7
          case hyb7 => (intro w' hSw; go_simp; try with_reducible rfl)
          try simp only [Act.put, List.setIfInBounds_toArray, List.set_cons_zero, List.set_cons_succ]
          refine wpAnyH_done (by kernel_rfl) ?_ _
          have HB9 := Lib.hid (bthen HB8.out hHeld)
          have HO9 := Lib.hid (HO8.out.call hHeld)
          have HV9 := Lib.hid (HV8.out.call hHeld)
          have HI9 := Lib.hid (HI8.out.call hHeld)
          have c0 := (HK8.out.call hHeld).cell 0 _ rfl
          have l9 : w.heap.size + 1 < wrb2.heap.size := Nat.lt_of_lt_of_le l8 hHeld.size
          have g9 : g < wrb2.heap.size := Nat.lt_of_lt_of_le hg2 hHeld.size
          clear a0 a1 a2 a3 k0 k1 k2 hHeld lK l8 HK8 HO8 HV8 HI8 HIc HB8
          have i2 : (1 : Int) ≤ (cap : Int) := by omega
          have i3 : ¬ cap = 1 := by omega
          go_wp2_with fail
          go_region_held3 (fun w' => Below Wc.heap.size Wc w')
            (first | exact HB9.out.drew | exact hBz)
            ((refine step_app (enc := encT) (by rfl) _ _ 22 (by rfl) Wc.heap.size 25 i0 _ 32 Try.underlying22 hi hz0 hz1 hz2 rfl (by decide) encT_len encT_one _ [] (by rfl) (HO9.out.cut0.call (Below.refl _ _).drew) (xs.drop 1) _ _ _ (by rfl) (by rw [List.length_drop, ← HL.out]) (HI9.out.drop1.call (Below.refl _ _).drew) (by simp) (by decide) Wc HB9.out.drew (Nat.le_refl _) ?_; intro vz wz hOz hBz))
          all_goals
            rw [List.nil_append] at hOz
            have HOz := Lib.hid hOz
            have HBz := Lib.hid (show Below Wc.heap.size Wc wz from hBz)
            clear hOz hBz HO9 HB9 HV9 HI9 c0
            have lz : w.heap.size + 1 < wz.heap.size := Nat.lt_of_lt_of_le lXc HBz.out.size
            have b0 := (HVc.out.call HBz.out).cell 0 _ rfl
            have b1 := (HVc.out.call HBz.out).cell 1 _ rfl
            have b2 := (HVc.out.call HBz.out).cell 2 _ rfl
            have b3 := (HVc.out.call HBz.out).cell 3 _ rfl
            have HO9 := Lib.hid (Ow.call HOz.out (ba (Below.refl _ _) (.cells #[.int .i64 ev.a, .int .u64 ev.p, .int .i64 ev.f, .bool ev.ro] 25)))
            have HB9 := Lib.hid (ba HBz.out (.cells #[.int .i64 ev.a, .int .u64 ev.p, .int .i64 ev.f, .bool ev.ro] 25))
            have HN9 := Lib.hid (Arr.new wz #[.int .i64 ev.a, .int .u64 ev.p, .int .i64 ev.f, .bool ev.ro] 25)
            go_wp2_with (at_builtin; refine wp_snoc (enc := encT) rfl _ _ 22 rfl Wc.heap.size 25 i0 _ 32 Try.underlying22 hi hz0 hz1 hz2 rfl (by decide) encT_len _ _ rfl HO9.out ev wz.heap.size rfl ?d1 ?d2 ?d3 (by decide) Wc HB9.out (Nat.le_refl _) ?_)
            case d1 => first | exact fun q u hu => HN9.out.cell q u hu | exact fun q u hu => hu
            case d2 => intro u hu; simp [encT] at hu; rcases hu with rfl | rfl | rfl | rfl <;> rfl
            case d3 => have := HL.out; (try rw [List.length_drop]); omega
            intro v9 w9 hO9 hB9
            clear HO9 HB9
            have HO8 := Lib.hid hO9
            have HB8 := Lib.hid hB9
            clear hO9 hB9
            go_wp2_with fail
            go_ret2
            exact ⟨_, by rw [HE2.out]; rfl, by rw [HE3.out]; (try rw [List.drop_one]); exact HO8.out.low HBc.out.size, bthen HBc.out HB8.out⟩
        · have HE3 := Lib.hid (show filL mayT plT 8 xs ev = xs ++ [ev] from by rw [HE1.out, show fdx plT xs (plT ev) = none from h1]; simp only; rw [if_neg (fun h => hl (HL.out.trans h))])
          have hl' : ((len : Int) == 8) = false := by simp; omega
          clear h1 h2 HE1
          refine wp_region_held_drew (S := fun w' => Below w8.heap.size w8 w') (by kernel_rfl) (bd (Below.refl _ _)) (fun hHeld => ?_)
          refine wpAnyH_take (i := 0) (oi := ⟨_, _, _, _, _, _⟩) (v := ?vc0) rfl (by kernel_rfl) (by kernel_rfl) (by kernel_rfl) (fun _ _ _ h => h) (Or.inl ⟨by rfl, ?hyc0⟩) hHeld ?restc0
          case hyc0 => (intro w' hSw; obtain ⟨hcc, hff⟩ := bcell hSw; go_simp; try with_reducible rfl)
          try simp only [Act.put, List.setIfInBounds_toArray, List.set_cons_zero, List.set_cons_succ]
          refine wpAnyH_take (i := 1) (oi := ⟨_, _, _, _, _, _⟩) (v := ?vc1) rfl (by kernel_rfl) (by kernel_rfl) (by kernel_rfl) (fun _ _ _ h => h) (Or.inl ⟨by rfl, ?hyc1⟩) hHeld ?restc1
          case hyc1 => (intro w' hSw; go_simp; try with_reducible rfl)
          try simp only [Act.put, List.setIfInBounds_toArray, List.set_cons_zero, List.set_cons_succ]
          refine wpAnyH_take (i := 2) (oi := ⟨_, _, _, _, _, _⟩) (v := ?vc2) rfl (by kernel_rfl) (by kernel_rfl) (by kernel_rfl) (fun _ _ _ h => h) (Or.inl ⟨by rfl, ?hyc2⟩) hHeld ?restc2
          case hyc2 => (intro w' hSw; go_simp; try with_reducible rfl)
          try simp only [Act.put, List.setIfInBounds_toArray, List.set_cons_zero, List.set_cons_succ]
          refine wpAnyH_take (i := 3) (oi := ⟨_, _, _, _, _, _⟩) (v := ?vc3) rfl (by kernel_rfl) (by kernel_rfl) (by kernel_rfl) (fun _ _ _ h => h) (Or.inl ⟨by rfl, ?hyc3⟩) hHeld ?restc3
          case hyc3 => (intro w' hSw; obtain ⟨hcc, hff⟩ := bcell hSw; go_simp; try with_reducible rfl)
          try simp only [Act.put, List.setIfInBounds_toArray, List.set_cons_zero, List.set_cons_succ]
          refine wpAnyH_take (i := 4) (oi := ⟨_, _, _, _, _, _⟩) (v := ?vc4) rfl (by kernel_rfl) (by kernel_rfl) (by kernel_rfl) (fun _ _ _ h => h) (Or.inl ⟨by rfl, ?hyc4⟩) hHeld ?restc4
          case hyc4 => (intro w' hSw; obtain ⟨hcc, hff⟩ := bcell hSw; go_simp; try with_reducible rfl)
          try simp only [Act.put, List.setIfInBounds_toArray, List.set_cons_zero, List.set_cons_succ]
          refine wpAnyH_ready (rs := [5]) (by kernel_rfl) (by simp) ?_
          refine AllReadyH.cons (o := ⟨_, _, _, _, _, _⟩) rfl (fun K hK => ?_) AllReadyH.nil
          go_simp
          refine (atT_any ev _).mono ?_
          rintro e wrc1 ⟨rfl, hb⟩
          go_wp2_with fail
          have hB2 := bthen hHeld hb
          clear hHeld hb
          refine hK.out _ _ hB2 (fun hHeld => ?_)
          clear hB2 hK K
          try simp only [Act.put, List.setIfInBounds_toArray, List.set_cons_zero, List.set_cons_succ]
          refine wpAnyH_ready (rs := [6]) (by kernel_rfl) (by simp) ?_
          refine AllReadyH.cons (o := ⟨_, _, _, _, _, _⟩) rfl (fun K hK => ?_) AllReadyH.nil
          go_simp
          refine (findT_at len HL.out.symm O cap ev.a (0) ev.p _ (RK.call HI8.out hHeld) hcap h1000).mono ?_
          rintro e wrc2 ⟨rfl, hb⟩
          rw [HF.out]
          go_wp2_with fail
          have hB2 := bthen hHeld hb
          clear hHeld hb
          refine hK.out _ _ hB2 (fun hHeld => ?_)
          clear hB2 hK K
          try simp only [Act.put, List.setIfInBounds_toArray, List.set_cons_zero, List.set_cons_succ]
          refine wpAnyH_take (i := 7) (oi := ⟨_, _, _, _, _, _⟩) (v := ?vc7) rfl (by kernel_rfl) (by kernel_rfl) (by kernel_rfl) (fun _ _ _ h => h) (Or.inl ⟨by rfl, ?hyc7⟩) hHeld ?restc7
          case hyc7 => (intro w' hSw; go_simp; try with_reducible rfl)
          try simp only [Act.put, List.setIfInBounds_toArray, List.set_cons_zero, List.set_cons_succ]
          refine wpAnyH_done (by kernel_rfl) ?_ _
          have HB9 := Lib.hid (bthen HB8.out hHeld)
          have HO9 := Lib.hid (HO8.out.call hHeld)
          have HV9 := Lib.hid (HV8.out.call hHeld)
          have e0 := (HK8.out.call hHeld).cell 0 _ rfl
          have l9 : w.heap.size + 1 < wrc2.heap.size := Nat.lt_of_lt_of_le l8 hHeld.size
          clear a0 a1 a2 a3 k0 k1 k2 hHeld lK l8 HK8 HO8 HV8 HI8 HIc
          have b0 := HV9.out.cell 0 _ rfl
          have b1 := HV9.out.cell 1 _ rfl
          have b2 := HV9.out.cell 2 _ rfl
          have b3 := HV9.out.cell 3 _ rfl
          have HO9 := Lib.hid (Ow.call HO9.out (ba (Below.refl _ _) (.cells #[.int .i64 ev.a, .int .u64 ev.p, .int .i64 ev.f, .bool ev.ro] 25)))
          have HB9 := Lib.hid (ba HB9.out (.cells #[.int .i64 ev.a, .int .u64 ev.p, .int .i64 ev.f, .bool ev.ro] 25))
          have HN9 := Lib.hid (Arr.new wrc2 #[.int .i64 ev.a, .int .u64 ev.p, .int .i64 ev.f, .bool ev.ro] 25)
          go_wp2_with (at_builtin; refine wp_snoc (enc := encT) rfl _ _ 22 rfl Wc.heap.size 25 i0 _ 32 Try.underlying22 hi hz0 hz1 hz2 rfl (by decide) encT_len _ _ rfl HO9.out ev wrc2.heap.size rfl ?c1 ?c2 ?c3 (by decide) Wc HB9.out (Nat.le_refl _) ?_)
          case c1 => first | exact fun q u hu => HN9.out.cell q u hu | exact fun q u hu => hu
          case c2 => intro u hu; simp [encT] at hu; rcases hu with rfl | rfl | rfl | rfl <;> rfl
          case c3 => have := HL.out; omega
          intro v9 w9 hO9 hB9
          clear HO9 HB9
          have HO8 := Lib.hid hO9
          have HB8 := Lib.hid hB9
          clear hO9 hB9
          go_wp2_with fail
          go_ret2
          exact ⟨_, by rw [HE2.out]; rfl, by rw [HE3.out]; exact HO8.out.low HBc.out.size, bthen HBc.out HB8.out⟩
  · have HE1 := Lib.hid (show filL mayT plT 8 xs ev = [] from if_neg (fun h => hk h.1))
    have HE2 := Lib.hid (show filE mayT plT 8 xs ev = 2 from if_neg (fun h => hk h.1))
    rw [h2]
    clear hk h2
    go_wp2_with fail
    go_ret2
    exact ⟨_, by rw [HE2.out]; rfl, by rw [HE1.out]; exact Ow.nil _ _ _, HB1.out⟩
end Go.Proofs.Ytencifnopfianaa
