/-
  TlbAgain: the walk.
-/
import Derived.Test.YtencifnopfianaaTlSame
import Derived.Deep.RegionHeld
namespace Go.Proofs.Ytencifnopfianaa
open Go.RowKit
set_option linter.unusedVariables false
set_option linter.unusedSimpArgs false
set_option maxRecDepth 100000 in
set_option maxHeartbeats 16000000 in
theorem again_any (O : Option Addr) (cap : Nat) (xs : List Tb) (ev : Tb) (ak aa ap bk ba' bp : Int) (w : World) (hI : RK encT 4 w O xs) (hcap : xs.length ≤ cap) :
    Calls Try.prog 4 #[.slice O xs.length cap, .agg #[.int .i64 ev.a, .int .u64 ev.p, .int .i64 ev.f, .bool ev.ro], .agg #[.int .i8 ak, .int .i64 aa, .int .u64 ap], .agg #[.int .i8 bk, .int .i64 ba', .int .u64 bp]] w fun e w' => e = .returned (.bool true) ∧ Below w.heap.size w w' := by
  have hB0 := ba (ba (ba (Below.refl w.heap.size w) (.cells #[.int .i64 ev.a, .int .u64 ev.p, .int .i64 ev.f, .bool ev.ro] 25)) (.cells #[.int .i8 ak, .int .i64 aa, .int .u64 ap] 28)) (.cells #[.int .i8 bk, .int .i64 ba', .int .u64 bp] 28)
  have e1 : (w.alloc (.cells #[.int .i64 ev.a, .int .u64 ev.p, .int .i64 ev.f, .bool ev.ro] 25)).heap.size = w.heap.size + 1 := by simp
  have e2 : ((w.alloc (.cells #[.int .i64 ev.a, .int .u64 ev.p, .int .i64 ev.f, .bool ev.ro] 25)).alloc (.cells #[.int .i8 ak, .int .i64 aa, .int .u64 ap] 28)).heap.size = w.heap.size + 2 := by simp
  have HB0 := Lib.hid hB0
  have HV0 := Lib.hid (((Arr.new w #[.int .i64 ev.a, .int .u64 ev.p, .int .i64 ev.f, .bool ev.ro] 25).alloc (.cells #[.int .i8 ak, .int .i64 aa, .int .u64 ap] 28)).alloc (.cells #[.int .i8 bk, .int .i64 ba', .int .u64 bp] 28))
  have HTA0 := Lib.hid (e1 ▸ (Arr.new (w.alloc (.cells #[.int .i64 ev.a, .int .u64 ev.p, .int .i64 ev.f, .bool ev.ro] 25)) #[.int .i8 ak, .int .i64 aa, .int .u64 ap] 28).alloc (.cells #[.int .i8 bk, .int .i64 ba', .int .u64 bp] 28))
  have HTB0 := Lib.hid (e2 ▸ Arr.new ((w.alloc (.cells #[.int .i64 ev.a, .int .u64 ev.p, .int .i64 ev.f, .bool ev.ro] 25)).alloc (.cells #[.int .i8 ak, .int .i64 aa, .int .u64 ap] 28)) #[.int .i8 bk, .int .i64 ba', .int .u64 bp] 28)
  have HI0 := Lib.hid (hI.call hB0)
  clear hI hB0 e1 e2
  go_enter Try.func4, Try.ntmps4
  go_wp2_with fail
  generalize ((w.alloc (.cells #[.int .i64 ev.a, .int .u64 ev.p, .int .i64 ev.f, .bool ev.ro] 25)).alloc (.cells #[.int .i8 ak, .int .i64 aa, .int .u64 ap] 28)).alloc (.cells #[.int .i8 bk, .int .i64 ba', .int .u64 bp] 28) = W0 at *
  refine (checkT_out O cap xs _ HI0.out hcap).mono ?_
  rintro e Wc ⟨rfl, hb⟩
  have HBc := Lib.hid (bthen HB0.out hb)
  have HV := Lib.hid (HV0.out.call hb)
  have HTA := Lib.hid (HTA0.out.call hb)
  have HTB := Lib.hid (HTB0.out.call hb)
  have HI := Lib.hid (HI0.out.call hb)
  clear hb HB0 HV0 HTA0 HTB0 HI0
  rcases ckE_cases mayT plT 8 xs with ⟨hk, h2⟩ | ⟨hk, h2⟩
  · rw [h2]
    have HK := Lib.hid hk
    clear hk h2
    have v0 := HV.out.cell 0 _ rfl
    have v1 := HV.out.cell 1 _ rfl
    have v2 := HV.out.cell 2 _ rfl
    have v3 := HV.out.cell 3 _ rfl
    go_wp2_with fail
    refine (fillT_out O cap xs ev _ HI.out hcap).mono ?_
    rintro e W1 ⟨v, rfl, hO, hb⟩
    have HB1 := Lib.hid hb
    clear v0 v1 v2 v3
    rcases hm : mayT ev with _ | _
    · rw [show filE mayT plT 8 xs ev = 2 from if_neg (fun h => by rw [hm] at h; exact Bool.noConfusion h.2)]
      have HBv := HB1
      clear hO hb hm
      have a0 := (HTA.out.call HBv.out).cell 0 _ rfl
      have a1 := (HTA.out.call HBv.out).cell 1 _ rfl
      have a2 := (HTA.out.call HBv.out).cell 2 _ rfl
      go_wp2_with fail
      clear a0 a1 a2
      refine (dropT_out O cap xs ak aa ap _ (HI.out.call HBv.out) hcap).mono ?_
      rintro e W5 ⟨v, rfl, hO, hb⟩
      have HB5 := Lib.hid (bthen HBv.out hb)
      have a0 := (HTA.out.call HB5.out).cell 0 _ rfl
      have a1 := (HTA.out.call HB5.out).cell 1 _ rfl
      have a2 := (HTA.out.call HB5.out).cell 2 _ rfl
      have b0 := (HTB.out.call HB5.out).cell 0 _ rfl
      have b1 := (HTB.out.call HB5.out).cell 1 _ rfl
      have b2 := (HTB.out.call HB5.out).cell 2 _ rfl
      have la := (HTA.out.call HB5.out).lt
      have lb := (HTB.out.call HB5.out).lt
      have E1 := Lib.hid (drp_again HK.out (fun y : Tb => hitB ak aa ap y.a y.p))
      have E2' := Lib.hid (drp_both HK.out (fun y : Tb => hitB ak aa ap y.a y.p) (fun y : Tb => hitB bk ba' bp y.a y.p))
      have L1 := Lib.hid (drp_ck HK.out (fun y : Tb => hitB ak aa ap y.a y.p)).1
      have L2 := Lib.hid (drp_ck (drp_ck HK.out (fun y : Tb => hitB ak aa ap y.a y.p)) (fun y : Tb => hitB bk ba' bp y.a y.p)).1
      generalize hms : drpL mayT plT 8 xs (fun y : Tb => hitB ak aa ap y.a y.p) = ms at *
      obtain ⟨ks, hks⟩ : ∃ ks, drpL mayT plT 8 xs (fun y : Tb => hitB bk ba' bp y.a y.p) = ks := ⟨_, rfl⟩
      obtain ⟨ns, hns⟩ : ∃ ns, drpL mayT plT 8 ms (fun y : Tb => hitB bk ba' bp y.a y.p) = ns := ⟨_, rfl⟩
      have E2 := Lib.hid hns
      have E3 := Lib.hid hks
      have E4 := Lib.hid (show drpL mayT plT 8 ks (fun y : Tb => hitB ak aa ap y.a y.p) = ns from by rw [← hks, ← E2'.out, hns])
      rw [hns] at L2
      have L1 := Lib.hid (show ms.length ≤ 1000 from Nat.le_trans L1.out (by decide))
      have L2 := Lib.hid (show ns.length ≤ 1000 from Nat.le_trans L2.out (by decide))
      obtain ⟨Om, pm, rfl, lm, mm, rm⟩ := hO.form encT_len
      have Rm := Lib.hid rm
      have RI := Lib.hid (HI.out.call HB5.out)
      clear hms hks hns hO hb rm E2' mm
      go_wp2_with fail
      refine wp_region_held_drew (S := fun w' => Below W5.heap.size W5 w') (by kernel_rfl) (bd (Below.refl _ _)) (fun hHeld => ?_)
      refine wpAnyH_take (i := 0) (oi := ⟨_, _, _, _, _, _⟩) (v := ?va0) rfl (by kernel_rfl) (by kernel_rfl) (by kernel_rfl) (fun _ _ _ h => h) (Or.inl ⟨by rfl, ?hya0⟩) hHeld ?resta0
      case hya0 => (intro w' hSw; go_simp; try with_reducible rfl)
      try simp only [Act.put, List.setIfInBounds_toArray, List.set_cons_zero, List.set_cons_succ]
      refine wpAnyH_take (i := 1) (oi := ⟨_, _, _, _, _, _⟩) (v := ?va1) rfl (by kernel_rfl) (by kernel_rfl) (by kernel_rfl) (fun _ _ _ h => h) (Or.inl ⟨by rfl, ?hya1⟩) hHeld ?resta1
      case hya1 => (intro w' hSw; obtain ⟨hcc, hff⟩ := bcell hSw; go_simp; try with_reducible rfl)
      try simp only [Act.put, List.setIfInBounds_toArray, List.set_cons_zero, List.set_cons_succ]
      refine wpAnyH_take (i := 3) (oi := ⟨_, _, _, _, _, _⟩) (v := ?va3) rfl (by kernel_rfl) (by kernel_rfl) (by kernel_rfl) (fun _ _ _ h => h) (Or.inl ⟨by rfl, ?hya3⟩) hHeld ?resta3
      case hya3 => (intro w' hSw; go_simp; try with_reducible rfl)
      try simp only [Act.put, List.setIfInBounds_toArray, List.set_cons_zero, List.set_cons_succ]
      refine wpAnyH_ready (rs := [2]) (by kernel_rfl) (by simp) ?_
      refine AllReadyH.cons (o := ⟨_, _, _, _, _, _⟩) rfl (fun K hK => ?_) AllReadyH.nil
      go_simp
      refine (dropT_out Om pm ms ak aa ap _ (Rm.out.call hHeld) lm).mono ?_
      rintro e wr1 ⟨v1, rfl, hO1, hb⟩
      rw [E1.out] at hO1
      obtain ⟨O1, p1, rfl, l1, m1, r1⟩ := hO1.form encT_len
      have R1 := Lib.hid r1
      clear hO1 r1 m1
      go_wp2_with fail
      have hB2 := bthen hHeld hb
      clear hHeld hb
      refine hK.out _ _ hB2 (fun hHeld => ?_)
      clear hB2 hK K
      try simp only [Act.put, List.setIfInBounds_toArray, List.set_cons_zero, List.set_cons_succ]
      refine wpAnyH_ready (rs := [4]) (by kernel_rfl) (by simp) ?_
      refine AllReadyH.cons (o := ⟨_, _, _, _, _, _⟩) rfl (fun K hK => ?_) AllReadyH.nil
      go_simp
      refine (sameT_at ms.length rfl O1 Om p1 pm _ R1.out (Rm.out.call hHeld) l1 lm L1.out).mono ?_
      rintro e wr2 ⟨rfl, hb⟩
      have R1 := Lib.hid (R1.out.call hb)
      go_wp2_with fail
      have hB2 := bthen hHeld hb
      clear hHeld hb
      refine hK.out _ _ hB2 (fun hHeld => ?_)
      clear hB2 hK K
      try simp only [Act.put, List.setIfInBounds_toArray, List.set_cons_zero, List.set_cons_succ]
      refine wpAnyH_take (i := 5) (oi := ⟨_, _, _, _, _, _⟩) (v := ?va5) rfl (by kernel_rfl) (by kernel_rfl) (by kernel_rfl) (fun _ _ _ h => h) (Or.inl ⟨by rfl, ?hya5⟩) hHeld ?resta5
      case hya5 => (intro w' hSw; go_simp; try with_reducible rfl)
      try simp only [Act.put, List.setIfInBounds_toArray, List.set_cons_zero, List.set_cons_succ]
      first
          | (refine wpAnyH_take (i := 6) (oi := ⟨_, _, _, _, _, _⟩) (v := undef) rfl (by kernel_rfl) (by kernel_rfl) (by kernel_rfl) (fun _ _ _ h => h) (Or.inr ⟨by rfl, rfl⟩) hHeld ?_)
          | (refine wpAnyH_take (i := 6) (oi := ⟨_, _, _, _, _, _⟩) (v := ?va6) rfl (by kernel_rfl) (by kernel_rfl) (by kernel_rfl) (fun _ _ _ h => h) (Or.inl ⟨by rfl, ?hya6⟩) hHeld ?resta6; case hya6 => (intro w' hSw; go_simp; try with_reducible rfl))
      try simp only [Act.put, List.setIfInBounds_toArray, List.set_cons_zero, List.set_cons_succ]
      first
          | (refine wpAnyH_take (i := 7) (oi := ⟨_, _, _, _, _, _⟩) (v := undef) rfl (by kernel_rfl) (by kernel_rfl) (by kernel_rfl) (fun _ _ _ h => h) (Or.inr ⟨by rfl, rfl⟩) hHeld ?_)
          | (refine wpAnyH_take (i := 7) (oi := ⟨_, _, _, _, _, _⟩) (v := ?va7) rfl (by kernel_rfl) (by kernel_rfl) (by kernel_rfl) (fun _ _ _ h => h) (Or.inl ⟨by rfl, ?hya7⟩) hHeld ?resta7; case hya7 => (intro w' hSw; obtain ⟨hcc, hff⟩ := bcell hSw; go_simp; try with_reducible rfl))
      try simp only [Act.put, List.setIfInBounds_toArray, List.set_cons_zero, List.set_cons_succ]
      first
          | (refine wpAnyH_take (i := 9) (oi := ⟨_, _, _, _, _, _⟩) (v := undef) rfl (by kernel_rfl) (by kernel_rfl) (by kernel_rfl) (fun _ _ _ h => h) (Or.inr ⟨by rfl, rfl⟩) hHeld ?_)
          | (refine wpAnyH_take (i := 9) (oi := ⟨_, _, _, _, _, _⟩) (v := ?va9) rfl (by kernel_rfl) (by kernel_rfl) (by kernel_rfl) (fun _ _ _ h => h) (Or.inl ⟨by rfl, ?hya9⟩) hHeld ?resta9; case hya9 => (intro w' hSw; go_simp; try with_reducible rfl))
      try simp only [Act.put, List.setIfInBounds_toArray, List.set_cons_zero, List.set_cons_succ]
      first
          | (refine wpAnyH_take (i := 10) (oi := ⟨_, _, _, _, _, _⟩) (v := undef) rfl (by kernel_rfl) (by kernel_rfl) (by kernel_rfl) (fun _ _ _ h => h) (Or.inr ⟨by rfl, rfl⟩) hHeld ?_)
          | (refine wpAnyH_take (i := 10) (oi := ⟨_, _, _, _, _, _⟩) (v := ?va10) rfl (by kernel_rfl) (by kernel_rfl) (by kernel_rfl) (fun _ _ _ h => h) (Or.inl ⟨by rfl, ?hya10⟩) hHeld ?resta10; case hya10 => (intro w' hSw; obtain ⟨hcc, hff⟩ := bcell hSw; go_simp; try with_reducible rfl))
      try simp only [Act.put, List.setIfInBounds_toArray, List.set_cons_zero, List.set_cons_succ]
      first
          | (refine wpAnyH_take (i := 12) (oi := ⟨_, _, _, _, _, _⟩) (v := undef) rfl (by kernel_rfl) (by kernel_rfl) (by kernel_rfl) (fun _ _ _ h => h) (Or.inr ⟨by rfl, rfl⟩) hHeld ?_)
          | (refine wpAnyH_take (i := 12) (oi := ⟨_, _, _, _, _, _⟩) (v := ?va12) rfl (by kernel_rfl) (by kernel_rfl) (by kernel_rfl) (fun _ _ _ h => h) (Or.inl ⟨by rfl, ?hya12⟩) hHeld ?resta12; case hya12 => (intro w' hSw; obtain ⟨hcc, hff⟩ := bcell hSw; go_simp; try with_reducible rfl))
      try simp only [Act.put, List.setIfInBounds_toArray, List.set_cons_zero, List.set_cons_succ]
      refine wpAnyH_ready (rs := [8]) (by kernel_rfl) (by simp) ?_
      refine AllReadyH.cons (o := ⟨_, _, _, _, _, _⟩) rfl (fun K hK => ?_) AllReadyH.nil
      go_simp
      refine (dropT_out Om pm ms bk ba' bp _ (Rm.out.call hHeld) lm).mono ?_
      rintro e wr3 ⟨v2, rfl, hO2, hb⟩
      rw [E2.out] at hO2
      obtain ⟨O2, p2, rfl, l2, m2, r2⟩ := hO2.form encT_len
      have R2 := Lib.hid r2
      clear hO2 r2 m2
      go_wp2_with fail
      have hB2 := bthen hHeld hb
      clear hHeld hb
      refine hK.out _ _ hB2 (fun hHeld => ?_)
      clear hB2 hK K
      try simp only [Act.put, List.setIfInBounds_toArray, List.set_cons_zero, List.set_cons_succ]
      refine wpAnyH_ready (rs := [11]) (by kernel_rfl) (by simp) ?_
      refine AllReadyH.cons (o := ⟨_, _, _, _, _, _⟩) rfl (fun K hK => ?_) AllReadyH.nil
      go_simp
      refine (dropT_out O cap xs bk ba' bp _ (RI.out.call hHeld) hcap).mono ?_
      rintro e wr4 ⟨v3, rfl, hO3, hb⟩
      rw [E3.out] at hO3
      obtain ⟨O3, p3, rfl, l3, m3, r3⟩ := hO3.form encT_len
      have R3 := Lib.hid r3
      clear hO3 r3 m3
      have R2 := Lib.hid (R2.out.call hb)
      go_wp2_with fail
      have hB2 := bthen hHeld hb
      clear hHeld hb
      refine hK.out _ _ hB2 (fun hHeld => ?_)
      clear hB2 hK K
      try simp only [Act.put, List.setIfInBounds_toArray, List.set_cons_zero, List.set_cons_succ]
      refine wpAnyH_ready (rs := [13]) (by kernel_rfl) (by simp) ?_
      refine AllReadyH.cons (o := ⟨_, _, _, _, _, _⟩) rfl (fun K hK => ?_) AllReadyH.nil
      go_simp
      refine (dropT_out O3 p3 ks ak aa ap _ R3.out l3).mono ?_
      rintro e wr5 ⟨v4, rfl, hO4, hb⟩
      rw [E4.out] at hO4
      obtain ⟨O4, p4, rfl, l4, m4, r4⟩ := hO4.form encT_len
      have R4 := Lib.hid r4
      clear hO4 r4 m4
      have R2 := Lib.hid (R2.out.call hb)
      go_wp2_with fail
      have hB2 := bthen hHeld hb
      clear hHeld hb
      refine hK.out _ _ hB2 (fun hHeld => ?_)
      clear hB2 hK K
      try simp only [Act.put, List.setIfInBounds_toArray, List.set_cons_zero, List.set_cons_succ]
      refine wpAnyH_ready (rs := [14]) (by kernel_rfl) (by simp) ?_
      refine AllReadyH.cons (o := ⟨_, _, _, _, _, _⟩) rfl (fun K hK => ?_) AllReadyH.nil
      go_simp
      refine (sameT_at ns.length rfl O2 O4 p2 p4 _ R2.out R4.out l2 l4 L2.out).mono ?_
      rintro e wr6 ⟨rfl, hb⟩
      go_wp2_with fail
      have hB2 := bthen hHeld hb
      clear hHeld hb
      refine hK.out _ _ hB2 (fun hHeld => ?_)
      clear hB2 hK K
      try simp only [Act.put, List.setIfInBounds_toArray, List.set_cons_zero, List.set_cons_succ]
      refine wpAnyH_take (i := 15) (oi := ⟨_, _, _, _, _, _⟩) (v := ?va15) rfl (by kernel_rfl) (by kernel_rfl) (by kernel_rfl) (fun _ _ _ h => h) (Or.inl ⟨by rfl, ?hya15⟩) hHeld ?resta15
      case hya15 => (intro w' hSw; go_simp; try with_reducible rfl)
      try simp only [Act.put, List.setIfInBounds_toArray, List.set_cons_zero, List.set_cons_succ]
      refine wpAnyH_take (i := 16) (oi := ⟨_, _, _, _, _, _⟩) (v := ?va16) rfl (by kernel_rfl) (by kernel_rfl) (by kernel_rfl) (fun _ _ _ h => h) (Or.inl ⟨by rfl, ?hya16⟩) hHeld ?resta16
      case hya16 => (intro w' hSw; go_simp; try with_reducible rfl)
      try simp only [Act.put, List.setIfInBounds_toArray, List.set_cons_zero, List.set_cons_succ]
      refine wpAnyH_ready (rs := [17]) (by kernel_rfl) (by simp) ?_
      refine AllReadyH.cons (o := ⟨_, _, _, _, _, _⟩) rfl (fun K hK => ?_) AllReadyH.nil
      go_simp
      refine (wakes11_any _).mono ?_
      rintro e wr7 ⟨rfl, hb⟩
      go_wp2_with fail
      have hB2 := bthen hHeld hb
      clear hHeld hb
      refine hK.out _ _ hB2 (fun hHeld => ?_)
      clear hB2 hK K
      try simp only [Act.put, List.setIfInBounds_toArray, List.set_cons_zero, List.set_cons_succ]
      refine wpAnyH_take (i := 18) (oi := ⟨_, _, _, _, _, _⟩) (v := ?va18) rfl (by kernel_rfl) (by kernel_rfl) (by kernel_rfl) (fun _ _ _ h => h) (Or.inl ⟨by rfl, ?hya18⟩) hHeld ?resta18
      case hya18 => (intro w' hSw; go_simp; try with_reducible rfl)
      try simp only [Act.put, List.setIfInBounds_toArray, List.set_cons_zero, List.set_cons_succ]
      refine wpAnyH_take (i := 19) (oi := ⟨_, _, _, _, _, _⟩) (v := ?va19) rfl (by kernel_rfl) (by kernel_rfl) (by kernel_rfl) (fun _ _ _ h => h) (Or.inl ⟨by rfl, ?hya19⟩) hHeld ?resta19
      case hya19 => (intro w' hSw; go_simp; try with_reducible rfl)
      try simp only [Act.put, List.setIfInBounds_toArray, List.set_cons_zero, List.set_cons_succ]
      refine wpAnyH_done (by kernel_rfl) ?_ _
      have HH := Lib.hid hHeld
      clear hHeld
      go_wp2_with fail
      go_ret
      exact ⟨rfl, bthen HBc.out (bthen HB5.out HH.out)⟩
    · rw [show filE mayT plT 8 xs ev = 0 from if_pos ⟨HK.out, hm⟩]
      have EF := Lib.hid (fill_again (by decide) HK.out hm)
      have EK := Lib.hid (Ck.fill (by decide) HK.out hm).1
      generalize hfs : filL mayT plT 8 xs ev = fs at *
      obtain ⟨Of, pf, rfl, lf, mf, rf⟩ := hO.form encT_len
      have Rf := Lib.hid rf
      have EE := Lib.hid (show filE mayT plT 8 fs ev = 0 from if_pos ⟨EK.out, hm⟩)
      have LF := Lib.hid (show fs.length ≤ 1000 from Nat.le_trans EK.out.1 (by decide))
      clear hO hb hm hfs rf mf
      have v0 := (HV.out.call HB1.out).cell 0 _ rfl
      have v1 := (HV.out.call HB1.out).cell 1 _ rfl
      have v2 := (HV.out.call HB1.out).cell 2 _ rfl
      have v3 := (HV.out.call HB1.out).cell 3 _ rfl
      go_wp2_with fail
      refine (fillT_out Of pf fs ev _ Rf.out lf).mono ?_
      rintro e W2 ⟨v, rfl, hO, hb⟩
      rw [EF.out] at hO
      rw [EE.out]
      obtain ⟨Og, pg, rfl, lg, mg, rg⟩ := hO.form encT_len
      have Rg := Lib.hid rg
      have Rf2 := Lib.hid (Rf.out.call hb)
      have HB2 := Lib.hid (bthen HB1.out hb)
      clear hO hb rg mg v0 v1 v2 v3
      go_wp2_with fail
      refine (sameT_at fs.length rfl Of Og pf pg _ Rf2.out Rg.out lf lg LF.out).mono ?_
      rintro e W3 ⟨rfl, hb⟩
      have HBv := Lib.hid (bthen HB2.out hb)
      clear hb
      have a0 := (HTA.out.call HBv.out).cell 0 _ rfl
      have a1 := (HTA.out.call HBv.out).cell 1 _ rfl
      have a2 := (HTA.out.call HBv.out).cell 2 _ rfl
      go_wp2_with fail
      clear a0 a1 a2
      refine (dropT_out O cap xs ak aa ap _ (HI.out.call HBv.out) hcap).mono ?_
      rintro e W5 ⟨v, rfl, hO, hb⟩
      have HB5 := Lib.hid (bthen HBv.out hb)
      have a0 := (HTA.out.call HB5.out).cell 0 _ rfl
      have a1 := (HTA.out.call HB5.out).cell 1 _ rfl
      have a2 := (HTA.out.call HB5.out).cell 2 _ rfl
      have b0 := (HTB.out.call HB5.out).cell 0 _ rfl
      have b1 := (HTB.out.call HB5.out).cell 1 _ rfl
      have b2 := (HTB.out.call HB5.out).cell 2 _ rfl
      have la := (HTA.out.call HB5.out).lt
      have lb := (HTB.out.call HB5.out).lt
      have E1 := Lib.hid (drp_again HK.out (fun y : Tb => hitB ak aa ap y.a y.p))
      have E2' := Lib.hid (drp_both HK.out (fun y : Tb => hitB ak aa ap y.a y.p) (fun y : Tb => hitB bk ba' bp y.a y.p))
      have L1 := Lib.hid (drp_ck HK.out (fun y : Tb => hitB ak aa ap y.a y.p)).1
      have L2 := Lib.hid (drp_ck (drp_ck HK.out (fun y : Tb => hitB ak aa ap y.a y.p)) (fun y : Tb => hitB bk ba' bp y.a y.p)).1
      generalize hms : drpL mayT plT 8 xs (fun y : Tb => hitB ak aa ap y.a y.p) = ms at *
      obtain ⟨ks, hks⟩ : ∃ ks, drpL mayT plT 8 xs (fun y : Tb => hitB bk ba' bp y.a y.p) = ks := ⟨_, rfl⟩
      obtain ⟨ns, hns⟩ : ∃ ns, drpL mayT plT 8 ms (fun y : Tb => hitB bk ba' bp y.a y.p) = ns := ⟨_, rfl⟩
      have E2 := Lib.hid hns
      have E3 := Lib.hid hks
      have E4 := Lib.hid (show drpL mayT plT 8 ks (fun y : Tb => hitB ak aa ap y.a y.p) = ns from by rw [← hks, ← E2'.out, hns])
      rw [hns] at L2
      have L1 := Lib.hid (show ms.length ≤ 1000 from Nat.le_trans L1.out (by decide))
      have L2 := Lib.hid (show ns.length ≤ 1000 from Nat.le_trans L2.out (by decide))
      obtain ⟨Om, pm, rfl, lm, mm, rm⟩ := hO.form encT_len
      have Rm := Lib.hid rm
      have RI := Lib.hid (HI.out.call HB5.out)
      clear hms hks hns hO hb rm E2' mm
      go_wp2_with fail
      refine wp_region_held_drew (S := fun w' => Below W5.heap.size W5 w') (by kernel_rfl) (bd (Below.refl _ _)) (fun hHeld => ?_)
      refine wpAnyH_take (i := 0) (oi := ⟨_, _, _, _, _, _⟩) (v := ?vb0) rfl (by kernel_rfl) (by kernel_rfl) (by kernel_rfl) (fun _ _ _ h => h) (Or.inl ⟨by rfl, ?hyb0⟩) hHeld ?restb0
      case hyb0 => (intro w' hSw; go_simp; try with_reducible rfl)
      try simp only [Act.put, List.setIfInBounds_toArray, List.set_cons_zero, List.set_cons_succ]
      refine wpAnyH_take (i := 1) (oi := ⟨_, _, _, _, _, _⟩) (v := ?vb1) rfl (by kernel_rfl) (by kernel_rfl) (by kernel_rfl) (fun _ _ _ h => h) (Or.inl ⟨by rfl, ?hyb1⟩) hHeld ?restb1
      case hyb1 => (intro w' hSw; obtain ⟨hcc, hff⟩ := bcell hSw; go_simp; try with_reducible rfl)
      try simp only [Act.put, List.setIfInBounds_toArray, List.set_cons_zero, List.set_cons_succ]
      refine wpAnyH_take (i := 3) (oi := ⟨_, _, _, _, _, _⟩) (v := ?vb3) rfl (by kernel_rfl) (by kernel_rfl) (by kernel_rfl) (fun _ _ _ h => h) (Or.inl ⟨by rfl, ?hyb3⟩) hHeld ?restb3
      case hyb3 => (intro w' hSw; go_simp; try with_reducible rfl)
      try simp only [Act.put, List.setIfInBounds_toArray, List.set_cons_zero, List.set_cons_succ]
      refine wpAnyH_ready (rs := [2]) (by kernel_rfl) (by simp) ?_
      refine AllReadyH.cons (o := ⟨_, _, _, _, _, _⟩) rfl (fun K hK => ?_) AllReadyH.nil
      go_simp
      refine (dropT_out Om pm ms ak aa ap _ (Rm.out.call hHeld) lm).mono ?_
      rintro e wr1 ⟨v1, rfl, hO1, hb⟩
      rw [E1.out] at hO1
      obtain ⟨O1, p1, rfl, l1, m1, r1⟩ := hO1.form encT_len
      have R1 := Lib.hid r1
      clear hO1 r1 m1
      go_wp2_with fail
      have hB2 := bthen hHeld hb
      clear hHeld hb
      refine hK.out _ _ hB2 (fun hHeld => ?_)
      clear hB2 hK K
      try simp only [Act.put, List.setIfInBounds_toArray, List.set_cons_zero, List.set_cons_succ]
      refine wpAnyH_ready (rs := [4]) (by kernel_rfl) (by simp) ?_
      refine AllReadyH.cons (o := ⟨_, _, _, _, _, _⟩) rfl (fun K hK => ?_) AllReadyH.nil
      go_simp
      refine (sameT_at ms.length rfl O1 Om p1 pm _ R1.out (Rm.out.call hHeld) l1 lm L1.out).mono ?_
      rintro e wr2 ⟨rfl, hb⟩
      have R1 := Lib.hid (R1.out.call hb)
      go_wp2_with fail
      have hB2 := bthen hHeld hb
      clear hHeld hb
      refine hK.out _ _ hB2 (fun hHeld => ?_)
      clear hB2 hK K
      try simp only [Act.put, List.setIfInBounds_toArray, List.set_cons_zero, List.set_cons_succ]
      refine wpAnyH_take (i := 5) (oi := ⟨_, _, _, _, _, _⟩) (v := ?vb5) rfl (by kernel_rfl) (by kernel_rfl) (by kernel_rfl) (fun _ _ _ h => h) (Or.inl ⟨by rfl, ?hyb5⟩) hHeld ?restb5
      case hyb5 => (intro w' hSw; go_simp; try with_reducible rfl)
      try simp only [Act.put, List.setIfInBounds_toArray, List.set_cons_zero, List.set_cons_succ]
      first
          | (refine wpAnyH_take (i := 6) (oi := ⟨_, _, _, _, _, _⟩) (v := undef) rfl (by kernel_rfl) (by kernel_rfl) (by kernel_rfl) (fun _ _ _ h => h) (Or.inr ⟨by rfl, rfl⟩) hHeld ?_)
          | (refine wpAnyH_take (i := 6) (oi := ⟨_, _, _, _, _, _⟩) (v := ?vb6) rfl (by kernel_rfl) (by kernel_rfl) (by kernel_rfl) (fun _ _ _ h => h) (Or.inl ⟨by rfl, ?hyb6⟩) hHeld ?restb6; case hyb6 => (intro w' hSw; go_simp; try with_reducible rfl))
      try simp only [Act.put, List.setIfInBounds_toArray, List.set_cons_zero, List.set_cons_succ]
      first
          | (refine wpAnyH_take (i := 7) (oi := ⟨_, _, _, _, _, _⟩) (v := undef) rfl (by kernel_rfl) (by kernel_rfl) (by kernel_rfl) (fun _ _ _ h => h) (Or.inr ⟨by rfl, rfl⟩) hHeld ?_)
          | (refine wpAnyH_take (i := 7) (oi := ⟨_, _, _, _, _, _⟩) (v := ?vb7) rfl (by kernel_rfl) (by kernel_rfl) (by kernel_rfl) (fun _ _ _ h => h) (Or.inl ⟨by rfl, ?hyb7⟩) hHeld ?restb7; case hyb7 => (intro w' hSw; obtain ⟨hcc, hff⟩ := bcell hSw; go_simp; try with_reducible rfl))
      try simp only [Act.put, List.setIfInBounds_toArray, List.set_cons_zero, List.set_cons_succ]
      first
          | (refine wpAnyH_take (i := 9) (oi := ⟨_, _, _, _, _, _⟩) (v := undef) rfl (by kernel_rfl) (by kernel_rfl) (by kernel_rfl) (fun _ _ _ h => h) (Or.inr ⟨by rfl, rfl⟩) hHeld ?_)
          | (refine wpAnyH_take (i := 9) (oi := ⟨_, _, _, _, _, _⟩) (v := ?vb9) rfl (by kernel_rfl) (by kernel_rfl) (by kernel_rfl) (fun _ _ _ h => h) (Or.inl ⟨by rfl, ?hyb9⟩) hHeld ?restb9; case hyb9 => (intro w' hSw; go_simp; try with_reducible rfl))
      try simp only [Act.put, List.setIfInBounds_toArray, List.set_cons_zero, List.set_cons_succ]
      first
          | (refine wpAnyH_take (i := 10) (oi := ⟨_, _, _, _, _, _⟩) (v := undef) rfl (by kernel_rfl) (by kernel_rfl) (by kernel_rfl) (fun _ _ _ h => h) (Or.inr ⟨by rfl, rfl⟩) hHeld ?_)
          | (refine wpAnyH_take (i := 10) (oi := ⟨_, _, _, _, _, _⟩) (v := ?vb10) rfl (by kernel_rfl) (by kernel_rfl) (by kernel_rfl) (fun _ _ _ h => h) (Or.inl ⟨by rfl, ?hyb10⟩) hHeld ?restb10; case hyb10 => (intro w' hSw; obtain ⟨hcc, hff⟩ := bcell hSw; go_simp; try with_reducible rfl))
      try simp only [Act.put, List.setIfInBounds_toArray, List.set_cons_zero, List.set_cons_succ]
      first
          | (refine wpAnyH_take (i := 12) (oi := ⟨_, _, _, _, _, _⟩) (v := undef) rfl (by kernel_rfl) (by kernel_rfl) (by kernel_rfl) (fun _ _ _ h => h) (Or.inr ⟨by rfl, rfl⟩) hHeld ?_)
          | (refine wpAnyH_take (i := 12) (oi := ⟨_, _, _, _, _, _⟩) (v := ?vb12) rfl (by kernel_rfl) (by kernel_rfl) (by kernel_rfl) (fun _ _ _ h => h) (Or.inl ⟨by rfl, ?hyb12⟩) hHeld ?restb12; case hyb12 => (intro w' hSw; obtain ⟨hcc, hff⟩ := bcell hSw; go_simp; try with_reducible rfl))
      try simp only [Act.put, List.setIfInBounds_toArray, List.set_cons_zero, List.set_cons_succ]
      refine wpAnyH_ready (rs := [8]) (by kernel_rfl) (by simp) ?_
      refine AllReadyH.cons (o := ⟨_, _, _, _, _, _⟩) rfl (fun K hK => ?_) AllReadyH.nil
      go_simp
      refine (dropT_out Om pm ms bk ba' bp _ (Rm.out.call hHeld) lm).mono ?_
      rintro e wr3 ⟨v2, rfl, hO2, hb⟩
      rw [E2.out] at hO2
      obtain ⟨O2, p2, rfl, l2, m2, r2⟩ := hO2.form encT_len
      have R2 := Lib.hid r2
      clear hO2 r2 m2
      go_wp2_with fail
      have hB2 := bthen hHeld hb
      clear hHeld hb
      refine hK.out _ _ hB2 (fun hHeld => ?_)
      clear hB2 hK K
      try simp only [Act.put, List.setIfInBounds_toArray, List.set_cons_zero, List.set_cons_succ]
      refine wpAnyH_ready (rs := [11]) (by kernel_rfl) (by simp) ?_
      refine AllReadyH.cons (o := ⟨_, _, _, _, _, _⟩) rfl (fun K hK => ?_) AllReadyH.nil
      go_simp
      refine (dropT_out O cap xs bk ba' bp _ (RI.out.call hHeld) hcap).mono ?_
      rintro e wr4 ⟨v3, rfl, hO3, hb⟩
      rw [E3.out] at hO3
      obtain ⟨O3, p3, rfl, l3, m3, r3⟩ := hO3.form encT_len
      have R3 := Lib.hid r3
      clear hO3 r3 m3
      have R2 := Lib.hid (R2.out.call hb)
      go_wp2_with fail
      have hB2 := bthen hHeld hb
      clear hHeld hb
      refine hK.out _ _ hB2 (fun hHeld => ?_)
      clear hB2 hK K
      try simp only [Act.put, List.setIfInBounds_toArray, List.set_cons_zero, List.set_cons_succ]
      refine wpAnyH_ready (rs := [13]) (by kernel_rfl) (by simp) ?_
      refine AllReadyH.cons (o := ⟨_, _, _, _, _, _⟩) rfl (fun K hK => ?_) AllReadyH.nil
      go_simp
      refine (dropT_out O3 p3 ks ak aa ap _ R3.out l3).mono ?_
      rintro e wr5 ⟨v4, rfl, hO4, hb⟩
      rw [E4.out] at hO4
      obtain ⟨O4, p4, rfl, l4, m4, r4⟩ := hO4.form encT_len
      have R4 := Lib.hid r4
      clear hO4 r4 m4
      have R2 := Lib.hid (R2.out.call hb)
      go_wp2_with fail
      have hB2 := bthen hHeld hb
      clear hHeld hb
      refine hK.out _ _ hB2 (fun hHeld => ?_)
      clear hB2 hK K
      try simp only [Act.put, List.setIfInBounds_toArray, List.set_cons_zero, List.set_cons_succ]
      refine wpAnyH_ready (rs := [14]) (by kernel_rfl) (by simp) ?_
      refine AllReadyH.cons (o := ⟨_, _, _, _, _, _⟩) rfl (fun K hK => ?_) AllReadyH.nil
      go_simp
      refine (sameT_at ns.length rfl O2 O4 p2 p4 _ R2.out R4.out l2 l4 L2.out).mono ?_
      rintro e wr6 ⟨rfl, hb⟩
      go_wp2_with fail
      have hB2 := bthen hHeld hb
      clear hHeld hb
      refine hK.out _ _ hB2 (fun hHeld => ?_)
      clear hB2 hK K
      try simp only [Act.put, List.setIfInBounds_toArray, List.set_cons_zero, List.set_cons_succ]
      refine wpAnyH_take (i := 15) (oi := ⟨_, _, _, _, _, _⟩) (v := ?vb15) rfl (by kernel_rfl) (by kernel_rfl) (by kernel_rfl) (fun _ _ _ h => h) (Or.inl ⟨by rfl, ?hyb15⟩) hHeld ?restb15
      case hyb15 => (intro w' hSw; go_simp; try with_reducible rfl)
      try simp only [Act.put, List.setIfInBounds_toArray, List.set_cons_zero, List.set_cons_succ]
      refine wpAnyH_take (i := 16) (oi := ⟨_, _, _, _, _, _⟩) (v := ?vb16) rfl (by kernel_rfl) (by kernel_rfl) (by kernel_rfl) (fun _ _ _ h => h) (Or.inl ⟨by rfl, ?hyb16⟩) hHeld ?restb16
      case hyb16 => (intro w' hSw; go_simp; try with_reducible rfl)
      try simp only [Act.put, List.setIfInBounds_toArray, List.set_cons_zero, List.set_cons_succ]
      refine wpAnyH_ready (rs := [17]) (by kernel_rfl) (by simp) ?_
      refine AllReadyH.cons (o := ⟨_, _, _, _, _, _⟩) rfl (fun K hK => ?_) AllReadyH.nil
      go_simp
      refine (wakes11_any _).mono ?_
      rintro e wr7 ⟨rfl, hb⟩
      go_wp2_with fail
      have hB2 := bthen hHeld hb
      clear hHeld hb
      refine hK.out _ _ hB2 (fun hHeld => ?_)
      clear hB2 hK K
      try simp only [Act.put, List.setIfInBounds_toArray, List.set_cons_zero, List.set_cons_succ]
      refine wpAnyH_take (i := 18) (oi := ⟨_, _, _, _, _, _⟩) (v := ?vb18) rfl (by kernel_rfl) (by kernel_rfl) (by kernel_rfl) (fun _ _ _ h => h) (Or.inl ⟨by rfl, ?hyb18⟩) hHeld ?restb18
      case hyb18 => (intro w' hSw; go_simp; try with_reducible rfl)
      try simp only [Act.put, List.setIfInBounds_toArray, List.set_cons_zero, List.set_cons_succ]
      refine wpAnyH_take (i := 19) (oi := ⟨_, _, _, _, _, _⟩) (v := ?vb19) rfl (by kernel_rfl) (by kernel_rfl) (by kernel_rfl) (fun _ _ _ h => h) (Or.inl ⟨by rfl, ?hyb19⟩) hHeld ?restb19
      case hyb19 => (intro w' hSw; go_simp; try with_reducible rfl)
      try simp only [Act.put, List.setIfInBounds_toArray, List.set_cons_zero, List.set_cons_succ]
      refine wpAnyH_done (by kernel_rfl) ?_ _
      have HH := Lib.hid hHeld
      clear hHeld
      go_wp2_with fail
      go_ret
      exact ⟨rfl, bthen HBc.out (bthen HB5.out HH.out)⟩
  · rw [h2]
    clear hk h2
    go_wp2_with fail
    refine (wakes11_any _).mono ?_
    rintro e W9 ⟨rfl, hb⟩
    have HB9 := Lib.hid (bthen HBc.out hb)
    clear hb
    go_wp2_with fail
    go_ret
    exact ⟨rfl, HB9.out⟩
end Go.Proofs.Ytencifnopfianaa
