/-
  The document's house: End.
-/
import Derived.Test.YtgfogbifbpadoaaRcMore
namespace Go.Proofs.Ytgfogbifbpadoaa
open Go.RowKit Go.Maps
set_option linter.unusedVariables false
set_option linter.unusedSimpArgs false
variable {w : World} {W : Nat → Prop} {Q : Nat} {R : Rh}
set_option maxRecDepth 100000 in
set_option maxHeartbeats 4000000 in
theorem rEnd_any (n : Int) (hn : I64 n) (h : Rm w W Q R) :
    Calls Try.prog 29 #[.pointer (some ⟨Q, 0, none⟩), .int .i64 n] w fun e w' => BeP e ∧ RWent w w' W Q := by
  have HH := Lib.hid h
  have HN := Lib.hid hn
  clear h hn
  go_enter Try.func29, Try.ntmps29
  go_wp2_with fail
  refine (rlive_any n HN.out HH.out).mono ?_
  rintro e w1 ⟨⟨b, rfl, hb⟩, rfl⟩
  rcases b with _ | _
  · go_wp2_with fail
    refine bodyPost_ret (results_tmp2 rfl _ _ _) rfl ?_
    exact ⟨⟨_, _, rfl⟩, RWent.same HH.out (Below.refl _ _)⟩
  obtain ⟨k, rfl, k1, k8⟩ := hb rfl
  clear hb
  obtain ⟨o1, o2⟩ := HH.out.ok k (by omega)
  obtain ⟨q, hq⟩ := Int.eq_ofNat_of_zero_le o1
  have q6 : q ≤ 6 := by omega
  have hnum := HH.out.num (n := k) (by omega)
  rw [hq] at hnum
  have hd := HH.out.thAt (n := k) (by omega) 11 _ rfl
  have hdf := HH.out.cellFree (o := 1 + k * 12 + 11) (by omega)
  have hc := HH.out.thAt (n := k) (by omega) 10 _ rfl
  have hcf := HH.out.cellFree (o := 1 + k * 12 + 10) (by omega)
  have H1 := Lib.hid ((HH.out.setTh1 (n := k) (k := 11) (by omega) (by omega) (.bool true) { R.th k with dead := true } rfl (HH.out.ok k (by omega))))
  have H2 := Lib.hid (H1.out.setTh1 (n := k) (k := 10) (by omega) (by omega) (.int .i64 0) { R.th k with dead := true, core := 0 } (by rw [rsetTh_same]; rfl) (HH.out.ok k (by omega)))
  clear o1 o2 hq
  go_upto_region 6 with fail
  refine (show ∀ W1 : World, (∃ R', Rm W1 W Q R') → Keeps (fun x => x = Q) w W1 → Code.wp _ _ _ _ W1 from fun W1 ha hk1 => ?_) _ ⟨_, H2.out⟩ (kset (kset (Keeps.refl (fun x => x = Q) w) rfl _) rfl _)
  obtain ⟨R1, hR1⟩ := ha
  have hth := hR1.spAt (n := q) (by omega) 1 _ rfl
  have htf := hR1.cellFree (o := 109 + q * 5 + 1) (by omega)
  have H3 := Lib.hid hR1
  have HK1 := Lib.hid hk1
  clear hR1 hk1 hnum hd hdf hc hcf H1 H2
  go_wp2_with fail
  go_region
  go_upto_region 7 with fail
  refine (show ∀ W1 : World, (∃ R', Rm W1 W Q R') → Keeps (fun x => x = Q) w W1 → Code.wp _ _ _ _ W1 from fun W1 ha hk1 => ?_) _ ⟨_, (H3.out.setSp1 (n := q) (k := 1) (by omega) (by omega) (.int .i64 (wrap64 ((R1.sp q).thr - 1))) { R1.sp q with thr := wrap64 ((R1.sp q).thr - 1) } rfl (H3.out.rf q (by omega))).call (bd (Below.refl _ _))⟩ (kset HK1.out rfl _).drew
  obtain ⟨R2, hR2⟩ := ha
  clear hth htf H3 HK1
  have hth := hR2.spAt (n := q) (by omega) 1 _ rfl
  have H4 := Lib.hid hR2
  have HK2 := Lib.hid hk1
  clear hR2 hk1
  generalize (R2.sp q).thr = X at hth
  by_cases hgt : 0 < X
  · go_wp2_with fail
    refine bodyPost_ret (results_tmp2 rfl _ _ _) rfl ?_
    exact ⟨⟨_, _, rfl⟩, ⟨_, H4.out⟩, HK2.out⟩
  have hgt' : X ≤ 0 := by omega
  clear hgt
  go_upto_region 10 with (refine rput_sp rfl _ _ rfl H4.out (n := q) (by omega) Spc.z rfl rfl ?_)
  refine (show ∀ W1 : World, (∃ R', Rm W1 W Q R') → Keeps (fun x => x = Q) w W1 → Code.wp _ _ _ _ W1 from fun W1 ha hk1 => ?_) _ ⟨_, H4.out.putSp (n := q) (by omega) Spc.z (spz_ok _ _)⟩ (kcells HK2.out rfl _ _)
  obtain ⟨R3, hR3⟩ := ha
  obtain ⟨b0, hb0⟩ := hR3.hr q (by omega)
  have fb := hR3.cellFree (o := 144 + q) (by omega)
  have H5 := Lib.hid hR3
  have HK3 := Lib.hid hk1
  clear hR3 hk1 hth H4 HK2 hgt'
  go_upto_region 11 with fail
  refine (show ∀ W1 : World, (∃ R', Rm W1 W Q R') → Keeps (fun x => x = Q) w W1 → Code.wp _ _ _ _ W1 from fun W1 ha hk1 => ?_) _ ⟨_, H5.out.setHr (n := q) (by omega) false⟩ (kset HK3.out rfl _)
  have HA := Lib.hid ha
  have HK4 := Lib.hid hk1
  clear ha hk1 hb0 fb H5 HK3
  go_wp2_with fail
  go_loopw [7] (fun i wr => ∃ m : Nat, i = .int .i64 m ∧ 1 ≤ m ∧ m ≤ 9 ∧ (∃ R', Rm wr W Q R') ∧ Keeps (fun x => x = Q) w wr) (fun i _ => 9 - (intOf i).toNat)
  case atStart => exact ⟨1, rfl, by omega, by omega, HA.out, HK4.out⟩
  case round =>
    clear HA HK4
    obtain ⟨m, rfl, m1, m9, ⟨Rr, hR⟩, hK⟩ := hrel
    have HR := Lib.hid hR
    have HKr := Lib.hid hK
    clear hR hK
    by_cases hlt : m ≤ 8
    · have hnum := HR.out.num (n := m) (by omega)
      generalize (Rr.th m).sp = Y at hnum
      by_cases hY : Y = (q : Int)
      · subst hY
        go_upto_region 13 with (refine rput_th rfl _ _ rfl HR.out (n := m) (by omega) Th.z rfl rfl ?_)
        refine (show ∀ W19 : World, (∃ R', Rm W19 W Q R') → Keeps (fun x => x = Q) w W19 → Code.wp _ _ _ _ W19 from fun W19 h19 hk19 => ?_) _ ⟨_, HR.out.putTh (n := m) (by omega) Th.z ⟨by decide, by decide⟩⟩ (kcells HKr.out rfl _ _)
        have H19 := Lib.hid h19
        have HK19 := Lib.hid hk19
        clear h19 hk19 hnum
        go_wp2_with fail
        go_roundw
        case rel => exact ⟨m + 1, by go_num, by omega, by omega, H19.out, HK19.out⟩
        case measure => simp [intOf]; omega
      · have hy : (Y == (q : Int)) = false := beq_eq_false_iff_ne.2 hY
        clear hY
        go_wp2_with fail
        go_roundw
        case rel => exact ⟨m + 1, by go_num, by omega, by omega, ⟨_, HR.out⟩, HKr.out⟩
        case measure => simp [intOf]; omega
    · have hlt' : 8 < m := by omega
      go_wp2_with fail
      refine bodyPost_ret (results_tmp2 rfl _ _ _) rfl ?_
      exact ⟨⟨_, _, rfl⟩, ⟨_, HR.out⟩, HKr.out⟩
end Go.Proofs.Ytgfogbifbpadoaa
