/-
  A house's End.
-/
import Derived.Test.YtgfogbifbpadoaaPcMore
namespace Go.Proofs.Ytgfogbifbpadoaa
open Go.RowKit Go.Maps
set_option linter.unusedVariables false
set_option linter.unusedSimpArgs false
variable {w : World} {W : Nat → Prop} {P M K : Nat} {H : Hs}
theorem pcEnd_nil (n : Int) (w : World) : Calls Try.prog 20 #[.pointer none, .int .i64 n] w fun e w' => e = .returned (.tuple #[.bool false, .int .i64 1]) ∧ w = w' := by
  go_enter Try.func20, Try.ntmps20
  go_wp2_with fail
  refine bodyPost_ret (results_tmp2 rfl _ _ _) rfl ?_
  exact ⟨rfl, rfl⟩
/-- A thread ends: the core is left, then it is dead, then its space has one less. -/
def en1 (H : Hs) (k : Nat) : Hs := if (H.th k).core = 0 then H else H.setOn (updI H.on (H.th k).core none)
def en2 (H : Hs) (k : Nat) : Hs := (en1 H k).setTh k { H.th k with core := 0, dead := true }
def en3 (H : Hs) (k q : Nat) : Hs := (en2 H k).setSp q { H.sp q with thr := (H.sp q).thr - 1 }
/-- A space goes, and its threads with it. -/
def clr (H : Hs) (q : Nat) (m : Nat) : Hs := { H with th := fun j => if j < m ∧ (H.th j).sp = q then Th.z else H.th j }
def en4 (H : Hs) (k q : Nat) : Hs := clr ((en3 H k q).setSp q Spc.z) q 9
def enH (H : Hs) (n : Int) : Hs := if livesB H n then
  (if (H.sp (H.th n.toNat).sp.toNat).thr - 1 > 0 then en3 H n.toNat (H.th n.toNat).sp.toNat else en4 H n.toNat (H.th n.toNat).sp.toNat) else H
theorem clr_zero (H : Hs) (q : Nat) : clr H q 0 = H := by simp [clr]
theorem clr_succ (H : Hs) (q m : Nat) : clr H q (m + 1) = if (H.th m).sp = q then (clr H q m).setTh m Th.z else clr H q m := by
  unfold clr Hs.setTh
  split
  · rename_i h
    simp only [Hs.mk.injEq, true_and, and_true]
    funext j
    by_cases e : j = m
    · subst e; simp [h]
    · rw [if_neg e]
      congr 1
      simp only [eq_iff_iff, and_congr_left_iff]
      intro _; omega
  · rename_i h
    simp only [Hs.mk.injEq, true_and, and_true]
    funext j
    by_cases e : j = m
    · subst e; simp [h]
    · congr 1
      simp only [eq_iff_iff, and_congr_left_iff]
      intro _; omega
theorem clr_at (H : Hs) (q m : Nat) : (clr H q m).th m = H.th m := by simp [clr]
theorem spz_ok (w : World) (W : Nat → Prop) : Rf W w Spc.z.O Spc.z.l ∧ Spc.z.l.length ≤ Spc.z.cap ∧ chk Spc.z.l = true := ⟨⟨fun h0 => by simp [Spc.z] at h0, fun h0 => by simp [Spc.z] at h0⟩, by simp [Spc.z], by decide⟩
theorem setTh_twice (H : Hs) (n : Nat) (a b : Th) : (H.setTh n a).setTh n b = H.setTh n b := by
  unfold Hs.setTh
  simp only [Hs.mk.injEq, true_and, and_true]
  funext j
  split <;> rfl
theorem en1_th (H : Hs) (k : Nat) : (en1 H k).th = H.th := by unfold en1; split <;> rfl
theorem en1_sp (H : Hs) (k : Nat) : (en1 H k).sp = H.sp := by unfold en1; split <;> rfl
theorem Hm.deadAt (h : Hm w W P M K H) {n : Nat} (hn : n < 9) : w.cell? ⟨P, 1 + n * 12 + 11, none⟩ = some (.bool (H.th n).dead) ∧ w.frozen? ⟨P, 1 + n * 12 + 11, none⟩ = false := ⟨h.thAt hn 11 _ rfl, h.cellFree (by omega)⟩
/-- What End answers. -/
def EnPost (w w' : World) (W : Nat → Prop) (P M K : Nat) (H : Hs) (n : Int) (e : Ending) : Prop :=
  e = .returned (.tuple #[.bool (livesB H n && !decide ((H.sp (H.th n.toNat).sp.toNat).thr - 1 > 0)), .int .i64 (if livesB H n then 0 else 4)]) ∧ Went w w' W P M K (enH H n)
theorem EnPost.no {w' : World} {n : Int} (h : livesB H n = false) (hw : Went w w' W P M K H) : EnPost w w' W P M K H n (.returned (.tuple #[.bool false, .int .i64 4])) := ⟨by simp [h], by simpa [enH, h] using hw⟩
theorem EnPost.yes {w' : World} {k q : Nat} (h : livesB H k = true) (hq : (H.th k).sp = q) (hg : (H.sp q).thr - 1 > 0) (hw : Went w w' W P M K (en3 H k q)) : EnPost w w' W P M K H k (.returned (.tuple #[.bool false, .int .i64 0])) := by
  unfold EnPost enH
  rw [h, Int.toNat_natCast, hq, Int.toNat_natCast, if_pos rfl, if_pos rfl, if_pos hg, decide_eq_true hg]
  exact ⟨rfl, hw⟩
theorem EnPost.last {w' : World} {k q : Nat} (h : livesB H k = true) (hq : (H.th k).sp = q) (hg : ¬ (H.sp q).thr - 1 > 0) (hw : Went w w' W P M K (en4 H k q)) : EnPost w w' W P M K H k (.returned (.tuple #[.bool true, .int .i64 0])) := by
  unfold EnPost enH
  rw [h, Int.toNat_natCast, hq, Int.toNat_natCast, if_pos rfl, if_pos rfl, if_neg hg, decide_eq_false hg]
  exact ⟨rfl, hw⟩
set_option maxRecDepth 100000 in
set_option maxHeartbeats 4000000 in
theorem pcEnd_any (n : Int) (hn : I64 n) (h : Hm w W P M K H) (hso : SpOk H) (hto : ThrOk H) (hco : ∀ k, k < 9 → I64 (H.th k).core) :
    Calls Try.prog 20 #[.pointer (some ⟨P, 0, none⟩), .int .i64 n] w fun e w' => EnPost w w' W P M K H n e := by
  have HH := Lib.hid h
  have HN := Lib.hid hn
  clear h hn
  rcases hlv : livesB H n with _ | _
  · have HV := Lib.hid hlv
    clear hlv
    go_enter Try.func20, Try.ntmps20
    go_wp2_with fail
    refine (pcLives_any n HN.out HH.out).mono ?_
    rintro e w1 ⟨rfl, rfl⟩
    rw [HV.out]
    go_wp2_with fail
    refine bodyPost_ret (results_tmp2 rfl _ _ _) rfl ?_
    exact EnPost.no HV.out (Went.same HH.out (Below.refl _ _))
  obtain ⟨k, rfl, k1, k8, -, -⟩ := livesB_some hlv
  have HV := Lib.hid hlv
  obtain ⟨q, hq⟩ := Int.eq_ofNat_of_zero_le (hso k (by omega)).1
  have q6 : q ≤ 6 := by have := (hso k (by omega)).2; omega
  obtain ⟨b0, b1⟩ := hto q (by omega)
  have HQ := Lib.hid hq
  clear hlv hq
  obtain ⟨hcr, -⟩ := HH.out.coreAt (n := k) (by omega)
  have hci := hco k (by omega)
  by_cases hc : (H.th k).core = 0
  · have HE1 := Lib.hid (show en1 H k = H by unfold en1; rw [if_pos hc])
    rw [hc] at hcr
    go_enter Try.func20, Try.ntmps20
    go_wp2_with fail
    refine (pcLives_any k HN.out HH.out).mono ?_
    rintro e w1 ⟨rfl, rfl⟩
    rw [HV.out]
    go_upto_region 8 with fail
    refine (show ∀ W8 : World, Hm W8 W P M K (en1 H k) → Keeps (PM P M) w W8 → Code.wp _ _ _ _ W8 from fun W8 h8 hk8 => ?_) _ (by rw [HE1.out]; exact HH.out) (Keeps.refl _ _)
    clear hcr hc HE1
    obtain ⟨hcr, hcf⟩ := h8.coreAt (n := k) (by omega)
    obtain ⟨hdr, hdf⟩ := h8.deadAt (n := k) (by omega)
    have H8 := Lib.hid h8
    have HK8 := Lib.hid hk8
    clear h8 hk8
    go_upto_region 9 with fail
    refine (show ∀ W9 : World, Hm W9 W P M K (en2 H k) → Keeps (PM P M) w W9 → Code.wp _ _ _ _ W9 from fun W9 h9 hk9 => ?_) _ (by
      have h := (H8.out.core1 (n := k) (by omega) 0).dead1 (n := k) (by omega) true
      rw [setTh_twice, setTh_same, en1_th] at h
      exact h) (kset (kset HK8.out (.inl rfl) _) (.inl rfl) _)
    clear hcr hcf hdr hdf H8 HK8
    have hnum := h9.numAt (n := k) (by omega)
    have hsp : ((en2 H k).th k).sp = (H.th k).sp := by unfold en2; rw [setTh_same]
    rw [hsp, HQ.out] at hnum
    obtain ⟨hth, htf⟩ := h9.thrAt (n := q) (by omega)
    have hsp2 : (en2 H k).sp q = H.sp q := by show (en1 H k).sp q = _; rw [en1_sp]
    rw [hsp2] at hth
    have H9 := Lib.hid h9
    have HK9 := Lib.hid hk9
    have HSP := Lib.hid hsp2
    clear h9 hk9 hsp hsp2
    have HWR := Lib.hid (show wrap64 ((H.sp q).thr - 1) = (H.sp q).thr - 1 from by unfold wrap64; omega)
    have H10 := Lib.hid (show Hm (W9.setCell ⟨P, 109 + q * 5 + 1, none⟩ (.int .i64 ((H.sp q).thr - 1))).drew W P M K (en3 H k q) from by
      have h := (H9.out.thr1 (n := q) (by omega) ((H.sp q).thr - 1)).call (bd (Below.refl _ _))
      rw [HSP.out] at h
      exact h)
    have HK10 := Lib.hid (kset HK9.out (p := ⟨P, 109 + q * 5 + 1, none⟩) (.inl rfl) (.int .i64 ((H.sp q).thr - 1))).drew
    go_wp2_with fail
    go_region
    go_upto_region 11 with fail
    refine (show ∀ W11 : World, Hm W11 W P M K (en3 H k q) → Keeps (PM P M) w W11 → Code.wp _ _ _ _ W11 from fun W11 h11 hk11 => ?_) _ H10.out HK10.out
    clear hnum hth htf H9 HK9 HWR H10 HK10
    obtain ⟨hth, htf⟩ := h11.thrAt (n := q) (by omega)
    rw [show ((en3 H k q).sp q) = { H.sp q with thr := (H.sp q).thr - 1 } from setSp_same _ _ _] at hth
    simp only at hth
    have H11 := Lib.hid h11
    have HK11 := Lib.hid hk11
    clear h11 hk11
    by_cases hgt : (H.sp q).thr - 1 > 0
    · have HG := Lib.hid hgt
      have hgt' : 0 < (H.sp q).thr - 1 := hgt
      clear hgt
      generalize (H.sp q).thr - 1 = X at hth hgt'
      go_wp2_with fail
      refine bodyPost_ret (results_tmp2 rfl _ _ _) rfl ?_
      exact EnPost.yes HV.out HQ.out HG.out ⟨H11.out, HK11.out⟩
    · have HG := Lib.hid hgt
      have hgt' : (H.sp q).thr - 1 ≤ 0 := by omega
      clear hgt
      generalize (H.sp q).thr - 1 = X at hth hgt'
      go_upto_region 14 with (refine put_sp rfl _ _ rfl H11.out (n := q) (by omega) Spc.z rfl rfl ?_)
      refine (show ∀ W14 : World, Hm W14 W P M K ((en3 H k q).setSp q Spc.z) → Keeps (PM P M) w W14 → Code.wp _ _ _ _ W14 from fun W14 h14 hk14 => ?_) _ (H11.out.putSp (n := q) (by omega) Spc.z (spz_ok _ _)) (kcells HK11.out (.inl rfl) _ _)
      have H14 := Lib.hid h14
      have HK14 := Lib.hid hk14
      have HE4 := Lib.hid (show en4 H k q = clr ((en3 H k q).setSp q Spc.z) q 9 from rfl)
      clear h14 hk14 hth htf H11 HK11
      generalize (en3 H k q).setSp q Spc.z = G at H14 HE4
      go_wp2_with fail
      go_loopw [69] (fun i wr => ∃ m : Nat, i = .int .i64 m ∧ m ≤ 9 ∧ Hm wr W P M K (clr G q m) ∧ Keeps (PM P M) w wr) (fun i _ => 9 - (intOf i).toNat)
      case atStart => exact ⟨0, rfl, by omega, by rw [clr_zero]; exact H14.out, HK14.out⟩
      case round =>
        clear H14 HK14
        obtain ⟨m, rfl, hm, hH, hK⟩ := hrel
        have HM := Lib.hid hH
        have HKm := Lib.hid hK
        clear hH hK
        by_cases hlt : m < 9
        · have hnum := HM.out.numAt (n := m) hlt
          rw [clr_at] at hnum
          by_cases hsq : (G.th m).sp = q
          · have HSQ := Lib.hid hsq
            rw [hsq] at hnum
            clear hsq
            go_upto_region 19 with (refine put_th rfl _ _ rfl HM.out (n := m) (by omega) Th.z rfl rfl ?_)
            refine (show ∀ W19 : World, Hm W19 W P M K (clr G q (m + 1)) → Keeps (PM P M) w W19 → Code.wp _ _ _ _ W19 from fun W19 h19 hk19 => ?_) _ (by rw [clr_succ, if_pos HSQ.out]; exact HM.out.putTh (by omega) _) (kcells HKm.out (.inl rfl) _ _)
            have H19 := Lib.hid h19
            have HK19 := Lib.hid hk19
            clear h19 hk19 hnum
            go_wp2_with fail
            go_roundw
            case rel => exact ⟨m + 1, by go_num, by omega, H19.out, HK19.out⟩
            case measure => simp [intOf]; omega
          · have HS := Lib.hid (show clr G q (m + 1) = clr G q m by rw [clr_succ, if_neg hsq])
            generalize (G.th m).sp = Y at hnum hsq
            have hy : (Y == (q : Int)) = false := beq_eq_false_iff_ne.2 hsq
            clear hsq
            go_wp2_with fail
            go_roundw
            case rel => exact ⟨m + 1, by go_num, by omega, by rw [HS.out]; exact HM.out, HKm.out⟩
            case measure => simp [intOf]; omega
        · obtain rfl : m = 9 := by omega
          go_wp2_with fail
          refine bodyPost_ret (results_tmp2 rfl _ _ _) rfl ?_
          exact EnPost.last HV.out HQ.out (by have := HG.out; omega) ⟨by rw [HE4.out]; exact HM.out, HKm.out⟩
  · have HE1 := Lib.hid (show en1 H k = H.setOn (updI H.on (H.th k).core none) by unfold en1; rw [if_neg hc])
    have hx : ((H.th k).core != 0) = true := by simpa using hc
    have hcl := HH.out.c1
    obtain ⟨w2, hup, hon, hk2⟩ := (HH.out.call (bd (Below.refl _ _))).map.del hci 0
    have HK2 := Lib.hid (kkeep (Keeps.refl (PM P M) w).drew (hk2.mono (fun x hx => .inr hx)))
    have HO := Lib.hid ((HH.out.call (bd (Below.refl _ _))).putOn hk2 hon)
    clear hon hk2
    go_enter Try.func20, Try.ntmps20
    go_wp2_with fail
    refine (pcLives_any k HN.out HH.out).mono ?_
    rintro e w1 ⟨rfl, rfl⟩
    rw [HV.out]
    clear hc
    generalize (H.th k).core = X at *
    go_wp2_with fail
    go_region
    go_upto_region 8 with fail
    refine (show ∀ W8 : World, Hm W8 W P M K (en1 H k) → Keeps (PM P M) w W8 → Code.wp _ _ _ _ W8 from fun W8 h8 hk8 => ?_) _ (by rw [HE1.out]; exact HO.out) HK2.out
    clear hcr hx hcl hup HE1 HO HK2 hci
    obtain ⟨hcr, hcf⟩ := h8.coreAt (n := k) (by omega)
    obtain ⟨hdr, hdf⟩ := h8.deadAt (n := k) (by omega)
    have H8 := Lib.hid h8
    have HK8 := Lib.hid hk8
    clear h8 hk8
    go_upto_region 9 with fail
    refine (show ∀ W9 : World, Hm W9 W P M K (en2 H k) → Keeps (PM P M) w W9 → Code.wp _ _ _ _ W9 from fun W9 h9 hk9 => ?_) _ (by
      have h := (H8.out.core1 (n := k) (by omega) 0).dead1 (n := k) (by omega) true
      rw [setTh_twice, setTh_same, en1_th] at h
      exact h) (kset (kset HK8.out (.inl rfl) _) (.inl rfl) _)
    clear hcr hcf hdr hdf H8 HK8
    have hnum := h9.numAt (n := k) (by omega)
    have hsp : ((en2 H k).th k).sp = (H.th k).sp := by unfold en2; rw [setTh_same]
    rw [hsp, HQ.out] at hnum
    obtain ⟨hth, htf⟩ := h9.thrAt (n := q) (by omega)
    have hsp2 : (en2 H k).sp q = H.sp q := by show (en1 H k).sp q = _; rw [en1_sp]
    rw [hsp2] at hth
    have H9 := Lib.hid h9
    have HK9 := Lib.hid hk9
    have HSP := Lib.hid hsp2
    clear h9 hk9 hsp hsp2
    have HWR := Lib.hid (show wrap64 ((H.sp q).thr - 1) = (H.sp q).thr - 1 from by unfold wrap64; omega)
    have H10 := Lib.hid (show Hm (W9.setCell ⟨P, 109 + q * 5 + 1, none⟩ (.int .i64 ((H.sp q).thr - 1))).drew W P M K (en3 H k q) from by
      have h := (H9.out.thr1 (n := q) (by omega) ((H.sp q).thr - 1)).call (bd (Below.refl _ _))
      rw [HSP.out] at h
      exact h)
    have HK10 := Lib.hid (kset HK9.out (p := ⟨P, 109 + q * 5 + 1, none⟩) (.inl rfl) (.int .i64 ((H.sp q).thr - 1))).drew
    go_wp2_with fail
    go_region
    go_upto_region 11 with fail
    refine (show ∀ W11 : World, Hm W11 W P M K (en3 H k q) → Keeps (PM P M) w W11 → Code.wp _ _ _ _ W11 from fun W11 h11 hk11 => ?_) _ H10.out HK10.out
    clear hnum hth htf H9 HK9 HWR H10 HK10
    obtain ⟨hth, htf⟩ := h11.thrAt (n := q) (by omega)
    rw [show ((en3 H k q).sp q) = { H.sp q with thr := (H.sp q).thr - 1 } from setSp_same _ _ _] at hth
    simp only at hth
    have H11 := Lib.hid h11
    have HK11 := Lib.hid hk11
    clear h11 hk11
    by_cases hgt : (H.sp q).thr - 1 > 0
    · have HG := Lib.hid hgt
      have hgt' : 0 < (H.sp q).thr - 1 := hgt
      clear hgt
      generalize (H.sp q).thr - 1 = X at hth hgt'
      go_wp2_with fail
      refine bodyPost_ret (results_tmp2 rfl _ _ _) rfl ?_
      exact EnPost.yes HV.out HQ.out HG.out ⟨H11.out, HK11.out⟩
    · have HG := Lib.hid hgt
      have hgt' : (H.sp q).thr - 1 ≤ 0 := by omega
      clear hgt
      generalize (H.sp q).thr - 1 = X at hth hgt'
      go_upto_region 14 with (refine put_sp rfl _ _ rfl H11.out (n := q) (by omega) Spc.z rfl rfl ?_)
      refine (show ∀ W14 : World, Hm W14 W P M K ((en3 H k q).setSp q Spc.z) → Keeps (PM P M) w W14 → Code.wp _ _ _ _ W14 from fun W14 h14 hk14 => ?_) _ (H11.out.putSp (n := q) (by omega) Spc.z (spz_ok _ _)) (kcells HK11.out (.inl rfl) _ _)
      have H14 := Lib.hid h14
      have HK14 := Lib.hid hk14
      have HE4 := Lib.hid (show en4 H k q = clr ((en3 H k q).setSp q Spc.z) q 9 from rfl)
      clear h14 hk14 hth htf H11 HK11
      generalize (en3 H k q).setSp q Spc.z = G at H14 HE4
      go_wp2_with fail
      go_loopw [69] (fun i wr => ∃ m : Nat, i = .int .i64 m ∧ m ≤ 9 ∧ Hm wr W P M K (clr G q m) ∧ Keeps (PM P M) w wr) (fun i _ => 9 - (intOf i).toNat)
      case atStart => exact ⟨0, rfl, by omega, by rw [clr_zero]; exact H14.out, HK14.out⟩
      case round =>
        clear H14 HK14
        obtain ⟨m, rfl, hm, hH, hK⟩ := hrel
        have HM := Lib.hid hH
        have HKm := Lib.hid hK
        clear hH hK
        by_cases hlt : m < 9
        · have hnum := HM.out.numAt (n := m) hlt
          rw [clr_at] at hnum
          by_cases hsq : (G.th m).sp = q
          · have HSQ := Lib.hid hsq
            rw [hsq] at hnum
            clear hsq
            go_upto_region 19 with (refine put_th rfl _ _ rfl HM.out (n := m) (by omega) Th.z rfl rfl ?_)
            refine (show ∀ W19 : World, Hm W19 W P M K (clr G q (m + 1)) → Keeps (PM P M) w W19 → Code.wp _ _ _ _ W19 from fun W19 h19 hk19 => ?_) _ (by rw [clr_succ, if_pos HSQ.out]; exact HM.out.putTh (by omega) _) (kcells HKm.out (.inl rfl) _ _)
            have H19 := Lib.hid h19
            have HK19 := Lib.hid hk19
            clear h19 hk19 hnum
            go_wp2_with fail
            go_roundw
            case rel => exact ⟨m + 1, by go_num, by omega, H19.out, HK19.out⟩
            case measure => simp [intOf]; omega
          · have HS := Lib.hid (show clr G q (m + 1) = clr G q m by rw [clr_succ, if_neg hsq])
            generalize (G.th m).sp = Y at hnum hsq
            have hy : (Y == (q : Int)) = false := beq_eq_false_iff_ne.2 hsq
            clear hsq
            go_wp2_with fail
            go_roundw
            case rel => exact ⟨m + 1, by go_num, by omega, by rw [HS.out]; exact HM.out, HKm.out⟩
            case measure => simp [intOf]; omega
        · obtain rfl : m = 9 := by omega
          go_wp2_with fail
          refine bodyPost_ret (results_tmp2 rfl _ _ _) rfl ?_
          exact EnPost.last HV.out HQ.out (by have := HG.out; omega) ⟨by rw [HE4.out]; exact HM.out, HKm.out⟩
end Go.Proofs.Ytgfogbifbpadoaa
