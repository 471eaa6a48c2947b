/-
  ProcChild: a child is its parent, but for X0.
-/
import Derived.Test.YtgfogbifbpadoaaPcEq
namespace Go.Proofs.Ytgfogbifbpadoaa
open Go.RowKit Go.Maps
set_option linter.unusedVariables false
set_option linter.unusedSimpArgs false
variable {w : World} {W : Nat → Prop} {P M K : Nat} {H : Hs}
set_option maxRecDepth 100000 in
set_option maxHeartbeats 16000000 in
theorem child_any (c th : Int) (O : Option Addr) (cap : Nat) (xs : List Ac) (w : World) (hc : I64 c) (hth : I64 th) (hX : ActsK w O xs) (hcap : xs.length ≤ cap) (hm : cap ≤ maxLen) :
    Calls Try.prog 3 #[.int .i64 c, .slice O xs.length cap, .int .i64 th] w fun e w' => e = .returned (.bool true) ∧ Below w.heap.size w w' := by
  have HX := Lib.hid hX
  have HC := Lib.hid hc
  have HTH := Lib.hid hth
  have hc0 := hc.1
  have hc1 := hc.2
  clear hX hc hth
  by_cases h18 : 1 ≤ c ∧ c ≤ 8
  · obtain ⟨h1, h8⟩ := h18
    go_enter Try.func3, Try.ntmps3
    go_wp2_with fail
    refine (pcNew_yes c w h1 h8).mono ?_
    rintro e w1 ⟨P, M, rfl, hH, hP, hM, hB⟩
    have HP := Lib.hid hP
    have HM := Lib.hid hM
    have HH := Lib.hid hH
    have HB1 := Lib.hid hB
    clear hP hM hH hB
    go_wp2_with fail
    refine (pcGreat_any O cap xs (HX.out.call HB1.out) hcap hm).mono ?_
    rintro e w2 ⟨⟨b, rfl, hgr⟩, rfl⟩
    rcases b with _ | _
    · have hlen := hgr rfl
      clear hgr
      go_wp2_with fail
      refine (rNew_yes c w1 h1 h8).mono ?_
      rintro e w2 ⟨rfl, hw2⟩
      have hPl := HH.out.lt P HH.out.WP
      have hMl := HH.out.lt M HH.out.WM
      obtain ⟨Q, hQ⟩ : ∃ Q, Q = w1.heap.size := ⟨_, rfl⟩
      have hB2 : Below w1.heap.size w1 w2 := by rw [hw2]; exact ba (Below.refl _ _) _
      have HW0 : ∀ y, PMQ P M Q y → w.heap.size ≤ y := by
        have := HB1.out.size
        have := HP.out
        have := HM.out
        rintro y (rfl | rfl | rfl) <;> omega
      have hbo : Bo w2 (PMQ P M Q) P M Q 0 := by
        refine ⟨⟨Hs.z c, ?_, Inv.made c ⟨h1, h8⟩⟩, ⟨Rh.z, ?_⟩, by omega, by omega⟩
        · have h := HH.out.call hB2
          refine ⟨h.room, h.c0, h.th, h.sp, h.c1, h.map, fun n _ => spz_ok _ _, .inl rfl, .inr (.inl rfl), h.ne, fun y hy => ?_⟩
          have : w2.heap.size = w1.heap.size + 1 := by rw [hw2]; simp
          rcases hy with rfl | rfl | rfl <;> omega
        · rw [hw2, hQ]
          exact rh_made c w1 (fun y hy => by rcases hy with rfl | rfl | rfl <;> omega) (by rw [← hQ]; exact .inr (.inr rfl))
      have HBO := Lib.hid hbo
      have HB2 := Lib.hid (bthen HB1.out hB2)
      have HWW := Lib.hid HW0
      rw [← hQ]
      clear hB2 hw2 hQ hbo HW0 hPl hMl HH HB1
      go_upto_region 5 with fail
      go_wp2_with fail
      go_loopw [48] (fun i wr => ∃ k : Nat, i = .int .i64 k ∧ k ≤ xs.length ∧ Bo wr (PMQ P M Q) P M Q k ∧ Below w.heap.size w wr) (fun i _ => xs.length - (intOf i).toNat)
      case atStart => exact ⟨0, rfl, by omega, HBO.out, HB2.out⟩
      case round =>
        clear HBO HB2
        obtain ⟨k, rfl, hk, hbo, hB⟩ := hrel
        have HBO := Lib.hid hbo
        have HB := Lib.hid hB
        clear hbo hB
        by_cases hlt : k < xs.length
        · obtain ⟨x, hx⟩ : ∃ x, xs[k]? = some x := ⟨_, List.getElem?_eq_getElem hlt⟩
          obtain ⟨bb, off, hO, hrg⟩ := act_range HX.out.1 HB.out hx
          subst hO
          have HG := Lib.hid ((HX.out.2 x (List.mem_of_getElem? hx)))
          have HR := Lib.hid hrg
          have HKz := Lib.hid (Bk.new wr 40 azC)
          clear hrg hx
          go_upto_region 8 with (first | refine get_act rfl _ rfl bb (off + k * 21) x rfl HR.out ?_ | refine box_act rfl _ _ rfl wr.heap.size x _ rfl rfl HKz.out rfl ?_)
          refine (show ∀ W8 : World, Below wr.heap.size wr W8 → Bk W8 wr.heap.size 40 (acC x).toArray → Code.wp _ _ _ _ W8 from fun W8 hb8 hk8 => ?_) _ (brow (ba (Below.refl _ _) _) (Nat.le_refl _) _) (HKz.out.row _)
          have HB8 := Lib.hid (bthen HB.out hb8)
          have HBO8 := Lib.hid (HBO.out.call hb8)
          have HK8 := Lib.hid hk8
          clear hb8 hk8 HKz HR HBO
          go_wp2_with (refine unbox_act rfl _ rfl wr.heap.size x rfl HK8.out ?_)
          refine (asks_any x (HG.out.call HB8.out) ((rf_given HG.out.row HWW.out).keep (Keeps.of_below (F := fun _ => False) HB8.out) (fun _ hf => hf.elim)) ((rf_given HG.out.S.row HWW.out).keep (Keeps.of_below (F := fun _ => False) HB8.out) (fun _ hf => hf.elim)) HBO8.out (by omega)).mono ?_
          rintro e w9 ⟨⟨bq, rfl⟩, hbo9, hk9⟩
          have HBO9 := Lib.hid hbo9
          have HB9 := Lib.hid (hk9.below HB8.out HWW.out)
          clear hbo9 hk9 HBO8 HB8 HK8 HG HB
          go_wp2_with fail
          go_roundw
          case rel => exact ⟨k + 1, by go_num, by omega, HBO9.out, HB9.out⟩
          case measure => simp [intOf]; omega
        · obtain rfl : k = xs.length := by omega
          obtain ⟨H, hH, hI⟩ := HBO.out.h
          have HH := Lib.hid hH
          have HI := Lib.hid hI
          clear hH hI HBO
          go_wp2_with fail
          refine (pcThread_any th HTH.out HH.out).mono ?_
          rintro e w3 ⟨rfl, hb3⟩
          have HB3 := Lib.hid (bthen HB.out hb3)
          have HH3 := Lib.hid (HH.out.call hb3)
          clear hb3 HB
          rcases hlv : livesB H th with _ | _
          · have HFE := Lib.hid (show fkE H th = 4 by unfold fkE; rw [hlv]; rfl)
            obtain ⟨T0, f0, q, he, hsp, q6, hor⟩ : ∃ (T0 : Th) (f0 : Int) (q : Nat), (if thereB H th = true then thV (H.th th.toNat) 0 else thV Th.z 4) = thV T0 f0 ∧ T0.sp = q ∧ q ≤ 6 ∧ (f0 = 4 ∨ (f0 = 0 ∧ T0.dead = true)) := by
              by_cases ht : thereB H th = true
              · obtain ⟨k, rfl, k1, k8, -⟩ := thereB_some ht
                obtain ⟨q, hq⟩ := Int.eq_ofNat_of_zero_le (HI.out.sp k (by omega)).1
                refine ⟨H.th k, 0, q, by rw [if_pos ht, Int.toNat_natCast], hq, by have := (HI.out.sp k (by omega)).2; omega, .inr ⟨rfl, ?_⟩⟩
                simpa [livesB, ht] using hlv
              · exact ⟨Th.z, 4, 0, by rw [if_neg ht], rfl, by omega, .inl rfl⟩
            rw [he]
            have HSP := Lib.hid hsp
            have HOR := Lib.hid hor
            clear he hlv hsp hor
            simp only [thV]
            have HKz := Lib.hid (Bk.new w3 36 #[.int .i64 0, .int .u64 0, .int .u64 0, .int .u64 0, .int .u64 0, .int .u64 0, .int .u64 0, .int .u64 0, .int .u64 0, .int .i64 0, .int .i64 0, .bool false])
            go_upto_region 11 with (refine box_th rfl _ _ rfl w3.heap.size T0 _ rfl rfl HKz.out rfl ?_)
            refine (show ∀ Wb : World, Below w3.heap.size w3 Wb → Bk Wb w3.heap.size 36 (thC T0).toArray → Code.wp _ _ _ _ Wb from fun Wb hb hk => ?_) _ (brow (ba (Below.refl _ _) _) (Nat.le_refl _) _) (HKz.out.row _)
            have HB4 := Lib.hid (bthen HB3.out hb)
            have HK13 := Lib.hid hk
            have HH4 := Lib.hid (HH3.out.call hb)
            obtain ⟨z0, -⟩ := hk.th
            rw [HSP.out] at z0
            have l13 := hk.lt
            clear hb hk HKz
            go_wp2_with fail
            have hspc : ∃ sq eq, Calls Try.prog 12 #[.pointer (some ⟨P, 0, none⟩), .int .i64 ((q : Nat) : Int)] Wb fun e w' => STold (PMQ P M Q) Wb w' e sq eq := ⟨_, _, pcSpace_any q ⟨by omega, by omega⟩ HH4.out⟩
            obtain ⟨sq, eq, hspc⟩ := hspc
            refine hspc.mono ?_
            rintro e w4 ⟨s1, rfl, hse1, hrf1, hcp1, hb4⟩
            have HB5 := Lib.hid (bthen HB4.out hb4)
            have HK13b := Lib.hid (HK13.out.call hb4)
            have HH5 := Lib.hid (HH4.out.call hb4)
            have HS1 := Lib.hid hse1
            have HC1 := Lib.hid hcp1
            have HR1 := Lib.hid hrf1
            clear hb4 z0 HK13 HH4 HB4 hse1 hcp1 hrf1
            simp only [spV]
            have HKy := Lib.hid (Bk.new w4 38 #[.slice none 0 0, .int .i64 0, .int .i64 0, .int .i64 0, .int .i64 0])
            go_upto_region 12 with (refine box_sp rfl _ _ rfl w4.heap.size s1 _ rfl rfl HKy.out rfl ?_)
            refine (show ∀ Wb : World, Below w4.heap.size w4 Wb → Bk Wb w4.heap.size 38 (spC s1).toArray → Code.wp _ _ _ _ Wb from fun Wc hb hk => ?_) _ (brow (ba (Below.refl _ _) _) (Nat.le_refl _) _) (HKy.out.row _)
            have HB6 := Lib.hid (bthen HB5.out hb)
            have HK13c := Lib.hid (HK13b.out.call hb)
            have HK15 := Lib.hid hk
            have HH6 := Lib.hid (HH5.out.call hb)
            have HR1b := Lib.hid (HR1.out.keep (Keeps.of_below (F := fun _ => False) hb) (fun _ hf => hf.elim))
            have l15 := hk.lt
            have nP13 : ¬ PM P M w3.heap.size := fun hf => by have := HH3.out.lt w3.heap.size (hf.imp id .inl); omega
            have hz43 : w3.heap.size < w4.heap.size := HK13b.out.lt
            have nP15 : ¬ PM P M w4.heap.size := fun hf => by have := HH5.out.lt w4.heap.size (hf.imp id .inl); omega
            clear hb hk HKy HK13b HH5 HB5 HR1
            go_wp2_with fail
            refine (pcFork_any th HTH.out HH6.out HI.out.sp).mono ?_
            rintro e w5 ⟨hno, -⟩
            obtain ⟨rfl, hw⟩ := hno (by rw [HFE.out]; decide)
            rw [HFE.out]
            have HB7 := Lib.hid (hw.2.below HB6.out (fun y hy => HWW.out y (hy.imp id .inl)))
            have HK13d := Lib.hid (HK13c.out.keep hw.2 nP13)
            clear hw hno
            have d11 := HK13d.out.th.2.2.2.2.2.2.2.2.2.2.2
            have hor := HOR.out
            clear HOR
            generalize T0.dead = dd at d11 hor
            rcases hor with rfl | ⟨rfl, rfl⟩
            all_goals
              go_wp2_with fail
              refine (wakes22_any _).mono ?_
              rintro e w9 ⟨rfl, hb⟩
              have HB9 := Lib.hid (bthen HB7.out hb)
              clear hb
              go_wp2_with fail
              go_ret
              exact ⟨rfl, HB9.out⟩
          · obtain ⟨k, hthk, k1, k8, hk0, hkd⟩ := livesB_some hlv
            obtain ⟨q, hq⟩ := Int.eq_ofNat_of_zero_le (HI.out.sp k (by omega)).1
            have q6 : q ≤ 6 := by have := (HI.out.sp k (by omega)).2; omega
            have hth1 : thereB H th = true := by simp only [livesB, Bool.and_eq_true] at hlv; exact hlv.1
            have hst : sthereB H q = true := by
              obtain ⟨q', e1, e2⟩ := HI.out.there k (by omega) hk0
              obtain rfl : q = q' := by omega
              simp only [sthereB, Bool.and_eq_true, decide_eq_true_eq, Bool.not_eq_true', beq_eq_false_iff_ne, Int.toNat_natCast]
              omega
            have he : (if thereB H th = true then thV (H.th th.toNat) 0 else thV Th.z 4) = thV (H.th k) 0 := by rw [if_pos hth1, hthk, Int.toNat_natCast]
            have HSP := Lib.hid hq
            have HK0 := Lib.hid hk0
            have HLV := Lib.hid hlv
            have HST := Lib.hid hst
            have HDD := Lib.hid hkd
            have HTK := Lib.hid hthk
            rw [he]
            clear hth1 hst hlv hk0 hkd hq hthk he
            simp only [thV]
            have HKz := Lib.hid (Bk.new w3 36 #[.int .i64 0, .int .u64 0, .int .u64 0, .int .u64 0, .int .u64 0, .int .u64 0, .int .u64 0, .int .u64 0, .int .u64 0, .int .i64 0, .int .i64 0, .bool false])
            go_upto_region 11 with (refine box_th rfl _ _ rfl w3.heap.size (H.th k) _ rfl rfl HKz.out rfl ?_)
            refine (show ∀ Wb : World, Below w3.heap.size w3 Wb → Bk Wb w3.heap.size 36 (thC (H.th k)).toArray → Code.wp _ _ _ _ Wb from fun Wb hb hk => ?_) _ (brow (ba (Below.refl _ _) _) (Nat.le_refl _) _) (HKz.out.row _)
            have HB4 := Lib.hid (bthen HB3.out hb)
            have HK13 := Lib.hid hk
            have HH4 := Lib.hid (HH3.out.call hb)
            obtain ⟨z0, -⟩ := hk.th
            rw [HSP.out] at z0
            have l13 := hk.lt
            clear hb hk HKz
            go_wp2_with fail
            have hspc : ∃ (sq : Spc) (eq : Int), sq = H.sp q ∧ Calls Try.prog 12 #[.pointer (some ⟨P, 0, none⟩), .int .i64 ((q : Nat) : Int)] Wb fun e w' => STold (PMQ P M Q) Wb w' e sq eq := ⟨H.sp q, 0, rfl, by have hc := pcSpace_any q ⟨by omega, by omega⟩ HH4.out; rw [HST.out, if_pos rfl, if_pos rfl, Int.toNat_natCast] at hc; exact hc⟩
            obtain ⟨sq, eq, rfl, hspc⟩ := hspc
            refine hspc.mono ?_
            rintro e w4 ⟨s1, rfl, hse1, hrf1, hcp1, hb4⟩
            have HB5 := Lib.hid (bthen HB4.out hb4)
            have HK13b := Lib.hid (HK13.out.call hb4)
            have HH5 := Lib.hid (HH4.out.call hb4)
            have HS1 := Lib.hid hse1
            have HC1 := Lib.hid hcp1
            have HR1 := Lib.hid hrf1
            clear hb4 z0 HK13 HH4 HB4 hse1 hcp1 hrf1
            simp only [spV]
            have HKy := Lib.hid (Bk.new w4 38 #[.slice none 0 0, .int .i64 0, .int .i64 0, .int .i64 0, .int .i64 0])
            go_upto_region 12 with (refine box_sp rfl _ _ rfl w4.heap.size s1 _ rfl rfl HKy.out rfl ?_)
            refine (show ∀ Wb : World, Below w4.heap.size w4 Wb → Bk Wb w4.heap.size 38 (spC s1).toArray → Code.wp _ _ _ _ Wb from fun Wc hb hk => ?_) _ (brow (ba (Below.refl _ _) _) (Nat.le_refl _) _) (HKy.out.row _)
            have HB6 := Lib.hid (bthen HB5.out hb)
            have HK13c := Lib.hid (HK13b.out.call hb)
            have HK15 := Lib.hid hk
            have HH6 := Lib.hid (HH5.out.call hb)
            have HR1b := Lib.hid (HR1.out.keep (Keeps.of_below (F := fun _ => False) hb) (fun _ hf => hf.elim))
            have l15 := hk.lt
            have nP13 : ¬ PM P M w3.heap.size := fun hf => by have := HH3.out.lt w3.heap.size (hf.imp id .inl); omega
            have hz43 : w3.heap.size < w4.heap.size := HK13b.out.lt
            have nP15 : ¬ PM P M w4.heap.size := fun hf => by have := HH5.out.lt w4.heap.size (hf.imp id .inl); omega
            clear hb hk HKy HK13b HH5 HB5 HR1
            go_wp2_with fail
            refine (pcFork_any th HTH.out HH6.out HI.out.sp).mono ?_
            by_cases hE : fkE H th = 0
            · rintro e w5 ⟨-, hyes⟩
              obtain ⟨k', q', s, t, O2, cap2, hk', hq', hfs, hft, rfl, hw⟩ := hyes hE
              obtain rfl : k = k' := by have := HTK.out; omega
              obtain rfl : q = q' := by have := HSP.out; omega
              obtain ⟨s1', s6', s0⟩ := frS_lt hfs
              obtain ⟨t1', t8', t0⟩ := frT_lt hft
              have hkt : k ≠ t := fun e => HK0.out (by rw [e]; exact t0)
              have hqs : q ≠ s := fun e => by
                have h := HST.out
                rw [e] at h
                simp only [sthereB, Bool.and_eq_true, Int.toNat_natCast, Bool.not_eq_true', beq_eq_false_iff_ne] at h
                exact h.2 s0
              obtain ⟨H1, hH1⟩ : ∃ H1, H1 = (H.setSp s ⟨O2, cap2, (H.sp q).l, 1, (H.sp q).img, 0, 0⟩).setTh t ((H.th k).child s) := ⟨_, rfl⟩
              have e1 : H1.th k = H.th k := by rw [hH1, setTh_other _ _ hkt]; rfl
              have e2 : H1.th t = (H.th k).child s := by rw [hH1, setTh_same]
              have e3 : H1.sp s = ⟨O2, cap2, (H.sp q).l, 1, (H.sp q).img, 0, 0⟩ := by rw [hH1]; exact setSp_same _ _ _
              have e4 : H1.sp q = H.sp q := by rw [hH1]; exact setSp_other _ _ hqs
              have HE1 := Lib.hid (show (if thereB H1 th = true then thV (H1.th th.toNat) 0 else thV Th.z 4) = thV (H.th k) 0 by
                have ht : thereB H1 th = true := by
                  have := HTK.out
                  simp only [thereB, Bool.and_eq_true, decide_eq_true_eq, Bool.not_eq_true', beq_eq_false_iff_ne]
                  rw [this, Int.toNat_natCast, e1]
                  exact ⟨⟨by omega, by omega⟩, HK0.out⟩
                rw [if_pos ht, HTK.out, Int.toNat_natCast, e1])
              have HE2 := Lib.hid (show (if thereB H1 t = true then thV (H1.th (t : Int).toNat) 0 else thV Th.z 4) = thV ((H.th k).child s) 0 by
                have ht : thereB H1 t = true := by
                  simp only [thereB, Bool.and_eq_true, decide_eq_true_eq, Bool.not_eq_true', beq_eq_false_iff_ne]
                  rw [Int.toNat_natCast, e2]
                  exact ⟨⟨by omega, by omega⟩, by show ((s : Int)) ≠ 0; omega⟩
                rw [if_pos ht, Int.toNat_natCast, e2])
              have HT3 := Lib.hid (show sthereB H1 s = true by
                simp only [sthereB, Bool.and_eq_true, decide_eq_true_eq, Bool.not_eq_true', beq_eq_false_iff_ne]
                rw [Int.toNat_natCast, e3]
                exact ⟨⟨by omega, by omega⟩, by show (1 : Int) ≠ 0; omega⟩)
              have HT4 := Lib.hid (show sthereB H1 q = true by
                have h := HST.out
                simp only [sthereB, Int.toNat_natCast] at h ⊢
                rw [e4]; exact h)
              have HE3 := Lib.hid e3
              have HE4 := Lib.hid e4
              have HDD2 := Lib.hid (show ({ H.th k with sp := s, core := 0, r0 := 0 } : Th) = (H.th k).child s by
                have := HDD.out
                unfold Th.child
                rw [← this])
              rw [← hH1] at hw
              have HBw := Lib.hid (hw.2.below HB6.out (fun y hy => HWW.out y (hy.imp id .inl)))
              have HHw := Lib.hid hw.1
              replace HK13c := Lib.hid (HK13c.out.keep hw.2 nP13)
              replace HK15 := Lib.hid (HK15.out.keep hw.2 nP15)
              replace HR1b := Lib.hid (HR1b.out.keep hw.2 (fun y hy => hy.imp id .inl))
              clear hw hyes hH1 e1 e2 e3 e4 hfs hft s0 t0 hkt hE hk' hq' HB6 HH6
              go_wp2_with fail
              refine (pcThread_any th HTH.out HHw.out).mono ?_
              rw [HE1.out]
              rintro e v20 ⟨rfl, hb⟩
              simp only [thV]
              have HBw := Lib.hid (bthen HBw.out hb)
              have HHw := Lib.hid (HHw.out.call hb)
              replace HK13c := Lib.hid (HK13c.out.call hb)
              replace HK15 := Lib.hid (HK15.out.call hb)
              replace HR1b := Lib.hid (HR1b.out.keep (Keeps.of_below (F := fun _ => False) hb) (fun _ hf => hf.elim))
              have HKz := Lib.hid (Bk.new v20 36 #[.int .i64 0, .int .u64 0, .int .u64 0, .int .u64 0, .int .u64 0, .int .u64 0, .int .u64 0, .int .u64 0, .int .u64 0, .int .i64 0, .int .i64 0, .bool false])
              go_upto_region 16 with (refine box_th rfl _ _ rfl v20.heap.size (H.th k) _ rfl rfl HKz.out rfl ?_)
              refine (show ∀ Wb : World, Below v20.heap.size v20 Wb → Bk Wb v20.heap.size 36 (thC (H.th k)).toArray → Code.wp _ _ _ _ Wb from fun x20 hb hk => ?_) _ (brow (ba (Below.refl _ _) _) (Nat.le_refl _) _) (HKz.out.row _)
              have HBw := Lib.hid (bthen HBw.out hb)
              have HHw := Lib.hid (HHw.out.call hb)
              replace HK13c := Lib.hid (HK13c.out.call hb)
              replace HK15 := Lib.hid (HK15.out.call hb)
              replace HR1b := Lib.hid (HR1b.out.keep (Keeps.of_below (F := fun _ => False) hb) (fun _ hf => hf.elim))
              have HK20 := Lib.hid hk
              clear hb hk HKz
              go_wp2_with fail
              refine (pcThread_any (t : Int) ⟨by omega, by omega⟩ HHw.out).mono ?_
              rw [HE2.out]
              rintro e v22 ⟨rfl, hb⟩
              simp only [thV]
              have HBw := Lib.hid (bthen HBw.out hb)
              have HHw := Lib.hid (HHw.out.call hb)
              replace HK13c := Lib.hid (HK13c.out.call hb)
              replace HK15 := Lib.hid (HK15.out.call hb)
              replace HK20 := Lib.hid (HK20.out.call hb)
              replace HR1b := Lib.hid (HR1b.out.keep (Keeps.of_below (F := fun _ => False) hb) (fun _ hf => hf.elim))
              have HKz := Lib.hid (Bk.new v22 36 #[.int .i64 0, .int .u64 0, .int .u64 0, .int .u64 0, .int .u64 0, .int .u64 0, .int .u64 0, .int .u64 0, .int .u64 0, .int .i64 0, .int .i64 0, .bool false])
              go_upto_region 17 with (refine box_th rfl _ _ rfl v22.heap.size ((H.th k).child s) _ rfl rfl HKz.out rfl ?_)
              refine (show ∀ Wb : World, Below v22.heap.size v22 Wb → Bk Wb v22.heap.size 36 (thC ((H.th k).child s)).toArray → Code.wp _ _ _ _ Wb from fun x22 hb hk => ?_) _ (brow (ba (Below.refl _ _) _) (Nat.le_refl _) _) (HKz.out.row _)
              have HBw := Lib.hid (bthen HBw.out hb)
              have HHw := Lib.hid (HHw.out.call hb)
              replace HK13c := Lib.hid (HK13c.out.call hb)
              replace HK15 := Lib.hid (HK15.out.call hb)
              replace HK20 := Lib.hid (HK20.out.call hb)
              replace HR1b := Lib.hid (HR1b.out.keep (Keeps.of_below (F := fun _ => False) hb) (fun _ hf => hf.elim))
              have HK22 := Lib.hid hk
              clear hb hk HKz
              go_wp2_with fail
              have hspc : Calls Try.prog 12 #[.pointer (some ⟨P, 0, none⟩), .int .i64 ((s : Nat) : Int)] x22 fun e w' => STold (PMQ P M Q) x22 w' e ⟨O2, cap2, (H.sp q).l, 1, (H.sp q).img, 0, 0⟩ 0 := by have hc := pcSpace_any s ⟨by omega, by omega⟩ HHw.out; rw [HT3.out, if_pos rfl, if_pos rfl, Int.toNat_natCast, HE3.out] at hc; exact hc
              refine hspc.mono ?_
              rintro e v24 ⟨s24, rfl, hse, hrf, hcp, hb⟩
              simp only [spV]
              have HBw := Lib.hid (bthen HBw.out hb)
              have HHw := Lib.hid (HHw.out.call hb)
              replace HK13c := Lib.hid (HK13c.out.call hb)
              replace HK15 := Lib.hid (HK15.out.call hb)
              replace HK20 := Lib.hid (HK20.out.call hb)
              replace HK22 := Lib.hid (HK22.out.call hb)
              replace HR1b := Lib.hid (HR1b.out.keep (Keeps.of_below (F := fun _ => False) hb) (fun _ hf => hf.elim))
              have HS24 := Lib.hid hse
              have HC24 := Lib.hid hcp
              have HR24 := Lib.hid hrf
              clear hse hcp hrf hspc
              have HKz := Lib.hid (Bk.new v24 38 #[.slice none 0 0, .int .i64 0, .int .i64 0, .int .i64 0, .int .i64 0])
              go_upto_region 18 with (refine box_sp rfl _ _ rfl v24.heap.size s24 _ rfl rfl HKz.out rfl ?_)
              refine (show ∀ Wb : World, Below v24.heap.size v24 Wb → Bk Wb v24.heap.size 38 (spC s24).toArray → Code.wp _ _ _ _ Wb from fun x24 hb hk => ?_) _ (brow (ba (Below.refl _ _) _) (Nat.le_refl _) _) (HKz.out.row _)
              replace HR24 := Lib.hid (HR24.out.keep (Keeps.of_below (F := fun _ => False) hb) (fun _ hf => hf.elim))
              have HBw := Lib.hid (bthen HBw.out hb)
              have HHw := Lib.hid (HHw.out.call hb)
              replace HK13c := Lib.hid (HK13c.out.call hb)
              replace HK15 := Lib.hid (HK15.out.call hb)
              replace HK20 := Lib.hid (HK20.out.call hb)
              replace HK22 := Lib.hid (HK22.out.call hb)
              replace HR1b := Lib.hid (HR1b.out.keep (Keeps.of_below (F := fun _ => False) hb) (fun _ hf => hf.elim))
              have HK24 := Lib.hid hk
              clear hb hk HKz
              have HKz := Lib.hid (Bk.new x24 36 #[.int .i64 0, .int .u64 0, .int .u64 0, .int .u64 0, .int .u64 0, .int .u64 0, .int .u64 0, .int .u64 0, .int .u64 0, .int .i64 0, .int .i64 0, .bool false])
              go_upto_region 19 with (first | refine unbox_th rfl _ rfl w3.heap.size _ rfl HK13c.out rfl ?_ | refine box_th rfl _ _ rfl x24.heap.size (H.th k) _ rfl rfl HKz.out rfl ?_)
              refine (show ∀ Wb : World, Below x24.heap.size x24 Wb → Bk Wb x24.heap.size 36 (thC (H.th k)).toArray → Code.wp _ _ _ _ Wb from fun x25 hb hk => ?_) _ (brow (ba (Below.refl _ _) _) (Nat.le_refl _) _) (HKz.out.row _)
              have g0 := hk.frozen 0
              have g1 := hk.frozen 1
              have g10 := hk.frozen 10
              obtain ⟨z0, z1, -, -, -, -, -, -, -, -, z10, -⟩ := hk.th
              have HKw := Lib.hid hk
              have HBq := Lib.hid hb
              clear hb hk HKz
              go_upto_region 21 with fail
              refine (show ∀ Wb : World, Below x24.heap.size x24 Wb → Bk Wb x24.heap.size 36 (thC ((H.th k).child s)).toArray → Code.wp _ _ _ _ Wb from fun x26 hb hk => ?_) _ (bs (bs (bs HBq.out (p := ⟨x24.heap.size, 0, none⟩) (Nat.le_refl _) _) (p := ⟨x24.heap.size, 10, none⟩) (Nat.le_refl _) _) (p := ⟨x24.heap.size, 1, none⟩) (Nat.le_refl _) _) (by rw [← HDD2.out]; exact ((HKw.out.set 0 _).set 10 _).set 1 _)
              clear z0 z1 z10 g0 g1 g10 HKw HBq
              have HBw := Lib.hid (bthen HBw.out hb)
              have HHw := Lib.hid (HHw.out.call hb)
              replace HK13c := Lib.hid (HK13c.out.call hb)
              replace HK15 := Lib.hid (HK15.out.call hb)
              replace HK20 := Lib.hid (HK20.out.call hb)
              replace HK22 := Lib.hid (HK22.out.call hb)
              replace HK24 := Lib.hid (HK24.out.call hb)
              replace HR1b := Lib.hid (HR1b.out.keep (Keeps.of_below (F := fun _ => False) hb) (fun _ hf => hf.elim))
              replace HR24 := Lib.hid (HR24.out.keep (Keeps.of_below (F := fun _ => False) hb) (fun _ hf => hf.elim))
              have HK26 := Lib.hid hk
              clear hb hk
              have zq := HK13c.out.th.1
              rw [HSP.out] at zq
              go_wp2_with fail
              have hspc : Calls Try.prog 12 #[.pointer (some ⟨P, 0, none⟩), .int .i64 ((q : Nat) : Int)] x26 fun e w' => STold (PMQ P M Q) x26 w' e (H.sp q) 0 := by have hc := pcSpace_any q ⟨by omega, by omega⟩ HHw.out; rw [HT4.out, if_pos rfl, if_pos rfl, Int.toNat_natCast, HE4.out] at hc; exact hc
              refine hspc.mono ?_
              rintro e v27 ⟨s27, rfl, hse, hrf, hcp, hb⟩
              simp only [spV]
              clear zq
              have HBw := Lib.hid (bthen HBw.out hb)
              have HHw := Lib.hid (HHw.out.call hb)
              replace HK13c := Lib.hid (HK13c.out.call hb)
              replace HK15 := Lib.hid (HK15.out.call hb)
              replace HK20 := Lib.hid (HK20.out.call hb)
              replace HK22 := Lib.hid (HK22.out.call hb)
              replace HK24 := Lib.hid (HK24.out.call hb)
              replace HK26 := Lib.hid (HK26.out.call hb)
              replace HR1b := Lib.hid (HR1b.out.keep (Keeps.of_below (F := fun _ => False) hb) (fun _ hf => hf.elim))
              replace HR24 := Lib.hid (HR24.out.keep (Keeps.of_below (F := fun _ => False) hb) (fun _ hf => hf.elim))
              have HS27 := Lib.hid hse
              have HC27 := Lib.hid hcp
              have HR27 := Lib.hid hrf
              clear hse hcp hrf hspc
              have HKz := Lib.hid (Bk.new v27 38 #[.slice none 0 0, .int .i64 0, .int .i64 0, .int .i64 0, .int .i64 0])
              go_upto_region 22 with (refine box_sp rfl _ _ rfl v27.heap.size s27 _ rfl rfl HKz.out rfl ?_)
              refine (show ∀ Wb : World, Below v27.heap.size v27 Wb → Bk Wb v27.heap.size 38 (spC s27).toArray → Code.wp _ _ _ _ Wb from fun x27 hb hk => ?_) _ (brow (ba (Below.refl _ _) _) (Nat.le_refl _) _) (HKz.out.row _)
              replace HR27 := Lib.hid (HR27.out.keep (Keeps.of_below (F := fun _ => False) hb) (fun _ hf => hf.elim))
              have HBw := Lib.hid (bthen HBw.out hb)
              have HHw := Lib.hid (HHw.out.call hb)
              replace HK13c := Lib.hid (HK13c.out.call hb)
              replace HK15 := Lib.hid (HK15.out.call hb)
              replace HK20 := Lib.hid (HK20.out.call hb)
              replace HK22 := Lib.hid (HK22.out.call hb)
              replace HK24 := Lib.hid (HK24.out.call hb)
              replace HK26 := Lib.hid (HK26.out.call hb)
              replace HR1b := Lib.hid (HR1b.out.keep (Keeps.of_below (F := fun _ => False) hb) (fun _ hf => hf.elim))
              replace HR24 := Lib.hid (HR24.out.keep (Keeps.of_below (F := fun _ => False) hb) (fun _ hf => hf.elim))
              have HK27 := Lib.hid hk
              clear hb hk HKz
              have hlen8 : (H.sp q).l.length ≤ 8 := by
                have hck := (HHw.out.rf q (by omega)).2.2
                rw [HE4.out] at hck
                exact (chk_parts hck).1
              have hlq : s1.l = (H.sp q).l := HS1.out.l
              have HSE := Lib.hid (show SpEq s1 s27 from ⟨by rw [HS27.out.l, HS1.out.l], by rw [HS27.out.thr, HS1.out.thr], by rw [HS27.out.img, HS1.out.img], by rw [HS27.out.asid, HS1.out.asid], by rw [HS27.out.age, HS1.out.age]⟩)
              have HL1 := Lib.hid (show s1.l.length ≤ 150 by rw [hlq]; omega)
              have HL8 := Lib.hid hlen8
              clear hlen8 hlq
              obtain ⟨p0, p1, p2, p3, p4⟩ := HK27.out.spc
              obtain ⟨r0, r1, r2, r3, r4⟩ := HK15.out.spc
              obtain ⟨z0, z1, z2, z3, z4, z5, z6, z7, z8, z9, z10, z11⟩ := HK20.out.th
              obtain ⟨y0, y1, y2, y3, y4, y5, y6, y7, y8, y9, y10, y11⟩ := HK13c.out.th
              have heq := eql_thL (H.th k)
              have heq2 := eql_thL ((H.th k).child s)
              go_wp2_with fail
              refine (sameSpace_any s1 s27 _ HSE.out HR1b.out.1 HR27.out.1 HC1.out HC27.out HL1.out).mono ?_
              rintro e wa ⟨rfl, hb⟩
              clear p0 p1 p2 p3 p4 r0 r1 r2 r3 r4 z0 z1 z2 z3 z4 z5 z6 z7 z8 z9 z10 z11 y0 y1 y2 y3 y4 y5 y6 y7 y8 y9 y10 y11
              have HBw := Lib.hid (bthen HBw.out hb)
              have HHw := Lib.hid (HHw.out.call hb)
              replace HK13c := Lib.hid (HK13c.out.call hb)
              replace HK15 := Lib.hid (HK15.out.call hb)
              replace HK20 := Lib.hid (HK20.out.call hb)
              replace HK22 := Lib.hid (HK22.out.call hb)
              replace HK24 := Lib.hid (HK24.out.call hb)
              replace HK26 := Lib.hid (HK26.out.call hb)
              replace HK27 := Lib.hid (HK27.out.call hb)
              replace HR1b := Lib.hid (HR1b.out.keep (Keeps.of_below (F := fun _ => False) hb) (fun _ hf => hf.elim))
              replace HR24 := Lib.hid (HR24.out.keep (Keeps.of_below (F := fun _ => False) hb) (fun _ hf => hf.elim))
              replace HR27 := Lib.hid (HR27.out.keep (Keeps.of_below (F := fun _ => False) hb) (fun _ hf => hf.elim))
              clear hb
              obtain ⟨r0, r1, r2, r3, r4⟩ := HK15.out.spc
              obtain ⟨p0, p1, p2, p3, p4⟩ := HK24.out.spc
              rw [HS24.out.thr] at p1
              rw [HS24.out.img] at p2
              rw [HS24.out.asid] at p3
              rw [HS24.out.age] at p4
              rw [HS24.out.l] at p0
              rw [HS1.out.img] at r2
              rw [HS1.out.l] at r0
              obtain ⟨z0, z1, z2, z3, z4, z5, z6, z7, z8, z9, z10, z11⟩ := HK22.out.th
              obtain ⟨y0, y1, y2, y3, y4, y5, y6, y7, y8, y9, y10, y11⟩ := HK26.out.th
              have hR24 : RegsK wa s24.O (H.sp q).l := by have h := HR24.out.1; rw [HS24.out.l] at h; exact h
              have hR1 : RegsK wa s1.O (H.sp q).l := by have h := HR1b.out.1; rw [HS1.out.l] at h; exact h
              have hC24 : (H.sp q).l.length ≤ s24.cap := by have h := HC24.out; rw [HS24.out.l] at h; exact h
              have hC1 : (H.sp q).l.length ≤ s1.cap := by have h := HC1.out; rw [HS1.out.l] at h; exact h
              have HR24' := Lib.hid hR24
              have HR1' := Lib.hid hR1
              have HC24' := Lib.hid hC24
              have HC1' := Lib.hid hC1
              clear hR24 hR1 hC24 hC1
              go_wp2_with fail
              refine (r19Same_same s24.O s1.O s24.cap s1.cap (H.sp q).l _ HR24'.out HR1'.out HC24'.out HC1'.out (by have := HL8.out; omega)).mono ?_
              rintro e wb ⟨rfl, hb⟩
              have HB7 := Lib.hid (bthen HBw.out hb)
              clear hb r0 r1 r2 r3 r4 p0 p1 p2 p3 p4 z0 z1 z2 z3 z4 z5 z6 z7 z8 z9 z10 z11 y0 y1 y2 y3 y4 y5 y6 y7 y8 y9 y10 y11
              go_wp2_with fail
              refine (wakes22_any _).mono ?_
              rintro e w9 ⟨rfl, hb⟩
              have HB9 := Lib.hid (bthen HB7.out hb)
              clear hb
              go_wp2_with fail
              go_ret
              exact ⟨rfl, HB9.out⟩
            · have HFE := Lib.hid (show fkE H th = 20 by
                unfold fkE at hE ⊢
                rw [HLV.out, if_pos rfl] at hE ⊢
                cases hs : frS H with
                | none => rfl
                | some s =>
                  cases ht : frT H with
                  | none => rfl
                  | some t => rw [hs, ht] at hE; exact absurd rfl hE)
              rintro e w5 ⟨hno, -⟩
              obtain ⟨rfl, hw⟩ := hno (by rw [HFE.out]; decide)
              rw [HFE.out]
              have HB7 := Lib.hid (hw.2.below HB6.out (fun y hy => HWW.out y (hy.imp id .inl)))
              have HK13d := Lib.hid (HK13c.out.keep hw.2 nP13)
              clear hw hno
              have d11 := HK13d.out.th.2.2.2.2.2.2.2.2.2.2.2
              rw [HDD.out] at d11
              go_wp2_with fail
              refine (wakes22_any _).mono ?_
              rintro e w9 ⟨rfl, hb⟩
              have HB9 := Lib.hid (bthen HB7.out hb)
              clear hb
              go_wp2_with fail
              go_ret
              exact ⟨rfl, HB9.out⟩
    · clear hgr
      go_wp2_with fail
      refine (wakes22_any _).mono ?_
      rintro e w3 ⟨rfl, hb⟩
      have HB3 := Lib.hid (bthen HB1.out hb)
      clear hb
      go_wp2_with fail
      go_ret
      exact ⟨rfl, HB3.out⟩
  · have HN := Lib.hid (show c < 1 ∨ 8 < c by omega)
    clear h18
    go_enter Try.func3, Try.ntmps3
    go_wp2_with fail
    refine (pcNew_no c HC.out w HN.out).mono ?_
    rintro e w1 ⟨rfl, rfl⟩
    go_wp2_with fail
    refine (wakes22_any _).mono ?_
    rintro e w3 ⟨rfl, hb⟩
    have HB3 := Lib.hid hb
    clear hb
    go_wp2_with fail
    go_ret
    exact ⟨rfl, HB3.out⟩
end Go.Proofs.Ytgfogbifbpadoaa
