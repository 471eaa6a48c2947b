/-
  SpaceChanges: what any call makes of any regions.
-/
import Derived.Test.YtaikkdlphfmgiaaSpWakes
namespace Go.Proofs.Ytaikkdlphfmgiaa
open Go.RowKit
set_option linter.unusedVariables false
set_option linter.unusedSimpArgs false
theorem okL_len (E : Int) (out : List Reg) (h : out.length ≤ 150) : (okL E out).length ≤ 150 := by
  unfold okL
  split
  · exact h
  · simp
theorem insR_len (r : Reg) : ∀ l : List Reg, (insR l r).length = l.length + 1
  | [] => rfl
  | x :: t => by
    unfold insR
    split
    · simp
    · simp [insR_len r t]
theorem pcs_len (kp : Reg → Reg → Reg → List Reg) (hk : ∀ a i r, (kp a i r).length ≤ 3) (l : List Reg) (f t : Int) (hl : l.length ≤ 40) : (l.flatMap (pcs kp f t)).length ≤ 150 := by
  have := flatMap_le (pcs kp f t) 3 (fun r => Nat.le_trans (keepL_le _) (hk _ _ _)) l
  omega
set_option maxHeartbeats 8000000 in
theorem changes_any (O : Option Addr) (cap : Nat) (l : List Reg) (rf rc : Int) (rw : Bool) (w : World) (hI : RegsK w O l) (hcap : l.length ≤ cap) (hwf : ∀ i, i < l.length → (rg l i).wf) (hr : (⟨rf, rc, rw⟩ : Reg).wf) :
    Calls Try.prog 3 #[.slice O l.length cap, .agg #[.int .u64 rf, .int .i64 rc, .bool rw]] w fun e w' => e = .returned (.bool true) ∧ Below w.heap.size w w' := by
  obtain ⟨len, hlen⟩ : ∃ n, n = l.length := ⟨_, rfl⟩
  rw [← hlen] at hcap hwf ⊢
  have HL := Lib.hid hlen.symm
  have HI := Lib.hid hI
  have HW := Lib.hid hwf
  clear hlen hI hwf
  have HA := Lib.hid (Arr.new w #[.int .u64 rf, .int .i64 rc, .bool rw] 25)
  have HB0 := Lib.hid (ba (Below.refl w.heap.size w) (.cells #[.int .u64 rf, .int .i64 rc, .bool rw] 25))
  go_enter Try.func3, Try.ntmps3
  by_cases h40 : 40 < len
  · go_wp2_with fail
    refine (wakes19_any _).mono ?_
    rintro e w1 ⟨rfl, hb⟩
    have HB := Lib.hid (bthen HB0.out hb)
    clear hb
    go_wp2_with fail
    go_ret
    exact ⟨rfl, HB.out⟩
  · have HN1 := Lib.hid (show ∀ E : Int, (okL E (insR l ⟨rf, rc, rw⟩)).length ≤ 150 from fun E => okL_len _ _ (by rw [insR_len]; have := HL.out; omega))
    have HN3 := Lib.hid (show ∀ E : Int, (okL E (l.flatMap (pcs kpU rf (rf + rc)))).length ≤ 150 from fun E => okL_len _ _ (pcs_len _ (fun a i r => by simp [kpU]) _ _ _ (by have := HL.out; omega)))
    have HN5 := Lib.hid (show ∀ E : Int, (okL E (l.flatMap (pcs (kpP rw) rf (rf + rc)))).length ≤ 150 from fun E => okL_len _ _ (pcs_len _ (fun a i r => by simp [kpP]) _ _ _ (by have := HL.out; omega)))
    have z0 := HA.out.cell 0 _ rfl
    have z1 := HA.out.cell 1 _ rfl
    have z2 := HA.out.cell 2 _ rfl
    go_wp2_with fail
    clear z0 z1 z2
    refine (map_any O len cap l ⟨rf, rc, rw⟩ _ (HI.out.call HB0.out) HL.out hcap HW.out hr).mono ?_
    rintro e w1 ⟨v1, rfl, ho1, hb1⟩
    generalize hE1 : mapE l ⟨rf, rc, rw⟩ = E1 at ho1 ⊢
    generalize hL1 : okL E1 (insR l ⟨rf, rc, rw⟩) = L1 at ho1
    have HE1 := Lib.hid hE1
    have HL1 := Lib.hid hL1
    clear hE1 hL1
    have HO1 := Lib.hid ho1
    have HB1 := Lib.hid (bthen HB0.out hb1)
    have HA := Lib.hid (HA.out.call hb1)
    clear ho1 hb1 HB0
    have z0 := HA.out.cell 0 _ rfl
    have z1 := HA.out.cell 1 _ rfl
    have z2 := HA.out.cell 2 _ rfl
    go_wp2_with fail
    clear z0 z1 z2
    refine (r19Map_any O len cap l ⟨rf, rc, rw⟩ _ (HI.out.call HB1.out) HL.out hcap HW.out hr).mono ?_
    rintro e w2 ⟨v2, rfl, ho2, hb2⟩
    rw [HE1.out, HL1.out] at ho2
    rw [HE1.out]
    have HO1 := Lib.hid (HO1.out.call hb2)
    have HO2 := Lib.hid ho2
    have HB2 := Lib.hid (bthen HB1.out hb2)
    have HA := Lib.hid (HA.out.call hb2)
    clear ho2 hb2 HB1
    have z0 := HA.out.cell 0 _ rfl
    have z1 := HA.out.cell 1 _ rfl
    have z2 := HA.out.cell 2 _ rfl
    go_wp2_with fail
    clear z0 z1 z2
    refine (unmap_any O len cap l rf rc _ (HI.out.call HB2.out) HL.out hcap HW.out hr.1 hr.2).mono ?_
    rintro e w3 ⟨v3, rfl, ho3, hb3⟩
    generalize hE3 : chgE l rf rc (l.flatMap (pcs kpU rf (rf + rc))) = E3 at ho3 ⊢
    generalize hL3 : okL E3 (l.flatMap (pcs kpU rf (rf + rc))) = L3 at ho3
    have HE3 := Lib.hid hE3
    have HL3 := Lib.hid hL3
    clear hE3 hL3
    have HO1 := Lib.hid (HO1.out.call hb3)
    have HO2 := Lib.hid (HO2.out.call hb3)
    have HO3 := Lib.hid ho3
    have HB3 := Lib.hid (bthen HB2.out hb3)
    have HA := Lib.hid (HA.out.call hb3)
    clear ho3 hb3 HB2
    have z0 := HA.out.cell 0 _ rfl
    have z1 := HA.out.cell 1 _ rfl
    have z2 := HA.out.cell 2 _ rfl
    go_wp2_with fail
    clear z0 z1 z2
    refine (r19Unmap_any O len cap l rf rc _ (HI.out.call HB3.out) HL.out hcap (by omega) HW.out hr.1).mono ?_
    rintro e w4 ⟨v4, rfl, ho4, hb4⟩
    rw [HE3.out, HL3.out] at ho4
    rw [HE3.out]
    have HO1 := Lib.hid (HO1.out.call hb4)
    have HO2 := Lib.hid (HO2.out.call hb4)
    have HO3 := Lib.hid (HO3.out.call hb4)
    have HO4 := Lib.hid ho4
    have HB4 := Lib.hid (bthen HB3.out hb4)
    have HA := Lib.hid (HA.out.call hb4)
    clear ho4 hb4 HB3
    have z0 := HA.out.cell 0 _ rfl
    have z1 := HA.out.cell 1 _ rfl
    have z2 := HA.out.cell 2 _ rfl
    go_wp2_with fail
    clear z0 z1 z2
    refine (protect_any O len cap l rf rc rw _ (HI.out.call HB4.out) HL.out hcap HW.out hr.1 hr.2).mono ?_
    rintro e w5 ⟨v5, rfl, ho5, hb5⟩
    generalize hE5 : chgE l rf rc (l.flatMap (pcs (kpP rw) rf (rf + rc))) = E5 at ho5 ⊢
    generalize hL5 : okL E5 (l.flatMap (pcs (kpP rw) rf (rf + rc))) = L5 at ho5
    have HE5 := Lib.hid hE5
    have HL5 := Lib.hid hL5
    clear hE5 hL5
    have HO1 := Lib.hid (HO1.out.call hb5)
    have HO2 := Lib.hid (HO2.out.call hb5)
    have HO3 := Lib.hid (HO3.out.call hb5)
    have HO4 := Lib.hid (HO4.out.call hb5)
    have HO5 := Lib.hid ho5
    have HB5 := Lib.hid (bthen HB4.out hb5)
    have HA := Lib.hid (HA.out.call hb5)
    clear ho5 hb5 HB4
    have z0 := HA.out.cell 0 _ rfl
    have z1 := HA.out.cell 1 _ rfl
    have z2 := HA.out.cell 2 _ rfl
    go_wp2_with fail
    clear z0 z1 z2
    refine (r19Protect_any O len cap l rf rc rw _ (HI.out.call HB5.out) HL.out hcap (by omega) HW.out hr.1).mono ?_
    rintro e w6 ⟨v6, rfl, ho6, hb6⟩
    rw [HE5.out, HL5.out] at ho6
    rw [HE5.out]
    have HO1 := Lib.hid (HO1.out.call hb6)
    have HO2 := Lib.hid (HO2.out.call hb6)
    have HO3 := Lib.hid (HO3.out.call hb6)
    have HO4 := Lib.hid (HO4.out.call hb6)
    have HO5 := Lib.hid (HO5.out.call hb6)
    have HO6 := Lib.hid ho6
    have HB6 := Lib.hid (bthen HB5.out hb6)
    have HA := Lib.hid (HA.out.call hb6)
    clear ho6 hb6 HB5
    clear HA
    obtain ⟨O1, cap1, rfl, hc1, -, hr1⟩ := HO1.out.form encG_len
    have HR1 := Lib.hid hr1.regs
    clear hr1 HO1
    obtain ⟨O2, cap2, rfl, hc2, -, hr2⟩ := HO2.out.form encG_len
    have HR2 := Lib.hid hr2.regs
    clear hr2 HO2
    obtain ⟨O3, cap3, rfl, hc3, -, hr3⟩ := HO3.out.form encG_len
    have HR3 := Lib.hid hr3.regs
    clear hr3 HO3
    obtain ⟨O4, cap4, rfl, hc4, -, hr4⟩ := HO4.out.form encG_len
    have HR4 := Lib.hid hr4.regs
    clear hr4 HO4
    obtain ⟨O5, cap5, rfl, hc5, -, hr5⟩ := HO5.out.form encG_len
    have HR5 := Lib.hid hr5.regs
    clear hr5 HO5
    obtain ⟨O6, cap6, rfl, hc6, -, hr6⟩ := HO6.out.form encG_len
    have HR6 := Lib.hid hr6.regs
    clear hr6 HO6
    go_wp2_with fail
    refine (r19Same_same _ _ cap1 cap2 L1 _ (HR1.out) (HR2.out) hc1 hc2 (Nat.le_trans (by have := HN1.out E1; rw [HL1.out] at this; exact this) (Nat.le_refl _))).mono ?_
    rintro e w7 ⟨rfl, hb⟩
    have HB7 := Lib.hid (bthen HB6.out hb)
    have HX := Lib.hid hb
    clear hb
    go_wp2_with fail
    refine (r19Same_same _ _ cap3 cap4 L3 _ (HR3.out.call HX.out) (HR4.out.call HX.out) hc3 hc4 (Nat.le_trans (by have := HN3.out E3; rw [HL3.out] at this; exact this) (Nat.le_refl _))).mono ?_
    rintro e w9 ⟨rfl, hb⟩
    have HB9 := Lib.hid (bthen HB7.out hb)
    have HX := Lib.hid (bthen HX.out hb)
    clear hb
    go_wp2_with fail
    refine (r19Same_same _ _ cap5 cap6 L5 _ (HR5.out.call HX.out) (HR6.out.call HX.out) hc5 hc6 (Nat.le_trans (by have := HN5.out E5; rw [HL5.out] at this; exact this) (Nat.le_refl _))).mono ?_
    rintro e w11 ⟨rfl, hb⟩
    have HB11 := Lib.hid (bthen HB9.out hb)
    have HX := Lib.hid (bthen HX.out hb)
    clear hb
    go_wp2_with fail
    refine (wakes19_any _).mono ?_
    rintro e w12 ⟨rfl, hb⟩
    have HB12 := Lib.hid (bthen HB11.out hb)
    clear hb
    go_wp2_with fail
    go_ret
    exact ⟨rfl, HB12.out⟩
end Go.Proofs.Ytaikkdlphfmgiaa
