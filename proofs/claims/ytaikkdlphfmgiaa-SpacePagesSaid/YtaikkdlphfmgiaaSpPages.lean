/-
  SpacePages: behind a call each page of the stretch is mapped, or not, and has rights, as told, and all others are as they were.
-/
import Derived.Test.YtaikkdlphfmgiaaSpLawW
namespace Go.Proofs.Ytaikkdlphfmgiaa
open Go.RowKit
set_option linter.unusedVariables false
set_option linter.unusedSimpArgs false
theorem fnd_fw {m : List Reg} (p : Int) (hc : chk m = true) : ∃ f c, fndV (fnd m p) = .tuple #[.agg #[.int .u64 f, .int .i64 c, .bool ((fw m p).getD false)], .bool (fw m p).isSome] := by
  rw [fnd_yes hc]
  unfold fw
  cases m.find? (inR p) with
  | none => exact ⟨0, 0, rfl⟩
  | some r => exact ⟨r.f, r.c, rfl⟩
theorem pg_map {l : List Reg} {r : Reg} (p : Int) (h : mapE l r = 0) (hf : 0 ≤ r.f) : chk (insR l r) = true ∧ (inR p r = false → fw (insR l r) p = fw l p) ∧ (inR p r = true → fw (insR l r) p = some r.w ∧ fw l p = none) := by
  obtain ⟨h1, h2, h3, h4⟩ := map_ok h hf
  refine ⟨h4, fun hi => ?_, fun hi => ?_⟩
  · rw [fw_ins l h3, hi]; rfl
  · refine ⟨by rw [fw_ins l h3, hi]; rfl, ?_⟩
    unfold fw
    rw [ovl_find h3 hi]
    rfl
theorem rok_mem {l : List Reg} (h : chk l = true) : ∀ x ∈ l, Rok x := by
  intro r hr
  obtain ⟨i, hi, rfl⟩ := List.mem_iff_getElem.1 hr
  have := rok_of h i hi
  rwa [rg_get (List.getElem?_eq_getElem hi)] at this
theorem fw_there {l : List Reg} {f c p : Int} {w : Bool} (h1 : chk l = true) (h2 : whl l f c = true) (hi : inR p ⟨f, c, w⟩ = true) : (fw l p).isSome = true := by
  have hB : whB l f c.toNat = true := by unfold whl at h2; simp only [Bool.and_eq_true] at h2; exact h2.2
  simp only [inR, Bool.and_eq_true, decide_eq_true_eq] at hi
  have := whB_some hB (p - f).toNat (by omega)
  rw [show f + ((p - f).toNat : Int) = p by omega, fnd_yes h1] at this
  unfold fw
  rw [Option.isSome_map]
  exact this
theorem pg_unmap {l : List Reg} {f c : Int} (w : Bool) (p : Int) (h : chgE l f c (l.flatMap (pcs kpU f (f + c))) = 0) : chk (l.flatMap (pcs kpU f (f + c))) = true ∧ (inR p ⟨f, c, w⟩ = false → fw (l.flatMap (pcs kpU f (f + c))) p = fw l p) ∧ (inR p ⟨f, c, w⟩ = true → fw (l.flatMap (pcs kpU f (f + c))) p = none ∧ (fw l p).isSome = true) := by
  obtain ⟨h1, h2, h3⟩ := chg_ok h
  have h4 := (whl_parts h2).1
  have e := fw_unmap (f := f) (t := f + c) (p := p) (by omega) l (rok_mem h1)
  rw [show inS f (f + c) p = inR p ⟨f, c, w⟩ from rfl] at e
  exact ⟨unmap_ok h, fun hi => by rw [e, hi]; rfl, fun hi => ⟨by rw [e, hi]; rfl, fw_there h1 h2 hi⟩⟩
theorem pg_protect {l : List Reg} {f c : Int} (w : Bool) (p : Int) (h : chgE l f c (l.flatMap (pcs (kpP w) f (f + c))) = 0) : chk (l.flatMap (pcs (kpP w) f (f + c))) = true ∧ (inR p ⟨f, c, w⟩ = false → fw (l.flatMap (pcs (kpP w) f (f + c))) p = fw l p) ∧ (inR p ⟨f, c, w⟩ = true → fw (l.flatMap (pcs (kpP w) f (f + c))) p = some w ∧ (fw l p).isSome = true) := by
  obtain ⟨h1, h2, h3⟩ := chg_ok h
  have h4 := (whl_parts h2).1
  have e := fw_protect (wt := w) (f := f) (t := f + c) (p := p) (by omega) l (rok_mem h1)
  rw [show inS f (f + c) p = inR p ⟨f, c, w⟩ from rfl] at e
  refine ⟨protect_ok h, fun hi => by rw [e, hi]; rfl, fun hi => ?_⟩
  have hs := fw_there h1 h2 hi
  refine ⟨?_, hs⟩
  rw [e, hi]
  cases hl : fw l p with
  | none => rw [hl] at hs; cases hs
  | some b => rfl
theorem rg_wf_of {m : List Reg} (h : chk m = true) : ∀ i, i < m.length → (rg m i).wf := fun i hi => by
  obtain ⟨h1, h2, h3⟩ := rok_of h i hi
  exact ⟨⟨by omega, by omega⟩, ⟨by omega, by omega⟩⟩
set_option maxRecDepth 100000 in
set_option maxHeartbeats 16000000 in
theorem pages_any (O : Option Addr) (cap : Nat) (l : List Reg) (rf rc : Int) (rw p : _) (w : World) (hI : RegsK w O l) (hcap : l.length ≤ cap) (hwf : ∀ i, i < l.length → (rg l i).wf) (hr : (⟨rf, rc, rw⟩ : Reg).wf) (hp : U64 p) :
    Calls Try.prog 4 #[.slice O l.length cap, .agg #[.int .u64 rf, .int .i64 rc, .bool rw], .int .u64 p] w fun e w' => e = .returned (.bool true) ∧ Below w.heap.size w w' := by
  obtain ⟨len, hlen⟩ : ∃ n, n = l.length := ⟨_, rfl⟩
  rw [← hlen] at hcap hwf ⊢
  have HL := Lib.hid hlen.symm
  have HI := Lib.hid hI
  have HW := Lib.hid hwf
  have HP := Lib.hid hp
  clear hlen hI hwf hp
  have HA := Lib.hid (Arr.new w #[.int .u64 rf, .int .i64 rc, .bool rw] 25)
  have HB0 := Lib.hid (ba (Below.refl w.heap.size w) (.cells #[.int .u64 rf, .int .i64 rc, .bool rw] 25))
  rcases hck : chk l with _ | _
  · have HV := Lib.hid (ck_no' hck)
    clear hck
    go_enter Try.func4, Try.ntmps4
    go_wp2_with fail
    refine (spCheck_any O len cap l _ (HI.out.call HB0.out) HL.out hcap HW.out).mono ?_
    rintro e w1 ⟨rfl, hb1⟩
    have HB1 := Lib.hid (bthen HB0.out hb1)
    rw [HV.out]
    clear hb1 HA HB0
    go_wp2_with fail
    refine (wakes19_any _).mono ?_
    rintro e w2 ⟨rfl, hb⟩
    have HB := Lib.hid (bthen HB1.out hb)
    clear hb
    go_wp2_with fail
    go_ret
    exact ⟨rfl, HB.out⟩
  · have HV := Lib.hid (ck_yes hck)
    have HG1 := Lib.hid (fun h => @pg_map l ⟨rf, rc, rw⟩ p h hr.1.1)
    have HG2 := Lib.hid (fun h => @pg_unmap l rf rc rw p h)
    have HG3 := Lib.hid (fun h => @pg_protect l rf rc rw p h)
    obtain ⟨f0, c0, hfv⟩ := fnd_fw p hck
    have HFV := Lib.hid hfv
    clear hck hfv
    go_enter Try.func4, Try.ntmps4
    go_wp2_with fail
    refine (spCheck_any O len cap l _ (HI.out.call HB0.out) HL.out hcap HW.out).mono ?_
    rintro e w1 ⟨rfl, hb1⟩
    rw [HV.out]
    have HB1 := Lib.hid (bthen HB0.out hb1)
    have HA1 := Lib.hid (HA.out.call hb1)
    clear hb1 HB0 HA
    go_wp2_with fail
    refine (spFind_any O len cap p l _ (HI.out.call HB1.out) HL.out hcap HW.out).mono ?_
    rintro e w2 ⟨rfl, hb2⟩
    rw [HFV.out]
    have HB2 := Lib.hid (bthen HB1.out hb2)
    have HA2 := Lib.hid (HA1.out.call hb2)
    clear hb2 HB1 HA1 HFV
    generalize fw l p = X at *
    generalize hsw : X.getD false = sw at *
    generalize hth : X.isSome = th at *
    have HSW := Lib.hid hsw
    have HTH := Lib.hid hth
    clear hsw hth
    have HA7 := Lib.hid (Arr.new w2 #[.int .u64 f0, .int .i64 c0, .bool sw] 25)
    have HA4 := Lib.hid (HA2.out.call (ba (Below.refl _ _) (.cells #[.int .u64 f0, .int .i64 c0, .bool sw] 25)))
    go_wp2_with fail
    go_loopw [24] (fun k wr => ∃ n : Int, k = .int .i64 n ∧ 0 ≤ n ∧ n ≤ 3 ∧ Below w.heap.size w wr ∧ Arr wr w.heap.size [.int .u64 rf, .int .i64 rc, .bool rw] ∧ Arr wr w2.heap.size [.int .u64 f0, .int .i64 c0, .bool sw]) (fun k _ => (3 - intOf k).toNat)
    case atStart => exact ⟨0, rfl, by omega, by omega, ba HB2.out _, HA4.out, HA7.out⟩
    case round =>
      clear HA4 HA7
      obtain ⟨n, rfl, hn0, hn, hB, hA4, hA7⟩ := hrel
      have HB := Lib.hid hB
      have HA4 := Lib.hid hA4
      have HA7 := Lib.hid hA7
      clear hB hA4 hA7
      rcases (show n = 0 ∨ n = 1 ∨ n = 2 ∨ n = 3 by omega) with rfl | rfl | rfl | rfl
      · have z0 := HA4.out.cell 0 _ rfl
        have z1 := HA4.out.cell 1 _ rfl
        have z2 := HA4.out.cell 2 _ rfl
        go_wp2_with fail
        clear z0 z1 z2
        refine (map_any O len cap l ⟨rf, rc, rw⟩ _ (HI.out.call HB.out) HL.out hcap HW.out hr).mono ?_
        rintro e w3 ⟨v, rfl, ho, hb⟩
        generalize hm : insR l ⟨rf, rc, rw⟩ = m at *
        generalize hE : mapE l ⟨rf, rc, rw⟩ = E at *
        clear hm hE
        have HO := Lib.hid ho
        have HB3 := Lib.hid (bthen HB.out hb)
        have HA43 := Lib.hid (HA4.out.call hb)
        have HA73 := Lib.hid (HA7.out.call hb)
        clear ho hb HB HA4 HA7
        by_cases hz : E = 0
        · subst hz
          obtain ⟨hcm, hno, hyes⟩ := HG1.out rfl
          obtain ⟨f1, c1, hfv⟩ := fnd_fw p hcm
          have HF1 := Lib.hid hfv
          have HCM := Lib.hid hcm
          have HWM := Lib.hid (rg_wf_of hcm)
          have HVM := Lib.hid (ck_yes hcm)
          have HNO := Lib.hid hno
          have HYES := Lib.hid hyes
          clear hfv hcm hno hyes
          generalize fw m p = Y at *
          obtain ⟨O3, cap3, rfl, hc3, -, hr3⟩ := HO.out.form encG_len
          rw [show okL 0 m = m from rfl] at hc3 hr3 ⊢
          have HR3 := Lib.hid hr3.regs
          clear hr3 HO
          go_wp2_with fail
          refine (spCheck_any O3 m.length cap3 m _ HR3.out rfl hc3 HWM.out).mono ?_
          rintro e w4 ⟨rfl, hb4⟩
          rw [HVM.out]
          have HR4 := Lib.hid (HR3.out.call hb4)
          have HB4 := Lib.hid (bthen HB3.out hb4)
          have HA44 := Lib.hid (HA43.out.call hb4)
          have HA74 := Lib.hid (HA73.out.call hb4)
          clear hb4 HR3 HB3 HA43 HA73
          go_wp2_with fail
          refine (spFind_any O3 m.length cap3 p m _ HR4.out rfl hc3 HWM.out).mono ?_
          rintro e w5 ⟨rfl, hb5⟩
          rw [HF1.out]
          have HB5 := Lib.hid (bthen HB4.out hb5)
          have HA45 := Lib.hid (HA44.out.call hb5)
          have HA75 := Lib.hid (HA74.out.call hb5)
          clear hb5 HR4 HB4 HA44 HA74 HF1
          have z0 := HA45.out.cell 0 _ rfl
          have z1 := HA45.out.cell 1 _ rfl
          have z2 := HA45.out.cell 2 _ rfl
          have l4 := HA45.out.lt
          have l7 := HA75.out.lt
          generalize hisw : Y.getD false = isw at *
          generalize hso : Y.isSome = so at *
          have HIS := Lib.hid hisw
          have HSO := Lib.hid hso
          clear hisw hso
          go_wp2_with fail
          clear z0 z1 z2
          refine (l19in_any rf rc p rw _ hr.1 hr.2 HP.out).mono ?_
          rintro e w6 ⟨rfl, hb6⟩
          have HA12 := Lib.hid ((Arr.new w5 #[.int .u64 f1, .int .i64 c1, .bool isw] 25).call hb6)
          have HA4Z := Lib.hid ((HA45.out.call (ba (Below.refl _ _) (.cells #[.int .u64 f1, .int .i64 c1, .bool isw] 25))).call hb6)
          have HA7Z := Lib.hid ((HA75.out.call (ba (Below.refl _ _) (.cells #[.int .u64 f1, .int .i64 c1, .bool isw] 25))).call hb6)
          have HBZ := Lib.hid (bthen (ba HB5.out (.cells #[.int .u64 f1, .int .i64 c1, .bool isw] 25)) hb6)
          clear hb6 HA45 HA75 HB5 l4 l7
          have y2 := HA12.out.cell 2 _ rfl
          have x2 := HA4Z.out.cell 2 _ rfl
          have v2 := HA7Z.out.cell 2 _ rfl
          rcases hin : inR p ⟨rf, rc, rw⟩ with _ | _
          · have hy := HNO.out hin
            clear hin HNO HYES
            subst hy
            have e1 := HIS.out
            have e2 := HSO.out
            have e3 := HSW.out
            have e4 := HTH.out
            rw [e3] at e1
            rw [e4] at e2
            subst e1
            subst e2
            clear e3 e4 HIS HSO HSW HTH
            rcases th with _ | _
            all_goals
              go_wp2_with fail
              go_roundw
              case rel => exact ⟨1, by go_num, by omega, by omega, HBZ.out, HA4Z.out, HA7Z.out⟩
              case measure => simp [intOf]
          · obtain ⟨hy, ht⟩ := HYES.out hin
            clear hin HNO HYES
            obtain rfl : so = true := by rw [← HSO.out, hy]; rfl
            obtain rfl : isw = rw := by rw [← HIS.out, hy]; rfl
            obtain rfl : th = false := by rw [← HTH.out, ht]; rfl
            clear hy HIS HSO HSW HTH
            try clear ht
            go_wp2_with fail
            go_roundw
            case rel => exact ⟨1, by go_num, by omega, by omega, HBZ.out, HA4Z.out, HA7Z.out⟩
            case measure => simp [intOf]
        · have HBZ := HB3
          have HA4Z := HA43
          have HA7Z := HA73
          have hz' : decide (E = 0) = false := decide_eq_false hz
          go_wp2_with fail
          go_roundw
          case rel => exact ⟨1, by go_num, by omega, by omega, HBZ.out, HA4Z.out, HA7Z.out⟩
          case measure => simp [intOf]
      · have z0 := HA4.out.cell 0 _ rfl
        have z1 := HA4.out.cell 1 _ rfl
        have z2 := HA4.out.cell 2 _ rfl
        go_wp2_with fail
        clear z0 z1 z2
        refine (unmap_any O len cap l rf rc _ (HI.out.call HB.out) HL.out hcap HW.out hr.1 hr.2).mono ?_
        rintro e w3 ⟨v, rfl, ho, hb⟩
        generalize hm : l.flatMap (pcs kpU rf (rf + rc)) = m at *
        generalize hE : chgE l rf rc m = E at *
        clear hm hE
        have HO := Lib.hid ho
        have HB3 := Lib.hid (bthen HB.out hb)
        have HA43 := Lib.hid (HA4.out.call hb)
        have HA73 := Lib.hid (HA7.out.call hb)
        clear ho hb HB HA4 HA7
        by_cases hz : E = 0
        · subst hz
          obtain ⟨hcm, hno, hyes⟩ := HG2.out rfl
          obtain ⟨f1, c1, hfv⟩ := fnd_fw p hcm
          have HF1 := Lib.hid hfv
          have HCM := Lib.hid hcm
          have HWM := Lib.hid (rg_wf_of hcm)
          have HVM := Lib.hid (ck_yes hcm)
          have HNO := Lib.hid hno
          have HYES := Lib.hid hyes
          clear hfv hcm hno hyes
          generalize fw m p = Y at *
          obtain ⟨O3, cap3, rfl, hc3, -, hr3⟩ := HO.out.form encG_len
          rw [show okL 0 m = m from rfl] at hc3 hr3 ⊢
          have HR3 := Lib.hid hr3.regs
          clear hr3 HO
          go_wp2_with fail
          refine (spCheck_any O3 m.length cap3 m _ HR3.out rfl hc3 HWM.out).mono ?_
          rintro e w4 ⟨rfl, hb4⟩
          rw [HVM.out]
          have HR4 := Lib.hid (HR3.out.call hb4)
          have HB4 := Lib.hid (bthen HB3.out hb4)
          have HA44 := Lib.hid (HA43.out.call hb4)
          have HA74 := Lib.hid (HA73.out.call hb4)
          clear hb4 HR3 HB3 HA43 HA73
          go_wp2_with fail
          refine (spFind_any O3 m.length cap3 p m _ HR4.out rfl hc3 HWM.out).mono ?_
          rintro e w5 ⟨rfl, hb5⟩
          rw [HF1.out]
          have HB5 := Lib.hid (bthen HB4.out hb5)
          have HA45 := Lib.hid (HA44.out.call hb5)
          have HA75 := Lib.hid (HA74.out.call hb5)
          clear hb5 HR4 HB4 HA44 HA74 HF1
          have z0 := HA45.out.cell 0 _ rfl
          have z1 := HA45.out.cell 1 _ rfl
          have z2 := HA45.out.cell 2 _ rfl
          have l4 := HA45.out.lt
          have l7 := HA75.out.lt
          generalize hisw : Y.getD false = isw at *
          generalize hso : Y.isSome = so at *
          have HIS := Lib.hid hisw
          have HSO := Lib.hid hso
          clear hisw hso
          go_wp2_with fail
          clear z0 z1 z2
          refine (l19in_any rf rc p rw _ hr.1 hr.2 HP.out).mono ?_
          rintro e w6 ⟨rfl, hb6⟩
          have HA12 := Lib.hid ((Arr.new w5 #[.int .u64 f1, .int .i64 c1, .bool isw] 25).call hb6)
          have HA4Z := Lib.hid ((HA45.out.call (ba (Below.refl _ _) (.cells #[.int .u64 f1, .int .i64 c1, .bool isw] 25))).call hb6)
          have HA7Z := Lib.hid ((HA75.out.call (ba (Below.refl _ _) (.cells #[.int .u64 f1, .int .i64 c1, .bool isw] 25))).call hb6)
          have HBZ := Lib.hid (bthen (ba HB5.out (.cells #[.int .u64 f1, .int .i64 c1, .bool isw] 25)) hb6)
          clear hb6 HA45 HA75 HB5 l4 l7
          have y2 := HA12.out.cell 2 _ rfl
          have x2 := HA4Z.out.cell 2 _ rfl
          have v2 := HA7Z.out.cell 2 _ rfl
          rcases hin : inR p ⟨rf, rc, rw⟩ with _ | _
          · have hy := HNO.out hin
            clear hin HNO HYES
            subst hy
            have e1 := HIS.out
            have e2 := HSO.out
            have e3 := HSW.out
            have e4 := HTH.out
            rw [e3] at e1
            rw [e4] at e2
            subst e1
            subst e2
            clear e3 e4 HIS HSO HSW HTH
            rcases th with _ | _
            all_goals
              go_wp2_with fail
              go_roundw
              case rel => exact ⟨2, by go_num, by omega, by omega, HBZ.out, HA4Z.out, HA7Z.out⟩
              case measure => simp [intOf]
          · obtain ⟨hy, ht⟩ := HYES.out hin
            clear hin HNO HYES
            obtain rfl : so = false := by rw [← HSO.out, hy]; rfl
            obtain rfl : th = true := ht
            clear hy HIS HSO HSW HTH
            try clear ht
            go_wp2_with fail
            go_roundw
            case rel => exact ⟨2, by go_num, by omega, by omega, HBZ.out, HA4Z.out, HA7Z.out⟩
            case measure => simp [intOf]
        · have HBZ := HB3
          have HA4Z := HA43
          have HA7Z := HA73
          have hz' : decide (E = 0) = false := decide_eq_false hz
          go_wp2_with fail
          go_roundw
          case rel => exact ⟨2, by go_num, by omega, by omega, HBZ.out, HA4Z.out, HA7Z.out⟩
          case measure => simp [intOf]
      · have z0 := HA4.out.cell 0 _ rfl
        have z1 := HA4.out.cell 1 _ rfl
        have z2 := HA4.out.cell 2 _ rfl
        go_wp2_with fail
        clear z0 z1 z2
        refine (protect_any O len cap l rf rc rw _ (HI.out.call HB.out) HL.out hcap HW.out hr.1 hr.2).mono ?_
        rintro e w3 ⟨v, rfl, ho, hb⟩
        generalize hm : l.flatMap (pcs (kpP rw) rf (rf + rc)) = m at *
        generalize hE : chgE l rf rc m = E at *
        clear hm hE
        have HO := Lib.hid ho
        have HB3 := Lib.hid (bthen HB.out hb)
        have HA43 := Lib.hid (HA4.out.call hb)
        have HA73 := Lib.hid (HA7.out.call hb)
        clear ho hb HB HA4 HA7
        by_cases hz : E = 0
        · subst hz
          obtain ⟨hcm, hno, hyes⟩ := HG3.out rfl
          obtain ⟨f1, c1, hfv⟩ := fnd_fw p hcm
          have HF1 := Lib.hid hfv
          have HCM := Lib.hid hcm
          have HWM := Lib.hid (rg_wf_of hcm)
          have HVM := Lib.hid (ck_yes hcm)
          have HNO := Lib.hid hno
          have HYES := Lib.hid hyes
          clear hfv hcm hno hyes
          generalize fw m p = Y at *
          obtain ⟨O3, cap3, rfl, hc3, -, hr3⟩ := HO.out.form encG_len
          rw [show okL 0 m = m from rfl] at hc3 hr3 ⊢
          have HR3 := Lib.hid hr3.regs
          clear hr3 HO
          go_wp2_with fail
          refine (spCheck_any O3 m.length cap3 m _ HR3.out rfl hc3 HWM.out).mono ?_
          rintro e w4 ⟨rfl, hb4⟩
          rw [HVM.out]
          have HR4 := Lib.hid (HR3.out.call hb4)
          have HB4 := Lib.hid (bthen HB3.out hb4)
          have HA44 := Lib.hid (HA43.out.call hb4)
          have HA74 := Lib.hid (HA73.out.call hb4)
          clear hb4 HR3 HB3 HA43 HA73
          go_wp2_with fail
          refine (spFind_any O3 m.length cap3 p m _ HR4.out rfl hc3 HWM.out).mono ?_
          rintro e w5 ⟨rfl, hb5⟩
          rw [HF1.out]
          have HB5 := Lib.hid (bthen HB4.out hb5)
          have HA45 := Lib.hid (HA44.out.call hb5)
          have HA75 := Lib.hid (HA74.out.call hb5)
          clear hb5 HR4 HB4 HA44 HA74 HF1
          have z0 := HA45.out.cell 0 _ rfl
          have z1 := HA45.out.cell 1 _ rfl
          have z2 := HA45.out.cell 2 _ rfl
          have l4 := HA45.out.lt
          have l7 := HA75.out.lt
          generalize hisw : Y.getD false = isw at *
          generalize hso : Y.isSome = so at *
          have HIS := Lib.hid hisw
          have HSO := Lib.hid hso
          clear hisw hso
          go_wp2_with fail
          clear z0 z1 z2
          refine (l19in_any rf rc p rw _ hr.1 hr.2 HP.out).mono ?_
          rintro e w6 ⟨rfl, hb6⟩
          have HA12 := Lib.hid ((Arr.new w5 #[.int .u64 f1, .int .i64 c1, .bool isw] 25).call hb6)
          have HA4Z := Lib.hid ((HA45.out.call (ba (Below.refl _ _) (.cells #[.int .u64 f1, .int .i64 c1, .bool isw] 25))).call hb6)
          have HA7Z := Lib.hid ((HA75.out.call (ba (Below.refl _ _) (.cells #[.int .u64 f1, .int .i64 c1, .bool isw] 25))).call hb6)
          have HBZ := Lib.hid (bthen (ba HB5.out (.cells #[.int .u64 f1, .int .i64 c1, .bool isw] 25)) hb6)
          clear hb6 HA45 HA75 HB5 l4 l7
          have y2 := HA12.out.cell 2 _ rfl
          have x2 := HA4Z.out.cell 2 _ rfl
          have v2 := HA7Z.out.cell 2 _ rfl
          rcases hin : inR p ⟨rf, rc, rw⟩ with _ | _
          · have hy := HNO.out hin
            clear hin HNO HYES
            subst hy
            have e1 := HIS.out
            have e2 := HSO.out
            have e3 := HSW.out
            have e4 := HTH.out
            rw [e3] at e1
            rw [e4] at e2
            subst e1
            subst e2
            clear e3 e4 HIS HSO HSW HTH
            rcases th with _ | _
            all_goals
              go_wp2_with fail
              go_roundw
              case rel => exact ⟨3, by go_num, by omega, by omega, HBZ.out, HA4Z.out, HA7Z.out⟩
              case measure => simp [intOf]
          · obtain ⟨hy, ht⟩ := HYES.out hin
            clear hin HNO HYES
            obtain rfl : so = true := by rw [← HSO.out, hy]; rfl
            obtain rfl : isw = rw := by rw [← HIS.out, hy]; rfl
            obtain rfl : th = true := by first | exact HTH.out | exact ht
            clear hy HIS HSO HSW HTH
            try clear ht
            go_wp2_with fail
            go_roundw
            case rel => exact ⟨3, by go_num, by omega, by omega, HBZ.out, HA4Z.out, HA7Z.out⟩
            case measure => simp [intOf]
        · have HBZ := HB3
          have HA4Z := HA43
          have HA7Z := HA73
          have hz' : decide (E = 0) = false := decide_eq_false hz
          go_wp2_with fail
          go_roundw
          case rel => exact ⟨3, by go_num, by omega, by omega, HBZ.out, HA4Z.out, HA7Z.out⟩
          case measure => simp [intOf]
      · go_wp2_with fail
        refine (wakes19_any _).mono ?_
        rintro e w9 ⟨rfl, hb⟩
        have HB9 := Lib.hid (bthen HB.out hb)
        clear hb
        go_wp2_with fail
        go_ret
        exact ⟨rfl, HB9.out⟩
end Go.Proofs.Ytaikkdlphfmgiaa
