/-
  The law ShareEnds of layer 20: the walk.
-/
import Derived.Test.YtaikkdlphfmgiaaDoorShEnds
namespace Go.Proofs.YtaikkdlphfmgiaaDoor
open Go.RowKit
set_option linter.unusedVariables false
set_option linter.unusedSimpArgs false
set_option maxRecDepth 100000 in
set_option maxHeartbeats 4000000 in
theorem ends_no (O : Option Addr) (len cap : Nat) (p ct fr : Int) (l : List Reg) (w : World) (hG : G w) (hI : RegsK w O l) (hl : l.length = len) (hcap : len ≤ cap) (hm : len ≤ 20) (hwf : ∀ i, i < len → (rg l i).wf) (hp : U64 p) (x : Int) (hx : U64 x) (hno : chk l = false ∨ ct < 0) (fo : Option Reg) (hf : fnd l p = fo) : Calls Tryd.prog 3 #[.slice O len cap, .int .u64 p, .int .u64 x, .int .i64 ct, .int .i64 fr] w fun e w' => e = .returned (.bool true) ∧ Below w.heap.size w w' := by
  have HI := Lib.hid hI
  have HL := Lib.hid hl
  have HW := Lib.hid hwf
  have HG := Lib.hid hG
  have HP := Lib.hid hp
  clear hI hl hwf hG hp
  have HX := Lib.hid hx
  clear hx
  have HD := Lib.hid (dcs_no (p := p) (st := true) (x := x) hno)
  have HF := Lib.hid hf
  clear hf
  rcases fo with _ | ⟨rf, rc, rw'⟩
  · have hn := norm_mod fr 64 (by omega) (by omega)
    go_enter Tryd.func3, Tryd.ntmps3
    go_upto_region 4 with fail
    generalize (wrap64 (fr.tmod 64 + 64)).tmod 64 = g at *
    obtain ⟨g0, g1⟩ := hn
    go_wp2_with fail
    refine (shDecide_any O len cap p (x) (ct) true l _ (HG.out.call (Below.refl _ _)) (HI.out.call (Below.refl _ _)) HL.out hcap (by omega) HW.out HP.out HX.out).mono ?_
    rintro e w1 ⟨rfl, hb1⟩
    rw [HD.out]
    unfold dcV
    go_upto_region 5 with fail
    have hA := Arr.new w1 #[.int .i8 0, .int .i8 0] 27
    have HB1 := Lib.hid (ba (bthen (Below.refl _ _) hb1) (.cells #[.int .i8 0, .int .i8 0] 27))
    generalize w1.alloc (.cells #[.int .i8 0, .int .i8 0] 27) = W1 at *
    generalize w1.heap.size = X1 at *
    have HK1_1 := Lib.hid hA
    clear hA hb1
    go_wp2_with fail
    refine (r19Find_any O len cap p l _ (HI.out.call HB1.out) HL.out hcap (by omega) HP.out HW.out).mono ?_
    rintro e w2 ⟨rfl, hb2⟩
    rw [HF.out]
    unfold fndV
    go_upto_region 6 with fail
    have hA := Arr.new w2 #[.int .u64 0, .int .i64 0, .bool false] 32
    have HB2 := Lib.hid (ba (bthen HB1.out hb2) (.cells #[.int .u64 0, .int .i64 0, .bool false] 32))
    have HK1_2 := Lib.hid ((HK1_1.out.call hb2).alloc (.cells #[.int .u64 0, .int .i64 0, .bool false] 32))
    generalize w2.alloc (.cells #[.int .u64 0, .int .i64 0, .bool false] 32) = W2 at *
    generalize w2.heap.size = X2 at *
    have HK2_2 := Lib.hid hA
    clear hA hb2
    by_cases hck : chk l = true
    · have hct : ct < 0 := by rcases hno with h | h
                              · rw [hck] at h; cases h
                              · exact h
      have HV := Lib.hid (ck_yes hck)
      clear hck hno
      go_wp2_with fail
      refine (r19Check_any O len cap l _ (HI.out.call HB2.out) HL.out hcap HW.out).mono ?_
      rintro e wc ⟨rfl, hbc⟩
      have HC := Lib.hid (bthen HB2.out hbc)
      clear hbc
      rw [HV.out]
      go_wp2_with fail
      refine (wakes20_any _ (HG.out.call HC.out)).mono ?_
      rintro e wz ⟨rfl, hbz⟩
      have HZ := Lib.hid (bthen HC.out hbz)
      clear hbz
      go_wp2_with fail
      go_ret
      exact ⟨rfl, HZ.out⟩
    · have HV := Lib.hid (ck_no' (show chk l = false by simpa using hck))
      clear hck hno
      go_wp2_with fail
      refine (r19Check_any O len cap l _ (HI.out.call HB2.out) HL.out hcap HW.out).mono ?_
      rintro e wc ⟨rfl, hbc⟩
      have HC := Lib.hid (bthen HB2.out hbc)
      clear hbc
      rw [HV.out]
      go_wp2_with fail
      refine (wakes20_any _ (HG.out.call HC.out)).mono ?_
      rintro e wz ⟨rfl, hbz⟩
      have HZ := Lib.hid (bthen HC.out hbz)
      clear hbz
      go_wp2_with fail
      go_ret
      exact ⟨rfl, HZ.out⟩
  · have hn := norm_mod fr 64 (by omega) (by omega)
    go_enter Tryd.func3, Tryd.ntmps3
    go_upto_region 4 with fail
    generalize (wrap64 (fr.tmod 64 + 64)).tmod 64 = g at *
    obtain ⟨g0, g1⟩ := hn
    go_wp2_with fail
    refine (shDecide_any O len cap p (x) (ct) true l _ (HG.out.call (Below.refl _ _)) (HI.out.call (Below.refl _ _)) HL.out hcap (by omega) HW.out HP.out HX.out).mono ?_
    rintro e w1 ⟨rfl, hb1⟩
    rw [HD.out]
    unfold dcV
    go_upto_region 5 with fail
    have hA := Arr.new w1 #[.int .i8 0, .int .i8 0] 27
    have HB1 := Lib.hid (ba (bthen (Below.refl _ _) hb1) (.cells #[.int .i8 0, .int .i8 0] 27))
    generalize w1.alloc (.cells #[.int .i8 0, .int .i8 0] 27) = W1 at *
    generalize w1.heap.size = X1 at *
    have HK1_1 := Lib.hid hA
    clear hA hb1
    go_wp2_with fail
    refine (r19Find_any O len cap p l _ (HI.out.call HB1.out) HL.out hcap (by omega) HP.out HW.out).mono ?_
    rintro e w2 ⟨rfl, hb2⟩
    rw [HF.out]
    unfold fndV
    go_upto_region 6 with fail
    have hA := Arr.new w2 #[.int .u64 rf, .int .i64 rc, .bool rw'] 32
    have HB2 := Lib.hid (ba (bthen HB1.out hb2) (.cells #[.int .u64 rf, .int .i64 rc, .bool rw'] 32))
    have HK1_2 := Lib.hid ((HK1_1.out.call hb2).alloc (.cells #[.int .u64 rf, .int .i64 rc, .bool rw'] 32))
    generalize w2.alloc (.cells #[.int .u64 rf, .int .i64 rc, .bool rw'] 32) = W2 at *
    generalize w2.heap.size = X2 at *
    have HK2_2 := Lib.hid hA
    clear hA hb2
    by_cases hck : chk l = true
    · have hct : ct < 0 := by rcases hno with h | h
                              · rw [hck] at h; cases h
                              · exact h
      have HV := Lib.hid (ck_yes hck)
      clear hck hno
      go_wp2_with fail
      refine (r19Check_any O len cap l _ (HI.out.call HB2.out) HL.out hcap HW.out).mono ?_
      rintro e wc ⟨rfl, hbc⟩
      have HC := Lib.hid (bthen HB2.out hbc)
      clear hbc
      rw [HV.out]
      go_wp2_with fail
      refine (wakes20_any _ (HG.out.call HC.out)).mono ?_
      rintro e wz ⟨rfl, hbz⟩
      have HZ := Lib.hid (bthen HC.out hbz)
      clear hbz
      go_wp2_with fail
      go_ret
      exact ⟨rfl, HZ.out⟩
    · have HV := Lib.hid (ck_no' (show chk l = false by simpa using hck))
      clear hck hno
      go_wp2_with fail
      refine (r19Check_any O len cap l _ (HI.out.call HB2.out) HL.out hcap HW.out).mono ?_
      rintro e wc ⟨rfl, hbc⟩
      have HC := Lib.hid (bthen HB2.out hbc)
      clear hbc
      rw [HV.out]
      go_wp2_with fail
      refine (wakes20_any _ (HG.out.call HC.out)).mono ?_
      rintro e wz ⟨rfl, hbz⟩
      have HZ := Lib.hid (bthen HC.out hbz)
      clear hbz
      go_wp2_with fail
      go_ret
      exact ⟨rfl, HZ.out⟩
set_option maxRecDepth 100000 in
set_option maxHeartbeats 4000000 in
theorem ends_none (O : Option Addr) (len cap : Nat) (p ct fr : Int) (l : List Reg) (w : World) (hG : G w) (hI : RegsK w O l) (hl : l.length = len) (hcap : len ≤ cap) (hm : len ≤ 20) (hwf : ∀ i, i < len → (rg l i).wf) (hp : U64 p) (x : Int) (hx : U64 x) (hc : chk l = true) (h0 : 0 ≤ ct) (hf : fnd l p = none) : Calls Tryd.prog 3 #[.slice O len cap, .int .u64 p, .int .u64 x, .int .i64 ct, .int .i64 fr] w fun e w' => e = .returned (.bool true) ∧ Below w.heap.size w w' := by
  have HI := Lib.hid hI
  have HL := Lib.hid hl
  have HW := Lib.hid hwf
  have HG := Lib.hid hG
  have HP := Lib.hid hp
  clear hI hl hwf hG hp
  have HX := Lib.hid hx
  clear hx
  have HD := Lib.hid (dcs_none (st := true) (x := x) hc h0 hf)
  have HF := Lib.hid hf
  clear hf hc
  have hn := norm_mod fr 64 (by omega) (by omega)
  go_enter Tryd.func3, Tryd.ntmps3
  go_upto_region 4 with fail
  generalize (wrap64 (fr.tmod 64 + 64)).tmod 64 = g at *
  obtain ⟨g0, g1⟩ := hn
  go_wp2_with fail
  refine (shDecide_any O len cap p (x) (ct) true l _ (HG.out.call (Below.refl _ _)) (HI.out.call (Below.refl _ _)) HL.out hcap (by omega) HW.out HP.out HX.out).mono ?_
  rintro e w1 ⟨rfl, hb1⟩
  rw [HD.out]
  unfold dcV
  go_upto_region 5 with fail
  have hA := Arr.new w1 #[.int .i8 0, .int .i8 1] 27
  have HB1 := Lib.hid (ba (bthen (Below.refl _ _) hb1) (.cells #[.int .i8 0, .int .i8 1] 27))
  generalize w1.alloc (.cells #[.int .i8 0, .int .i8 1] 27) = W1 at *
  generalize w1.heap.size = X1 at *
  have HK1_1 := Lib.hid hA
  clear hA hb1
  go_wp2_with fail
  refine (r19Find_any O len cap p l _ (HI.out.call HB1.out) HL.out hcap (by omega) HP.out HW.out).mono ?_
  rintro e w2 ⟨rfl, hb2⟩
  rw [HF.out]
  unfold fndV
  go_upto_region 6 with fail
  have hA := Arr.new w2 #[.int .u64 0, .int .i64 0, .bool false] 32
  have HB2 := Lib.hid (ba (bthen HB1.out hb2) (.cells #[.int .u64 0, .int .i64 0, .bool false] 32))
  have HK1_2 := Lib.hid ((HK1_1.out.call hb2).alloc (.cells #[.int .u64 0, .int .i64 0, .bool false] 32))
  generalize w2.alloc (.cells #[.int .u64 0, .int .i64 0, .bool false] 32) = W2 at *
  generalize w2.heap.size = X2 at *
  have HK2_2 := Lib.hid hA
  clear hA hb2
  have c1_0 : W2.cell? ⟨X1, 0, none⟩ = some (.int .i8 0) := HK1_2.out.cell 0 _ rfl
  have c2_2 : W2.cell? ⟨X2, 2, none⟩ = some (.bool false) := HK2_2.out.cell 2 _ rfl
  go_wp2_with fail
  refine (wakes20_any _ (HG.out.call HB2.out)).mono ?_
  rintro e wz ⟨rfl, hbz⟩
  have HZ := Lib.hid (bthen HB2.out hbz)
  clear hbz
  go_wp2_with fail
  go_ret
  exact ⟨rfl, HZ.out⟩
set_option maxRecDepth 100000 in
set_option maxHeartbeats 4000000 in
theorem ends_perm (O : Option Addr) (len cap : Nat) (p ct fr : Int) (l : List Reg) (w : World) (hG : G w) (hI : RegsK w O l) (hl : l.length = len) (hcap : len ≤ cap) (hm : len ≤ 20) (hwf : ∀ i, i < len → (rg l i).wf) (hp : U64 p) (x : Int) (hx : U64 x) (rf rc : Int) (hc : chk l = true) (h0 : 0 ≤ ct) (hf : fnd l p = some ⟨rf, rc, false⟩) (hd : dcs l p true x ct = (0, 2, 0)) : Calls Tryd.prog 3 #[.slice O len cap, .int .u64 p, .int .u64 x, .int .i64 ct, .int .i64 fr] w fun e w' => e = .returned (.bool true) ∧ Below w.heap.size w w' := by
  have HI := Lib.hid hI
  have HL := Lib.hid hl
  have HW := Lib.hid hwf
  have HG := Lib.hid hG
  have HP := Lib.hid hp
  clear hI hl hwf hG hp
  have HX := Lib.hid hx
  clear hx
  have HD := Lib.hid hd
  have HF := Lib.hid hf
  clear hf hc hd
  have hn := norm_mod fr 64 (by omega) (by omega)
  go_enter Tryd.func3, Tryd.ntmps3
  go_upto_region 4 with fail
  generalize (wrap64 (fr.tmod 64 + 64)).tmod 64 = g at *
  obtain ⟨g0, g1⟩ := hn
  go_wp2_with fail
  refine (shDecide_any O len cap p (x) (ct) true l _ (HG.out.call (Below.refl _ _)) (HI.out.call (Below.refl _ _)) HL.out hcap (by omega) HW.out HP.out HX.out).mono ?_
  rintro e w1 ⟨rfl, hb1⟩
  rw [HD.out]
  unfold dcV
  go_upto_region 5 with fail
  have hA := Arr.new w1 #[.int .i8 0, .int .i8 2] 27
  have HB1 := Lib.hid (ba (bthen (Below.refl _ _) hb1) (.cells #[.int .i8 0, .int .i8 2] 27))
  generalize w1.alloc (.cells #[.int .i8 0, .int .i8 2] 27) = W1 at *
  generalize w1.heap.size = X1 at *
  have HK1_1 := Lib.hid hA
  clear hA hb1
  go_wp2_with fail
  refine (r19Find_any O len cap p l _ (HI.out.call HB1.out) HL.out hcap (by omega) HP.out HW.out).mono ?_
  rintro e w2 ⟨rfl, hb2⟩
  rw [HF.out]
  unfold fndV
  go_upto_region 6 with fail
  have hA := Arr.new w2 #[.int .u64 rf, .int .i64 rc, .bool false] 32
  have HB2 := Lib.hid (ba (bthen HB1.out hb2) (.cells #[.int .u64 rf, .int .i64 rc, .bool false] 32))
  have HK1_2 := Lib.hid ((HK1_1.out.call hb2).alloc (.cells #[.int .u64 rf, .int .i64 rc, .bool false] 32))
  generalize w2.alloc (.cells #[.int .u64 rf, .int .i64 rc, .bool false] 32) = W2 at *
  generalize w2.heap.size = X2 at *
  have HK2_2 := Lib.hid hA
  clear hA hb2
  have c1_0 : W2.cell? ⟨X1, 0, none⟩ = some (.int .i8 0) := HK1_2.out.cell 0 _ rfl
  have c2_2 : W2.cell? ⟨X2, 2, none⟩ = some (.bool false) := HK2_2.out.cell 2 _ rfl
  go_wp2_with fail
  refine (wakes20_any _ (HG.out.call HB2.out)).mono ?_
  rintro e wz ⟨rfl, hbz⟩
  have HZ := Lib.hid (bthen HB2.out hbz)
  clear hbz
  go_wp2_with fail
  go_ret
  exact ⟨rfl, HZ.out⟩
set_option maxRecDepth 100000 in
set_option maxHeartbeats 4000000 in
theorem ends_well (O : Option Addr) (len cap : Nat) (p ct fr : Int) (l : List Reg) (w : World) (hG : G w) (hI : RegsK w O l) (hl : l.length = len) (hcap : len ≤ cap) (hm : len ≤ 20) (hwf : ∀ i, i < len → (rg l i).wf) (hp : U64 p) (x : Int) (hx : U64 x) (rf rc : Int) (hc : chk l = true) (h0 : 0 ≤ ct) (hf : fnd l p = some ⟨rf, rc, true⟩) (hd : dcs l p true x ct = (1, 0, 0)) (hd2 : dcs l p false x ct = (1, 0, 0)) : Calls Tryd.prog 3 #[.slice O len cap, .int .u64 p, .int .u64 x, .int .i64 ct, .int .i64 fr] w fun e w' => e = .returned (.bool true) ∧ Below w.heap.size w w' := by
  have HI := Lib.hid hI
  have HL := Lib.hid hl
  have HW := Lib.hid hwf
  have HG := Lib.hid hG
  have HP := Lib.hid hp
  clear hI hl hwf hG hp
  have HX := Lib.hid hx
  clear hx
  have HD := Lib.hid hd
  have HE := Lib.hid hd2
  have HF := Lib.hid hf
  clear hf hc hd hd2
  have hn := norm_mod fr 64 (by omega) (by omega)
  go_enter Tryd.func3, Tryd.ntmps3
  go_upto_region 4 with fail
  generalize (wrap64 (fr.tmod 64 + 64)).tmod 64 = g at *
  obtain ⟨g0, g1⟩ := hn
  go_wp2_with fail
  refine (shDecide_any O len cap p (x) (ct) true l _ (HG.out.call (Below.refl _ _)) (HI.out.call (Below.refl _ _)) HL.out hcap (by omega) HW.out HP.out HX.out).mono ?_
  rintro e w1 ⟨rfl, hb1⟩
  rw [HD.out]
  unfold dcV
  go_upto_region 5 with fail
  have hA := Arr.new w1 #[.int .i8 1, .int .i8 0] 27
  have HB1 := Lib.hid (ba (bthen (Below.refl _ _) hb1) (.cells #[.int .i8 1, .int .i8 0] 27))
  generalize w1.alloc (.cells #[.int .i8 1, .int .i8 0] 27) = W1 at *
  generalize w1.heap.size = X1 at *
  have HK1_1 := Lib.hid hA
  clear hA hb1
  go_wp2_with fail
  refine (r19Find_any O len cap p l _ (HI.out.call HB1.out) HL.out hcap (by omega) HP.out HW.out).mono ?_
  rintro e w2 ⟨rfl, hb2⟩
  rw [HF.out]
  unfold fndV
  go_upto_region 6 with fail
  have hA := Arr.new w2 #[.int .u64 rf, .int .i64 rc, .bool true] 32
  have HB2 := Lib.hid (ba (bthen HB1.out hb2) (.cells #[.int .u64 rf, .int .i64 rc, .bool true] 32))
  have HK1_2 := Lib.hid ((HK1_1.out.call hb2).alloc (.cells #[.int .u64 rf, .int .i64 rc, .bool true] 32))
  generalize w2.alloc (.cells #[.int .u64 rf, .int .i64 rc, .bool true] 32) = W2 at *
  generalize w2.heap.size = X2 at *
  have HK2_2 := Lib.hid hA
  clear hA hb2
  have c1_0 : W2.cell? ⟨X1, 0, none⟩ = some (.int .i8 1) := HK1_2.out.cell 0 _ rfl
  have c2_2 : W2.cell? ⟨X2, 2, none⟩ = some (.bool true) := HK2_2.out.cell 2 _ rfl
  go_wp2_with fail
  refine (shDecide_any O len cap p (x) (ct) true l _ (HG.out.call HB2.out) (HI.out.call HB2.out) HL.out hcap (by omega) HW.out HP.out HX.out).mono ?_
  rintro e w3 ⟨rfl, hb3⟩
  rw [HD.out]
  unfold dcV
  go_upto_region 16 with fail
  have hA := Arr.new w3 #[.int .i8 1, .int .i8 0] 27
  have HB3 := Lib.hid (ba (bthen HB2.out hb3) (.cells #[.int .i8 1, .int .i8 0] 27))
  generalize w3.alloc (.cells #[.int .i8 1, .int .i8 0] 27) = W3 at *
  generalize w3.heap.size = X3 at *
  have HK3_3 := Lib.hid hA
  clear hA hb3
  go_wp2_with fail
  refine (shDecide_any O len cap p (x) (ct) false l _ (HG.out.call HB3.out) (HI.out.call HB3.out) HL.out hcap (by omega) HW.out HP.out HX.out).mono ?_
  rintro e w4 ⟨rfl, hb4⟩
  rw [HE.out]
  unfold dcV
  go_upto_region 17 with fail
  have hA := Arr.new w4 #[.int .i8 1, .int .i8 0] 27
  have HB4 := Lib.hid (ba (bthen HB3.out hb4) (.cells #[.int .i8 1, .int .i8 0] 27))
  have HK3_4 := Lib.hid ((HK3_3.out.call hb4).alloc (.cells #[.int .i8 1, .int .i8 0] 27))
  generalize w4.alloc (.cells #[.int .i8 1, .int .i8 0] 27) = W4 at *
  generalize w4.heap.size = X4 at *
  have HK4_4 := Lib.hid hA
  clear hA hb4
  have c3_0 : W4.cell? ⟨X3, 0, none⟩ = some (.int .i8 1) := HK3_4.out.cell 0 _ rfl
  have c4_0 : W4.cell? ⟨X4, 0, none⟩ = some (.int .i8 1) := HK4_4.out.cell 0 _ rfl
  go_wp2_with fail
  refine (wakes20_any _ (HG.out.call HB4.out)).mono ?_
  rintro e wz ⟨rfl, hbz⟩
  have HZ := Lib.hid (bthen HB4.out hbz)
  clear hbz
  go_wp2_with fail
  go_ret
  exact ⟨rfl, HZ.out⟩
set_option maxRecDepth 100000 in
set_option maxHeartbeats 4000000 in
theorem ends_else (O : Option Addr) (len cap : Nat) (p ct fr : Int) (l : List Reg) (w : World) (hG : G w) (hI : RegsK w O l) (hl : l.length = len) (hcap : len ≤ cap) (hm : len ≤ 20) (hwf : ∀ i, i < len → (rg l i).wf) (hp : U64 p) (x : Int) (hx : U64 x) (k : Int) (rf rc : Int) (hc : chk l = true) (h0 : 0 ≤ ct) (hf : fnd l p = some ⟨rf, rc, true⟩) (hd : dcs l p true x ct = (k, 0, 0)) (hk0 : k ≠ 0) (hk1 : k ≠ 1) (hall : ∀ g, 0 ≤ g → g < 64 → dcs l p true (wordV g false false true true) 1 = (1, 0, 0) ∧ dcs l p false (wordV g false false true true) 1 = (1, 0, 0)) : Calls Tryd.prog 3 #[.slice O len cap, .int .u64 p, .int .u64 x, .int .i64 ct, .int .i64 fr] w fun e w' => e = .returned (.bool true) ∧ Below w.heap.size w w' := by
  have HI := Lib.hid hI
  have HL := Lib.hid hl
  have HW := Lib.hid hwf
  have HG := Lib.hid hG
  have HP := Lib.hid hp
  clear hI hl hwf hG hp
  have HX := Lib.hid hx
  clear hx
  have HD := Lib.hid hd
  have HF := Lib.hid hf
  have HAll := Lib.hid hall
  have n0 : (k == 0) = false := beq_eq_false_iff_ne.2 hk0
  have n1 : (k != 1) = true := by simpa [bne] using hk1
  have n1' : (k == 1) = false := beq_eq_false_iff_ne.2 hk1
  clear hf hc hd hall hk0 hk1
  have hn := norm_mod fr 64 (by omega) (by omega)
  go_enter Tryd.func3, Tryd.ntmps3
  go_upto_region 4 with fail
  generalize (wrap64 (fr.tmod 64 + 64)).tmod 64 = g at *
  obtain ⟨g0, g1⟩ := hn
  have H1 := Lib.hid (HAll.out g g0 g1).1
  have H2 := Lib.hid (HAll.out g g0 g1).2
  have HXl := Lib.hid (leaf_ok g false g0 g1).2.2
  go_wp2_with fail
  refine (shDecide_any O len cap p (x) (ct) true l _ (HG.out.call (Below.refl _ _)) (HI.out.call (Below.refl _ _)) HL.out hcap (by omega) HW.out HP.out HX.out).mono ?_
  rintro e w1 ⟨rfl, hb1⟩
  rw [HD.out]
  unfold dcV
  go_upto_region 5 with fail
  have hA := Arr.new w1 #[.int .i8 k, .int .i8 0] 27
  have HB1 := Lib.hid (ba (bthen (Below.refl _ _) hb1) (.cells #[.int .i8 k, .int .i8 0] 27))
  generalize w1.alloc (.cells #[.int .i8 k, .int .i8 0] 27) = W1 at *
  generalize w1.heap.size = X1 at *
  have HK1_1 := Lib.hid hA
  clear hA hb1
  go_wp2_with fail
  refine (r19Find_any O len cap p l _ (HI.out.call HB1.out) HL.out hcap (by omega) HP.out HW.out).mono ?_
  rintro e w2 ⟨rfl, hb2⟩
  rw [HF.out]
  unfold fndV
  go_upto_region 6 with fail
  have hA := Arr.new w2 #[.int .u64 rf, .int .i64 rc, .bool true] 32
  have HB2 := Lib.hid (ba (bthen HB1.out hb2) (.cells #[.int .u64 rf, .int .i64 rc, .bool true] 32))
  have HK1_2 := Lib.hid ((HK1_1.out.call hb2).alloc (.cells #[.int .u64 rf, .int .i64 rc, .bool true] 32))
  generalize w2.alloc (.cells #[.int .u64 rf, .int .i64 rc, .bool true] 32) = W2 at *
  generalize w2.heap.size = X2 at *
  have HK2_2 := Lib.hid hA
  clear hA hb2
  have c1_0 : W2.cell? ⟨X1, 0, none⟩ = some (.int .i8 k) := HK1_2.out.cell 0 _ rfl
  have c2_2 : W2.cell? ⟨X2, 2, none⟩ = some (.bool true) := HK2_2.out.cell 2 _ rfl
  go_wp2_with fail
  refine (r16Leaf_in g false _ g0 (by omega)).mono ?_
  rintro e wl ⟨rfl, hbl⟩
  have HBl := Lib.hid (bthen HB2.out hbl)
  clear hbl
  go_wp2_with fail
  refine (shDecide_any O len cap p (wordV g false false true true) (1) true l _ (HG.out.call HBl.out) (HI.out.call HBl.out) HL.out hcap (by omega) HW.out HP.out HXl.out).mono ?_
  rintro e w3 ⟨rfl, hb3⟩
  rw [H1.out]
  unfold dcV
  go_upto_region 16 with fail
  have hA := Arr.new w3 #[.int .i8 1, .int .i8 0] 27
  have HB3 := Lib.hid (ba (bthen HBl.out hb3) (.cells #[.int .i8 1, .int .i8 0] 27))
  generalize w3.alloc (.cells #[.int .i8 1, .int .i8 0] 27) = W3 at *
  generalize w3.heap.size = X3 at *
  have HK3_3 := Lib.hid hA
  clear hA hb3
  go_wp2_with fail
  refine (shDecide_any O len cap p (wordV g false false true true) (1) false l _ (HG.out.call HB3.out) (HI.out.call HB3.out) HL.out hcap (by omega) HW.out HP.out HXl.out).mono ?_
  rintro e w4 ⟨rfl, hb4⟩
  rw [H2.out]
  unfold dcV
  go_upto_region 17 with fail
  have hA := Arr.new w4 #[.int .i8 1, .int .i8 0] 27
  have HB4 := Lib.hid (ba (bthen HB3.out hb4) (.cells #[.int .i8 1, .int .i8 0] 27))
  have HK3_4 := Lib.hid ((HK3_3.out.call hb4).alloc (.cells #[.int .i8 1, .int .i8 0] 27))
  generalize w4.alloc (.cells #[.int .i8 1, .int .i8 0] 27) = W4 at *
  generalize w4.heap.size = X4 at *
  have HK4_4 := Lib.hid hA
  clear hA hb4
  have c3_0 : W4.cell? ⟨X3, 0, none⟩ = some (.int .i8 1) := HK3_4.out.cell 0 _ rfl
  have c4_0 : W4.cell? ⟨X4, 0, none⟩ = some (.int .i8 1) := HK4_4.out.cell 0 _ rfl
  go_wp2_with fail
  refine (wakes20_any _ (HG.out.call HB4.out)).mono ?_
  rintro e wz ⟨rfl, hbz⟩
  have HZ := Lib.hid (bthen HB4.out hbz)
  clear hbz
  go_wp2_with fail
  go_ret
  exact ⟨rfl, HZ.out⟩
theorem ends_any (O : Option Addr) (len cap : Nat) (p ct fr : Int) (l : List Reg) (w : World) (hG : G w) (hI : RegsK w O l) (hl : l.length = len) (hcap : len ≤ cap) (hwf : ∀ i, i < len → (rg l i).wf) (hp : U64 p) (x : Int) (hx : U64 x) : Calls Tryd.prog 3 #[.slice O len cap, .int .u64 p, .int .u64 x, .int .i64 ct, .int .i64 fr] w fun e w' => e = .returned (.bool true) ∧ Below w.heap.size w w' := by
  by_cases hm : 20 < len
  · exact ends_long O len cap p x ct fr w hG hm
  · have hm' : len ≤ 20 := by omega
    rcases dcs_store (l := l) (p := p) (x := x) (ct := ct) with ⟨hno, _⟩ | ⟨h1, h2, ⟨hf, _⟩ | ⟨⟨rf, rc, rw'⟩, hf, ⟨hw, hd⟩ | ⟨hw, hd⟩⟩⟩
    · exact ends_no O len cap p ct fr l w hG hI hl hcap hm' hwf hp x hx hno _ rfl
    · exact ends_none O len cap p ct fr l w hG hI hl hcap hm' hwf hp x hx h1 h2 hf
    · obtain rfl : rw' = false := hw
      exact ends_perm O len cap p ct fr l w hG hI hl hcap hm' hwf hp x hx rf rc h1 h2 hf hd
    · obtain rfl : rw' = true := hw
      have hall : ∀ g, 0 ≤ g → g < 64 → dcs l p true (wordV g false false true true) 1 = (1, 0, 0) ∧ dcs l p false (wordV g false false true true) 1 = (1, 0, 0) := fun g g0 g1 => by
        obtain ⟨q1, q2, _⟩ := leaf_ok g false g0 g1
        exact again_well h1 (by omega) hf rfl q1 q2
      rcases hd with ⟨hd, hpg⟩ | hd | hd | hd
      · exact ends_well O len cap p ct fr l w hG hI hl hcap hm' hwf hp x hx rf rc h1 h2 hf hd (again_well h1 h2 hf rfl hpg (well_ro hd)).2
      · exact ends_else O len cap p ct fr l w hG hI hl hcap hm' hwf hp x hx 2 rf rc h1 h2 hf hd (by omega) (by omega) hall
      · exact ends_else O len cap p ct fr l w hG hI hl hcap hm' hwf hp x hx 3 rf rc h1 h2 hf hd (by omega) (by omega) hall
      · exact ends_else O len cap p ct fr l w hG hI hl hcap hm' hwf hp x hx 4 rf rc h1 h2 hf hd (by omega) (by omega) hall
end Go.Proofs.YtaikkdlphfmgiaaDoor
