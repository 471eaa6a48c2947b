/-
  The law ShareLoads of layer 20: the walk.
-/
import Derived.Test.YtaikkdlphfmgiaaDoorShEnds
namespace Go.Proofs.YtaikkdlphfmgiaaDoor
open Go.RowKit
set_option linter.unusedVariables false
set_option linter.unusedSimpArgs false
theorem loads_long (O : Option Addr) (len cap : Nat) (p ct fr : Int) (mp ro : Bool) (w : World) (hG : G w) (hl : 20 < len) : Calls Tryd.prog 5 #[.slice O len cap, .int .u64 p, .bool mp, .bool ro, .int .i64 ct, .int .i64 fr] w fun e w' => e = .returned (.bool true) ∧ Below w.heap.size w w' := by
  have HG := Lib.hid hG
  clear hG
  go_enter Tryd.func5, Tryd.ntmps5
  go_wp2_with fail
  refine (wakes20_any _ HG.out).mono ?_
  rintro e w1 ⟨rfl, hb⟩
  go_wp2_with fail
  go_ret
  exact ⟨rfl, hb⟩
set_option maxRecDepth 100000 in
set_option maxHeartbeats 4000000 in
theorem loads0_no (O : Option Addr) (len cap : Nat) (p ct fr : Int) (l : List Reg) (w : World) (hG : G w) (hI : RegsK w O l) (hl : l.length = len) (hcap : len ≤ cap) (hm : len ≤ 20) (hwf : ∀ i, i < len → (rg l i).wf) (hp : U64 p) (ro : Bool) (hno : chk l = false ∨ ct < 0) (fo : Option Reg) (hf : fnd l p = fo) (hd : dcs l p false 0 ct = (0, 0, 2)) : Calls Tryd.prog 5 #[.slice O len cap, .int .u64 p, .bool false, .bool ro, .int .i64 ct, .int .i64 fr] w fun e w' => e = .returned (.bool true) ∧ Below w.heap.size w w' := by
  have HI := Lib.hid hI
  have HL := Lib.hid hl
  have HW := Lib.hid hwf
  have HG := Lib.hid hG
  have HP := Lib.hid hp
  clear hI hl hwf hG hp
  have HD := Lib.hid hd
  clear hd
  have HF := Lib.hid hf
  clear hf
  rcases fo with _ | ⟨rf, rc, rw'⟩
  · have hn := norm_mod fr 64 (by omega) (by omega)
    go_enter Tryd.func5, Tryd.ntmps5
    go_upto_region 4 with fail
    generalize (wrap64 (fr.tmod 64 + 64)).tmod 64 = g at *
    obtain ⟨g0, g1⟩ := hn
    go_wp2_with fail
    refine (shDecide_any O len cap p (0) (ct) false l _ (HG.out.call (Below.refl _ _)) (HI.out.call (Below.refl _ _)) HL.out hcap (by omega) HW.out HP.out ⟨by omega, by omega⟩).mono ?_
    rintro e w1 ⟨rfl, hb1⟩
    rw [HD.out]
    unfold dcV
    go_upto_region 8 with fail
    have hA := Arr.new w1 #[.int .i8 0, .int .i8 0] 27
    have HB1 := Lib.hid (ba (bthen (Below.refl _ _) hb1) (.cells #[.int .i8 0, .int .i8 0] 27))
    generalize w1.alloc (.cells #[.int .i8 0, .int .i8 0] 27) = W1 at *
    generalize w1.heap.size = X1 at *
    have HK1_1 := Lib.hid hA
    clear hA hb1
    go_wp2_with fail
    refine (r19Find_any O len cap p l _ (HI.out.call HB1.out) HL.out hcap (by omega) HP.out HW.out).mono ?_
    rintro e w2 ⟨rfl, hb2⟩
    rw [HF.out]
    unfold fndV
    go_upto_region 9 with fail
    have hA := Arr.new w2 #[.int .u64 0, .int .i64 0, .bool false] 32
    have HB2 := Lib.hid (ba (bthen HB1.out hb2) (.cells #[.int .u64 0, .int .i64 0, .bool false] 32))
    have HK1_2 := Lib.hid ((HK1_1.out.call hb2).alloc (.cells #[.int .u64 0, .int .i64 0, .bool false] 32))
    generalize w2.alloc (.cells #[.int .u64 0, .int .i64 0, .bool false] 32) = W2 at *
    generalize w2.heap.size = X2 at *
    have HK2_2 := Lib.hid hA
    clear hA hb2
    by_cases hck : chk l = true
    · have hct : ct < 0 := by rcases hno with h | h
                              · rw [hck] at h; cases h
                              · exact h
      have HV := Lib.hid (ck_yes hck)
      clear hck hno
      go_wp2_with fail
      refine (r19Check_any O len cap l _ (HI.out.call HB2.out) HL.out hcap HW.out).mono ?_
      rintro e wc ⟨rfl, hbc⟩
      have HC := Lib.hid (bthen HB2.out hbc)
      clear hbc
      rw [HV.out]
      go_wp2_with fail
      refine (wakes20_any _ (HG.out.call HC.out)).mono ?_
      rintro e wz ⟨rfl, hbz⟩
      have HZ := Lib.hid (bthen HC.out hbz)
      clear hbz
      go_wp2_with fail
      go_ret
      exact ⟨rfl, HZ.out⟩
    · have HV := Lib.hid (ck_no' (show chk l = false by simpa using hck))
      clear hck hno
      go_wp2_with fail
      refine (r19Check_any O len cap l _ (HI.out.call HB2.out) HL.out hcap HW.out).mono ?_
      rintro e wc ⟨rfl, hbc⟩
      have HC := Lib.hid (bthen HB2.out hbc)
      clear hbc
      rw [HV.out]
      go_wp2_with fail
      refine (wakes20_any _ (HG.out.call HC.out)).mono ?_
      rintro e wz ⟨rfl, hbz⟩
      have HZ := Lib.hid (bthen HC.out hbz)
      clear hbz
      go_wp2_with fail
      go_ret
      exact ⟨rfl, HZ.out⟩
  · have hn := norm_mod fr 64 (by omega) (by omega)
    go_enter Tryd.func5, Tryd.ntmps5
    go_upto_region 4 with fail
    generalize (wrap64 (fr.tmod 64 + 64)).tmod 64 = g at *
    obtain ⟨g0, g1⟩ := hn
    go_wp2_with fail
    refine (shDecide_any O len cap p (0) (ct) false l _ (HG.out.call (Below.refl _ _)) (HI.out.call (Below.refl _ _)) HL.out hcap (by omega) HW.out HP.out ⟨by omega, by omega⟩).mono ?_
    rintro e w1 ⟨rfl, hb1⟩
    rw [HD.out]
    unfold dcV
    go_upto_region 8 with fail
    have hA := Arr.new w1 #[.int .i8 0, .int .i8 0] 27
    have HB1 := Lib.hid (ba (bthen (Below.refl _ _) hb1) (.cells #[.int .i8 0, .int .i8 0] 27))
    generalize w1.alloc (.cells #[.int .i8 0, .int .i8 0] 27) = W1 at *
    generalize w1.heap.size = X1 at *
    have HK1_1 := Lib.hid hA
    clear hA hb1
    go_wp2_with fail
    refine (r19Find_any O len cap p l _ (HI.out.call HB1.out) HL.out hcap (by omega) HP.out HW.out).mono ?_
    rintro e w2 ⟨rfl, hb2⟩
    rw [HF.out]
    unfold fndV
    go_upto_region 9 with fail
    have hA := Arr.new w2 #[.int .u64 rf, .int .i64 rc, .bool rw'] 32
    have HB2 := Lib.hid (ba (bthen HB1.out hb2) (.cells #[.int .u64 rf, .int .i64 rc, .bool rw'] 32))
    have HK1_2 := Lib.hid ((HK1_1.out.call hb2).alloc (.cells #[.int .u64 rf, .int .i64 rc, .bool rw'] 32))
    generalize w2.alloc (.cells #[.int .u64 rf, .int .i64 rc, .bool rw'] 32) = W2 at *
    generalize w2.heap.size = X2 at *
    have HK2_2 := Lib.hid hA
    clear hA hb2
    by_cases hck : chk l = true
    · have hct : ct < 0 := by rcases hno with h | h
                              · rw [hck] at h; cases h
                              · exact h
      have HV := Lib.hid (ck_yes hck)
      clear hck hno
      go_wp2_with fail
      refine (r19Check_any O len cap l _ (HI.out.call HB2.out) HL.out hcap HW.out).mono ?_
      rintro e wc ⟨rfl, hbc⟩
      have HC := Lib.hid (bthen HB2.out hbc)
      clear hbc
      rw [HV.out]
      go_wp2_with fail
      refine (wakes20_any _ (HG.out.call HC.out)).mono ?_
      rintro e wz ⟨rfl, hbz⟩
      have HZ := Lib.hid (bthen HC.out hbz)
      clear hbz
      go_wp2_with fail
      go_ret
      exact ⟨rfl, HZ.out⟩
    · have HV := Lib.hid (ck_no' (show chk l = false by simpa using hck))
      clear hck hno
      go_wp2_with fail
      refine (r19Check_any O len cap l _ (HI.out.call HB2.out) HL.out hcap HW.out).mono ?_
      rintro e wc ⟨rfl, hbc⟩
      have HC := Lib.hid (bthen HB2.out hbc)
      clear hbc
      rw [HV.out]
      go_wp2_with fail
      refine (wakes20_any _ (HG.out.call HC.out)).mono ?_
      rintro e wz ⟨rfl, hbz⟩
      have HZ := Lib.hid (bthen HC.out hbz)
      clear hbz
      go_wp2_with fail
      go_ret
      exact ⟨rfl, HZ.out⟩
set_option maxRecDepth 100000 in
set_option maxHeartbeats 4000000 in
theorem loads0_none (O : Option Addr) (len cap : Nat) (p ct fr : Int) (l : List Reg) (w : World) (hG : G w) (hI : RegsK w O l) (hl : l.length = len) (hcap : len ≤ cap) (hm : len ≤ 20) (hwf : ∀ i, i < len → (rg l i).wf) (hp : U64 p) (ro : Bool) (hf : fnd l p = none) (hd : dcs l p false 0 ct = (0, 1, 0)) : Calls Tryd.prog 5 #[.slice O len cap, .int .u64 p, .bool false, .bool ro, .int .i64 ct, .int .i64 fr] w fun e w' => e = .returned (.bool true) ∧ Below w.heap.size w w' := by
  have HI := Lib.hid hI
  have HL := Lib.hid hl
  have HW := Lib.hid hwf
  have HG := Lib.hid hG
  have HP := Lib.hid hp
  clear hI hl hwf hG hp
  have HD := Lib.hid hd
  clear hd
  have HF := Lib.hid hf
  clear hf
  have hn := norm_mod fr 64 (by omega) (by omega)
  go_enter Tryd.func5, Tryd.ntmps5
  go_upto_region 4 with fail
  generalize (wrap64 (fr.tmod 64 + 64)).tmod 64 = g at *
  obtain ⟨g0, g1⟩ := hn
  go_wp2_with fail
  refine (shDecide_any O len cap p (0) (ct) false l _ (HG.out.call (Below.refl _ _)) (HI.out.call (Below.refl _ _)) HL.out hcap (by omega) HW.out HP.out ⟨by omega, by omega⟩).mono ?_
  rintro e w1 ⟨rfl, hb1⟩
  rw [HD.out]
  unfold dcV
  go_upto_region 8 with fail
  have hA := Arr.new w1 #[.int .i8 0, .int .i8 1] 27
  have HB1 := Lib.hid (ba (bthen (Below.refl _ _) hb1) (.cells #[.int .i8 0, .int .i8 1] 27))
  generalize w1.alloc (.cells #[.int .i8 0, .int .i8 1] 27) = W1 at *
  generalize w1.heap.size = X1 at *
  have HK1_1 := Lib.hid hA
  clear hA hb1
  go_wp2_with fail
  refine (r19Find_any O len cap p l _ (HI.out.call HB1.out) HL.out hcap (by omega) HP.out HW.out).mono ?_
  rintro e w2 ⟨rfl, hb2⟩
  rw [HF.out]
  unfold fndV
  go_upto_region 9 with fail
  have hA := Arr.new w2 #[.int .u64 0, .int .i64 0, .bool false] 32
  have HB2 := Lib.hid (ba (bthen HB1.out hb2) (.cells #[.int .u64 0, .int .i64 0, .bool false] 32))
  have HK1_2 := Lib.hid ((HK1_1.out.call hb2).alloc (.cells #[.int .u64 0, .int .i64 0, .bool false] 32))
  generalize w2.alloc (.cells #[.int .u64 0, .int .i64 0, .bool false] 32) = W2 at *
  generalize w2.heap.size = X2 at *
  have HK2_2 := Lib.hid hA
  clear hA hb2
  have c1_0 : W2.cell? ⟨X1, 0, none⟩ = some (.int .i8 0) := HK1_2.out.cell 0 _ rfl
  have c1_1 : W2.cell? ⟨X1, 1, none⟩ = some (.int .i8 1) := HK1_2.out.cell 1 _ rfl
  go_wp2_with fail
  refine (wakes20_any _ (HG.out.call HB2.out)).mono ?_
  rintro e wz ⟨rfl, hbz⟩
  have HZ := Lib.hid (bthen HB2.out hbz)
  clear hbz
  go_wp2_with fail
  go_ret
  exact ⟨rfl, HZ.out⟩
set_option maxRecDepth 100000 in
set_option maxHeartbeats 4000000 in
theorem loads0_some (O : Option Addr) (len cap : Nat) (p ct fr : Int) (l : List Reg) (w : World) (hG : G w) (hI : RegsK w O l) (hl : l.length = len) (hcap : len ≤ cap) (hm : len ≤ 20) (hwf : ∀ i, i < len → (rg l i).wf) (hp : U64 p) (ro : Bool) (rf rc : Int) (rw' : Bool) (hf : fnd l p = some ⟨rf, rc, rw'⟩) (hd : dcs l p false 0 ct = (2, 0, 0)) : Calls Tryd.prog 5 #[.slice O len cap, .int .u64 p, .bool false, .bool ro, .int .i64 ct, .int .i64 fr] w fun e w' => e = .returned (.bool true) ∧ Below w.heap.size w w' := by
  have HI := Lib.hid hI
  have HL := Lib.hid hl
  have HW := Lib.hid hwf
  have HG := Lib.hid hG
  have HP := Lib.hid hp
  clear hI hl hwf hG hp
  have HD := Lib.hid hd
  clear hd
  have HF := Lib.hid hf
  clear hf
  have hn := norm_mod fr 64 (by omega) (by omega)
  go_enter Tryd.func5, Tryd.ntmps5
  go_upto_region 4 with fail
  generalize (wrap64 (fr.tmod 64 + 64)).tmod 64 = g at *
  obtain ⟨g0, g1⟩ := hn
  go_wp2_with fail
  refine (shDecide_any O len cap p (0) (ct) false l _ (HG.out.call (Below.refl _ _)) (HI.out.call (Below.refl _ _)) HL.out hcap (by omega) HW.out HP.out ⟨by omega, by omega⟩).mono ?_
  rintro e w1 ⟨rfl, hb1⟩
  rw [HD.out]
  unfold dcV
  go_upto_region 8 with fail
  have hA := Arr.new w1 #[.int .i8 2, .int .i8 0] 27
  have HB1 := Lib.hid (ba (bthen (Below.refl _ _) hb1) (.cells #[.int .i8 2, .int .i8 0] 27))
  generalize w1.alloc (.cells #[.int .i8 2, .int .i8 0] 27) = W1 at *
  generalize w1.heap.size = X1 at *
  have HK1_1 := Lib.hid hA
  clear hA hb1
  go_wp2_with fail
  refine (r19Find_any O len cap p l _ (HI.out.call HB1.out) HL.out hcap (by omega) HP.out HW.out).mono ?_
  rintro e w2 ⟨rfl, hb2⟩
  rw [HF.out]
  unfold fndV
  go_upto_region 9 with fail
  have hA := Arr.new w2 #[.int .u64 rf, .int .i64 rc, .bool rw'] 32
  have HB2 := Lib.hid (ba (bthen HB1.out hb2) (.cells #[.int .u64 rf, .int .i64 rc, .bool rw'] 32))
  have HK1_2 := Lib.hid ((HK1_1.out.call hb2).alloc (.cells #[.int .u64 rf, .int .i64 rc, .bool rw'] 32))
  generalize w2.alloc (.cells #[.int .u64 rf, .int .i64 rc, .bool rw'] 32) = W2 at *
  generalize w2.heap.size = X2 at *
  have HK2_2 := Lib.hid hA
  clear hA hb2
  have c1_0 : W2.cell? ⟨X1, 0, none⟩ = some (.int .i8 2) := HK1_2.out.cell 0 _ rfl
  have c1_1 : W2.cell? ⟨X1, 1, none⟩ = some (.int .i8 0) := HK1_2.out.cell 1 _ rfl
  go_wp2_with fail
  refine (shRoom_any 2 0 0 _).mono ?_
  rintro e wr ⟨rfl, hbr⟩
  have HBr := Lib.hid (bthen HB2.out hbr)
  clear hbr
  rw [show rmV 2 0 = 1 from by decide +kernel]
  go_wp2_with fail
  refine (wakes20_any _ (HG.out.call HBr.out)).mono ?_
  rintro e wz ⟨rfl, hbz⟩
  have HZ := Lib.hid (bthen HBr.out hbz)
  clear hbz
  go_wp2_with fail
  go_ret
  exact ⟨rfl, HZ.out⟩
set_option maxRecDepth 100000 in
set_option maxHeartbeats 4000000 in
theorem loads1_no (O : Option Addr) (len cap : Nat) (p ct fr : Int) (l : List Reg) (w : World) (hG : G w) (hI : RegsK w O l) (hl : l.length = len) (hcap : len ≤ cap) (hm : len ≤ 20) (hwf : ∀ i, i < len → (rg l i).wf) (hp : U64 p) (ro : Bool) (hno : chk l = false ∨ ct < 0) (fo : Option Reg) (hf : fnd l p = fo) (hall : ∀ g, 0 ≤ g → g < 64 → dcs l p false (wordV g false ro true true) ct = (0, 0, 2)) : Calls Tryd.prog 5 #[.slice O len cap, .int .u64 p, .bool true, .bool ro, .int .i64 ct, .int .i64 fr] w fun e w' => e = .returned (.bool true) ∧ Below w.heap.size w w' := by
  have HI := Lib.hid hI
  have HL := Lib.hid hl
  have HW := Lib.hid hwf
  have HG := Lib.hid hG
  have HP := Lib.hid hp
  clear hI hl hwf hG hp
  have HAll := Lib.hid hall
  clear hall
  have HF := Lib.hid hf
  clear hf
  rcases fo with _ | ⟨rf, rc, rw'⟩
  · have hn := norm_mod fr 64 (by omega) (by omega)
    go_enter Tryd.func5, Tryd.ntmps5
    go_upto_region 4 with fail
    generalize (wrap64 (fr.tmod 64 + 64)).tmod 64 = g at *
    obtain ⟨g0, g1⟩ := hn
    have HD := Lib.hid (HAll.out g g0 g1)
    have HXl := Lib.hid (leaf_ok g ro g0 g1).2.2
    clear HAll
    go_wp2_with fail
    refine (r16Leaf_in g ro _ g0 (by omega)).mono ?_
    rintro e wl ⟨rfl, hbl⟩
    have HBl := Lib.hid hbl
    clear hbl
    go_wp2_with fail
    refine (shDecide_any O len cap p (wordV g false ro true true) (ct) false l _ (HG.out.call HBl.out) (HI.out.call HBl.out) HL.out hcap (by omega) HW.out HP.out HXl.out).mono ?_
    rintro e w1 ⟨rfl, hb1⟩
    rw [HD.out]
    unfold dcV
    go_upto_region 8 with fail
    have hA := Arr.new w1 #[.int .i8 0, .int .i8 0] 27
    have HB1 := Lib.hid (ba (bthen HBl.out hb1) (.cells #[.int .i8 0, .int .i8 0] 27))
    generalize w1.alloc (.cells #[.int .i8 0, .int .i8 0] 27) = W1 at *
    generalize w1.heap.size = X1 at *
    have HK1_1 := Lib.hid hA
    clear hA hb1
    go_wp2_with fail
    refine (r19Find_any O len cap p l _ (HI.out.call HB1.out) HL.out hcap (by omega) HP.out HW.out).mono ?_
    rintro e w2 ⟨rfl, hb2⟩
    rw [HF.out]
    unfold fndV
    go_upto_region 9 with fail
    have hA := Arr.new w2 #[.int .u64 0, .int .i64 0, .bool false] 32
    have HB2 := Lib.hid (ba (bthen HB1.out hb2) (.cells #[.int .u64 0, .int .i64 0, .bool false] 32))
    have HK1_2 := Lib.hid ((HK1_1.out.call hb2).alloc (.cells #[.int .u64 0, .int .i64 0, .bool false] 32))
    generalize w2.alloc (.cells #[.int .u64 0, .int .i64 0, .bool false] 32) = W2 at *
    generalize w2.heap.size = X2 at *
    have HK2_2 := Lib.hid hA
    clear hA hb2
    by_cases hck : chk l = true
    · have hct : ct < 0 := by rcases hno with h | h
                              · rw [hck] at h; cases h
                              · exact h
      have HV := Lib.hid (ck_yes hck)
      clear hck hno
      go_wp2_with fail
      refine (r19Check_any O len cap l _ (HI.out.call HB2.out) HL.out hcap HW.out).mono ?_
      rintro e wc ⟨rfl, hbc⟩
      have HC := Lib.hid (bthen HB2.out hbc)
      clear hbc
      rw [HV.out]
      go_wp2_with fail
      refine (wakes20_any _ (HG.out.call HC.out)).mono ?_
      rintro e wz ⟨rfl, hbz⟩
      have HZ := Lib.hid (bthen HC.out hbz)
      clear hbz
      go_wp2_with fail
      go_ret
      exact ⟨rfl, HZ.out⟩
    · have HV := Lib.hid (ck_no' (show chk l = false by simpa using hck))
      clear hck hno
      go_wp2_with fail
      refine (r19Check_any O len cap l _ (HI.out.call HB2.out) HL.out hcap HW.out).mono ?_
      rintro e wc ⟨rfl, hbc⟩
      have HC := Lib.hid (bthen HB2.out hbc)
      clear hbc
      rw [HV.out]
      go_wp2_with fail
      refine (wakes20_any _ (HG.out.call HC.out)).mono ?_
      rintro e wz ⟨rfl, hbz⟩
      have HZ := Lib.hid (bthen HC.out hbz)
      clear hbz
      go_wp2_with fail
      go_ret
      exact ⟨rfl, HZ.out⟩
  · have hn := norm_mod fr 64 (by omega) (by omega)
    go_enter Tryd.func5, Tryd.ntmps5
    go_upto_region 4 with fail
    generalize (wrap64 (fr.tmod 64 + 64)).tmod 64 = g at *
    obtain ⟨g0, g1⟩ := hn
    have HD := Lib.hid (HAll.out g g0 g1)
    have HXl := Lib.hid (leaf_ok g ro g0 g1).2.2
    clear HAll
    go_wp2_with fail
    refine (r16Leaf_in g ro _ g0 (by omega)).mono ?_
    rintro e wl ⟨rfl, hbl⟩
    have HBl := Lib.hid hbl
    clear hbl
    go_wp2_with fail
    refine (shDecide_any O len cap p (wordV g false ro true true) (ct) false l _ (HG.out.call HBl.out) (HI.out.call HBl.out) HL.out hcap (by omega) HW.out HP.out HXl.out).mono ?_
    rintro e w1 ⟨rfl, hb1⟩
    rw [HD.out]
    unfold dcV
    go_upto_region 8 with fail
    have hA := Arr.new w1 #[.int .i8 0, .int .i8 0] 27
    have HB1 := Lib.hid (ba (bthen HBl.out hb1) (.cells #[.int .i8 0, .int .i8 0] 27))
    generalize w1.alloc (.cells #[.int .i8 0, .int .i8 0] 27) = W1 at *
    generalize w1.heap.size = X1 at *
    have HK1_1 := Lib.hid hA
    clear hA hb1
    go_wp2_with fail
    refine (r19Find_any O len cap p l _ (HI.out.call HB1.out) HL.out hcap (by omega) HP.out HW.out).mono ?_
    rintro e w2 ⟨rfl, hb2⟩
    rw [HF.out]
    unfold fndV
    go_upto_region 9 with fail
    have hA := Arr.new w2 #[.int .u64 rf, .int .i64 rc, .bool rw'] 32
    have HB2 := Lib.hid (ba (bthen HB1.out hb2) (.cells #[.int .u64 rf, .int .i64 rc, .bool rw'] 32))
    have HK1_2 := Lib.hid ((HK1_1.out.call hb2).alloc (.cells #[.int .u64 rf, .int .i64 rc, .bool rw'] 32))
    generalize w2.alloc (.cells #[.int .u64 rf, .int .i64 rc, .bool rw'] 32) = W2 at *
    generalize w2.heap.size = X2 at *
    have HK2_2 := Lib.hid hA
    clear hA hb2
    by_cases hck : chk l = true
    · have hct : ct < 0 := by rcases hno with h | h
                              · rw [hck] at h; cases h
                              · exact h
      have HV := Lib.hid (ck_yes hck)
      clear hck hno
      go_wp2_with fail
      refine (r19Check_any O len cap l _ (HI.out.call HB2.out) HL.out hcap HW.out).mono ?_
      rintro e wc ⟨rfl, hbc⟩
      have HC := Lib.hid (bthen HB2.out hbc)
      clear hbc
      rw [HV.out]
      go_wp2_with fail
      refine (wakes20_any _ (HG.out.call HC.out)).mono ?_
      rintro e wz ⟨rfl, hbz⟩
      have HZ := Lib.hid (bthen HC.out hbz)
      clear hbz
      go_wp2_with fail
      go_ret
      exact ⟨rfl, HZ.out⟩
    · have HV := Lib.hid (ck_no' (show chk l = false by simpa using hck))
      clear hck hno
      go_wp2_with fail
      refine (r19Check_any O len cap l _ (HI.out.call HB2.out) HL.out hcap HW.out).mono ?_
      rintro e wc ⟨rfl, hbc⟩
      have HC := Lib.hid (bthen HB2.out hbc)
      clear hbc
      rw [HV.out]
      go_wp2_with fail
      refine (wakes20_any _ (HG.out.call HC.out)).mono ?_
      rintro e wz ⟨rfl, hbz⟩
      have HZ := Lib.hid (bthen HC.out hbz)
      clear hbz
      go_wp2_with fail
      go_ret
      exact ⟨rfl, HZ.out⟩
set_option maxRecDepth 100000 in
set_option maxHeartbeats 4000000 in
theorem loads1_none (O : Option Addr) (len cap : Nat) (p ct fr : Int) (l : List Reg) (w : World) (hG : G w) (hI : RegsK w O l) (hl : l.length = len) (hcap : len ≤ cap) (hm : len ≤ 20) (hwf : ∀ i, i < len → (rg l i).wf) (hp : U64 p) (ro : Bool) (hf : fnd l p = none) (hall : ∀ g, 0 ≤ g → g < 64 → dcs l p false (wordV g false ro true true) ct = (0, 1, 0)) : Calls Tryd.prog 5 #[.slice O len cap, .int .u64 p, .bool true, .bool ro, .int .i64 ct, .int .i64 fr] w fun e w' => e = .returned (.bool true) ∧ Below w.heap.size w w' := by
  have HI := Lib.hid hI
  have HL := Lib.hid hl
  have HW := Lib.hid hwf
  have HG := Lib.hid hG
  have HP := Lib.hid hp
  clear hI hl hwf hG hp
  have HAll := Lib.hid hall
  clear hall
  have HF := Lib.hid hf
  clear hf
  have hn := norm_mod fr 64 (by omega) (by omega)
  go_enter Tryd.func5, Tryd.ntmps5
  go_upto_region 4 with fail
  generalize (wrap64 (fr.tmod 64 + 64)).tmod 64 = g at *
  obtain ⟨g0, g1⟩ := hn
  have HD := Lib.hid (HAll.out g g0 g1)
  have HXl := Lib.hid (leaf_ok g ro g0 g1).2.2
  clear HAll
  go_wp2_with fail
  refine (r16Leaf_in g ro _ g0 (by omega)).mono ?_
  rintro e wl ⟨rfl, hbl⟩
  have HBl := Lib.hid hbl
  clear hbl
  go_wp2_with fail
  refine (shDecide_any O len cap p (wordV g false ro true true) (ct) false l _ (HG.out.call HBl.out) (HI.out.call HBl.out) HL.out hcap (by omega) HW.out HP.out HXl.out).mono ?_
  rintro e w1 ⟨rfl, hb1⟩
  rw [HD.out]
  unfold dcV
  go_upto_region 8 with fail
  have hA := Arr.new w1 #[.int .i8 0, .int .i8 1] 27
  have HB1 := Lib.hid (ba (bthen HBl.out hb1) (.cells #[.int .i8 0, .int .i8 1] 27))
  generalize w1.alloc (.cells #[.int .i8 0, .int .i8 1] 27) = W1 at *
  generalize w1.heap.size = X1 at *
  have HK1_1 := Lib.hid hA
  clear hA hb1
  go_wp2_with fail
  refine (r19Find_any O len cap p l _ (HI.out.call HB1.out) HL.out hcap (by omega) HP.out HW.out).mono ?_
  rintro e w2 ⟨rfl, hb2⟩
  rw [HF.out]
  unfold fndV
  go_upto_region 9 with fail
  have hA := Arr.new w2 #[.int .u64 0, .int .i64 0, .bool false] 32
  have HB2 := Lib.hid (ba (bthen HB1.out hb2) (.cells #[.int .u64 0, .int .i64 0, .bool false] 32))
  have HK1_2 := Lib.hid ((HK1_1.out.call hb2).alloc (.cells #[.int .u64 0, .int .i64 0, .bool false] 32))
  generalize w2.alloc (.cells #[.int .u64 0, .int .i64 0, .bool false] 32) = W2 at *
  generalize w2.heap.size = X2 at *
  have HK2_2 := Lib.hid hA
  clear hA hb2
  have c1_0 : W2.cell? ⟨X1, 0, none⟩ = some (.int .i8 0) := HK1_2.out.cell 0 _ rfl
  have c1_1 : W2.cell? ⟨X1, 1, none⟩ = some (.int .i8 1) := HK1_2.out.cell 1 _ rfl
  go_wp2_with fail
  refine (wakes20_any _ (HG.out.call HB2.out)).mono ?_
  rintro e wz ⟨rfl, hbz⟩
  have HZ := Lib.hid (bthen HB2.out hbz)
  clear hbz
  go_wp2_with fail
  go_ret
  exact ⟨rfl, HZ.out⟩
set_option maxRecDepth 100000 in
set_option maxHeartbeats 4000000 in
theorem loads1_some (O : Option Addr) (len cap : Nat) (p ct fr : Int) (l : List Reg) (w : World) (hG : G w) (hI : RegsK w O l) (hl : l.length = len) (hcap : len ≤ cap) (hm : len ≤ 20) (hwf : ∀ i, i < len → (rg l i).wf) (hp : U64 p) (ro : Bool) (rf rc : Int) (rw' : Bool) (hf : fnd l p = some ⟨rf, rc, rw'⟩) (hall : ∀ g, 0 ≤ g → g < 64 → dcs l p false (wordV g false ro true true) ct = (1, 0, 0)) : Calls Tryd.prog 5 #[.slice O len cap, .int .u64 p, .bool true, .bool ro, .int .i64 ct, .int .i64 fr] w fun e w' => e = .returned (.bool true) ∧ Below w.heap.size w w' := by
  have HI := Lib.hid hI
  have HL := Lib.hid hl
  have HW := Lib.hid hwf
  have HG := Lib.hid hG
  have HP := Lib.hid hp
  clear hI hl hwf hG hp
  have HAll := Lib.hid hall
  clear hall
  have HF := Lib.hid hf
  clear hf
  have hn := norm_mod fr 64 (by omega) (by omega)
  go_enter Tryd.func5, Tryd.ntmps5
  go_upto_region 4 with fail
  generalize (wrap64 (fr.tmod 64 + 64)).tmod 64 = g at *
  obtain ⟨g0, g1⟩ := hn
  have HD := Lib.hid (HAll.out g g0 g1)
  have HXl := Lib.hid (leaf_ok g ro g0 g1).2.2
  clear HAll
  go_wp2_with fail
  refine (r16Leaf_in g ro _ g0 (by omega)).mono ?_
  rintro e wl ⟨rfl, hbl⟩
  have HBl := Lib.hid hbl
  clear hbl
  go_wp2_with fail
  refine (shDecide_any O len cap p (wordV g false ro true true) (ct) false l _ (HG.out.call HBl.out) (HI.out.call HBl.out) HL.out hcap (by omega) HW.out HP.out HXl.out).mono ?_
  rintro e w1 ⟨rfl, hb1⟩
  rw [HD.out]
  unfold dcV
  go_upto_region 8 with fail
  have hA := Arr.new w1 #[.int .i8 1, .int .i8 0] 27
  have HB1 := Lib.hid (ba (bthen HBl.out hb1) (.cells #[.int .i8 1, .int .i8 0] 27))
  generalize w1.alloc (.cells #[.int .i8 1, .int .i8 0] 27) = W1 at *
  generalize w1.heap.size = X1 at *
  have HK1_1 := Lib.hid hA
  clear hA hb1
  go_wp2_with fail
  refine (r19Find_any O len cap p l _ (HI.out.call HB1.out) HL.out hcap (by omega) HP.out HW.out).mono ?_
  rintro e w2 ⟨rfl, hb2⟩
  rw [HF.out]
  unfold fndV
  go_upto_region 9 with fail
  have hA := Arr.new w2 #[.int .u64 rf, .int .i64 rc, .bool rw'] 32
  have HB2 := Lib.hid (ba (bthen HB1.out hb2) (.cells #[.int .u64 rf, .int .i64 rc, .bool rw'] 32))
  have HK1_2 := Lib.hid ((HK1_1.out.call hb2).alloc (.cells #[.int .u64 rf, .int .i64 rc, .bool rw'] 32))
  generalize w2.alloc (.cells #[.int .u64 rf, .int .i64 rc, .bool rw'] 32) = W2 at *
  generalize w2.heap.size = X2 at *
  have HK2_2 := Lib.hid hA
  clear hA hb2
  have c1_0 : W2.cell? ⟨X1, 0, none⟩ = some (.int .i8 1) := HK1_2.out.cell 0 _ rfl
  have c1_1 : W2.cell? ⟨X1, 1, none⟩ = some (.int .i8 0) := HK1_2.out.cell 1 _ rfl
  go_wp2_with fail
  refine (shRoom_any 1 0 3 _).mono ?_
  rintro e wr ⟨rfl, hbr⟩
  have HBr := Lib.hid (bthen HB2.out hbr)
  clear hbr
  rw [show rmV 1 3 = 0 from by decide +kernel]
  go_wp2_with fail
  refine (wakes20_any _ (HG.out.call HBr.out)).mono ?_
  rintro e wz ⟨rfl, hbz⟩
  have HZ := Lib.hid (bthen HBr.out hbz)
  clear hbz
  go_wp2_with fail
  go_ret
  exact ⟨rfl, HZ.out⟩
theorem dcs_load {l : List Reg} {p x ct : Int} {r : Reg} (h1 : chk l = true) (h2 : 0 ≤ ct) (hf : fnd l p = some r) : dcs l p false x ct = if pgOk x = false then (2, 0, 0) else (1, 0, 0) := by
  rw [dcs_some h1 h2 hf]; simp
theorem loads_any (O : Option Addr) (len cap : Nat) (p ct fr : Int) (l : List Reg) (w : World) (hG : G w) (hI : RegsK w O l) (hl : l.length = len) (hcap : len ≤ cap) (hwf : ∀ i, i < len → (rg l i).wf) (hp : U64 p) (mp ro : Bool) : Calls Tryd.prog 5 #[.slice O len cap, .int .u64 p, .bool mp, .bool ro, .int .i64 ct, .int .i64 fr] w fun e w' => e = .returned (.bool true) ∧ Below w.heap.size w w' := by
  by_cases hm : 20 < len
  · exact loads_long O len cap p ct fr mp ro w hG hm
  · have hm' : len ≤ 20 := by omega
    by_cases hno : chk l = false ∨ ct < 0
    · cases mp with
      | false => exact loads0_no O len cap p ct fr l w hG hI hl hcap hm' hwf hp ro hno _ rfl (dcs_no hno)
      | true => exact loads1_no O len cap p ct fr l w hG hI hl hcap hm' hwf hp ro hno _ rfl (fun _ _ _ => dcs_no hno)
    · have h1 : chk l = true := by cases hc : chk l <;> simp_all
      have h2 : 0 ≤ ct := by omega
      rcases hf : fnd l p with _ | ⟨rf, rc, rw'⟩
      · cases mp with
        | false => exact loads0_none O len cap p ct fr l w hG hI hl hcap hm' hwf hp ro hf (dcs_none h1 h2 hf)
        | true => exact loads1_none O len cap p ct fr l w hG hI hl hcap hm' hwf hp ro hf (fun _ _ _ => dcs_none h1 h2 hf)
      · cases mp with
        | false => exact loads0_some O len cap p ct fr l w hG hI hl hcap hm' hwf hp ro rf rc rw' hf (by rw [dcs_load h1 h2 hf, if_pos (by decide +kernel)])
        | true => exact loads1_some O len cap p ct fr l w hG hI hl hcap hm' hwf hp ro rf rc rw' hf (fun g g0 g1 => by rw [dcs_load h1 h2 hf, if_neg (by rw [(leaf_ok g ro g0 g1).1]; decide)])
end Go.Proofs.YtaikkdlphfmgiaaDoor
