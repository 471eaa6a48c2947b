/-
  Layer 20: the law ShareDecides.
-/
import Derived.Test.YtaikkdlphfmgiaaDoorShWakes
import Derived.Deep.RegionHeld3
namespace Go.Proofs.YtaikkdlphfmgiaaDoor
open Go.RowKit
set_option linter.unusedVariables false
set_option linter.unusedSimpArgs false
theorem dec_long (O : Option Addr) (len cap : Nat) (p x ct t : Int) (st : Bool) (w : World) (hG : G w) (hl : 20 < len) : Calls Tryd.prog 4 #[.slice O len cap, .int .u64 p, .bool st, .int .u64 x, .int .i64 ct, .int .i64 t] w fun e w' => e = .returned (.bool true) ∧ Below w.heap.size w w' := by
  have HG := Lib.hid hG
  clear hG
  go_enter Tryd.func4, Tryd.ntmps4
  go_wp2_with fail
  refine (wakes20_any _ HG.out).mono ?_
  rintro e w1 ⟨rfl, hb⟩
  go_wp2_with fail
  go_ret
  exact ⟨rfl, hb⟩
theorem beq_self_i (a : Int) : (a == a) = true := by simp
set_option maxRecDepth 100000 in
set_option maxHeartbeats 4000000 in
theorem dec_few (O : Option Addr) (len cap : Nat) (p x ct t : Int) (st : Bool) (l : List Reg) (w : World) (hG : G w) (hI : RegsK w O l) (hl : l.length = len) (hcap : len ≤ cap) (hm : len ≤ 20) (hwf : ∀ i, i < len → (rg l i).wf) (hp : U64 p) (hx : U64 x) : Calls Tryd.prog 4 #[.slice O len cap, .int .u64 p, .bool st, .int .u64 x, .int .i64 ct, .int .i64 t] w fun e w' => e = .returned (.bool true) ∧ Below w.heap.size w w' := by
  have HI := Lib.hid hI
  have HL := Lib.hid hl
  have HW := Lib.hid hwf
  have HG := Lib.hid hG
  have HP := Lib.hid hp
  have HX := Lib.hid hx
  clear hI hl hwf hG hp hx
  have HD := Lib.hid (fun w' hb => shDecide_any O len cap p x ct st l w' (HG.out.call hb) (HI.out.call hb) HL.out hcap (by omega) HW.out HP.out HX.out)
  have HE := Lib.hid (fun w' hb => r20Decide_any O len cap p x ct st l w' (HG.out.call hb) (HI.out.call hb) HL.out hcap (by omega) HW.out HP.out HX.out)
  generalize dcs l p st x ct = d at *
  obtain ⟨k, f, e0⟩ := d
  unfold dcV at HD HE
  simp only at HD HE
  go_enter Tryd.func4, Tryd.ntmps4
  go_wp2_with fail
  refine (HD.out _ (Below.refl _ _)).mono ?_
  rintro e w1 ⟨rfl, hb1⟩
  go_upto_region 4 with fail
  have hA := Arr.new w1 #[.int .i8 k, .int .i8 f] 27
  have hB := ba hb1 (.cells #[.int .i8 k, .int .i8 f] 27)
  generalize w1.alloc (.cells #[.int .i8 k, .int .i8 f] 27) = W1 at *
  generalize w1.heap.size = X1 at *
  have HA1 := Lib.hid hA
  have HB1 := Lib.hid hB
  clear hA hB hb1
  go_wp2_with fail
  refine (HE.out _ HB1.out).mono ?_
  rintro e w2 ⟨rfl, hb2⟩
  go_upto_region 5 with fail
  have hA := Arr.new w2 #[.int .i8 k, .int .i8 f] 27
  have hA1 := (HA1.out.call hb2).alloc (.cells #[.int .i8 k, .int .i8 f] 27)
  have hB := ba (bthen HB1.out hb2) (.cells #[.int .i8 k, .int .i8 f] 27)
  generalize w2.alloc (.cells #[.int .i8 k, .int .i8 f] 27) = W2 at *
  generalize w2.heap.size = X2 at *
  have c0 : W2.cell? ⟨X1, 0, none⟩ = some (.int .i8 k) := hA1.cell 0 _ rfl
  have c1 : W2.cell? ⟨X1, 1, none⟩ = some (.int .i8 f) := hA1.cell 1 _ rfl
  have d0 : W2.cell? ⟨X2, 0, none⟩ = some (.int .i8 k) := hA.cell 0 _ rfl
  have d1 : W2.cell? ⟨X2, 1, none⟩ = some (.int .i8 f) := hA.cell 1 _ rfl
  have HB2 := Lib.hid hB
  clear hA hA1 hB hb2 HA1 HB1
  have s1 := beq_self_i k
  have s2 := beq_self_i f
  have s3 := beq_self_i e0
  have s4 := beq_self_i (rmV k t)
  go_region_held3 (fun w' => Below w.heap.size w w' ∧ w'.cell? ⟨X1, 0, none⟩ = some (.int .i8 k) ∧ w'.cell? ⟨X1, 1, none⟩ = some (.int .i8 f) ∧ w'.cell? ⟨X2, 0, none⟩ = some (.int .i8 k) ∧ w'.cell? ⟨X2, 1, none⟩ = some (.int .i8 f))
    (first | (exact ⟨HB2.out.drew, c0, c1, d0, d1⟩) | (go_split_ands; refine ⟨(by first | exact HBt.out | exact HBs.out | exact HBr.out), ?_, ?_, ?_, ?_⟩ <;> (refine (hbz.cell (World.block_lt_of_cell? _ _ (by assumption))).trans ?_; assumption)))
    (first
      | (go_at_call 13; refine (shRoom_any k f t _).mono ?_; rintro e wz ⟨rfl, hbz⟩; have HBr := Lib.hid (show Below w.heap.size w wz from (bthen HB2.out.drew hbz)))
      | (go_at_call 14; refine (r20Room_any k f t _).mono ?_; rintro e wz ⟨rfl, hbz⟩; have HBs := Lib.hid (show Below w.heap.size w wz from (bthen HBr.out hbz)))
      | (go_at_call 7; refine (wakes20_any _ (HG.out.call HBs.out)).mono ?_; rintro e wz ⟨rfl, hbz⟩; have HBt := Lib.hid (show Below w.heap.size w wz from (bthen HBs.out hbz))))
  all_goals
    go_wp2_with fail
    go_ret
    exact ⟨rfl, HBt.out⟩
theorem dec_any (O : Option Addr) (len cap : Nat) (p x ct t : Int) (st : Bool) (l : List Reg) (w : World) (hG : G w) (hI : RegsK w O l) (hl : l.length = len) (hcap : len ≤ cap) (hwf : ∀ i, i < len → (rg l i).wf) (hp : U64 p) (hx : U64 x) : Calls Tryd.prog 4 #[.slice O len cap, .int .u64 p, .bool st, .int .u64 x, .int .i64 ct, .int .i64 t] w fun e w' => e = .returned (.bool true) ∧ Below w.heap.size w w' := by
  by_cases h : 20 < len
  · exact dec_long O len cap p x ct t st w hG h
  · exact dec_few O len cap p x ct t st l w hG hI hl hcap (by omega) hwf hp hx
end Go.Proofs.YtaikkdlphfmgiaaDoor
