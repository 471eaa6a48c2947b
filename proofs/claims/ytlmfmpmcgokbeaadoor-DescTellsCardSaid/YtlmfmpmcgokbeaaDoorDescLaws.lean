/-
  The walks of the laws' own 'wakes' of layer 3 and of the law DescTouch.
-/
import Derived.Test.YtlmfmpmcgokbeaaDoorDescTouchW
namespace Go.Proofs.YtlmfmpmcgokbeaaDoor
open Go.RowKit
set_option linter.unusedVariables false
set_option linter.unusedSimpArgs false

set_option maxHeartbeats 4000000 in
theorem wakes3_any (w : World) (hG : G w) : Calls Tryd.prog 10 #[] w fun e w' => e = .returned (.bool true) ∧ Below w.heap.size w w' := by
  have A1 := Lib.hid (show dk 20483 1 = 1 ∧ df 20483 1 = 5 ∧ dfl 20483 1 10 = false ∧ dfl 20483 1 7 = false ∧ dfl 20483 1 6 = false ∧ dfl 20483 1 11 = false ∧ de 20483 1 = 0 by decide +kernel)
  have A2 := Lib.hid (show dk 21699 3 = 2 ∧ df 21699 3 = 5 ∧ dfl 21699 3 10 = true ∧ dfl 21699 3 7 = true ∧ dfl 21699 3 6 = true ∧ dfl 21699 3 11 = false ∧ de 21699 3 = 0 by decide +kernel)
  have A3 := Lib.hid (show dk 20481 3 = 0 ∧ df 20481 3 = 0 ∧ dfl 20481 3 10 = false ∧ dfl 20481 3 7 = false ∧ dfl 20481 3 6 = false ∧ dfl 20481 3 11 = false ∧ de 20481 3 = 30 by decide +kernel)
  go_enter Tryd.func10, Tryd.ntmps10
  go_wp2_with fail
  refine (dDecode_any 20483 1 _ hG (u64_lit (n := 20483) (by decide))).mono ?_
  rintro e w1 ⟨rfl, hb1⟩
  obtain ⟨a1, a2, a3, a4, a5, a6, a7⟩ := A1.out
  rw [a1, a2, a3, a4, a5, a6, a7]
  clear a1 a2 a3 a4 a5 a6 a7
  have g1 := (hG.call hb1).alloc (.cells #[.int .i8 1, .int .i64 5, .bool false, .bool false, .bool false, .bool false] 27)
  have hR1 := Arr.new w1 #[.int .i8 1, .int .i64 5, .bool false, .bool false, .bool false, .bool false] 27
  have hB := ba hb1 (.cells #[.int .i8 1, .int .i64 5, .bool false, .bool false, .bool false, .bool false] 27)
  go_wp2_with fail
  refine (dDecode_any 21699 3 _ g1 (u64_lit (n := 21699) (by decide))).mono ?_
  rintro e w2 ⟨rfl, hb2⟩
  obtain ⟨a1, a2, a3, a4, a5, a6, a7⟩ := A2.out
  rw [a1, a2, a3, a4, a5, a6, a7]
  clear a1 a2 a3 a4 a5 a6 a7
  have g2 := (g1.call hb2).alloc (.cells #[.int .i8 2, .int .i64 5, .bool true, .bool true, .bool true, .bool false] 27)
  replace hR1 := (hR1.call hb2).alloc (.cells #[.int .i8 2, .int .i64 5, .bool true, .bool true, .bool true, .bool false] 27)
  have hR2 := Arr.new w2 #[.int .i8 2, .int .i64 5, .bool true, .bool true, .bool true, .bool false] 27
  replace hB := ba (bthen hB hb2) (.cells #[.int .i8 2, .int .i64 5, .bool true, .bool true, .bool true, .bool false] 27)
  go_wp2_with fail
  refine (dDecode_any 20481 3 _ g2 (u64_lit (n := 20481) (by decide))).mono ?_
  rintro e w3 ⟨rfl, hb3⟩
  obtain ⟨a1, a2, a3, a4, a5, a6, a7⟩ := A3.out
  rw [a1, a2, a3, a4, a5, a6, a7]
  clear a1 a2 a3 a4 a5 a6 a7
  replace hR1 := hR1.call hb3
  replace hR2 := hR2.call hb3
  replace hB := bthen hB hb3
  clear g1 g2 hb1 hb2 hb3 hG
  have f1 := hR1.lt
  have f2 := hR2.lt
  have q0 := hR1.cell 0 _ rfl
  have q1 := hR1.cell 1 _ rfl
  have q2 := hR1.cell 2 _ rfl
  have q3 := hR1.cell 3 _ rfl
  have q4 := hR1.cell 4 _ rfl
  have q5 := hR1.cell 5 _ rfl
  have r0 := hR2.cell 0 _ rfl
  have r1 := hR2.cell 1 _ rfl
  have r2 := hR2.cell 2 _ rfl
  have r3 := hR2.cell 3 _ rfl
  have r4 := hR2.cell 4 _ rfl
  have r5 := hR2.cell 5 _ rfl
  clear hR1 hR2
  go_wp2_with fail
  go_ret
  exact ⟨rfl, ba hB _⟩
theorem good3 (x : Int) : good x 3 = wOk 2 x := by simp [good, lvl, kdOf]
theorem touched {x : Int} (hx : U64 x) (h : tch x = true) : good (x + 1024) 3 = true ∧ df (x + 1024) 3 = df x 3 ∧ dfl (x + 1024) 3 10 = true ∧ dfl (x + 1024) 3 7 = dfl x 3 7 ∧ dfl (x + 1024) 3 6 = dfl x 3 6 ∧ dfl (x + 1024) 3 11 = dfl x 3 11 ∧ dk (x + 1024) 3 = dk x 3 ∧ de (x + 1024) 3 = 0 ∧ de x 3 = 0 ∧ tch (x + 1024) = false ∧ bits .xor .u64 (x + 1024) x = 1024 := by
  have h' := h
  simp only [tch, Bool.and_eq_true, Bool.not_eq_true'] at h
  obtain ⟨hg, h10⟩ := h
  have hw : wOk 2 x = true := by rw [← good3]; exact hg
  obtain ⟨e, f0, f1⟩ := wOk_word2 hx hw
  have e10 : (fGet x 10 10 == 1) = false := by simpa [dfl, hg] using h10
  rw [e10] at e
  obtain ⟨n, hn⟩ := fin_of f0 f1
  rw [hn] at e
  generalize (fGet x 7 7 == 1) = ro at e
  generalize (fGet x 6 6 == 1) = us at e
  generalize (fGet x 11 11 == 1) = ng at e
  subst e
  have key : ∀ (f : Fin 64) (ro us ng : Bool), wordV f.val false ro us ng + 1024 = wordV f.val true ro us ng ∧ de (wordV f.val true ro us ng) 3 = 0 ∧ de (wordV f.val false ro us ng) 3 = 0 ∧ dk (wordV f.val true ro us ng) 3 = 2 ∧ dk (wordV f.val false ro us ng) 3 = 2 ∧ bits .xor .u64 (wordV f.val true ro us ng) (wordV f.val false ro us ng) = 1024 := by decide +kernel
  obtain ⟨k1, k2, k3, k4, k5, k6⟩ := key n ro us ng
  obtain ⟨b1, b2, b3, b4, b5, b6⟩ := word_back3 n true ro us ng
  obtain ⟨c1, c2, c3, c4, c5, c6⟩ := word_back3 n false ro us ng
  rw [k1]
  refine ⟨b1, by rw [b2, c2], b3, by rw [b4, c4], by rw [b5, c5], by rw [b6, c6], by rw [k4, k5], k2, k3, ?_, k6⟩
  simp [tch, b3]
theorem dif_comm (x y : Int) : dif x y = dif y x := by
  unfold dif
  have : (df x 3 != df y 3) = (df y 3 != df x 3) := by
    rw [Bool.eq_iff_iff]; simp; exact ⟨fun h e => h e.symm, fun h e => h e.symm⟩
  rw [this]
  cases good x 3 <;> cases good y 3 <;> rfl
theorem dif_self (x y : Int) (h : df x 3 = df y 3) : dif x y = false := by
  unfold dif
  rw [h]
  cases good x 3 <;> cases good y 3 <;> simp
set_option maxHeartbeats 8000000 in
theorem descTouch_yes (x v : Int) (w : World) (hG : G w) (hx : U64 x) (hv : U64 v) (h : tch x = true) :
    Calls Tryd.prog 3 #[.int .u64 x, .int .u64 v] w fun e w' => e = .returned (.bool true) ∧ Below w.heap.size w w' := by
  have hx2 := (or_1024 x hx h).2
  have hG0 := hG
  obtain ⟨t1, t2, t3, t4, t5, t6, t7, t8, t9, t10, t11⟩ := touched hx h
  have D1 := Lib.hid (dif_self x x rfl)
  have D2 := Lib.hid (dif_self x (x + 1024) t2.symm)
  have D3 := Lib.hid (dif_comm v x)
  have T2 := Lib.hid t2
  have T3 := Lib.hid t3
  have T4 := Lib.hid t4
  have T5 := Lib.hid t5
  have T6 := Lib.hid t6
  have T7 := Lib.hid t7
  have T8 := Lib.hid t8
  have T9 := Lib.hid t9
  have T10 := Lib.hid t10
  have t11' : (bits .xor .u64 (x + 1024) x != 1024) = false := by rw [t11]; rfl
  clear t1 t2 t3 t4 t5 t6 t7 t8 t9 t10 t11
  go_enter Tryd.func3, Tryd.ntmps3
  go_wp2_with fail
  refine (dTouch_yes x _ hG hx h).mono ?_
  rintro e w1 ⟨rfl, hB⟩
  replace hG := hG.call hB
  go_wp2_with fail
  refine (dDecode_any x 3 _ hG hx).mono ?_
  rintro e w2 ⟨rfl, hb⟩
  rw [T9.out]
  have hBw : w.heap.size ≤ w2.heap.size := (bthen hB hb).size
  replace hG := (hG.call hb).alloc (.cells #[.int .i8 (dk x 3), .int .i64 (df x 3), .bool (dfl x 3 10), .bool (dfl x 3 7), .bool (dfl x 3 6), .bool (dfl x 3 11)] 27)
  have hR := Arr.new w2 #[.int .i8 (dk x 3), .int .i64 (df x 3), .bool (dfl x 3 10), .bool (dfl x 3 7), .bool (dfl x 3 6), .bool (dfl x 3 11)] 27
  replace hB := ba (bthen hB hb) (.cells #[.int .i8 (dk x 3), .int .i64 (df x 3), .bool (dfl x 3 10), .bool (dfl x 3 7), .bool (dfl x 3 6), .bool (dfl x 3 11)] 27)
  clear hb
  go_wp2_with fail
  refine (dDecode_any (x + 1024) 3 _ hG hx2).mono ?_
  rintro e w3 ⟨rfl, hb⟩
  rw [T8.out, T7.out, T2.out, T3.out, T4.out, T5.out, T6.out]
  have f23 : w2.heap.size < w3.heap.size := (hR.call hb).lt
  have g23 : w2.heap.size ≠ w3.heap.size := by omega
  have g32 : ¬ w3.heap.size = w2.heap.size := by omega
  replace hG := (hG.call hb).alloc (.cells #[.int .i8 (dk x 3), .int .i64 (df x 3), .bool true, .bool (dfl x 3 7), .bool (dfl x 3 6), .bool (dfl x 3 11)] 27)
  replace hR := (hR.call hb).alloc (.cells #[.int .i8 (dk x 3), .int .i64 (df x 3), .bool true, .bool (dfl x 3 7), .bool (dfl x 3 6), .bool (dfl x 3 11)] 27)
  have hR2 := Arr.new w3 #[.int .i8 (dk x 3), .int .i64 (df x 3), .bool true, .bool (dfl x 3 7), .bool (dfl x 3 6), .bool (dfl x 3 11)] 27
  replace hB := ba (bthen hB hb) (.cells #[.int .i8 (dk x 3), .int .i64 (df x 3), .bool true, .bool (dfl x 3 7), .bool (dfl x 3 6), .bool (dfl x 3 11)] 27)
  clear hb
  go_wp2_with fail
  refine (dTouch_no (x + 1024) _ hG hx2 T10.out).mono ?_
  rintro e w4 ⟨rfl, hb⟩
  replace hG := hG.call hb
  replace hR := hR.call hb
  replace hR2 := hR2.call hb
  replace hB := bthen hB hb
  clear hb
  have f1 := hR.lt
  have q0 := hR.cell 0 _ rfl
  have q1 := hR.cell 1 _ rfl
  have q2 := hR.cell 2 _ rfl
  have q3 := hR.cell 3 _ rfl
  have q4 := hR.cell 4 _ rfl
  have q5 := hR.cell 5 _ rfl
  have z2 := hR.frozen 2 (by simp)
  have r0 := hR2.cell 0 _ rfl
  have r1 := hR2.cell 1 _ rfl
  have r2 := hR2.cell 2 _ rfl
  have r3 := hR2.cell 3 _ rfl
  have r4 := hR2.cell 4 _ rfl
  have r5 := hR2.cell 5 _ rfl
  have hB0 := hB
  replace hB := bs hB (p := ⟨w2.heap.size, 2, none⟩) (by show w.heap.size ≤ w2.heap.size; exact hBw) (.bool true)
  go_wp2_with fail
  refine (dDiffer_any x x _ (hG0.call hB) hx hx).mono ?_
  rintro e w5 ⟨rfl, hb⟩
  rw [D1.out]
  clear q0 q1 q2 q3 q4 q5 z2 r0 r1 r2 r3 r4 r5 f23 g23 g32 t11'
  replace hB := bthen hB hb
  clear hb
  go_wp2_with fail
  refine (dDiffer_any x (x + 1024) _ (hG0.call hB) hx hx2).mono ?_
  rintro e w6 ⟨rfl, hb⟩
  rw [D2.out]
  replace hB := bthen hB hb
  clear hb
  go_wp2_with fail
  refine (dDiffer_any x v _ (hG0.call hB) hx hv).mono ?_
  rintro e w7 ⟨rfl, hb⟩
  replace hB := bthen hB hb
  clear hb
  go_wp2_with fail
  refine (dDiffer_any v x _ (hG0.call hB) hv hx).mono ?_
  rintro e w8 ⟨rfl, hb⟩
  rw [D3.out]
  replace hB := bthen hB hb
  clear hb
  go_wp2_with fail
  refine (wakes3_any _ (hG0.call hB)).mono ?_
  rintro e w9 ⟨rfl, hb⟩
  go_wp2_with fail
  go_ret
  exact ⟨rfl, bthen hB hb⟩
set_option maxHeartbeats 8000000 in
theorem descTouch_no (x v : Int) (w : World) (hG : G w) (hx : U64 x) (hv : U64 v) (h : tch x = false) :
    Calls Tryd.prog 3 #[.int .u64 x, .int .u64 v] w fun e w' => e = .returned (.bool true) ∧ Below w.heap.size w w' := by
  have hG0 := hG
  have D1 := Lib.hid (dif_self x x rfl)
  have D3 := Lib.hid (dif_comm v x)
  go_enter Tryd.func3, Tryd.ntmps3
  go_wp2_with fail
  refine (dTouch_no x _ hG hx h).mono ?_
  rintro e w1 ⟨rfl, hB⟩
  go_wp2_with fail
  refine (dDecode_any x 3 _ (hG0.call hB) hx).mono ?_
  rintro e w2 ⟨rfl, hb⟩
  replace hB := ba (bthen hB hb) (.cells #[.int .i8 (dk x 3), .int .i64 (df x 3), .bool (dfl x 3 10), .bool (dfl x 3 7), .bool (dfl x 3 6), .bool (dfl x 3 11)] 27)
  clear hb
  go_wp2_with fail
  refine (dDecode_any x 3 _ (hG0.call hB) hx).mono ?_
  rintro e w3 ⟨rfl, hb⟩
  replace hB := ba (bthen hB hb) (.cells #[.int .i8 (dk x 3), .int .i64 (df x 3), .bool (dfl x 3 10), .bool (dfl x 3 7), .bool (dfl x 3 6), .bool (dfl x 3 11)] 27)
  clear hb
  go_wp2_with fail
  refine (dTouch_no x _ (hG0.call hB) hx h).mono ?_
  rintro e w4 ⟨rfl, hb⟩
  replace hB := bthen hB hb
  clear hb
  go_wp2_with fail
  refine (dDiffer_any x x _ (hG0.call hB) hx hx).mono ?_
  rintro e w5 ⟨rfl, hb⟩
  rw [D1.out]
  replace hB := bthen hB hb
  clear hb
  go_wp2_with fail
  refine (dDiffer_any x x _ (hG0.call hB) hx hx).mono ?_
  rintro e w6 ⟨rfl, hb⟩
  rw [D1.out]
  replace hB := bthen hB hb
  clear hb
  go_wp2_with fail
  refine (dDiffer_any x v _ (hG0.call hB) hx hv).mono ?_
  rintro e w7 ⟨rfl, hb⟩
  replace hB := bthen hB hb
  clear hb
  go_wp2_with fail
  refine (dDiffer_any v x _ (hG0.call hB) hv hx).mono ?_
  rintro e w8 ⟨rfl, hb⟩
  rw [D3.out]
  replace hB := bthen hB hb
  clear hb
  go_wp2_with fail
  refine (wakes3_any _ (hG0.call hB)).mono ?_
  rintro e w9 ⟨rfl, hb⟩
  go_wp2_with fail
  go_ret
  exact ⟨rfl, bthen hB hb⟩
theorem descTouch_any (x v : Int) (w : World) (hG : G w) (hx : U64 x) (hv : U64 v) :
    Calls Tryd.prog 3 #[.int .u64 x, .int .u64 v] w fun e w' => e = .returned (.bool true) ∧ Below w.heap.size w w' := by
  rcases h : tch x with _ | _
  · exact descTouch_no x v w hG hx hv h
  · exact descTouch_yes x v w hG hx hv h
end Go.Proofs.YtlmfmpmcgokbeaaDoor
