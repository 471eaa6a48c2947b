/-
  The law DescTells of layer 3: Touch and Differ of the document; the walk.
-/
import Derived.Test.YtlmfmpmcgokbeaaDoorDescRef2
import Derived.Test.YtlmfmpmcgokbeaaDoorDescRef3
namespace Go.Proofs.YtlmfmpmcgokbeaaDoor
open Go.RowKit
set_option linter.unusedVariables false
set_option linter.unusedSimpArgs false

theorem ret_two' {k : IntKind} {a b : Int} {c : Bool} (h : a = b) : Ending.returned (.tuple #[.int k a, .bool c]) = .returned (.tuple #[.int k b, .bool c]) := by rw [h]
set_option maxHeartbeats 2000000 in
theorem r3Touch_yes (x : Int) (w : World) (hx : U64 x) (h : tch x = true) :
    Calls Tryd.prog 14 #[.int .u64 x] w fun e w' => e = .returned (.tuple #[.int .u64 (x + 1024), .bool true]) ∧ Below w.heap.size w w' := by
  have hu := (or_1024 x hx h).2
  simp only [tch, Bool.and_eq_true, Bool.not_eq_true'] at h
  obtain ⟨g1, h4⟩ := h
  have HW := Lib.hid (show IntKind.u64.wrap (x + 1024) = x + 1024 by rw [IntKind.wrap_u64]; have := hu.1; have := hu.2; omega)
  clear hu
  rcases page_bits x with ⟨_, h2, h3⟩ | ⟨g2, _, _⟩ | ⟨g2, _⟩
  · have n2 : (de x 3 != 0) = false := by rw [bne_eq_false_iff_eq]; simpa using h2
    have n3 : (dk x 3 != 2) = false := by rw [bne_eq_false_iff_eq]; simpa using h3
    clear h2 h3 g1
    go_enter Tryd.func14, Tryd.ntmps14
    go_wp2_with fail
    refine (r3Decode_any x 3 _ hx).mono ?_
    rintro e w1 ⟨rfl, hb⟩
    have HB := Lib.hid hb
    clear hb
    go_wp2_with fail
    go_ret2
    exact ⟨ret_two' HW.out, ba HB.out _⟩
  · rw [g1] at g2; cases g2
  · rw [g1] at g2; cases g2
set_option maxHeartbeats 2000000 in
theorem r3Touch_no (x : Int) (w : World) (hx : U64 x) (h : tch x = false) :
    Calls Tryd.prog 14 #[.int .u64 x] w fun e w' => e = .returned (.tuple #[.int .u64 x, .bool false]) ∧ Below w.heap.size w w' := by
  rcases page_bits x with ⟨h1, h2, h3⟩ | ⟨h1, h2, h3⟩ | ⟨h1, h2⟩
  · have h4 : dfl x 3 10 = true := by simpa [tch, h1] using h
    have n2 : (de x 3 != 0) = false := by rw [bne_eq_false_iff_eq]; simpa using h2
    have n3 : (dk x 3 != 2) = false := by rw [bne_eq_false_iff_eq]; simpa using h3
    clear h1 h2 h3 h
    go_enter Tryd.func14, Tryd.ntmps14
    go_wp2_with fail
    refine (r3Decode_any x 3 _ hx).mono ?_
    rintro e w1 ⟨rfl, hb⟩
    have HB := Lib.hid hb
    clear hb
    go_wp2_with fail
    go_ret2
    exact ⟨rfl, ba HB.out _⟩
  · have n2 : (de x 3 != 0) = false := by rw [bne_eq_false_iff_eq]; simpa using h2
    have n3 : (dk x 3 != 2) = true := by rw [bne_iff_ne]; simpa using h3
    clear h1 h2 h3 h
    go_enter Tryd.func14, Tryd.ntmps14
    go_wp2_with fail
    refine (r3Decode_any x 3 _ hx).mono ?_
    rintro e w1 ⟨rfl, hb⟩
    have HB := Lib.hid hb
    clear hb
    go_wp2_with fail
    go_ret2
    exact ⟨rfl, ba HB.out _⟩
  · have n2 : (de x 3 != 0) = true := by rw [bne_iff_ne]; simpa using h2
    clear h1 h2 h
    go_enter Tryd.func14, Tryd.ntmps14
    go_wp2_with fail
    refine (r3Decode_any x 3 _ hx).mono ?_
    rintro e w1 ⟨rfl, hb⟩
    have HB := Lib.hid hb
    clear hb
    go_wp2_with fail
    go_ret2
    exact ⟨rfl, ba HB.out _⟩
/-- Touch's answers, as one pair. -/
def tV (x : Int) : Int := if tch x then x + 1024 else x
theorem r3Touch_any (x : Int) (w : World) (hx : U64 x) :
    Calls Tryd.prog 14 #[.int .u64 x] w fun e w' => e = .returned (.tuple #[.int .u64 (tV x), .bool (tch x)]) ∧ Below w.heap.size w w' := by
  rcases h : tch x with _ | _
  · rw [show tV x = x by simp [tV, h]]; exact r3Touch_no x w hx h
  · rw [show tV x = x + 1024 by simp [tV, h]]; exact r3Touch_yes x w hx h
theorem dTouch_any (x : Int) (w : World) (hG : G w) (hx : U64 x) :
    Calls Tryd.prog 7 #[.int .u64 x] w fun e w' => e = .returned (.tuple #[.int .u64 (tV x), .bool (tch x)]) ∧ Below w.heap.size w w' := by
  rcases h : tch x with _ | _
  · rw [show tV x = x by simp [tV, h]]; exact dTouch_no x w hG hx h
  · rw [show tV x = x + 1024 by simp [tV, h]]; exact dTouch_yes x w hG hx h
theorem page_cases (x : Int) : (good x 3 = true ∧ (de x 3 == 0) = true ∧ (dk x 3 == 2) = true) ∨ (good x 3 = false ∧ (de x 3 == 0) = true ∧ (dk x 3 == 2) = false) ∨ (good x 3 = false ∧ (de x 3 == 0) = false) := page_bits x
set_option maxHeartbeats 4000000 in
theorem r3Differ_any (x y : Int) (w : World) (hx : U64 x) (hy : U64 y) :
    Calls Tryd.prog 15 #[.int .u64 x, .int .u64 y] w fun e w' => e = .returned (.bool (dif x y)) ∧ Below w.heap.size w w' := by
  have HR := Lib.hid (show dif x y = (good x 3 && (good y 3 && (df x 3 != df y 3))) from rfl)
  rcases page_cases x with ⟨g1, h1, k1⟩ | ⟨g1, h1, k1⟩ | ⟨g1, h1⟩ <;> rcases page_cases y with ⟨g2, h2, k2⟩ | ⟨g2, h2, k2⟩ | ⟨g2, h2⟩
  all_goals
    rw [g1, g2] at HR
    clear g1 g2
    go_enter Tryd.func15, Tryd.ntmps15
    go_wp2_with fail
    refine (r3Decode_any x 3 _ hx).mono ?_
    rintro e w1 ⟨rfl, hb1⟩
    have hR := Arr.new w1 #[.int .i8 (dk x 3), .int .i64 (df x 3), .bool (dfl x 3 10), .bool (dfl x 3 7), .bool (dfl x 3 6), .bool (dfl x 3 11)] 27
    have hB := ba hb1 (.cells #[.int .i8 (dk x 3), .int .i64 (df x 3), .bool (dfl x 3 10), .bool (dfl x 3 7), .bool (dfl x 3 6), .bool (dfl x 3 11)] 27)
    clear hb1
    go_wp2_with fail
    refine (r3Decode_any y 3 _ hy).mono ?_
    rintro e w2 ⟨rfl, hb2⟩
    replace hR := hR.call hb2
    replace hB := ba (bthen hB hb2) (.cells #[.int .i8 (dk y 3), .int .i64 (df y 3), .bool (dfl y 3 10), .bool (dfl y 3 7), .bool (dfl y 3 6), .bool (dfl y 3 11)] 27)
    have q0 := hR.cell 0 _ rfl
    have q1 := hR.cell 1 _ rfl
    have l0 := hR.lt
    have l1 : w1.heap.size ≠ w2.heap.size := by omega
    have HB := Lib.hid hB
    clear hR hB hb2
    go_wp2_with fail
    go_ret
    exact ⟨ret_bool (by rw [HR.out]; simp), HB.out⟩
set_option maxRecDepth 100000 in
set_option maxHeartbeats 8000000 in
theorem descTells_any (k f x y l : Int) (af ro us ng : Bool) (w : World) (hG : G w) (hx : U64 x) (hy : U64 y) :
    Calls Tryd.prog 6 #[.agg #[.int .i8 k, .int .i64 f, .bool af, .bool ro, .bool us, .bool ng], .int .u64 x, .int .u64 y, .int .i64 l] w fun e w' => e = .returned (.bool true) ∧ Below w.heap.size w w' := by
  have HG := Lib.hid hG
  have HQ := Lib.hid (eqDesc (dk x l) (df x l) (dk x l) (df x l) (dfl x l 10) (dfl x l 7) (dfl x l 6) (dfl x l 11) (dfl x l 10) (dfl x l 7) (dfl x l 6) (dfl x l 11))
  have HQ2 := Lib.hid (show eqD (dk x l) (df x l) (dfl x l 10) (dfl x l 7) (dfl x l 6) (dfl x l 11) (dk x l) (df x l) (dfl x l 10) (dfl x l 7) (dfl x l 6) (dfl x l 11) = true from by simp [eqD])
  have hR := Arr.new w #[.int .i8 k, .int .i64 f, .bool af, .bool ro, .bool us, .bool ng] 27
  have hB := ba (Below.refl w.heap.size w) (.cells #[.int .i8 k, .int .i64 f, .bool af, .bool ro, .bool us, .bool ng] 27)
  clear hG
  go_enter Tryd.func6, Tryd.ntmps6
  go_wp2_with fail
  refine (dEncode_any k f af ro us ng _ (HG.out.call hB)).mono ?_
  rintro e w1 ⟨rfl, hb⟩
  replace hR := hR.call hb
  replace hB := bthen hB hb
  clear hb
  have r0 := hR.cell 0 _ rfl
  have r1 := hR.cell 1 _ rfl
  have r2 := hR.cell 2 _ rfl
  have r3 := hR.cell 3 _ rfl
  have r4 := hR.cell 4 _ rfl
  have r5 := hR.cell 5 _ rfl
  go_wp2_with fail
  refine (r3Encode_any k f af ro us ng _).mono ?_
  rintro e w2 ⟨rfl, hb⟩
  replace hB := bthen hB hb
  clear hb hR r0 r1 r2 r3 r4 r5
  go_wp2_with fail
  refine (dDecode_any x l _ (HG.out.call hB) hx).mono ?_
  rintro e w3 ⟨rfl, hb⟩
  have hX := Arr.new w3 #[.int .i8 (dk x l), .int .i64 (df x l), .bool (dfl x l 10), .bool (dfl x l 7), .bool (dfl x l 6), .bool (dfl x l 11)] 27
  replace hB := ba (bthen hB hb) (.cells #[.int .i8 (dk x l), .int .i64 (df x l), .bool (dfl x l 10), .bool (dfl x l 7), .bool (dfl x l 6), .bool (dfl x l 11)] 27)
  clear hb
  go_wp2_with fail
  refine (r3Decode_any x l _ hx).mono ?_
  rintro e w4 ⟨rfl, hb⟩
  replace hX := (hX.call hb).alloc (.cells #[.int .i8 (dk x l), .int .i64 (df x l), .bool (dfl x l 10), .bool (dfl x l 7), .bool (dfl x l 6), .bool (dfl x l 11)] 27)
  have hY := Arr.new w4 #[.int .i8 (dk x l), .int .i64 (df x l), .bool (dfl x l 10), .bool (dfl x l 7), .bool (dfl x l 6), .bool (dfl x l 11)] 27
  replace hB := ba (bthen hB hb) (.cells #[.int .i8 (dk x l), .int .i64 (df x l), .bool (dfl x l 10), .bool (dfl x l 7), .bool (dfl x l 6), .bool (dfl x l 11)] 27)
  clear hb
  go_wp2_with fail
  refine (dTouch_any x _ (HG.out.call hB) hx).mono ?_
  rintro e w5 ⟨rfl, hb⟩
  replace hX := hX.call hb
  replace hY := hY.call hb
  replace hB := bthen hB hb
  clear hb
  go_wp2_with fail
  refine (r3Touch_any x _ hx).mono ?_
  rintro e w6 ⟨rfl, hb⟩
  replace hX := hX.call hb
  replace hY := hY.call hb
  replace hB := bthen hB hb
  clear hb
  have r0 := hX.cell 0 _ rfl
  have r1 := hX.cell 1 _ rfl
  have r2 := hX.cell 2 _ rfl
  have r3 := hX.cell 3 _ rfl
  have r4 := hX.cell 4 _ rfl
  have r5 := hX.cell 5 _ rfl
  have q0 := hY.cell 0 _ rfl
  have q1 := hY.cell 1 _ rfl
  have q2 := hY.cell 2 _ rfl
  have q3 := hY.cell 3 _ rfl
  have q4 := hY.cell 4 _ rfl
  have q5 := hY.cell 5 _ rfl
  have hq := HQ.out
  rw [HQ2.out] at hq
  go_wp2_with fail
  clear r0 r1 r2 r3 r4 r5 q0 q1 q2 q3 q4 q5 hX hY hq
  refine (dDiffer_any x y _ (HG.out.call hB) hx hy).mono ?_
  rintro e w7 ⟨rfl, hb⟩
  replace hB := bthen hB hb
  clear hb
  go_wp2_with fail
  refine (r3Differ_any x y _ hx hy).mono ?_
  rintro e w8 ⟨rfl, hb⟩
  replace hB := bthen hB hb
  clear hb
  go_wp2_with fail
  refine (wakes3_any _ (HG.out.call hB)).mono ?_
  rintro e w9 ⟨rfl, hb⟩
  go_wp2_with fail
  go_ret
  exact ⟨rfl, bthen hB hb⟩
end Go.Proofs.YtlmfmpmcgokbeaaDoor
