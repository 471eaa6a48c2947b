/-
  The law DescOne of layer 3: walks, part D.
-/
import Derived.Test.YtlmfmpmcgokbeaaDoorDescOneA
namespace Go.Proofs.YtlmfmpmcgokbeaaDoor
open Go.RowKit
set_option linter.unusedVariables false
set_option linter.unusedSimpArgs false

set_option maxHeartbeats 8000000 in
theorem descOne_ydn0 (k2 f f2 fr : Int) (af ro us ng af2 ro2 us2 ng2 : Bool) (w : World) (hG : G w) (h : dOk 0 f af ro us ng = true) (h2 : dOk k2 f2 af2 ro2 us2 ng2 = true) (hk : ((0 : Int) == k2) = false) (h3 : dOk 0 fr af ro us ng = false) :
    Calls Tryd.prog 5 #[.agg #[.int .i8 0, .int .i64 f, .bool af, .bool ro, .bool us, .bool ng], .agg #[.int .i8 k2, .int .i64 f2, .bool af2, .bool ro2, .bool us2, .bool ng2], .int .i64 fr] w fun e w' => e = .returned (.bool true) ∧ Below w.heap.size w w' := by
  have hG0 := hG
  go_enter Tryd.func5, Tryd.ntmps5
  have hR := (Arr.new w #[.int .i8 0, .int .i64 f, .bool af, .bool ro, .bool us, .bool ng] 27).alloc (.cells #[.int .i8 k2, .int .i64 f2, .bool af2, .bool ro2, .bool us2, .bool ng2] 27)
  have hR2 := Arr.new (w.alloc (.cells #[.int .i8 0, .int .i64 f, .bool af, .bool ro, .bool us, .bool ng] 27)) #[.int .i8 k2, .int .i64 f2, .bool af2, .bool ro2, .bool us2, .bool ng2] 27
  have e1 : (w.alloc (.cells #[.int .i8 0, .int .i64 f, .bool af, .bool ro, .bool us, .bool ng] 27)).heap.size = w.heap.size + 1 := World.size_alloc _ _
  rw [e1] at hR2
  clear e1
  have hB := ba (ba (Below.refl w.heap.size w) (.cells #[.int .i8 0, .int .i64 f, .bool af, .bool ro, .bool us, .bool ng] 27)) (.cells #[.int .i8 k2, .int .i64 f2, .bool af2, .bool ro2, .bool us2, .bool ng2] 27)
  go_wp2_with fail
  refine (dEncode_yes 0 f af ro us ng _ (hG0.call hB) h).mono ?_
  rintro e w1 ⟨rfl, hb⟩
  replace hR := hR.call hb
  replace hR2 := hR2.call hb
  replace hB := bthen hB hb
  clear hb
  have r0 := hR2.cell 0 _ rfl
  have r1 := hR2.cell 1 _ rfl
  have r2 := hR2.cell 2 _ rfl
  have r3 := hR2.cell 3 _ rfl
  have r4 := hR2.cell 4 _ rfl
  have r5 := hR2.cell 5 _ rfl
  go_wp2_with fail
  refine (dEncode_yes k2 f2 af2 ro2 us2 ng2 _ (hG0.call hB) h2).mono ?_
  rintro e w2 ⟨rfl, hb⟩
  replace hR := hR.call hb
  replace hR2 := hR2.call hb
  replace hB := bthen hB hb
  clear hb r0 r1 r2 r3 r4 r5
  have q0 := hR.cell 0 _ rfl
  have q1 := hR.cell 1 _ rfl
  have q2 := hR.cell 2 _ rfl
  have q3 := hR.cell 3 _ rfl
  have q4 := hR.cell 4 _ rfl
  have q5 := hR.cell 5 _ rfl
  have r0 := hR2.cell 0 _ rfl
  have r1 := hR2.cell 1 _ rfl
  have r2 := hR2.cell 2 _ rfl
  have r3 := hR2.cell 3 _ rfl
  have r4 := hR2.cell 4 _ rfl
  have r5 := hR2.cell 5 _ rfl
  go_wp2_with fail
  clear r0 r1 r2 r3 r4 r5 q0 q1 q2 q3 q4 q5
  replace hR := hR.alloc (.cells #[.int .i8 0, .int .i64 fr, .bool af, .bool ro, .bool us, .bool ng] 27)
  have hR3 := Arr.new w2 #[.int .i8 0, .int .i64 fr, .bool af, .bool ro, .bool us, .bool ng] 27
  replace hB := ba hB (.cells #[.int .i8 0, .int .i64 fr, .bool af, .bool ro, .bool us, .bool ng] 27)
  refine (dEncode_no 0 fr af ro us ng _ (hG0.call hB) h3).mono ?_
  rintro e w3 ⟨rfl, hb⟩
  replace hR := hR.call hb
  replace hB := bthen hB hb
  clear hb
  have q0 := hR.cell 0 _ rfl
  have q1 := hR.cell 1 _ rfl
  go_wp2_with fail
  have lR := hR.lt
  clear hR
  refine wp_region_held_drew (S := fun w' => Below w3.heap.size w3 w') (by kernel_rfl) (bd (Below.refl _ _)) (fun hHeld => ?_)
  refine wpAnyH_take (i := 0) (oi := ⟨some 75, Op.move (Operand.tmp 8), 28, _, #[], none⟩) (v := ?v0) rfl (by kernel_rfl) (by kernel_rfl) (by kernel_rfl) (fun _ _ _ h => h) (Or.inl ⟨by rfl, ?hy0⟩) hHeld ?rest0
  case hy0 => (intro w' hSw; go_simp; try with_reducible rfl)
  try simp only [Act.put, List.setIfInBounds_toArray, List.set_cons_zero, List.set_cons_succ]
  refine wpAnyH_take (i := 1) (oi := ⟨some 76, Op.binOp BinOp.neq 28 (Operand.tmp 75) (Operand.const (Value.int IntKind.i64 0)) 28, 4, _, #[{ on := 0, ground := Ground.data }], none⟩) (v := ?v1) rfl (by kernel_rfl) (by kernel_rfl) (by kernel_rfl) (fun _ _ _ h => h) (Or.inl ⟨by rfl, ?hy1⟩) hHeld ?rest1
  case hy1 => (intro w' hSw; go_simp; try with_reducible rfl)
  try simp only [Act.put, List.setIfInBounds_toArray, List.set_cons_zero, List.set_cons_succ]
  refine wpAnyH_take (i := 2) (oi := ⟨some 77, Op.move (Operand.tmp 76), 4, _, #[{ on := 1, ground := Ground.data }], none⟩) (v := ?v2) rfl (by kernel_rfl) (by kernel_rfl) (by kernel_rfl) (fun _ _ _ h => h) (Or.inl ⟨by rfl, ?hy2⟩) hHeld ?rest2
  case hy2 => (intro w' hSw; go_simp; try with_reducible rfl)
  try simp only [Act.put, List.setIfInBounds_toArray, List.set_cons_zero, List.set_cons_succ]
  first
    | (refine wpAnyH_take (i := 3) (oi := ⟨some 78, Op.fieldAddr 27 (Operand.tmp 3) 0, 0, _, #[{ on := 2, ground := Ground.guard }], some (2, false)⟩) (v := undef) rfl (by kernel_rfl) (by kernel_rfl) (by kernel_rfl) (fun _ _ _ h => h) (Or.inr ⟨by rfl, rfl⟩) hHeld ?_)
    | (refine wpAnyH_take (i := 3) (oi := ⟨some 78, Op.fieldAddr 27 (Operand.tmp 3) 0, 0, _, #[{ on := 2, ground := Ground.guard }], some (2, false)⟩) (v := ?v3) rfl (by kernel_rfl) (by kernel_rfl) (by kernel_rfl) (fun _ _ _ h => h) (Or.inl ⟨by rfl, ?hy3⟩) hHeld ?rest3; case hy3 => (intro w' hSw; go_simp; try with_reducible rfl))
  try simp only [Act.put, List.setIfInBounds_toArray, List.set_cons_zero, List.set_cons_succ]
  first
    | (refine wpAnyH_take (i := 4) (oi := ⟨some 79, Op.load 25 (Operand.tmp 78), 25, _, #[{ on := 3, ground := Ground.data }, { on := 2, ground := Ground.guard }], some (2, false)⟩) (v := undef) rfl (by kernel_rfl) (by kernel_rfl) (by kernel_rfl) (fun _ _ _ h => h) (Or.inr ⟨by rfl, rfl⟩) hHeld ?_)
    | (refine wpAnyH_take (i := 4) (oi := ⟨some 79, Op.load 25 (Operand.tmp 78), 25, _, #[{ on := 3, ground := Ground.data }, { on := 2, ground := Ground.guard }], some (2, false)⟩) (v := ?v4) rfl (by kernel_rfl) (by kernel_rfl) (by kernel_rfl) (fun _ _ _ h => h) (Or.inl ⟨by rfl, ?hy4⟩) hHeld ?rest4; case hy4 => (intro w' hSw; obtain ⟨hcc, hff⟩ := bcell hSw; go_simp; try with_reducible rfl))
  try simp only [Act.put, List.setIfInBounds_toArray, List.set_cons_zero, List.set_cons_succ]
  first
    | (refine wpAnyH_take (i := 5) (oi := ⟨some 80, Op.binOp BinOp.neq 25 (Operand.tmp 79) (Operand.const (Value.int IntKind.i8 2)) 25, 4, _, #[{ on := 4, ground := Ground.data }, { on := 2, ground := Ground.guard }], some (2, false)⟩) (v := undef) rfl (by kernel_rfl) (by kernel_rfl) (by kernel_rfl) (fun _ _ _ h => h) (Or.inr ⟨by rfl, rfl⟩) hHeld ?_)
    | (refine wpAnyH_take (i := 5) (oi := ⟨some 80, Op.binOp BinOp.neq 25 (Operand.tmp 79) (Operand.const (Value.int IntKind.i8 2)) 25, 4, _, #[{ on := 4, ground := Ground.data }, { on := 2, ground := Ground.guard }], some (2, false)⟩) (v := ?v5) rfl (by kernel_rfl) (by kernel_rfl) (by kernel_rfl) (fun _ _ _ h => h) (Or.inl ⟨by rfl, ?hy5⟩) hHeld ?rest5; case hy5 => (intro w' hSw; go_simp; try with_reducible rfl))
  try simp only [Act.put, List.setIfInBounds_toArray, List.set_cons_zero, List.set_cons_succ]
  refine wpAnyH_take (i := 6) (oi := ⟨some 81, Op.pick (Operand.tmp 77) (Operand.const (Value.bool true)) (Operand.tmp 80), 4, _, #[{ on := 2, ground := Ground.data }, { on := 5, ground := Ground.data }], none⟩) (v := ?v6) rfl (by kernel_rfl) (by kernel_rfl) (by kernel_rfl) (fun _ _ _ h => h) (Or.inl ⟨by rfl, ?hy6⟩) hHeld ?rest6
  case hy6 => (intro w' hSw; go_simp; try with_reducible rfl)
  try simp only [Act.put, List.setIfInBounds_toArray, List.set_cons_zero, List.set_cons_succ]
  refine wpAnyH_take (i := 7) (oi := ⟨some 82, Op.move (Operand.tmp 81), 4, _, #[{ on := 6, ground := Ground.data }, { on := 2, ground := Ground.chain }], none⟩) (v := ?v7) rfl (by kernel_rfl) (by kernel_rfl) (by kernel_rfl) (fun _ _ _ h => h) (Or.inl ⟨by rfl, ?hy7⟩) hHeld ?rest7
  case hy7 => (intro w' hSw; go_simp; try with_reducible rfl)
  try simp only [Act.put, List.setIfInBounds_toArray, List.set_cons_zero, List.set_cons_succ]
  first
    | (refine wpAnyH_take (i := 8) (oi := ⟨some 83, Op.move (Operand.tmp 13), 28, _, #[{ on := 7, ground := Ground.guard }], some (7, false)⟩) (v := undef) rfl (by kernel_rfl) (by kernel_rfl) (by kernel_rfl) (fun _ _ _ h => h) (Or.inr ⟨by rfl, rfl⟩) hHeld ?_)
    | (refine wpAnyH_take (i := 8) (oi := ⟨some 83, Op.move (Operand.tmp 13), 28, _, #[{ on := 7, ground := Ground.guard }], some (7, false)⟩) (v := ?v8) rfl (by kernel_rfl) (by kernel_rfl) (by kernel_rfl) (fun _ _ _ h => h) (Or.inl ⟨by rfl, ?hy8⟩) hHeld ?rest8; case hy8 => (intro w' hSw; go_simp; try with_reducible rfl))
  try simp only [Act.put, List.setIfInBounds_toArray, List.set_cons_zero, List.set_cons_succ]
  first
    | (refine wpAnyH_take (i := 9) (oi := ⟨some 84, Op.binOp BinOp.neq 28 (Operand.tmp 83) (Operand.const (Value.int IntKind.i64 0)) 28, 4, _, #[{ on := 8, ground := Ground.data }, { on := 7, ground := Ground.guard }], some (7, false)⟩) (v := undef) rfl (by kernel_rfl) (by kernel_rfl) (by kernel_rfl) (fun _ _ _ h => h) (Or.inr ⟨by rfl, rfl⟩) hHeld ?_)
    | (refine wpAnyH_take (i := 9) (oi := ⟨some 84, Op.binOp BinOp.neq 28 (Operand.tmp 83) (Operand.const (Value.int IntKind.i64 0)) 28, 4, _, #[{ on := 8, ground := Ground.data }, { on := 7, ground := Ground.guard }], some (7, false)⟩) (v := ?v9) rfl (by kernel_rfl) (by kernel_rfl) (by kernel_rfl) (fun _ _ _ h => h) (Or.inl ⟨by rfl, ?hy9⟩) hHeld ?rest9; case hy9 => (intro w' hSw; go_simp; try with_reducible rfl))
  try simp only [Act.put, List.setIfInBounds_toArray, List.set_cons_zero, List.set_cons_succ]
  refine wpAnyH_take (i := 10) (oi := ⟨some 85, Op.pick (Operand.tmp 82) (Operand.const (Value.bool true)) (Operand.tmp 84), 4, _, #[{ on := 7, ground := Ground.data }, { on := 9, ground := Ground.data }], none⟩) (v := ?v10) rfl (by kernel_rfl) (by kernel_rfl) (by kernel_rfl) (fun _ _ _ h => h) (Or.inl ⟨by rfl, ?hy10⟩) hHeld ?rest10
  case hy10 => (intro w' hSw; go_simp; try with_reducible rfl)
  try simp only [Act.put, List.setIfInBounds_toArray, List.set_cons_zero, List.set_cons_succ]
  refine wpAnyH_take (i := 11) (oi := ⟨some 86, Op.move (Operand.tmp 85), 4, _, #[{ on := 10, ground := Ground.data }, { on := 7, ground := Ground.chain }], none⟩) (v := ?v11) rfl (by kernel_rfl) (by kernel_rfl) (by kernel_rfl) (fun _ _ _ h => h) (Or.inl ⟨by rfl, ?hy11⟩) hHeld ?rest11
  case hy11 => (intro w' hSw; go_simp; try with_reducible rfl)
  try simp only [Act.put, List.setIfInBounds_toArray, List.set_cons_zero, List.set_cons_succ]
  first
    | (refine wpAnyH_take (i := 12) (oi := ⟨some 87, Op.move (Operand.tmp 7), 22, _, #[{ on := 11, ground := Ground.guard }], some (11, false)⟩) (v := undef) rfl (by kernel_rfl) (by kernel_rfl) (by kernel_rfl) (fun _ _ _ h => h) (Or.inr ⟨by rfl, rfl⟩) hHeld ?_)
    | (refine wpAnyH_take (i := 12) (oi := ⟨some 87, Op.move (Operand.tmp 7), 22, _, #[{ on := 11, ground := Ground.guard }], some (11, false)⟩) (v := ?v12) rfl (by kernel_rfl) (by kernel_rfl) (by kernel_rfl) (fun _ _ _ h => h) (Or.inl ⟨by rfl, ?hy12⟩) hHeld ?rest12; case hy12 => (intro w' hSw; go_simp; try with_reducible rfl))
  try simp only [Act.put, List.setIfInBounds_toArray, List.set_cons_zero, List.set_cons_succ]
  first
    | (refine wpAnyH_take (i := 13) (oi := ⟨some 88, Op.move (Operand.tmp 12), 22, _, #[{ on := 11, ground := Ground.guard }], some (11, false)⟩) (v := undef) rfl (by kernel_rfl) (by kernel_rfl) (by kernel_rfl) (fun _ _ _ h => h) (Or.inr ⟨by rfl, rfl⟩) hHeld ?_)
    | (refine wpAnyH_take (i := 13) (oi := ⟨some 88, Op.move (Operand.tmp 12), 22, _, #[{ on := 11, ground := Ground.guard }], some (11, false)⟩) (v := ?v13) rfl (by kernel_rfl) (by kernel_rfl) (by kernel_rfl) (fun _ _ _ h => h) (Or.inl ⟨by rfl, ?hy13⟩) hHeld ?rest13; case hy13 => (intro w' hSw; go_simp; try with_reducible rfl))
  try simp only [Act.put, List.setIfInBounds_toArray, List.set_cons_zero, List.set_cons_succ]
  first
    | (refine wpAnyH_take (i := 15) (oi := ⟨some 90, Op.move (Operand.tmp 2), 3, _, #[{ on := 11, ground := Ground.guard }], some (11, false)⟩) (v := undef) rfl (by kernel_rfl) (by kernel_rfl) (by kernel_rfl) (fun _ _ _ h => h) (Or.inr ⟨by rfl, rfl⟩) hHeld ?_)
    | (refine wpAnyH_take (i := 15) (oi := ⟨some 90, Op.move (Operand.tmp 2), 3, _, #[{ on := 11, ground := Ground.guard }], some (11, false)⟩) (v := ?v15) rfl (by kernel_rfl) (by kernel_rfl) (by kernel_rfl) (fun _ _ _ h => h) (Or.inl ⟨by rfl, ?hy15⟩) hHeld ?rest15; case hy15 => (intro w' hSw; go_simp; try with_reducible rfl))
  try simp only [Act.put, List.setIfInBounds_toArray, List.set_cons_zero, List.set_cons_succ]
  first
    | (refine wpAnyH_take (i := 16) (oi := ⟨some 91, Op.fieldAddr 27 (Operand.tmp 3) 1, 0, _, #[{ on := 11, ground := Ground.guard }], some (11, false)⟩) (v := undef) rfl (by kernel_rfl) (by kernel_rfl) (by kernel_rfl) (fun _ _ _ h => h) (Or.inr ⟨by rfl, rfl⟩) hHeld ?_)
    | (refine wpAnyH_take (i := 16) (oi := ⟨some 91, Op.fieldAddr 27 (Operand.tmp 3) 1, 0, _, #[{ on := 11, ground := Ground.guard }], some (11, false)⟩) (v := ?v16) rfl (by kernel_rfl) (by kernel_rfl) (by kernel_rfl) (fun _ _ _ h => h) (Or.inl ⟨by rfl, ?hy16⟩) hHeld ?rest16; case hy16 => (intro w' hSw; go_simp; try with_reducible rfl))
  try simp only [Act.put, List.setIfInBounds_toArray, List.set_cons_zero, List.set_cons_succ]
  first
    | (refine wpAnyH_take (i := 17) (oi := ⟨some 92, Op.load 3 (Operand.tmp 91), 3, _, #[{ on := 16, ground := Ground.data }, { on := 11, ground := Ground.guard }], some (11, false)⟩) (v := undef) rfl (by kernel_rfl) (by kernel_rfl) (by kernel_rfl) (fun _ _ _ h => h) (Or.inr ⟨by rfl, rfl⟩) hHeld ?_)
    | (refine wpAnyH_take (i := 17) (oi := ⟨some 92, Op.load 3 (Operand.tmp 91), 3, _, #[{ on := 16, ground := Ground.data }, { on := 11, ground := Ground.guard }], some (11, false)⟩) (v := ?v17) rfl (by kernel_rfl) (by kernel_rfl) (by kernel_rfl) (fun _ _ _ h => h) (Or.inl ⟨by rfl, ?hy17⟩) hHeld ?rest17; case hy17 => (intro w' hSw; obtain ⟨hcc, hff⟩ := bcell hSw; go_simp; try with_reducible rfl))
  try simp only [Act.put, List.setIfInBounds_toArray, List.set_cons_zero, List.set_cons_succ]
  first
    | (refine wpAnyH_take (i := 18) (oi := ⟨some 93, Op.binOp BinOp.neq 3 (Operand.tmp 90) (Operand.tmp 92) 3, 4, _, #[{ on := 15, ground := Ground.data }, { on := 17, ground := Ground.data }, { on := 11, ground := Ground.guard }], some (11, false)⟩) (v := undef) rfl (by kernel_rfl) (by kernel_rfl) (by kernel_rfl) (fun _ _ _ h => h) (Or.inr ⟨by rfl, rfl⟩) hHeld ?_)
    | (refine wpAnyH_take (i := 18) (oi := ⟨some 93, Op.binOp BinOp.neq 3 (Operand.tmp 90) (Operand.tmp 92) 3, 4, _, #[{ on := 15, ground := Ground.data }, { on := 17, ground := Ground.data }, { on := 11, ground := Ground.guard }], some (11, false)⟩) (v := ?v18) rfl (by kernel_rfl) (by kernel_rfl) (by kernel_rfl) (fun _ _ _ h => h) (Or.inl ⟨by rfl, ?hy18⟩) hHeld ?rest18; case hy18 => (intro w' hSw; go_simp; try with_reducible rfl))
  try simp only [Act.put, List.setIfInBounds_toArray, List.set_cons_zero, List.set_cons_succ]
  refine wpAnyH_take (i := 14) (oi := ⟨some 89, Op.call { callee := Callee.value (Operand.func 9), args := #[Operand.tmp 87, Operand.tmp 88], argTypes := #[22, 22] }, 4, _, #[{ on := 12, ground := Ground.data }, { on := 13, ground := Ground.data }, { on := 11, ground := Ground.chain }, { on := 11, ground := Ground.guard }], some (11, false)⟩) (v := undef) rfl (by kernel_rfl) (by kernel_rfl) (by kernel_rfl) (fun _ _ _ h => h) (Or.inr ⟨by rfl, rfl⟩) hHeld ?_
  try simp only [Act.put, List.setIfInBounds_toArray, List.set_cons_zero, List.set_cons_succ]
  first
    | (refine wpAnyH_take (i := 19) (oi := ⟨some 94, Op.binOp BinOp.eql 4 (Operand.tmp 89) (Operand.tmp 93) 4, 4, _, #[{ on := 14, ground := Ground.data }, { on := 18, ground := Ground.data }, { on := 11, ground := Ground.guard }], some (11, false)⟩) (v := undef) rfl (by kernel_rfl) (by kernel_rfl) (by kernel_rfl) (fun _ _ _ h => h) (Or.inr ⟨by rfl, rfl⟩) hHeld ?_)
    | (refine wpAnyH_take (i := 19) (oi := ⟨some 94, Op.binOp BinOp.eql 4 (Operand.tmp 89) (Operand.tmp 93) 4, 4, _, #[{ on := 14, ground := Ground.data }, { on := 18, ground := Ground.data }, { on := 11, ground := Ground.guard }], some (11, false)⟩) (v := ?v19) rfl (by kernel_rfl) (by kernel_rfl) (by kernel_rfl) (fun _ _ _ h => h) (Or.inl ⟨by rfl, ?hy19⟩) hHeld ?rest19; case hy19 => (intro w' hSw; go_simp; try with_reducible rfl))
  try simp only [Act.put, List.setIfInBounds_toArray, List.set_cons_zero, List.set_cons_succ]
  refine wpAnyH_take (i := 20) (oi := ⟨some 95, Op.pick (Operand.tmp 86) (Operand.const (Value.bool true)) (Operand.tmp 94), 4, _, #[{ on := 11, ground := Ground.data }, { on := 19, ground := Ground.data }], none⟩) (v := ?v20) rfl (by kernel_rfl) (by kernel_rfl) (by kernel_rfl) (fun _ _ _ h => h) (Or.inl ⟨by rfl, ?hy20⟩) hHeld ?rest20
  case hy20 => (intro w' hSw; go_simp; try with_reducible rfl)
  try simp only [Act.put, List.setIfInBounds_toArray, List.set_cons_zero, List.set_cons_succ]
  refine wpAnyH_take (i := 21) (oi := ⟨some 96, Op.move (Operand.tmp 95), 4, _, #[{ on := 20, ground := Ground.data }, { on := 14, ground := Ground.chain }], none⟩) (v := ?v21) rfl (by kernel_rfl) (by kernel_rfl) (by kernel_rfl) (fun _ _ _ h => h) (Or.inl ⟨by rfl, ?hy21⟩) hHeld ?rest21
  case hy21 => (intro w' hSw; go_simp; try with_reducible rfl)
  try simp only [Act.put, List.setIfInBounds_toArray, List.set_cons_zero, List.set_cons_succ]
  refine wpAnyH_ready (rs := [22]) (by kernel_rfl) (by simp) ?_
  refine AllReadyH.cons (o := ⟨some 97, Op.call { callee := Callee.value (Operand.func 10), args := #[], argTypes := #[] }, 4, _, #[{ on := 21, ground := Ground.chain }, { on := 21, ground := Ground.guard }], some (21, true)⟩) rfl (fun K hK => ?_) AllReadyH.nil
  go_simp
  refine (wakes3_any _ (hG0.call (bthen hB hHeld))).mono ?_
  rintro e wr2 ⟨rfl, hb⟩
  go_wp2_with fail
  have hB2 := bthen hHeld hb
  clear hHeld hb
  refine hK.out _ _ hB2 (fun hHeld => ?_)
  clear hB2 hK K
  try simp only [Act.put, List.setIfInBounds_toArray, List.set_cons_zero, List.set_cons_succ]
  refine wpAnyH_take (i := 23) (oi := ⟨some 98, Op.pick (Operand.tmp 96) (Operand.tmp 97) (Operand.const (Value.bool false)), 4, _, #[{ on := 21, ground := Ground.data }, { on := 22, ground := Ground.data }], none⟩) (v := ?v23) rfl (by kernel_rfl) (by kernel_rfl) (by kernel_rfl) (fun _ _ _ h => h) (Or.inl ⟨by rfl, ?hy23⟩) hHeld ?rest23
  case hy23 => (intro w' hSw; go_simp; try with_reducible rfl)
  try simp only [Act.put, List.setIfInBounds_toArray, List.set_cons_zero, List.set_cons_succ]
  refine wpAnyH_take (i := 24) (oi := ⟨some 6, Op.assign (Operand.tmp 98), 4, _, #[{ on := 23, ground := Ground.data }, { on := 22, ground := Ground.chain }, { on := 0, ground := Ground.phase }, { on := 1, ground := Ground.phase }, { on := 2, ground := Ground.phase }, { on := 3, ground := Ground.phase }, { on := 4, ground := Ground.phase }, { on := 5, ground := Ground.phase }, { on := 6, ground := Ground.phase }, { on := 7, ground := Ground.phase }, { on := 8, ground := Ground.phase }, { on := 9, ground := Ground.phase }, { on := 10, ground := Ground.phase }, { on := 11, ground := Ground.phase }, { on := 12, ground := Ground.phase }, { on := 13, ground := Ground.phase }, { on := 14, ground := Ground.phase }, { on := 15, ground := Ground.phase }, { on := 16, ground := Ground.phase }, { on := 17, ground := Ground.phase }, { on := 18, ground := Ground.phase }, { on := 19, ground := Ground.phase }, { on := 20, ground := Ground.phase }, { on := 21, ground := Ground.phase }, { on := 22, ground := Ground.phase }, { on := 23, ground := Ground.phase }], none⟩) (v := ?v24) rfl (by kernel_rfl) (by kernel_rfl) (by kernel_rfl) (fun _ _ _ h => h) (Or.inl ⟨by rfl, ?hy24⟩) hHeld ?rest24
  case hy24 => (intro w' hSw; go_simp; try with_reducible rfl)
  try simp only [Act.put, List.setIfInBounds_toArray, List.set_cons_zero, List.set_cons_succ]
  refine wpAnyH_done (by kernel_rfl) ?_ _
  replace hB := bthen hB hHeld
  clear hHeld
  go_wp2_with fail
  go_ret
  exact ⟨rfl, hB⟩
set_option maxHeartbeats 8000000 in
theorem descOne_ydn1 (k2 f f2 fr : Int) (af ro us ng af2 ro2 us2 ng2 : Bool) (w : World) (hG : G w) (h : dOk 1 f af ro us ng = true) (h2 : dOk k2 f2 af2 ro2 us2 ng2 = true) (hk : ((1 : Int) == k2) = false) (h3 : dOk 1 fr af ro us ng = false) :
    Calls Tryd.prog 5 #[.agg #[.int .i8 1, .int .i64 f, .bool af, .bool ro, .bool us, .bool ng], .agg #[.int .i8 k2, .int .i64 f2, .bool af2, .bool ro2, .bool us2, .bool ng2], .int .i64 fr] w fun e w' => e = .returned (.bool true) ∧ Below w.heap.size w w' := by
  have hG0 := hG
  go_enter Tryd.func5, Tryd.ntmps5
  have hR := (Arr.new w #[.int .i8 1, .int .i64 f, .bool af, .bool ro, .bool us, .bool ng] 27).alloc (.cells #[.int .i8 k2, .int .i64 f2, .bool af2, .bool ro2, .bool us2, .bool ng2] 27)
  have hR2 := Arr.new (w.alloc (.cells #[.int .i8 1, .int .i64 f, .bool af, .bool ro, .bool us, .bool ng] 27)) #[.int .i8 k2, .int .i64 f2, .bool af2, .bool ro2, .bool us2, .bool ng2] 27
  have e1 : (w.alloc (.cells #[.int .i8 1, .int .i64 f, .bool af, .bool ro, .bool us, .bool ng] 27)).heap.size = w.heap.size + 1 := World.size_alloc _ _
  rw [e1] at hR2
  clear e1
  have hB := ba (ba (Below.refl w.heap.size w) (.cells #[.int .i8 1, .int .i64 f, .bool af, .bool ro, .bool us, .bool ng] 27)) (.cells #[.int .i8 k2, .int .i64 f2, .bool af2, .bool ro2, .bool us2, .bool ng2] 27)
  go_wp2_with fail
  refine (dEncode_yes 1 f af ro us ng _ (hG0.call hB) h).mono ?_
  rintro e w1 ⟨rfl, hb⟩
  replace hR := hR.call hb
  replace hR2 := hR2.call hb
  replace hB := bthen hB hb
  clear hb
  have r0 := hR2.cell 0 _ rfl
  have r1 := hR2.cell 1 _ rfl
  have r2 := hR2.cell 2 _ rfl
  have r3 := hR2.cell 3 _ rfl
  have r4 := hR2.cell 4 _ rfl
  have r5 := hR2.cell 5 _ rfl
  go_wp2_with fail
  refine (dEncode_yes k2 f2 af2 ro2 us2 ng2 _ (hG0.call hB) h2).mono ?_
  rintro e w2 ⟨rfl, hb⟩
  replace hR := hR.call hb
  replace hR2 := hR2.call hb
  replace hB := bthen hB hb
  clear hb r0 r1 r2 r3 r4 r5
  have q0 := hR.cell 0 _ rfl
  have q1 := hR.cell 1 _ rfl
  have q2 := hR.cell 2 _ rfl
  have q3 := hR.cell 3 _ rfl
  have q4 := hR.cell 4 _ rfl
  have q5 := hR.cell 5 _ rfl
  have r0 := hR2.cell 0 _ rfl
  have r1 := hR2.cell 1 _ rfl
  have r2 := hR2.cell 2 _ rfl
  have r3 := hR2.cell 3 _ rfl
  have r4 := hR2.cell 4 _ rfl
  have r5 := hR2.cell 5 _ rfl
  go_wp2_with fail
  clear r0 r1 r2 r3 r4 r5 q0 q1 q2 q3 q4 q5
  replace hR := hR.alloc (.cells #[.int .i8 1, .int .i64 fr, .bool af, .bool ro, .bool us, .bool ng] 27)
  have hR3 := Arr.new w2 #[.int .i8 1, .int .i64 fr, .bool af, .bool ro, .bool us, .bool ng] 27
  replace hB := ba hB (.cells #[.int .i8 1, .int .i64 fr, .bool af, .bool ro, .bool us, .bool ng] 27)
  refine (dEncode_no 1 fr af ro us ng _ (hG0.call hB) h3).mono ?_
  rintro e w3 ⟨rfl, hb⟩
  replace hR := hR.call hb
  replace hB := bthen hB hb
  clear hb
  have q0 := hR.cell 0 _ rfl
  have q1 := hR.cell 1 _ rfl
  go_wp2_with fail
  have lR := hR.lt
  clear hR
  refine wp_region_held_drew (S := fun w' => Below w3.heap.size w3 w') (by kernel_rfl) (bd (Below.refl _ _)) (fun hHeld => ?_)
  refine wpAnyH_take (i := 0) (oi := ⟨some 75, Op.move (Operand.tmp 8), 28, _, #[], none⟩) (v := ?v0) rfl (by kernel_rfl) (by kernel_rfl) (by kernel_rfl) (fun _ _ _ h => h) (Or.inl ⟨by rfl, ?hy0⟩) hHeld ?rest0
  case hy0 => (intro w' hSw; go_simp; try with_reducible rfl)
  try simp only [Act.put, List.setIfInBounds_toArray, List.set_cons_zero, List.set_cons_succ]
  refine wpAnyH_take (i := 1) (oi := ⟨some 76, Op.binOp BinOp.neq 28 (Operand.tmp 75) (Operand.const (Value.int IntKind.i64 0)) 28, 4, _, #[{ on := 0, ground := Ground.data }], none⟩) (v := ?v1) rfl (by kernel_rfl) (by kernel_rfl) (by kernel_rfl) (fun _ _ _ h => h) (Or.inl ⟨by rfl, ?hy1⟩) hHeld ?rest1
  case hy1 => (intro w' hSw; go_simp; try with_reducible rfl)
  try simp only [Act.put, List.setIfInBounds_toArray, List.set_cons_zero, List.set_cons_succ]
  refine wpAnyH_take (i := 2) (oi := ⟨some 77, Op.move (Operand.tmp 76), 4, _, #[{ on := 1, ground := Ground.data }], none⟩) (v := ?v2) rfl (by kernel_rfl) (by kernel_rfl) (by kernel_rfl) (fun _ _ _ h => h) (Or.inl ⟨by rfl, ?hy2⟩) hHeld ?rest2
  case hy2 => (intro w' hSw; go_simp; try with_reducible rfl)
  try simp only [Act.put, List.setIfInBounds_toArray, List.set_cons_zero, List.set_cons_succ]
  first
    | (refine wpAnyH_take (i := 3) (oi := ⟨some 78, Op.fieldAddr 27 (Operand.tmp 3) 0, 0, _, #[{ on := 2, ground := Ground.guard }], some (2, false)⟩) (v := undef) rfl (by kernel_rfl) (by kernel_rfl) (by kernel_rfl) (fun _ _ _ h => h) (Or.inr ⟨by rfl, rfl⟩) hHeld ?_)
    | (refine wpAnyH_take (i := 3) (oi := ⟨some 78, Op.fieldAddr 27 (Operand.tmp 3) 0, 0, _, #[{ on := 2, ground := Ground.guard }], some (2, false)⟩) (v := ?v3) rfl (by kernel_rfl) (by kernel_rfl) (by kernel_rfl) (fun _ _ _ h => h) (Or.inl ⟨by rfl, ?hy3⟩) hHeld ?rest3; case hy3 => (intro w' hSw; go_simp; try with_reducible rfl))
  try simp only [Act.put, List.setIfInBounds_toArray, List.set_cons_zero, List.set_cons_succ]
  first
    | (refine wpAnyH_take (i := 4) (oi := ⟨some 79, Op.load 25 (Operand.tmp 78), 25, _, #[{ on := 3, ground := Ground.data }, { on := 2, ground := Ground.guard }], some (2, false)⟩) (v := undef) rfl (by kernel_rfl) (by kernel_rfl) (by kernel_rfl) (fun _ _ _ h => h) (Or.inr ⟨by rfl, rfl⟩) hHeld ?_)
    | (refine wpAnyH_take (i := 4) (oi := ⟨some 79, Op.load 25 (Operand.tmp 78), 25, _, #[{ on := 3, ground := Ground.data }, { on := 2, ground := Ground.guard }], some (2, false)⟩) (v := ?v4) rfl (by kernel_rfl) (by kernel_rfl) (by kernel_rfl) (fun _ _ _ h => h) (Or.inl ⟨by rfl, ?hy4⟩) hHeld ?rest4; case hy4 => (intro w' hSw; obtain ⟨hcc, hff⟩ := bcell hSw; go_simp; try with_reducible rfl))
  try simp only [Act.put, List.setIfInBounds_toArray, List.set_cons_zero, List.set_cons_succ]
  first
    | (refine wpAnyH_take (i := 5) (oi := ⟨some 80, Op.binOp BinOp.neq 25 (Operand.tmp 79) (Operand.const (Value.int IntKind.i8 2)) 25, 4, _, #[{ on := 4, ground := Ground.data }, { on := 2, ground := Ground.guard }], some (2, false)⟩) (v := undef) rfl (by kernel_rfl) (by kernel_rfl) (by kernel_rfl) (fun _ _ _ h => h) (Or.inr ⟨by rfl, rfl⟩) hHeld ?_)
    | (refine wpAnyH_take (i := 5) (oi := ⟨some 80, Op.binOp BinOp.neq 25 (Operand.tmp 79) (Operand.const (Value.int IntKind.i8 2)) 25, 4, _, #[{ on := 4, ground := Ground.data }, { on := 2, ground := Ground.guard }], some (2, false)⟩) (v := ?v5) rfl (by kernel_rfl) (by kernel_rfl) (by kernel_rfl) (fun _ _ _ h => h) (Or.inl ⟨by rfl, ?hy5⟩) hHeld ?rest5; case hy5 => (intro w' hSw; go_simp; try with_reducible rfl))
  try simp only [Act.put, List.setIfInBounds_toArray, List.set_cons_zero, List.set_cons_succ]
  refine wpAnyH_take (i := 6) (oi := ⟨some 81, Op.pick (Operand.tmp 77) (Operand.const (Value.bool true)) (Operand.tmp 80), 4, _, #[{ on := 2, ground := Ground.data }, { on := 5, ground := Ground.data }], none⟩) (v := ?v6) rfl (by kernel_rfl) (by kernel_rfl) (by kernel_rfl) (fun _ _ _ h => h) (Or.inl ⟨by rfl, ?hy6⟩) hHeld ?rest6
  case hy6 => (intro w' hSw; go_simp; try with_reducible rfl)
  try simp only [Act.put, List.setIfInBounds_toArray, List.set_cons_zero, List.set_cons_succ]
  refine wpAnyH_take (i := 7) (oi := ⟨some 82, Op.move (Operand.tmp 81), 4, _, #[{ on := 6, ground := Ground.data }, { on := 2, ground := Ground.chain }], none⟩) (v := ?v7) rfl (by kernel_rfl) (by kernel_rfl) (by kernel_rfl) (fun _ _ _ h => h) (Or.inl ⟨by rfl, ?hy7⟩) hHeld ?rest7
  case hy7 => (intro w' hSw; go_simp; try with_reducible rfl)
  try simp only [Act.put, List.setIfInBounds_toArray, List.set_cons_zero, List.set_cons_succ]
  first
    | (refine wpAnyH_take (i := 8) (oi := ⟨some 83, Op.move (Operand.tmp 13), 28, _, #[{ on := 7, ground := Ground.guard }], some (7, false)⟩) (v := undef) rfl (by kernel_rfl) (by kernel_rfl) (by kernel_rfl) (fun _ _ _ h => h) (Or.inr ⟨by rfl, rfl⟩) hHeld ?_)
    | (refine wpAnyH_take (i := 8) (oi := ⟨some 83, Op.move (Operand.tmp 13), 28, _, #[{ on := 7, ground := Ground.guard }], some (7, false)⟩) (v := ?v8) rfl (by kernel_rfl) (by kernel_rfl) (by kernel_rfl) (fun _ _ _ h => h) (Or.inl ⟨by rfl, ?hy8⟩) hHeld ?rest8; case hy8 => (intro w' hSw; go_simp; try with_reducible rfl))
  try simp only [Act.put, List.setIfInBounds_toArray, List.set_cons_zero, List.set_cons_succ]
  first
    | (refine wpAnyH_take (i := 9) (oi := ⟨some 84, Op.binOp BinOp.neq 28 (Operand.tmp 83) (Operand.const (Value.int IntKind.i64 0)) 28, 4, _, #[{ on := 8, ground := Ground.data }, { on := 7, ground := Ground.guard }], some (7, false)⟩) (v := undef) rfl (by kernel_rfl) (by kernel_rfl) (by kernel_rfl) (fun _ _ _ h => h) (Or.inr ⟨by rfl, rfl⟩) hHeld ?_)
    | (refine wpAnyH_take (i := 9) (oi := ⟨some 84, Op.binOp BinOp.neq 28 (Operand.tmp 83) (Operand.const (Value.int IntKind.i64 0)) 28, 4, _, #[{ on := 8, ground := Ground.data }, { on := 7, ground := Ground.guard }], some (7, false)⟩) (v := ?v9) rfl (by kernel_rfl) (by kernel_rfl) (by kernel_rfl) (fun _ _ _ h => h) (Or.inl ⟨by rfl, ?hy9⟩) hHeld ?rest9; case hy9 => (intro w' hSw; go_simp; try with_reducible rfl))
  try simp only [Act.put, List.setIfInBounds_toArray, List.set_cons_zero, List.set_cons_succ]
  refine wpAnyH_take (i := 10) (oi := ⟨some 85, Op.pick (Operand.tmp 82) (Operand.const (Value.bool true)) (Operand.tmp 84), 4, _, #[{ on := 7, ground := Ground.data }, { on := 9, ground := Ground.data }], none⟩) (v := ?v10) rfl (by kernel_rfl) (by kernel_rfl) (by kernel_rfl) (fun _ _ _ h => h) (Or.inl ⟨by rfl, ?hy10⟩) hHeld ?rest10
  case hy10 => (intro w' hSw; go_simp; try with_reducible rfl)
  try simp only [Act.put, List.setIfInBounds_toArray, List.set_cons_zero, List.set_cons_succ]
  refine wpAnyH_take (i := 11) (oi := ⟨some 86, Op.move (Operand.tmp 85), 4, _, #[{ on := 10, ground := Ground.data }, { on := 7, ground := Ground.chain }], none⟩) (v := ?v11) rfl (by kernel_rfl) (by kernel_rfl) (by kernel_rfl) (fun _ _ _ h => h) (Or.inl ⟨by rfl, ?hy11⟩) hHeld ?rest11
  case hy11 => (intro w' hSw; go_simp; try with_reducible rfl)
  try simp only [Act.put, List.setIfInBounds_toArray, List.set_cons_zero, List.set_cons_succ]
  first
    | (refine wpAnyH_take (i := 12) (oi := ⟨some 87, Op.move (Operand.tmp 7), 22, _, #[{ on := 11, ground := Ground.guard }], some (11, false)⟩) (v := undef) rfl (by kernel_rfl) (by kernel_rfl) (by kernel_rfl) (fun _ _ _ h => h) (Or.inr ⟨by rfl, rfl⟩) hHeld ?_)
    | (refine wpAnyH_take (i := 12) (oi := ⟨some 87, Op.move (Operand.tmp 7), 22, _, #[{ on := 11, ground := Ground.guard }], some (11, false)⟩) (v := ?v12) rfl (by kernel_rfl) (by kernel_rfl) (by kernel_rfl) (fun _ _ _ h => h) (Or.inl ⟨by rfl, ?hy12⟩) hHeld ?rest12; case hy12 => (intro w' hSw; go_simp; try with_reducible rfl))
  try simp only [Act.put, List.setIfInBounds_toArray, List.set_cons_zero, List.set_cons_succ]
  first
    | (refine wpAnyH_take (i := 13) (oi := ⟨some 88, Op.move (Operand.tmp 12), 22, _, #[{ on := 11, ground := Ground.guard }], some (11, false)⟩) (v := undef) rfl (by kernel_rfl) (by kernel_rfl) (by kernel_rfl) (fun _ _ _ h => h) (Or.inr ⟨by rfl, rfl⟩) hHeld ?_)
    | (refine wpAnyH_take (i := 13) (oi := ⟨some 88, Op.move (Operand.tmp 12), 22, _, #[{ on := 11, ground := Ground.guard }], some (11, false)⟩) (v := ?v13) rfl (by kernel_rfl) (by kernel_rfl) (by kernel_rfl) (fun _ _ _ h => h) (Or.inl ⟨by rfl, ?hy13⟩) hHeld ?rest13; case hy13 => (intro w' hSw; go_simp; try with_reducible rfl))
  try simp only [Act.put, List.setIfInBounds_toArray, List.set_cons_zero, List.set_cons_succ]
  first
    | (refine wpAnyH_take (i := 15) (oi := ⟨some 90, Op.move (Operand.tmp 2), 3, _, #[{ on := 11, ground := Ground.guard }], some (11, false)⟩) (v := undef) rfl (by kernel_rfl) (by kernel_rfl) (by kernel_rfl) (fun _ _ _ h => h) (Or.inr ⟨by rfl, rfl⟩) hHeld ?_)
    | (refine wpAnyH_take (i := 15) (oi := ⟨some 90, Op.move (Operand.tmp 2), 3, _, #[{ on := 11, ground := Ground.guard }], some (11, false)⟩) (v := ?v15) rfl (by kernel_rfl) (by kernel_rfl) (by kernel_rfl) (fun _ _ _ h => h) (Or.inl ⟨by rfl, ?hy15⟩) hHeld ?rest15; case hy15 => (intro w' hSw; go_simp; try with_reducible rfl))
  try simp only [Act.put, List.setIfInBounds_toArray, List.set_cons_zero, List.set_cons_succ]
  first
    | (refine wpAnyH_take (i := 16) (oi := ⟨some 91, Op.fieldAddr 27 (Operand.tmp 3) 1, 0, _, #[{ on := 11, ground := Ground.guard }], some (11, false)⟩) (v := undef) rfl (by kernel_rfl) (by kernel_rfl) (by kernel_rfl) (fun _ _ _ h => h) (Or.inr ⟨by rfl, rfl⟩) hHeld ?_)
    | (refine wpAnyH_take (i := 16) (oi := ⟨some 91, Op.fieldAddr 27 (Operand.tmp 3) 1, 0, _, #[{ on := 11, ground := Ground.guard }], some (11, false)⟩) (v := ?v16) rfl (by kernel_rfl) (by kernel_rfl) (by kernel_rfl) (fun _ _ _ h => h) (Or.inl ⟨by rfl, ?hy16⟩) hHeld ?rest16; case hy16 => (intro w' hSw; go_simp; try with_reducible rfl))
  try simp only [Act.put, List.setIfInBounds_toArray, List.set_cons_zero, List.set_cons_succ]
  first
    | (refine wpAnyH_take (i := 17) (oi := ⟨some 92, Op.load 3 (Operand.tmp 91), 3, _, #[{ on := 16, ground := Ground.data }, { on := 11, ground := Ground.guard }], some (11, false)⟩) (v := undef) rfl (by kernel_rfl) (by kernel_rfl) (by kernel_rfl) (fun _ _ _ h => h) (Or.inr ⟨by rfl, rfl⟩) hHeld ?_)
    | (refine wpAnyH_take (i := 17) (oi := ⟨some 92, Op.load 3 (Operand.tmp 91), 3, _, #[{ on := 16, ground := Ground.data }, { on := 11, ground := Ground.guard }], some (11, false)⟩) (v := ?v17) rfl (by kernel_rfl) (by kernel_rfl) (by kernel_rfl) (fun _ _ _ h => h) (Or.inl ⟨by rfl, ?hy17⟩) hHeld ?rest17; case hy17 => (intro w' hSw; obtain ⟨hcc, hff⟩ := bcell hSw; go_simp; try with_reducible rfl))
  try simp only [Act.put, List.setIfInBounds_toArray, List.set_cons_zero, List.set_cons_succ]
  first
    | (refine wpAnyH_take (i := 18) (oi := ⟨some 93, Op.binOp BinOp.neq 3 (Operand.tmp 90) (Operand.tmp 92) 3, 4, _, #[{ on := 15, ground := Ground.data }, { on := 17, ground := Ground.data }, { on := 11, ground := Ground.guard }], some (11, false)⟩) (v := undef) rfl (by kernel_rfl) (by kernel_rfl) (by kernel_rfl) (fun _ _ _ h => h) (Or.inr ⟨by rfl, rfl⟩) hHeld ?_)
    | (refine wpAnyH_take (i := 18) (oi := ⟨some 93, Op.binOp BinOp.neq 3 (Operand.tmp 90) (Operand.tmp 92) 3, 4, _, #[{ on := 15, ground := Ground.data }, { on := 17, ground := Ground.data }, { on := 11, ground := Ground.guard }], some (11, false)⟩) (v := ?v18) rfl (by kernel_rfl) (by kernel_rfl) (by kernel_rfl) (fun _ _ _ h => h) (Or.inl ⟨by rfl, ?hy18⟩) hHeld ?rest18; case hy18 => (intro w' hSw; go_simp; try with_reducible rfl))
  try simp only [Act.put, List.setIfInBounds_toArray, List.set_cons_zero, List.set_cons_succ]
  refine wpAnyH_take (i := 14) (oi := ⟨some 89, Op.call { callee := Callee.value (Operand.func 9), args := #[Operand.tmp 87, Operand.tmp 88], argTypes := #[22, 22] }, 4, _, #[{ on := 12, ground := Ground.data }, { on := 13, ground := Ground.data }, { on := 11, ground := Ground.chain }, { on := 11, ground := Ground.guard }], some (11, false)⟩) (v := undef) rfl (by kernel_rfl) (by kernel_rfl) (by kernel_rfl) (fun _ _ _ h => h) (Or.inr ⟨by rfl, rfl⟩) hHeld ?_
  try simp only [Act.put, List.setIfInBounds_toArray, List.set_cons_zero, List.set_cons_succ]
  first
    | (refine wpAnyH_take (i := 19) (oi := ⟨some 94, Op.binOp BinOp.eql 4 (Operand.tmp 89) (Operand.tmp 93) 4, 4, _, #[{ on := 14, ground := Ground.data }, { on := 18, ground := Ground.data }, { on := 11, ground := Ground.guard }], some (11, false)⟩) (v := undef) rfl (by kernel_rfl) (by kernel_rfl) (by kernel_rfl) (fun _ _ _ h => h) (Or.inr ⟨by rfl, rfl⟩) hHeld ?_)
    | (refine wpAnyH_take (i := 19) (oi := ⟨some 94, Op.binOp BinOp.eql 4 (Operand.tmp 89) (Operand.tmp 93) 4, 4, _, #[{ on := 14, ground := Ground.data }, { on := 18, ground := Ground.data }, { on := 11, ground := Ground.guard }], some (11, false)⟩) (v := ?v19) rfl (by kernel_rfl) (by kernel_rfl) (by kernel_rfl) (fun _ _ _ h => h) (Or.inl ⟨by rfl, ?hy19⟩) hHeld ?rest19; case hy19 => (intro w' hSw; go_simp; try with_reducible rfl))
  try simp only [Act.put, List.setIfInBounds_toArray, List.set_cons_zero, List.set_cons_succ]
  refine wpAnyH_take (i := 20) (oi := ⟨some 95, Op.pick (Operand.tmp 86) (Operand.const (Value.bool true)) (Operand.tmp 94), 4, _, #[{ on := 11, ground := Ground.data }, { on := 19, ground := Ground.data }], none⟩) (v := ?v20) rfl (by kernel_rfl) (by kernel_rfl) (by kernel_rfl) (fun _ _ _ h => h) (Or.inl ⟨by rfl, ?hy20⟩) hHeld ?rest20
  case hy20 => (intro w' hSw; go_simp; try with_reducible rfl)
  try simp only [Act.put, List.setIfInBounds_toArray, List.set_cons_zero, List.set_cons_succ]
  refine wpAnyH_take (i := 21) (oi := ⟨some 96, Op.move (Operand.tmp 95), 4, _, #[{ on := 20, ground := Ground.data }, { on := 14, ground := Ground.chain }], none⟩) (v := ?v21) rfl (by kernel_rfl) (by kernel_rfl) (by kernel_rfl) (fun _ _ _ h => h) (Or.inl ⟨by rfl, ?hy21⟩) hHeld ?rest21
  case hy21 => (intro w' hSw; go_simp; try with_reducible rfl)
  try simp only [Act.put, List.setIfInBounds_toArray, List.set_cons_zero, List.set_cons_succ]
  refine wpAnyH_ready (rs := [22]) (by kernel_rfl) (by simp) ?_
  refine AllReadyH.cons (o := ⟨some 97, Op.call { callee := Callee.value (Operand.func 10), args := #[], argTypes := #[] }, 4, _, #[{ on := 21, ground := Ground.chain }, { on := 21, ground := Ground.guard }], some (21, true)⟩) rfl (fun K hK => ?_) AllReadyH.nil
  go_simp
  refine (wakes3_any _ (hG0.call (bthen hB hHeld))).mono ?_
  rintro e wr2 ⟨rfl, hb⟩
  go_wp2_with fail
  have hB2 := bthen hHeld hb
  clear hHeld hb
  refine hK.out _ _ hB2 (fun hHeld => ?_)
  clear hB2 hK K
  try simp only [Act.put, List.setIfInBounds_toArray, List.set_cons_zero, List.set_cons_succ]
  refine wpAnyH_take (i := 23) (oi := ⟨some 98, Op.pick (Operand.tmp 96) (Operand.tmp 97) (Operand.const (Value.bool false)), 4, _, #[{ on := 21, ground := Ground.data }, { on := 22, ground := Ground.data }], none⟩) (v := ?v23) rfl (by kernel_rfl) (by kernel_rfl) (by kernel_rfl) (fun _ _ _ h => h) (Or.inl ⟨by rfl, ?hy23⟩) hHeld ?rest23
  case hy23 => (intro w' hSw; go_simp; try with_reducible rfl)
  try simp only [Act.put, List.setIfInBounds_toArray, List.set_cons_zero, List.set_cons_succ]
  refine wpAnyH_take (i := 24) (oi := ⟨some 6, Op.assign (Operand.tmp 98), 4, _, #[{ on := 23, ground := Ground.data }, { on := 22, ground := Ground.chain }, { on := 0, ground := Ground.phase }, { on := 1, ground := Ground.phase }, { on := 2, ground := Ground.phase }, { on := 3, ground := Ground.phase }, { on := 4, ground := Ground.phase }, { on := 5, ground := Ground.phase }, { on := 6, ground := Ground.phase }, { on := 7, ground := Ground.phase }, { on := 8, ground := Ground.phase }, { on := 9, ground := Ground.phase }, { on := 10, ground := Ground.phase }, { on := 11, ground := Ground.phase }, { on := 12, ground := Ground.phase }, { on := 13, ground := Ground.phase }, { on := 14, ground := Ground.phase }, { on := 15, ground := Ground.phase }, { on := 16, ground := Ground.phase }, { on := 17, ground := Ground.phase }, { on := 18, ground := Ground.phase }, { on := 19, ground := Ground.phase }, { on := 20, ground := Ground.phase }, { on := 21, ground := Ground.phase }, { on := 22, ground := Ground.phase }, { on := 23, ground := Ground.phase }], none⟩) (v := ?v24) rfl (by kernel_rfl) (by kernel_rfl) (by kernel_rfl) (fun _ _ _ h => h) (Or.inl ⟨by rfl, ?hy24⟩) hHeld ?rest24
  case hy24 => (intro w' hSw; go_simp; try with_reducible rfl)
  try simp only [Act.put, List.setIfInBounds_toArray, List.set_cons_zero, List.set_cons_succ]
  refine wpAnyH_done (by kernel_rfl) ?_ _
  replace hB := bthen hB hHeld
  clear hHeld
  go_wp2_with fail
  go_ret
  exact ⟨rfl, hB⟩
set_option maxHeartbeats 8000000 in
theorem descOne_ydn2 (k2 f f2 fr : Int) (af ro us ng af2 ro2 us2 ng2 : Bool) (w : World) (hG : G w) (h : dOk 2 f af ro us ng = true) (h2 : dOk k2 f2 af2 ro2 us2 ng2 = true) (hk : ((2 : Int) == k2) = false) (h3 : dOk 2 fr af ro us ng = false) :
    Calls Tryd.prog 5 #[.agg #[.int .i8 2, .int .i64 f, .bool af, .bool ro, .bool us, .bool ng], .agg #[.int .i8 k2, .int .i64 f2, .bool af2, .bool ro2, .bool us2, .bool ng2], .int .i64 fr] w fun e w' => e = .returned (.bool true) ∧ Below w.heap.size w w' := by
  have hG0 := hG
  go_enter Tryd.func5, Tryd.ntmps5
  have hR := (Arr.new w #[.int .i8 2, .int .i64 f, .bool af, .bool ro, .bool us, .bool ng] 27).alloc (.cells #[.int .i8 k2, .int .i64 f2, .bool af2, .bool ro2, .bool us2, .bool ng2] 27)
  have hR2 := Arr.new (w.alloc (.cells #[.int .i8 2, .int .i64 f, .bool af, .bool ro, .bool us, .bool ng] 27)) #[.int .i8 k2, .int .i64 f2, .bool af2, .bool ro2, .bool us2, .bool ng2] 27
  have e1 : (w.alloc (.cells #[.int .i8 2, .int .i64 f, .bool af, .bool ro, .bool us, .bool ng] 27)).heap.size = w.heap.size + 1 := World.size_alloc _ _
  rw [e1] at hR2
  clear e1
  have hB := ba (ba (Below.refl w.heap.size w) (.cells #[.int .i8 2, .int .i64 f, .bool af, .bool ro, .bool us, .bool ng] 27)) (.cells #[.int .i8 k2, .int .i64 f2, .bool af2, .bool ro2, .bool us2, .bool ng2] 27)
  go_wp2_with fail
  refine (dEncode_yes 2 f af ro us ng _ (hG0.call hB) h).mono ?_
  rintro e w1 ⟨rfl, hb⟩
  replace hR := hR.call hb
  replace hR2 := hR2.call hb
  replace hB := bthen hB hb
  clear hb
  have r0 := hR2.cell 0 _ rfl
  have r1 := hR2.cell 1 _ rfl
  have r2 := hR2.cell 2 _ rfl
  have r3 := hR2.cell 3 _ rfl
  have r4 := hR2.cell 4 _ rfl
  have r5 := hR2.cell 5 _ rfl
  go_wp2_with fail
  refine (dEncode_yes k2 f2 af2 ro2 us2 ng2 _ (hG0.call hB) h2).mono ?_
  rintro e w2 ⟨rfl, hb⟩
  replace hR := hR.call hb
  replace hR2 := hR2.call hb
  replace hB := bthen hB hb
  clear hb r0 r1 r2 r3 r4 r5
  have q0 := hR.cell 0 _ rfl
  have q1 := hR.cell 1 _ rfl
  have q2 := hR.cell 2 _ rfl
  have q3 := hR.cell 3 _ rfl
  have q4 := hR.cell 4 _ rfl
  have q5 := hR.cell 5 _ rfl
  have r0 := hR2.cell 0 _ rfl
  have r1 := hR2.cell 1 _ rfl
  have r2 := hR2.cell 2 _ rfl
  have r3 := hR2.cell 3 _ rfl
  have r4 := hR2.cell 4 _ rfl
  have r5 := hR2.cell 5 _ rfl
  go_wp2_with fail
  clear r0 r1 r2 r3 r4 r5 q0 q1 q2 q3 q4 q5
  replace hR := hR.alloc (.cells #[.int .i8 2, .int .i64 fr, .bool af, .bool ro, .bool us, .bool ng] 27)
  have hR3 := Arr.new w2 #[.int .i8 2, .int .i64 fr, .bool af, .bool ro, .bool us, .bool ng] 27
  replace hB := ba hB (.cells #[.int .i8 2, .int .i64 fr, .bool af, .bool ro, .bool us, .bool ng] 27)
  refine (dEncode_no 2 fr af ro us ng _ (hG0.call hB) h3).mono ?_
  rintro e w3 ⟨rfl, hb⟩
  replace hR := hR.call hb
  replace hB := bthen hB hb
  clear hb
  have q0 := hR.cell 0 _ rfl
  have q1 := hR.cell 1 _ rfl
  go_wp2_with fail
  have lR := hR.lt
  clear hR
  refine wp_region_held_drew (S := fun w' => Below w3.heap.size w3 w') (by kernel_rfl) (bd (Below.refl _ _)) (fun hHeld => ?_)
  refine wpAnyH_take (i := 0) (oi := ⟨some 75, Op.move (Operand.tmp 8), 28, _, #[], none⟩) (v := ?v0) rfl (by kernel_rfl) (by kernel_rfl) (by kernel_rfl) (fun _ _ _ h => h) (Or.inl ⟨by rfl, ?hy0⟩) hHeld ?rest0
  case hy0 => (intro w' hSw; go_simp; try with_reducible rfl)
  try simp only [Act.put, List.setIfInBounds_toArray, List.set_cons_zero, List.set_cons_succ]
  refine wpAnyH_take (i := 1) (oi := ⟨some 76, Op.binOp BinOp.neq 28 (Operand.tmp 75) (Operand.const (Value.int IntKind.i64 0)) 28, 4, _, #[{ on := 0, ground := Ground.data }], none⟩) (v := ?v1) rfl (by kernel_rfl) (by kernel_rfl) (by kernel_rfl) (fun _ _ _ h => h) (Or.inl ⟨by rfl, ?hy1⟩) hHeld ?rest1
  case hy1 => (intro w' hSw; go_simp; try with_reducible rfl)
  try simp only [Act.put, List.setIfInBounds_toArray, List.set_cons_zero, List.set_cons_succ]
  refine wpAnyH_take (i := 2) (oi := ⟨some 77, Op.move (Operand.tmp 76), 4, _, #[{ on := 1, ground := Ground.data }], none⟩) (v := ?v2) rfl (by kernel_rfl) (by kernel_rfl) (by kernel_rfl) (fun _ _ _ h => h) (Or.inl ⟨by rfl, ?hy2⟩) hHeld ?rest2
  case hy2 => (intro w' hSw; go_simp; try with_reducible rfl)
  try simp only [Act.put, List.setIfInBounds_toArray, List.set_cons_zero, List.set_cons_succ]
  first
    | (refine wpAnyH_take (i := 3) (oi := ⟨some 78, Op.fieldAddr 27 (Operand.tmp 3) 0, 0, _, #[{ on := 2, ground := Ground.guard }], some (2, false)⟩) (v := undef) rfl (by kernel_rfl) (by kernel_rfl) (by kernel_rfl) (fun _ _ _ h => h) (Or.inr ⟨by rfl, rfl⟩) hHeld ?_)
    | (refine wpAnyH_take (i := 3) (oi := ⟨some 78, Op.fieldAddr 27 (Operand.tmp 3) 0, 0, _, #[{ on := 2, ground := Ground.guard }], some (2, false)⟩) (v := ?v3) rfl (by kernel_rfl) (by kernel_rfl) (by kernel_rfl) (fun _ _ _ h => h) (Or.inl ⟨by rfl, ?hy3⟩) hHeld ?rest3; case hy3 => (intro w' hSw; go_simp; try with_reducible rfl))
  try simp only [Act.put, List.setIfInBounds_toArray, List.set_cons_zero, List.set_cons_succ]
  first
    | (refine wpAnyH_take (i := 4) (oi := ⟨some 79, Op.load 25 (Operand.tmp 78), 25, _, #[{ on := 3, ground := Ground.data }, { on := 2, ground := Ground.guard }], some (2, false)⟩) (v := undef) rfl (by kernel_rfl) (by kernel_rfl) (by kernel_rfl) (fun _ _ _ h => h) (Or.inr ⟨by rfl, rfl⟩) hHeld ?_)
    | (refine wpAnyH_take (i := 4) (oi := ⟨some 79, Op.load 25 (Operand.tmp 78), 25, _, #[{ on := 3, ground := Ground.data }, { on := 2, ground := Ground.guard }], some (2, false)⟩) (v := ?v4) rfl (by kernel_rfl) (by kernel_rfl) (by kernel_rfl) (fun _ _ _ h => h) (Or.inl ⟨by rfl, ?hy4⟩) hHeld ?rest4; case hy4 => (intro w' hSw; obtain ⟨hcc, hff⟩ := bcell hSw; go_simp; try with_reducible rfl))
  try simp only [Act.put, List.setIfInBounds_toArray, List.set_cons_zero, List.set_cons_succ]
  first
    | (refine wpAnyH_take (i := 5) (oi := ⟨some 80, Op.binOp BinOp.neq 25 (Operand.tmp 79) (Operand.const (Value.int IntKind.i8 2)) 25, 4, _, #[{ on := 4, ground := Ground.data }, { on := 2, ground := Ground.guard }], some (2, false)⟩) (v := undef) rfl (by kernel_rfl) (by kernel_rfl) (by kernel_rfl) (fun _ _ _ h => h) (Or.inr ⟨by rfl, rfl⟩) hHeld ?_)
    | (refine wpAnyH_take (i := 5) (oi := ⟨some 80, Op.binOp BinOp.neq 25 (Operand.tmp 79) (Operand.const (Value.int IntKind.i8 2)) 25, 4, _, #[{ on := 4, ground := Ground.data }, { on := 2, ground := Ground.guard }], some (2, false)⟩) (v := ?v5) rfl (by kernel_rfl) (by kernel_rfl) (by kernel_rfl) (fun _ _ _ h => h) (Or.inl ⟨by rfl, ?hy5⟩) hHeld ?rest5; case hy5 => (intro w' hSw; go_simp; try with_reducible rfl))
  try simp only [Act.put, List.setIfInBounds_toArray, List.set_cons_zero, List.set_cons_succ]
  refine wpAnyH_take (i := 6) (oi := ⟨some 81, Op.pick (Operand.tmp 77) (Operand.const (Value.bool true)) (Operand.tmp 80), 4, _, #[{ on := 2, ground := Ground.data }, { on := 5, ground := Ground.data }], none⟩) (v := ?v6) rfl (by kernel_rfl) (by kernel_rfl) (by kernel_rfl) (fun _ _ _ h => h) (Or.inl ⟨by rfl, ?hy6⟩) hHeld ?rest6
  case hy6 => (intro w' hSw; go_simp; try with_reducible rfl)
  try simp only [Act.put, List.setIfInBounds_toArray, List.set_cons_zero, List.set_cons_succ]
  refine wpAnyH_take (i := 7) (oi := ⟨some 82, Op.move (Operand.tmp 81), 4, _, #[{ on := 6, ground := Ground.data }, { on := 2, ground := Ground.chain }], none⟩) (v := ?v7) rfl (by kernel_rfl) (by kernel_rfl) (by kernel_rfl) (fun _ _ _ h => h) (Or.inl ⟨by rfl, ?hy7⟩) hHeld ?rest7
  case hy7 => (intro w' hSw; go_simp; try with_reducible rfl)
  try simp only [Act.put, List.setIfInBounds_toArray, List.set_cons_zero, List.set_cons_succ]
  first
    | (refine wpAnyH_take (i := 8) (oi := ⟨some 83, Op.move (Operand.tmp 13), 28, _, #[{ on := 7, ground := Ground.guard }], some (7, false)⟩) (v := undef) rfl (by kernel_rfl) (by kernel_rfl) (by kernel_rfl) (fun _ _ _ h => h) (Or.inr ⟨by rfl, rfl⟩) hHeld ?_)
    | (refine wpAnyH_take (i := 8) (oi := ⟨some 83, Op.move (Operand.tmp 13), 28, _, #[{ on := 7, ground := Ground.guard }], some (7, false)⟩) (v := ?v8) rfl (by kernel_rfl) (by kernel_rfl) (by kernel_rfl) (fun _ _ _ h => h) (Or.inl ⟨by rfl, ?hy8⟩) hHeld ?rest8; case hy8 => (intro w' hSw; go_simp; try with_reducible rfl))
  try simp only [Act.put, List.setIfInBounds_toArray, List.set_cons_zero, List.set_cons_succ]
  first
    | (refine wpAnyH_take (i := 9) (oi := ⟨some 84, Op.binOp BinOp.neq 28 (Operand.tmp 83) (Operand.const (Value.int IntKind.i64 0)) 28, 4, _, #[{ on := 8, ground := Ground.data }, { on := 7, ground := Ground.guard }], some (7, false)⟩) (v := undef) rfl (by kernel_rfl) (by kernel_rfl) (by kernel_rfl) (fun _ _ _ h => h) (Or.inr ⟨by rfl, rfl⟩) hHeld ?_)
    | (refine wpAnyH_take (i := 9) (oi := ⟨some 84, Op.binOp BinOp.neq 28 (Operand.tmp 83) (Operand.const (Value.int IntKind.i64 0)) 28, 4, _, #[{ on := 8, ground := Ground.data }, { on := 7, ground := Ground.guard }], some (7, false)⟩) (v := ?v9) rfl (by kernel_rfl) (by kernel_rfl) (by kernel_rfl) (fun _ _ _ h => h) (Or.inl ⟨by rfl, ?hy9⟩) hHeld ?rest9; case hy9 => (intro w' hSw; go_simp; try with_reducible rfl))
  try simp only [Act.put, List.setIfInBounds_toArray, List.set_cons_zero, List.set_cons_succ]
  refine wpAnyH_take (i := 10) (oi := ⟨some 85, Op.pick (Operand.tmp 82) (Operand.const (Value.bool true)) (Operand.tmp 84), 4, _, #[{ on := 7, ground := Ground.data }, { on := 9, ground := Ground.data }], none⟩) (v := ?v10) rfl (by kernel_rfl) (by kernel_rfl) (by kernel_rfl) (fun _ _ _ h => h) (Or.inl ⟨by rfl, ?hy10⟩) hHeld ?rest10
  case hy10 => (intro w' hSw; go_simp; try with_reducible rfl)
  try simp only [Act.put, List.setIfInBounds_toArray, List.set_cons_zero, List.set_cons_succ]
  refine wpAnyH_take (i := 11) (oi := ⟨some 86, Op.move (Operand.tmp 85), 4, _, #[{ on := 10, ground := Ground.data }, { on := 7, ground := Ground.chain }], none⟩) (v := ?v11) rfl (by kernel_rfl) (by kernel_rfl) (by kernel_rfl) (fun _ _ _ h => h) (Or.inl ⟨by rfl, ?hy11⟩) hHeld ?rest11
  case hy11 => (intro w' hSw; go_simp; try with_reducible rfl)
  try simp only [Act.put, List.setIfInBounds_toArray, List.set_cons_zero, List.set_cons_succ]
  first
    | (refine wpAnyH_take (i := 12) (oi := ⟨some 87, Op.move (Operand.tmp 7), 22, _, #[{ on := 11, ground := Ground.guard }], some (11, false)⟩) (v := undef) rfl (by kernel_rfl) (by kernel_rfl) (by kernel_rfl) (fun _ _ _ h => h) (Or.inr ⟨by rfl, rfl⟩) hHeld ?_)
    | (refine wpAnyH_take (i := 12) (oi := ⟨some 87, Op.move (Operand.tmp 7), 22, _, #[{ on := 11, ground := Ground.guard }], some (11, false)⟩) (v := ?v12) rfl (by kernel_rfl) (by kernel_rfl) (by kernel_rfl) (fun _ _ _ h => h) (Or.inl ⟨by rfl, ?hy12⟩) hHeld ?rest12; case hy12 => (intro w' hSw; go_simp; try with_reducible rfl))
  try simp only [Act.put, List.setIfInBounds_toArray, List.set_cons_zero, List.set_cons_succ]
  first
    | (refine wpAnyH_take (i := 13) (oi := ⟨some 88, Op.move (Operand.tmp 12), 22, _, #[{ on := 11, ground := Ground.guard }], some (11, false)⟩) (v := undef) rfl (by kernel_rfl) (by kernel_rfl) (by kernel_rfl) (fun _ _ _ h => h) (Or.inr ⟨by rfl, rfl⟩) hHeld ?_)
    | (refine wpAnyH_take (i := 13) (oi := ⟨some 88, Op.move (Operand.tmp 12), 22, _, #[{ on := 11, ground := Ground.guard }], some (11, false)⟩) (v := ?v13) rfl (by kernel_rfl) (by kernel_rfl) (by kernel_rfl) (fun _ _ _ h => h) (Or.inl ⟨by rfl, ?hy13⟩) hHeld ?rest13; case hy13 => (intro w' hSw; go_simp; try with_reducible rfl))
  try simp only [Act.put, List.setIfInBounds_toArray, List.set_cons_zero, List.set_cons_succ]
  first
    | (refine wpAnyH_take (i := 15) (oi := ⟨some 90, Op.move (Operand.tmp 2), 3, _, #[{ on := 11, ground := Ground.guard }], some (11, false)⟩) (v := undef) rfl (by kernel_rfl) (by kernel_rfl) (by kernel_rfl) (fun _ _ _ h => h) (Or.inr ⟨by rfl, rfl⟩) hHeld ?_)
    | (refine wpAnyH_take (i := 15) (oi := ⟨some 90, Op.move (Operand.tmp 2), 3, _, #[{ on := 11, ground := Ground.guard }], some (11, false)⟩) (v := ?v15) rfl (by kernel_rfl) (by kernel_rfl) (by kernel_rfl) (fun _ _ _ h => h) (Or.inl ⟨by rfl, ?hy15⟩) hHeld ?rest15; case hy15 => (intro w' hSw; go_simp; try with_reducible rfl))
  try simp only [Act.put, List.setIfInBounds_toArray, List.set_cons_zero, List.set_cons_succ]
  first
    | (refine wpAnyH_take (i := 16) (oi := ⟨some 91, Op.fieldAddr 27 (Operand.tmp 3) 1, 0, _, #[{ on := 11, ground := Ground.guard }], some (11, false)⟩) (v := undef) rfl (by kernel_rfl) (by kernel_rfl) (by kernel_rfl) (fun _ _ _ h => h) (Or.inr ⟨by rfl, rfl⟩) hHeld ?_)
    | (refine wpAnyH_take (i := 16) (oi := ⟨some 91, Op.fieldAddr 27 (Operand.tmp 3) 1, 0, _, #[{ on := 11, ground := Ground.guard }], some (11, false)⟩) (v := ?v16) rfl (by kernel_rfl) (by kernel_rfl) (by kernel_rfl) (fun _ _ _ h => h) (Or.inl ⟨by rfl, ?hy16⟩) hHeld ?rest16; case hy16 => (intro w' hSw; go_simp; try with_reducible rfl))
  try simp only [Act.put, List.setIfInBounds_toArray, List.set_cons_zero, List.set_cons_succ]
  first
    | (refine wpAnyH_take (i := 17) (oi := ⟨some 92, Op.load 3 (Operand.tmp 91), 3, _, #[{ on := 16, ground := Ground.data }, { on := 11, ground := Ground.guard }], some (11, false)⟩) (v := undef) rfl (by kernel_rfl) (by kernel_rfl) (by kernel_rfl) (fun _ _ _ h => h) (Or.inr ⟨by rfl, rfl⟩) hHeld ?_)
    | (refine wpAnyH_take (i := 17) (oi := ⟨some 92, Op.load 3 (Operand.tmp 91), 3, _, #[{ on := 16, ground := Ground.data }, { on := 11, ground := Ground.guard }], some (11, false)⟩) (v := ?v17) rfl (by kernel_rfl) (by kernel_rfl) (by kernel_rfl) (fun _ _ _ h => h) (Or.inl ⟨by rfl, ?hy17⟩) hHeld ?rest17; case hy17 => (intro w' hSw; obtain ⟨hcc, hff⟩ := bcell hSw; go_simp; try with_reducible rfl))
  try simp only [Act.put, List.setIfInBounds_toArray, List.set_cons_zero, List.set_cons_succ]
  first
    | (refine wpAnyH_take (i := 18) (oi := ⟨some 93, Op.binOp BinOp.neq 3 (Operand.tmp 90) (Operand.tmp 92) 3, 4, _, #[{ on := 15, ground := Ground.data }, { on := 17, ground := Ground.data }, { on := 11, ground := Ground.guard }], some (11, false)⟩) (v := undef) rfl (by kernel_rfl) (by kernel_rfl) (by kernel_rfl) (fun _ _ _ h => h) (Or.inr ⟨by rfl, rfl⟩) hHeld ?_)
    | (refine wpAnyH_take (i := 18) (oi := ⟨some 93, Op.binOp BinOp.neq 3 (Operand.tmp 90) (Operand.tmp 92) 3, 4, _, #[{ on := 15, ground := Ground.data }, { on := 17, ground := Ground.data }, { on := 11, ground := Ground.guard }], some (11, false)⟩) (v := ?v18) rfl (by kernel_rfl) (by kernel_rfl) (by kernel_rfl) (fun _ _ _ h => h) (Or.inl ⟨by rfl, ?hy18⟩) hHeld ?rest18; case hy18 => (intro w' hSw; go_simp; try with_reducible rfl))
  try simp only [Act.put, List.setIfInBounds_toArray, List.set_cons_zero, List.set_cons_succ]
  refine wpAnyH_take (i := 14) (oi := ⟨some 89, Op.call { callee := Callee.value (Operand.func 9), args := #[Operand.tmp 87, Operand.tmp 88], argTypes := #[22, 22] }, 4, _, #[{ on := 12, ground := Ground.data }, { on := 13, ground := Ground.data }, { on := 11, ground := Ground.chain }, { on := 11, ground := Ground.guard }], some (11, false)⟩) (v := undef) rfl (by kernel_rfl) (by kernel_rfl) (by kernel_rfl) (fun _ _ _ h => h) (Or.inr ⟨by rfl, rfl⟩) hHeld ?_
  try simp only [Act.put, List.setIfInBounds_toArray, List.set_cons_zero, List.set_cons_succ]
  first
    | (refine wpAnyH_take (i := 19) (oi := ⟨some 94, Op.binOp BinOp.eql 4 (Operand.tmp 89) (Operand.tmp 93) 4, 4, _, #[{ on := 14, ground := Ground.data }, { on := 18, ground := Ground.data }, { on := 11, ground := Ground.guard }], some (11, false)⟩) (v := undef) rfl (by kernel_rfl) (by kernel_rfl) (by kernel_rfl) (fun _ _ _ h => h) (Or.inr ⟨by rfl, rfl⟩) hHeld ?_)
    | (refine wpAnyH_take (i := 19) (oi := ⟨some 94, Op.binOp BinOp.eql 4 (Operand.tmp 89) (Operand.tmp 93) 4, 4, _, #[{ on := 14, ground := Ground.data }, { on := 18, ground := Ground.data }, { on := 11, ground := Ground.guard }], some (11, false)⟩) (v := ?v19) rfl (by kernel_rfl) (by kernel_rfl) (by kernel_rfl) (fun _ _ _ h => h) (Or.inl ⟨by rfl, ?hy19⟩) hHeld ?rest19; case hy19 => (intro w' hSw; go_simp; try with_reducible rfl))
  try simp only [Act.put, List.setIfInBounds_toArray, List.set_cons_zero, List.set_cons_succ]
  refine wpAnyH_take (i := 20) (oi := ⟨some 95, Op.pick (Operand.tmp 86) (Operand.const (Value.bool true)) (Operand.tmp 94), 4, _, #[{ on := 11, ground := Ground.data }, { on := 19, ground := Ground.data }], none⟩) (v := ?v20) rfl (by kernel_rfl) (by kernel_rfl) (by kernel_rfl) (fun _ _ _ h => h) (Or.inl ⟨by rfl, ?hy20⟩) hHeld ?rest20
  case hy20 => (intro w' hSw; go_simp; try with_reducible rfl)
  try simp only [Act.put, List.setIfInBounds_toArray, List.set_cons_zero, List.set_cons_succ]
  refine wpAnyH_take (i := 21) (oi := ⟨some 96, Op.move (Operand.tmp 95), 4, _, #[{ on := 20, ground := Ground.data }, { on := 14, ground := Ground.chain }], none⟩) (v := ?v21) rfl (by kernel_rfl) (by kernel_rfl) (by kernel_rfl) (fun _ _ _ h => h) (Or.inl ⟨by rfl, ?hy21⟩) hHeld ?rest21
  case hy21 => (intro w' hSw; go_simp; try with_reducible rfl)
  try simp only [Act.put, List.setIfInBounds_toArray, List.set_cons_zero, List.set_cons_succ]
  refine wpAnyH_ready (rs := [22]) (by kernel_rfl) (by simp) ?_
  refine AllReadyH.cons (o := ⟨some 97, Op.call { callee := Callee.value (Operand.func 10), args := #[], argTypes := #[] }, 4, _, #[{ on := 21, ground := Ground.chain }, { on := 21, ground := Ground.guard }], some (21, true)⟩) rfl (fun K hK => ?_) AllReadyH.nil
  go_simp
  refine (wakes3_any _ (hG0.call (bthen hB hHeld))).mono ?_
  rintro e wr2 ⟨rfl, hb⟩
  go_wp2_with fail
  have hB2 := bthen hHeld hb
  clear hHeld hb
  refine hK.out _ _ hB2 (fun hHeld => ?_)
  clear hB2 hK K
  try simp only [Act.put, List.setIfInBounds_toArray, List.set_cons_zero, List.set_cons_succ]
  refine wpAnyH_take (i := 23) (oi := ⟨some 98, Op.pick (Operand.tmp 96) (Operand.tmp 97) (Operand.const (Value.bool false)), 4, _, #[{ on := 21, ground := Ground.data }, { on := 22, ground := Ground.data }], none⟩) (v := ?v23) rfl (by kernel_rfl) (by kernel_rfl) (by kernel_rfl) (fun _ _ _ h => h) (Or.inl ⟨by rfl, ?hy23⟩) hHeld ?rest23
  case hy23 => (intro w' hSw; go_simp; try with_reducible rfl)
  try simp only [Act.put, List.setIfInBounds_toArray, List.set_cons_zero, List.set_cons_succ]
  refine wpAnyH_take (i := 24) (oi := ⟨some 6, Op.assign (Operand.tmp 98), 4, _, #[{ on := 23, ground := Ground.data }, { on := 22, ground := Ground.chain }, { on := 0, ground := Ground.phase }, { on := 1, ground := Ground.phase }, { on := 2, ground := Ground.phase }, { on := 3, ground := Ground.phase }, { on := 4, ground := Ground.phase }, { on := 5, ground := Ground.phase }, { on := 6, ground := Ground.phase }, { on := 7, ground := Ground.phase }, { on := 8, ground := Ground.phase }, { on := 9, ground := Ground.phase }, { on := 10, ground := Ground.phase }, { on := 11, ground := Ground.phase }, { on := 12, ground := Ground.phase }, { on := 13, ground := Ground.phase }, { on := 14, ground := Ground.phase }, { on := 15, ground := Ground.phase }, { on := 16, ground := Ground.phase }, { on := 17, ground := Ground.phase }, { on := 18, ground := Ground.phase }, { on := 19, ground := Ground.phase }, { on := 20, ground := Ground.phase }, { on := 21, ground := Ground.phase }, { on := 22, ground := Ground.phase }, { on := 23, ground := Ground.phase }], none⟩) (v := ?v24) rfl (by kernel_rfl) (by kernel_rfl) (by kernel_rfl) (fun _ _ _ h => h) (Or.inl ⟨by rfl, ?hy24⟩) hHeld ?rest24
  case hy24 => (intro w' hSw; go_simp; try with_reducible rfl)
  try simp only [Act.put, List.setIfInBounds_toArray, List.set_cons_zero, List.set_cons_succ]
  refine wpAnyH_done (by kernel_rfl) ?_ _
  replace hB := bthen hB hHeld
  clear hHeld
  go_wp2_with fail
  go_ret
  exact ⟨rfl, hB⟩
set_option maxHeartbeats 8000000 in
theorem descOne_yd0 (k2 f f2 fr : Int) (af ro us ng af2 ro2 us2 ng2 : Bool) (w : World) (hG : G w) (h : dOk 0 f af ro us ng = true) (h2 : dOk k2 f2 af2 ro2 us2 ng2 = true) (hk : ((0 : Int) == k2) = false) (h3 : dOk 0 fr af ro us ng = true) :
    Calls Tryd.prog 5 #[.agg #[.int .i8 0, .int .i64 f, .bool af, .bool ro, .bool us, .bool ng], .agg #[.int .i8 k2, .int .i64 f2, .bool af2, .bool ro2, .bool us2, .bool ng2], .int .i64 fr] w fun e w' => e = .returned (.bool true) ∧ Below w.heap.size w w' := by
  have hG0 := hG
  go_enter Tryd.func5, Tryd.ntmps5
  have hR := (Arr.new w #[.int .i8 0, .int .i64 f, .bool af, .bool ro, .bool us, .bool ng] 27).alloc (.cells #[.int .i8 k2, .int .i64 f2, .bool af2, .bool ro2, .bool us2, .bool ng2] 27)
  have hR2 := Arr.new (w.alloc (.cells #[.int .i8 0, .int .i64 f, .bool af, .bool ro, .bool us, .bool ng] 27)) #[.int .i8 k2, .int .i64 f2, .bool af2, .bool ro2, .bool us2, .bool ng2] 27
  have e1 : (w.alloc (.cells #[.int .i8 0, .int .i64 f, .bool af, .bool ro, .bool us, .bool ng] 27)).heap.size = w.heap.size + 1 := World.size_alloc _ _
  rw [e1] at hR2
  clear e1
  have hB := ba (ba (Below.refl w.heap.size w) (.cells #[.int .i8 0, .int .i64 f, .bool af, .bool ro, .bool us, .bool ng] 27)) (.cells #[.int .i8 k2, .int .i64 f2, .bool af2, .bool ro2, .bool us2, .bool ng2] 27)
  go_wp2_with fail
  refine (dEncode_yes 0 f af ro us ng _ (hG0.call hB) h).mono ?_
  rintro e w1 ⟨rfl, hb⟩
  replace hR := hR.call hb
  replace hR2 := hR2.call hb
  replace hB := bthen hB hb
  clear hb
  have r0 := hR2.cell 0 _ rfl
  have r1 := hR2.cell 1 _ rfl
  have r2 := hR2.cell 2 _ rfl
  have r3 := hR2.cell 3 _ rfl
  have r4 := hR2.cell 4 _ rfl
  have r5 := hR2.cell 5 _ rfl
  go_wp2_with fail
  refine (dEncode_yes k2 f2 af2 ro2 us2 ng2 _ (hG0.call hB) h2).mono ?_
  rintro e w2 ⟨rfl, hb⟩
  replace hR := hR.call hb
  replace hR2 := hR2.call hb
  replace hB := bthen hB hb
  clear hb r0 r1 r2 r3 r4 r5
  have q0 := hR.cell 0 _ rfl
  have q1 := hR.cell 1 _ rfl
  have q2 := hR.cell 2 _ rfl
  have q3 := hR.cell 3 _ rfl
  have q4 := hR.cell 4 _ rfl
  have q5 := hR.cell 5 _ rfl
  have r0 := hR2.cell 0 _ rfl
  have r1 := hR2.cell 1 _ rfl
  have r2 := hR2.cell 2 _ rfl
  have r3 := hR2.cell 3 _ rfl
  have r4 := hR2.cell 4 _ rfl
  have r5 := hR2.cell 5 _ rfl
  go_wp2_with fail
  clear r0 r1 r2 r3 r4 r5 q0 q1 q2 q3 q4 q5
  replace hR := hR.alloc (.cells #[.int .i8 0, .int .i64 fr, .bool af, .bool ro, .bool us, .bool ng] 27)
  have hR3 := Arr.new w2 #[.int .i8 0, .int .i64 fr, .bool af, .bool ro, .bool us, .bool ng] 27
  replace hB := ba hB (.cells #[.int .i8 0, .int .i64 fr, .bool af, .bool ro, .bool us, .bool ng] 27)
  refine (dEncode_yes 0 fr af ro us ng _ (hG0.call hB) h3).mono ?_
  rintro e w3 ⟨rfl, hb⟩
  replace hR := hR.call hb
  replace hB := bthen hB hb
  clear hb
  have q0 := hR.cell 0 _ rfl
  have q1 := hR.cell 1 _ rfl
  go_wp2_with fail
  have lR := hR.lt
  clear hR
  refine wp_region_held_drew (S := fun w' => Below w3.heap.size w3 w') (by kernel_rfl) (bd (Below.refl _ _)) (fun hHeld => ?_)
  refine wpAnyH_take (i := 0) (oi := ⟨some 75, Op.move (Operand.tmp 8), 28, _, #[], none⟩) (v := ?v0) rfl (by kernel_rfl) (by kernel_rfl) (by kernel_rfl) (fun _ _ _ h => h) (Or.inl ⟨by rfl, ?hy0⟩) hHeld ?rest0
  case hy0 => (intro w' hSw; go_simp; try with_reducible rfl)
  try simp only [Act.put, List.setIfInBounds_toArray, List.set_cons_zero, List.set_cons_succ]
  refine wpAnyH_take (i := 1) (oi := ⟨some 76, Op.binOp BinOp.neq 28 (Operand.tmp 75) (Operand.const (Value.int IntKind.i64 0)) 28, 4, _, #[{ on := 0, ground := Ground.data }], none⟩) (v := ?v1) rfl (by kernel_rfl) (by kernel_rfl) (by kernel_rfl) (fun _ _ _ h => h) (Or.inl ⟨by rfl, ?hy1⟩) hHeld ?rest1
  case hy1 => (intro w' hSw; go_simp; try with_reducible rfl)
  try simp only [Act.put, List.setIfInBounds_toArray, List.set_cons_zero, List.set_cons_succ]
  refine wpAnyH_take (i := 2) (oi := ⟨some 77, Op.move (Operand.tmp 76), 4, _, #[{ on := 1, ground := Ground.data }], none⟩) (v := ?v2) rfl (by kernel_rfl) (by kernel_rfl) (by kernel_rfl) (fun _ _ _ h => h) (Or.inl ⟨by rfl, ?hy2⟩) hHeld ?rest2
  case hy2 => (intro w' hSw; go_simp; try with_reducible rfl)
  try simp only [Act.put, List.setIfInBounds_toArray, List.set_cons_zero, List.set_cons_succ]
  first
    | (refine wpAnyH_take (i := 3) (oi := ⟨some 78, Op.fieldAddr 27 (Operand.tmp 3) 0, 0, _, #[{ on := 2, ground := Ground.guard }], some (2, false)⟩) (v := undef) rfl (by kernel_rfl) (by kernel_rfl) (by kernel_rfl) (fun _ _ _ h => h) (Or.inr ⟨by rfl, rfl⟩) hHeld ?_)
    | (refine wpAnyH_take (i := 3) (oi := ⟨some 78, Op.fieldAddr 27 (Operand.tmp 3) 0, 0, _, #[{ on := 2, ground := Ground.guard }], some (2, false)⟩) (v := ?v3) rfl (by kernel_rfl) (by kernel_rfl) (by kernel_rfl) (fun _ _ _ h => h) (Or.inl ⟨by rfl, ?hy3⟩) hHeld ?rest3; case hy3 => (intro w' hSw; go_simp; try with_reducible rfl))
  try simp only [Act.put, List.setIfInBounds_toArray, List.set_cons_zero, List.set_cons_succ]
  first
    | (refine wpAnyH_take (i := 4) (oi := ⟨some 79, Op.load 25 (Operand.tmp 78), 25, _, #[{ on := 3, ground := Ground.data }, { on := 2, ground := Ground.guard }], some (2, false)⟩) (v := undef) rfl (by kernel_rfl) (by kernel_rfl) (by kernel_rfl) (fun _ _ _ h => h) (Or.inr ⟨by rfl, rfl⟩) hHeld ?_)
    | (refine wpAnyH_take (i := 4) (oi := ⟨some 79, Op.load 25 (Operand.tmp 78), 25, _, #[{ on := 3, ground := Ground.data }, { on := 2, ground := Ground.guard }], some (2, false)⟩) (v := ?v4) rfl (by kernel_rfl) (by kernel_rfl) (by kernel_rfl) (fun _ _ _ h => h) (Or.inl ⟨by rfl, ?hy4⟩) hHeld ?rest4; case hy4 => (intro w' hSw; obtain ⟨hcc, hff⟩ := bcell hSw; go_simp; try with_reducible rfl))
  try simp only [Act.put, List.setIfInBounds_toArray, List.set_cons_zero, List.set_cons_succ]
  first
    | (refine wpAnyH_take (i := 5) (oi := ⟨some 80, Op.binOp BinOp.neq 25 (Operand.tmp 79) (Operand.const (Value.int IntKind.i8 2)) 25, 4, _, #[{ on := 4, ground := Ground.data }, { on := 2, ground := Ground.guard }], some (2, false)⟩) (v := undef) rfl (by kernel_rfl) (by kernel_rfl) (by kernel_rfl) (fun _ _ _ h => h) (Or.inr ⟨by rfl, rfl⟩) hHeld ?_)
    | (refine wpAnyH_take (i := 5) (oi := ⟨some 80, Op.binOp BinOp.neq 25 (Operand.tmp 79) (Operand.const (Value.int IntKind.i8 2)) 25, 4, _, #[{ on := 4, ground := Ground.data }, { on := 2, ground := Ground.guard }], some (2, false)⟩) (v := ?v5) rfl (by kernel_rfl) (by kernel_rfl) (by kernel_rfl) (fun _ _ _ h => h) (Or.inl ⟨by rfl, ?hy5⟩) hHeld ?rest5; case hy5 => (intro w' hSw; go_simp; try with_reducible rfl))
  try simp only [Act.put, List.setIfInBounds_toArray, List.set_cons_zero, List.set_cons_succ]
  refine wpAnyH_take (i := 6) (oi := ⟨some 81, Op.pick (Operand.tmp 77) (Operand.const (Value.bool true)) (Operand.tmp 80), 4, _, #[{ on := 2, ground := Ground.data }, { on := 5, ground := Ground.data }], none⟩) (v := ?v6) rfl (by kernel_rfl) (by kernel_rfl) (by kernel_rfl) (fun _ _ _ h => h) (Or.inl ⟨by rfl, ?hy6⟩) hHeld ?rest6
  case hy6 => (intro w' hSw; go_simp; try with_reducible rfl)
  try simp only [Act.put, List.setIfInBounds_toArray, List.set_cons_zero, List.set_cons_succ]
  refine wpAnyH_take (i := 7) (oi := ⟨some 82, Op.move (Operand.tmp 81), 4, _, #[{ on := 6, ground := Ground.data }, { on := 2, ground := Ground.chain }], none⟩) (v := ?v7) rfl (by kernel_rfl) (by kernel_rfl) (by kernel_rfl) (fun _ _ _ h => h) (Or.inl ⟨by rfl, ?hy7⟩) hHeld ?rest7
  case hy7 => (intro w' hSw; go_simp; try with_reducible rfl)
  try simp only [Act.put, List.setIfInBounds_toArray, List.set_cons_zero, List.set_cons_succ]
  first
    | (refine wpAnyH_take (i := 8) (oi := ⟨some 83, Op.move (Operand.tmp 13), 28, _, #[{ on := 7, ground := Ground.guard }], some (7, false)⟩) (v := undef) rfl (by kernel_rfl) (by kernel_rfl) (by kernel_rfl) (fun _ _ _ h => h) (Or.inr ⟨by rfl, rfl⟩) hHeld ?_)
    | (refine wpAnyH_take (i := 8) (oi := ⟨some 83, Op.move (Operand.tmp 13), 28, _, #[{ on := 7, ground := Ground.guard }], some (7, false)⟩) (v := ?v8) rfl (by kernel_rfl) (by kernel_rfl) (by kernel_rfl) (fun _ _ _ h => h) (Or.inl ⟨by rfl, ?hy8⟩) hHeld ?rest8; case hy8 => (intro w' hSw; go_simp; try with_reducible rfl))
  try simp only [Act.put, List.setIfInBounds_toArray, List.set_cons_zero, List.set_cons_succ]
  first
    | (refine wpAnyH_take (i := 9) (oi := ⟨some 84, Op.binOp BinOp.neq 28 (Operand.tmp 83) (Operand.const (Value.int IntKind.i64 0)) 28, 4, _, #[{ on := 8, ground := Ground.data }, { on := 7, ground := Ground.guard }], some (7, false)⟩) (v := undef) rfl (by kernel_rfl) (by kernel_rfl) (by kernel_rfl) (fun _ _ _ h => h) (Or.inr ⟨by rfl, rfl⟩) hHeld ?_)
    | (refine wpAnyH_take (i := 9) (oi := ⟨some 84, Op.binOp BinOp.neq 28 (Operand.tmp 83) (Operand.const (Value.int IntKind.i64 0)) 28, 4, _, #[{ on := 8, ground := Ground.data }, { on := 7, ground := Ground.guard }], some (7, false)⟩) (v := ?v9) rfl (by kernel_rfl) (by kernel_rfl) (by kernel_rfl) (fun _ _ _ h => h) (Or.inl ⟨by rfl, ?hy9⟩) hHeld ?rest9; case hy9 => (intro w' hSw; go_simp; try with_reducible rfl))
  try simp only [Act.put, List.setIfInBounds_toArray, List.set_cons_zero, List.set_cons_succ]
  refine wpAnyH_take (i := 10) (oi := ⟨some 85, Op.pick (Operand.tmp 82) (Operand.const (Value.bool true)) (Operand.tmp 84), 4, _, #[{ on := 7, ground := Ground.data }, { on := 9, ground := Ground.data }], none⟩) (v := ?v10) rfl (by kernel_rfl) (by kernel_rfl) (by kernel_rfl) (fun _ _ _ h => h) (Or.inl ⟨by rfl, ?hy10⟩) hHeld ?rest10
  case hy10 => (intro w' hSw; go_simp; try with_reducible rfl)
  try simp only [Act.put, List.setIfInBounds_toArray, List.set_cons_zero, List.set_cons_succ]
  refine wpAnyH_take (i := 11) (oi := ⟨some 86, Op.move (Operand.tmp 85), 4, _, #[{ on := 10, ground := Ground.data }, { on := 7, ground := Ground.chain }], none⟩) (v := ?v11) rfl (by kernel_rfl) (by kernel_rfl) (by kernel_rfl) (fun _ _ _ h => h) (Or.inl ⟨by rfl, ?hy11⟩) hHeld ?rest11
  case hy11 => (intro w' hSw; go_simp; try with_reducible rfl)
  try simp only [Act.put, List.setIfInBounds_toArray, List.set_cons_zero, List.set_cons_succ]
  first
    | (refine wpAnyH_take (i := 12) (oi := ⟨some 87, Op.move (Operand.tmp 7), 22, _, #[{ on := 11, ground := Ground.guard }], some (11, false)⟩) (v := undef) rfl (by kernel_rfl) (by kernel_rfl) (by kernel_rfl) (fun _ _ _ h => h) (Or.inr ⟨by rfl, rfl⟩) hHeld ?_)
    | (refine wpAnyH_take (i := 12) (oi := ⟨some 87, Op.move (Operand.tmp 7), 22, _, #[{ on := 11, ground := Ground.guard }], some (11, false)⟩) (v := ?v12) rfl (by kernel_rfl) (by kernel_rfl) (by kernel_rfl) (fun _ _ _ h => h) (Or.inl ⟨by rfl, ?hy12⟩) hHeld ?rest12; case hy12 => (intro w' hSw; go_simp; try with_reducible rfl))
  try simp only [Act.put, List.setIfInBounds_toArray, List.set_cons_zero, List.set_cons_succ]
  first
    | (refine wpAnyH_take (i := 13) (oi := ⟨some 88, Op.move (Operand.tmp 12), 22, _, #[{ on := 11, ground := Ground.guard }], some (11, false)⟩) (v := undef) rfl (by kernel_rfl) (by kernel_rfl) (by kernel_rfl) (fun _ _ _ h => h) (Or.inr ⟨by rfl, rfl⟩) hHeld ?_)
    | (refine wpAnyH_take (i := 13) (oi := ⟨some 88, Op.move (Operand.tmp 12), 22, _, #[{ on := 11, ground := Ground.guard }], some (11, false)⟩) (v := ?v13) rfl (by kernel_rfl) (by kernel_rfl) (by kernel_rfl) (fun _ _ _ h => h) (Or.inl ⟨by rfl, ?hy13⟩) hHeld ?rest13; case hy13 => (intro w' hSw; go_simp; try with_reducible rfl))
  try simp only [Act.put, List.setIfInBounds_toArray, List.set_cons_zero, List.set_cons_succ]
  first
    | (refine wpAnyH_take (i := 15) (oi := ⟨some 90, Op.move (Operand.tmp 2), 3, _, #[{ on := 11, ground := Ground.guard }], some (11, false)⟩) (v := undef) rfl (by kernel_rfl) (by kernel_rfl) (by kernel_rfl) (fun _ _ _ h => h) (Or.inr ⟨by rfl, rfl⟩) hHeld ?_)
    | (refine wpAnyH_take (i := 15) (oi := ⟨some 90, Op.move (Operand.tmp 2), 3, _, #[{ on := 11, ground := Ground.guard }], some (11, false)⟩) (v := ?v15) rfl (by kernel_rfl) (by kernel_rfl) (by kernel_rfl) (fun _ _ _ h => h) (Or.inl ⟨by rfl, ?hy15⟩) hHeld ?rest15; case hy15 => (intro w' hSw; go_simp; try with_reducible rfl))
  try simp only [Act.put, List.setIfInBounds_toArray, List.set_cons_zero, List.set_cons_succ]
  first
    | (refine wpAnyH_take (i := 16) (oi := ⟨some 91, Op.fieldAddr 27 (Operand.tmp 3) 1, 0, _, #[{ on := 11, ground := Ground.guard }], some (11, false)⟩) (v := undef) rfl (by kernel_rfl) (by kernel_rfl) (by kernel_rfl) (fun _ _ _ h => h) (Or.inr ⟨by rfl, rfl⟩) hHeld ?_)
    | (refine wpAnyH_take (i := 16) (oi := ⟨some 91, Op.fieldAddr 27 (Operand.tmp 3) 1, 0, _, #[{ on := 11, ground := Ground.guard }], some (11, false)⟩) (v := ?v16) rfl (by kernel_rfl) (by kernel_rfl) (by kernel_rfl) (fun _ _ _ h => h) (Or.inl ⟨by rfl, ?hy16⟩) hHeld ?rest16; case hy16 => (intro w' hSw; go_simp; try with_reducible rfl))
  try simp only [Act.put, List.setIfInBounds_toArray, List.set_cons_zero, List.set_cons_succ]
  first
    | (refine wpAnyH_take (i := 17) (oi := ⟨some 92, Op.load 3 (Operand.tmp 91), 3, _, #[{ on := 16, ground := Ground.data }, { on := 11, ground := Ground.guard }], some (11, false)⟩) (v := undef) rfl (by kernel_rfl) (by kernel_rfl) (by kernel_rfl) (fun _ _ _ h => h) (Or.inr ⟨by rfl, rfl⟩) hHeld ?_)
    | (refine wpAnyH_take (i := 17) (oi := ⟨some 92, Op.load 3 (Operand.tmp 91), 3, _, #[{ on := 16, ground := Ground.data }, { on := 11, ground := Ground.guard }], some (11, false)⟩) (v := ?v17) rfl (by kernel_rfl) (by kernel_rfl) (by kernel_rfl) (fun _ _ _ h => h) (Or.inl ⟨by rfl, ?hy17⟩) hHeld ?rest17; case hy17 => (intro w' hSw; obtain ⟨hcc, hff⟩ := bcell hSw; go_simp; try with_reducible rfl))
  try simp only [Act.put, List.setIfInBounds_toArray, List.set_cons_zero, List.set_cons_succ]
  first
    | (refine wpAnyH_take (i := 18) (oi := ⟨some 93, Op.binOp BinOp.neq 3 (Operand.tmp 90) (Operand.tmp 92) 3, 4, _, #[{ on := 15, ground := Ground.data }, { on := 17, ground := Ground.data }, { on := 11, ground := Ground.guard }], some (11, false)⟩) (v := undef) rfl (by kernel_rfl) (by kernel_rfl) (by kernel_rfl) (fun _ _ _ h => h) (Or.inr ⟨by rfl, rfl⟩) hHeld ?_)
    | (refine wpAnyH_take (i := 18) (oi := ⟨some 93, Op.binOp BinOp.neq 3 (Operand.tmp 90) (Operand.tmp 92) 3, 4, _, #[{ on := 15, ground := Ground.data }, { on := 17, ground := Ground.data }, { on := 11, ground := Ground.guard }], some (11, false)⟩) (v := ?v18) rfl (by kernel_rfl) (by kernel_rfl) (by kernel_rfl) (fun _ _ _ h => h) (Or.inl ⟨by rfl, ?hy18⟩) hHeld ?rest18; case hy18 => (intro w' hSw; go_simp; try with_reducible rfl))
  try simp only [Act.put, List.setIfInBounds_toArray, List.set_cons_zero, List.set_cons_succ]
  refine wpAnyH_take (i := 14) (oi := ⟨some 89, Op.call { callee := Callee.value (Operand.func 9), args := #[Operand.tmp 87, Operand.tmp 88], argTypes := #[22, 22] }, 4, _, #[{ on := 12, ground := Ground.data }, { on := 13, ground := Ground.data }, { on := 11, ground := Ground.chain }, { on := 11, ground := Ground.guard }], some (11, false)⟩) (v := undef) rfl (by kernel_rfl) (by kernel_rfl) (by kernel_rfl) (fun _ _ _ h => h) (Or.inr ⟨by rfl, rfl⟩) hHeld ?_
  try simp only [Act.put, List.setIfInBounds_toArray, List.set_cons_zero, List.set_cons_succ]
  first
    | (refine wpAnyH_take (i := 19) (oi := ⟨some 94, Op.binOp BinOp.eql 4 (Operand.tmp 89) (Operand.tmp 93) 4, 4, _, #[{ on := 14, ground := Ground.data }, { on := 18, ground := Ground.data }, { on := 11, ground := Ground.guard }], some (11, false)⟩) (v := undef) rfl (by kernel_rfl) (by kernel_rfl) (by kernel_rfl) (fun _ _ _ h => h) (Or.inr ⟨by rfl, rfl⟩) hHeld ?_)
    | (refine wpAnyH_take (i := 19) (oi := ⟨some 94, Op.binOp BinOp.eql 4 (Operand.tmp 89) (Operand.tmp 93) 4, 4, _, #[{ on := 14, ground := Ground.data }, { on := 18, ground := Ground.data }, { on := 11, ground := Ground.guard }], some (11, false)⟩) (v := ?v19) rfl (by kernel_rfl) (by kernel_rfl) (by kernel_rfl) (fun _ _ _ h => h) (Or.inl ⟨by rfl, ?hy19⟩) hHeld ?rest19; case hy19 => (intro w' hSw; go_simp; try with_reducible rfl))
  try simp only [Act.put, List.setIfInBounds_toArray, List.set_cons_zero, List.set_cons_succ]
  refine wpAnyH_take (i := 20) (oi := ⟨some 95, Op.pick (Operand.tmp 86) (Operand.const (Value.bool true)) (Operand.tmp 94), 4, _, #[{ on := 11, ground := Ground.data }, { on := 19, ground := Ground.data }], none⟩) (v := ?v20) rfl (by kernel_rfl) (by kernel_rfl) (by kernel_rfl) (fun _ _ _ h => h) (Or.inl ⟨by rfl, ?hy20⟩) hHeld ?rest20
  case hy20 => (intro w' hSw; go_simp; try with_reducible rfl)
  try simp only [Act.put, List.setIfInBounds_toArray, List.set_cons_zero, List.set_cons_succ]
  refine wpAnyH_take (i := 21) (oi := ⟨some 96, Op.move (Operand.tmp 95), 4, _, #[{ on := 20, ground := Ground.data }, { on := 14, ground := Ground.chain }], none⟩) (v := ?v21) rfl (by kernel_rfl) (by kernel_rfl) (by kernel_rfl) (fun _ _ _ h => h) (Or.inl ⟨by rfl, ?hy21⟩) hHeld ?rest21
  case hy21 => (intro w' hSw; go_simp; try with_reducible rfl)
  try simp only [Act.put, List.setIfInBounds_toArray, List.set_cons_zero, List.set_cons_succ]
  refine wpAnyH_ready (rs := [22]) (by kernel_rfl) (by simp) ?_
  refine AllReadyH.cons (o := ⟨some 97, Op.call { callee := Callee.value (Operand.func 10), args := #[], argTypes := #[] }, 4, _, #[{ on := 21, ground := Ground.chain }, { on := 21, ground := Ground.guard }], some (21, true)⟩) rfl (fun K hK => ?_) AllReadyH.nil
  go_simp
  refine (wakes3_any _ (hG0.call (bthen hB hHeld))).mono ?_
  rintro e wr2 ⟨rfl, hb⟩
  go_wp2_with fail
  have hB2 := bthen hHeld hb
  clear hHeld hb
  refine hK.out _ _ hB2 (fun hHeld => ?_)
  clear hB2 hK K
  try simp only [Act.put, List.setIfInBounds_toArray, List.set_cons_zero, List.set_cons_succ]
  refine wpAnyH_take (i := 23) (oi := ⟨some 98, Op.pick (Operand.tmp 96) (Operand.tmp 97) (Operand.const (Value.bool false)), 4, _, #[{ on := 21, ground := Ground.data }, { on := 22, ground := Ground.data }], none⟩) (v := ?v23) rfl (by kernel_rfl) (by kernel_rfl) (by kernel_rfl) (fun _ _ _ h => h) (Or.inl ⟨by rfl, ?hy23⟩) hHeld ?rest23
  case hy23 => (intro w' hSw; go_simp; try with_reducible rfl)
  try simp only [Act.put, List.setIfInBounds_toArray, List.set_cons_zero, List.set_cons_succ]
  refine wpAnyH_take (i := 24) (oi := ⟨some 6, Op.assign (Operand.tmp 98), 4, _, #[{ on := 23, ground := Ground.data }, { on := 22, ground := Ground.chain }, { on := 0, ground := Ground.phase }, { on := 1, ground := Ground.phase }, { on := 2, ground := Ground.phase }, { on := 3, ground := Ground.phase }, { on := 4, ground := Ground.phase }, { on := 5, ground := Ground.phase }, { on := 6, ground := Ground.phase }, { on := 7, ground := Ground.phase }, { on := 8, ground := Ground.phase }, { on := 9, ground := Ground.phase }, { on := 10, ground := Ground.phase }, { on := 11, ground := Ground.phase }, { on := 12, ground := Ground.phase }, { on := 13, ground := Ground.phase }, { on := 14, ground := Ground.phase }, { on := 15, ground := Ground.phase }, { on := 16, ground := Ground.phase }, { on := 17, ground := Ground.phase }, { on := 18, ground := Ground.phase }, { on := 19, ground := Ground.phase }, { on := 20, ground := Ground.phase }, { on := 21, ground := Ground.phase }, { on := 22, ground := Ground.phase }, { on := 23, ground := Ground.phase }], none⟩) (v := ?v24) rfl (by kernel_rfl) (by kernel_rfl) (by kernel_rfl) (fun _ _ _ h => h) (Or.inl ⟨by rfl, ?hy24⟩) hHeld ?rest24
  case hy24 => (intro w' hSw; go_simp; try with_reducible rfl)
  try simp only [Act.put, List.setIfInBounds_toArray, List.set_cons_zero, List.set_cons_succ]
  refine wpAnyH_done (by kernel_rfl) ?_ _
  replace hB := bthen hB hHeld
  clear hHeld
  go_wp2_with fail
  go_ret
  exact ⟨rfl, hB⟩
set_option maxHeartbeats 8000000 in
theorem descOne_yd1 (k2 f f2 fr : Int) (af ro us ng af2 ro2 us2 ng2 : Bool) (w : World) (hG : G w) (h : dOk 1 f af ro us ng = true) (h2 : dOk k2 f2 af2 ro2 us2 ng2 = true) (hk : ((1 : Int) == k2) = false) (h3 : dOk 1 fr af ro us ng = true) :
    Calls Tryd.prog 5 #[.agg #[.int .i8 1, .int .i64 f, .bool af, .bool ro, .bool us, .bool ng], .agg #[.int .i8 k2, .int .i64 f2, .bool af2, .bool ro2, .bool us2, .bool ng2], .int .i64 fr] w fun e w' => e = .returned (.bool true) ∧ Below w.heap.size w w' := by
  have hG0 := hG
  have Q3 := Lib.hid (dV_fr h h3)
  go_enter Tryd.func5, Tryd.ntmps5
  have hR := (Arr.new w #[.int .i8 1, .int .i64 f, .bool af, .bool ro, .bool us, .bool ng] 27).alloc (.cells #[.int .i8 k2, .int .i64 f2, .bool af2, .bool ro2, .bool us2, .bool ng2] 27)
  have hR2 := Arr.new (w.alloc (.cells #[.int .i8 1, .int .i64 f, .bool af, .bool ro, .bool us, .bool ng] 27)) #[.int .i8 k2, .int .i64 f2, .bool af2, .bool ro2, .bool us2, .bool ng2] 27
  have e1 : (w.alloc (.cells #[.int .i8 1, .int .i64 f, .bool af, .bool ro, .bool us, .bool ng] 27)).heap.size = w.heap.size + 1 := World.size_alloc _ _
  rw [e1] at hR2
  clear e1
  have hB := ba (ba (Below.refl w.heap.size w) (.cells #[.int .i8 1, .int .i64 f, .bool af, .bool ro, .bool us, .bool ng] 27)) (.cells #[.int .i8 k2, .int .i64 f2, .bool af2, .bool ro2, .bool us2, .bool ng2] 27)
  go_wp2_with fail
  refine (dEncode_yes 1 f af ro us ng _ (hG0.call hB) h).mono ?_
  rintro e w1 ⟨rfl, hb⟩
  replace hR := hR.call hb
  replace hR2 := hR2.call hb
  replace hB := bthen hB hb
  clear hb
  have r0 := hR2.cell 0 _ rfl
  have r1 := hR2.cell 1 _ rfl
  have r2 := hR2.cell 2 _ rfl
  have r3 := hR2.cell 3 _ rfl
  have r4 := hR2.cell 4 _ rfl
  have r5 := hR2.cell 5 _ rfl
  go_wp2_with fail
  refine (dEncode_yes k2 f2 af2 ro2 us2 ng2 _ (hG0.call hB) h2).mono ?_
  rintro e w2 ⟨rfl, hb⟩
  replace hR := hR.call hb
  replace hR2 := hR2.call hb
  replace hB := bthen hB hb
  clear hb r0 r1 r2 r3 r4 r5
  have q0 := hR.cell 0 _ rfl
  have q1 := hR.cell 1 _ rfl
  have q2 := hR.cell 2 _ rfl
  have q3 := hR.cell 3 _ rfl
  have q4 := hR.cell 4 _ rfl
  have q5 := hR.cell 5 _ rfl
  have r0 := hR2.cell 0 _ rfl
  have r1 := hR2.cell 1 _ rfl
  have r2 := hR2.cell 2 _ rfl
  have r3 := hR2.cell 3 _ rfl
  have r4 := hR2.cell 4 _ rfl
  have r5 := hR2.cell 5 _ rfl
  go_wp2_with fail
  clear r0 r1 r2 r3 r4 r5 q0 q1 q2 q3 q4 q5
  replace hR := hR.alloc (.cells #[.int .i8 1, .int .i64 fr, .bool af, .bool ro, .bool us, .bool ng] 27)
  have hR3 := Arr.new w2 #[.int .i8 1, .int .i64 fr, .bool af, .bool ro, .bool us, .bool ng] 27
  replace hB := ba hB (.cells #[.int .i8 1, .int .i64 fr, .bool af, .bool ro, .bool us, .bool ng] 27)
  refine (dEncode_yes 1 fr af ro us ng _ (hG0.call hB) h3).mono ?_
  rintro e w3 ⟨rfl, hb⟩
  replace hR := hR.call hb
  replace hB := bthen hB hb
  clear hb
  have q0 := hR.cell 0 _ rfl
  have q1 := hR.cell 1 _ rfl
  have Q3' := Q3.out
  go_wp2_with fail
  clear Q3'
  have lR := hR.lt
  clear hR
  refine wp_region_held_drew (S := fun w' => Below w3.heap.size w3 w') (by kernel_rfl) (bd (Below.refl _ _)) (fun hHeld => ?_)
  refine wpAnyH_take (i := 0) (oi := ⟨some 75, Op.move (Operand.tmp 8), 28, _, #[], none⟩) (v := ?v0) rfl (by kernel_rfl) (by kernel_rfl) (by kernel_rfl) (fun _ _ _ h => h) (Or.inl ⟨by rfl, ?hy0⟩) hHeld ?rest0
  case hy0 => (intro w' hSw; go_simp; try with_reducible rfl)
  try simp only [Act.put, List.setIfInBounds_toArray, List.set_cons_zero, List.set_cons_succ]
  refine wpAnyH_take (i := 1) (oi := ⟨some 76, Op.binOp BinOp.neq 28 (Operand.tmp 75) (Operand.const (Value.int IntKind.i64 0)) 28, 4, _, #[{ on := 0, ground := Ground.data }], none⟩) (v := ?v1) rfl (by kernel_rfl) (by kernel_rfl) (by kernel_rfl) (fun _ _ _ h => h) (Or.inl ⟨by rfl, ?hy1⟩) hHeld ?rest1
  case hy1 => (intro w' hSw; go_simp; try with_reducible rfl)
  try simp only [Act.put, List.setIfInBounds_toArray, List.set_cons_zero, List.set_cons_succ]
  refine wpAnyH_take (i := 2) (oi := ⟨some 77, Op.move (Operand.tmp 76), 4, _, #[{ on := 1, ground := Ground.data }], none⟩) (v := ?v2) rfl (by kernel_rfl) (by kernel_rfl) (by kernel_rfl) (fun _ _ _ h => h) (Or.inl ⟨by rfl, ?hy2⟩) hHeld ?rest2
  case hy2 => (intro w' hSw; go_simp; try with_reducible rfl)
  try simp only [Act.put, List.setIfInBounds_toArray, List.set_cons_zero, List.set_cons_succ]
  first
    | (refine wpAnyH_take (i := 3) (oi := ⟨some 78, Op.fieldAddr 27 (Operand.tmp 3) 0, 0, _, #[{ on := 2, ground := Ground.guard }], some (2, false)⟩) (v := undef) rfl (by kernel_rfl) (by kernel_rfl) (by kernel_rfl) (fun _ _ _ h => h) (Or.inr ⟨by rfl, rfl⟩) hHeld ?_)
    | (refine wpAnyH_take (i := 3) (oi := ⟨some 78, Op.fieldAddr 27 (Operand.tmp 3) 0, 0, _, #[{ on := 2, ground := Ground.guard }], some (2, false)⟩) (v := ?v3) rfl (by kernel_rfl) (by kernel_rfl) (by kernel_rfl) (fun _ _ _ h => h) (Or.inl ⟨by rfl, ?hy3⟩) hHeld ?rest3; case hy3 => (intro w' hSw; go_simp; try with_reducible rfl))
  try simp only [Act.put, List.setIfInBounds_toArray, List.set_cons_zero, List.set_cons_succ]
  first
    | (refine wpAnyH_take (i := 4) (oi := ⟨some 79, Op.load 25 (Operand.tmp 78), 25, _, #[{ on := 3, ground := Ground.data }, { on := 2, ground := Ground.guard }], some (2, false)⟩) (v := undef) rfl (by kernel_rfl) (by kernel_rfl) (by kernel_rfl) (fun _ _ _ h => h) (Or.inr ⟨by rfl, rfl⟩) hHeld ?_)
    | (refine wpAnyH_take (i := 4) (oi := ⟨some 79, Op.load 25 (Operand.tmp 78), 25, _, #[{ on := 3, ground := Ground.data }, { on := 2, ground := Ground.guard }], some (2, false)⟩) (v := ?v4) rfl (by kernel_rfl) (by kernel_rfl) (by kernel_rfl) (fun _ _ _ h => h) (Or.inl ⟨by rfl, ?hy4⟩) hHeld ?rest4; case hy4 => (intro w' hSw; obtain ⟨hcc, hff⟩ := bcell hSw; go_simp; try with_reducible rfl))
  try simp only [Act.put, List.setIfInBounds_toArray, List.set_cons_zero, List.set_cons_succ]
  first
    | (refine wpAnyH_take (i := 5) (oi := ⟨some 80, Op.binOp BinOp.neq 25 (Operand.tmp 79) (Operand.const (Value.int IntKind.i8 2)) 25, 4, _, #[{ on := 4, ground := Ground.data }, { on := 2, ground := Ground.guard }], some (2, false)⟩) (v := undef) rfl (by kernel_rfl) (by kernel_rfl) (by kernel_rfl) (fun _ _ _ h => h) (Or.inr ⟨by rfl, rfl⟩) hHeld ?_)
    | (refine wpAnyH_take (i := 5) (oi := ⟨some 80, Op.binOp BinOp.neq 25 (Operand.tmp 79) (Operand.const (Value.int IntKind.i8 2)) 25, 4, _, #[{ on := 4, ground := Ground.data }, { on := 2, ground := Ground.guard }], some (2, false)⟩) (v := ?v5) rfl (by kernel_rfl) (by kernel_rfl) (by kernel_rfl) (fun _ _ _ h => h) (Or.inl ⟨by rfl, ?hy5⟩) hHeld ?rest5; case hy5 => (intro w' hSw; go_simp; try with_reducible rfl))
  try simp only [Act.put, List.setIfInBounds_toArray, List.set_cons_zero, List.set_cons_succ]
  refine wpAnyH_take (i := 6) (oi := ⟨some 81, Op.pick (Operand.tmp 77) (Operand.const (Value.bool true)) (Operand.tmp 80), 4, _, #[{ on := 2, ground := Ground.data }, { on := 5, ground := Ground.data }], none⟩) (v := ?v6) rfl (by kernel_rfl) (by kernel_rfl) (by kernel_rfl) (fun _ _ _ h => h) (Or.inl ⟨by rfl, ?hy6⟩) hHeld ?rest6
  case hy6 => (intro w' hSw; go_simp; try with_reducible rfl)
  try simp only [Act.put, List.setIfInBounds_toArray, List.set_cons_zero, List.set_cons_succ]
  refine wpAnyH_take (i := 7) (oi := ⟨some 82, Op.move (Operand.tmp 81), 4, _, #[{ on := 6, ground := Ground.data }, { on := 2, ground := Ground.chain }], none⟩) (v := ?v7) rfl (by kernel_rfl) (by kernel_rfl) (by kernel_rfl) (fun _ _ _ h => h) (Or.inl ⟨by rfl, ?hy7⟩) hHeld ?rest7
  case hy7 => (intro w' hSw; go_simp; try with_reducible rfl)
  try simp only [Act.put, List.setIfInBounds_toArray, List.set_cons_zero, List.set_cons_succ]
  first
    | (refine wpAnyH_take (i := 8) (oi := ⟨some 83, Op.move (Operand.tmp 13), 28, _, #[{ on := 7, ground := Ground.guard }], some (7, false)⟩) (v := undef) rfl (by kernel_rfl) (by kernel_rfl) (by kernel_rfl) (fun _ _ _ h => h) (Or.inr ⟨by rfl, rfl⟩) hHeld ?_)
    | (refine wpAnyH_take (i := 8) (oi := ⟨some 83, Op.move (Operand.tmp 13), 28, _, #[{ on := 7, ground := Ground.guard }], some (7, false)⟩) (v := ?v8) rfl (by kernel_rfl) (by kernel_rfl) (by kernel_rfl) (fun _ _ _ h => h) (Or.inl ⟨by rfl, ?hy8⟩) hHeld ?rest8; case hy8 => (intro w' hSw; go_simp; try with_reducible rfl))
  try simp only [Act.put, List.setIfInBounds_toArray, List.set_cons_zero, List.set_cons_succ]
  first
    | (refine wpAnyH_take (i := 9) (oi := ⟨some 84, Op.binOp BinOp.neq 28 (Operand.tmp 83) (Operand.const (Value.int IntKind.i64 0)) 28, 4, _, #[{ on := 8, ground := Ground.data }, { on := 7, ground := Ground.guard }], some (7, false)⟩) (v := undef) rfl (by kernel_rfl) (by kernel_rfl) (by kernel_rfl) (fun _ _ _ h => h) (Or.inr ⟨by rfl, rfl⟩) hHeld ?_)
    | (refine wpAnyH_take (i := 9) (oi := ⟨some 84, Op.binOp BinOp.neq 28 (Operand.tmp 83) (Operand.const (Value.int IntKind.i64 0)) 28, 4, _, #[{ on := 8, ground := Ground.data }, { on := 7, ground := Ground.guard }], some (7, false)⟩) (v := ?v9) rfl (by kernel_rfl) (by kernel_rfl) (by kernel_rfl) (fun _ _ _ h => h) (Or.inl ⟨by rfl, ?hy9⟩) hHeld ?rest9; case hy9 => (intro w' hSw; go_simp; try with_reducible rfl))
  try simp only [Act.put, List.setIfInBounds_toArray, List.set_cons_zero, List.set_cons_succ]
  refine wpAnyH_take (i := 10) (oi := ⟨some 85, Op.pick (Operand.tmp 82) (Operand.const (Value.bool true)) (Operand.tmp 84), 4, _, #[{ on := 7, ground := Ground.data }, { on := 9, ground := Ground.data }], none⟩) (v := ?v10) rfl (by kernel_rfl) (by kernel_rfl) (by kernel_rfl) (fun _ _ _ h => h) (Or.inl ⟨by rfl, ?hy10⟩) hHeld ?rest10
  case hy10 => (intro w' hSw; go_simp; try with_reducible rfl)
  try simp only [Act.put, List.setIfInBounds_toArray, List.set_cons_zero, List.set_cons_succ]
  refine wpAnyH_take (i := 11) (oi := ⟨some 86, Op.move (Operand.tmp 85), 4, _, #[{ on := 10, ground := Ground.data }, { on := 7, ground := Ground.chain }], none⟩) (v := ?v11) rfl (by kernel_rfl) (by kernel_rfl) (by kernel_rfl) (fun _ _ _ h => h) (Or.inl ⟨by rfl, ?hy11⟩) hHeld ?rest11
  case hy11 => (intro w' hSw; go_simp; try with_reducible rfl)
  try simp only [Act.put, List.setIfInBounds_toArray, List.set_cons_zero, List.set_cons_succ]
  first
    | (refine wpAnyH_take (i := 12) (oi := ⟨some 87, Op.move (Operand.tmp 7), 22, _, #[{ on := 11, ground := Ground.guard }], some (11, false)⟩) (v := undef) rfl (by kernel_rfl) (by kernel_rfl) (by kernel_rfl) (fun _ _ _ h => h) (Or.inr ⟨by rfl, rfl⟩) hHeld ?_)
    | (refine wpAnyH_take (i := 12) (oi := ⟨some 87, Op.move (Operand.tmp 7), 22, _, #[{ on := 11, ground := Ground.guard }], some (11, false)⟩) (v := ?v12) rfl (by kernel_rfl) (by kernel_rfl) (by kernel_rfl) (fun _ _ _ h => h) (Or.inl ⟨by rfl, ?hy12⟩) hHeld ?rest12; case hy12 => (intro w' hSw; go_simp; try with_reducible rfl))
  try simp only [Act.put, List.setIfInBounds_toArray, List.set_cons_zero, List.set_cons_succ]
  first
    | (refine wpAnyH_take (i := 13) (oi := ⟨some 88, Op.move (Operand.tmp 12), 22, _, #[{ on := 11, ground := Ground.guard }], some (11, false)⟩) (v := undef) rfl (by kernel_rfl) (by kernel_rfl) (by kernel_rfl) (fun _ _ _ h => h) (Or.inr ⟨by rfl, rfl⟩) hHeld ?_)
    | (refine wpAnyH_take (i := 13) (oi := ⟨some 88, Op.move (Operand.tmp 12), 22, _, #[{ on := 11, ground := Ground.guard }], some (11, false)⟩) (v := ?v13) rfl (by kernel_rfl) (by kernel_rfl) (by kernel_rfl) (fun _ _ _ h => h) (Or.inl ⟨by rfl, ?hy13⟩) hHeld ?rest13; case hy13 => (intro w' hSw; go_simp; try with_reducible rfl))
  try simp only [Act.put, List.setIfInBounds_toArray, List.set_cons_zero, List.set_cons_succ]
  first
    | (refine wpAnyH_take (i := 15) (oi := ⟨some 90, Op.move (Operand.tmp 2), 3, _, #[{ on := 11, ground := Ground.guard }], some (11, false)⟩) (v := undef) rfl (by kernel_rfl) (by kernel_rfl) (by kernel_rfl) (fun _ _ _ h => h) (Or.inr ⟨by rfl, rfl⟩) hHeld ?_)
    | (refine wpAnyH_take (i := 15) (oi := ⟨some 90, Op.move (Operand.tmp 2), 3, _, #[{ on := 11, ground := Ground.guard }], some (11, false)⟩) (v := ?v15) rfl (by kernel_rfl) (by kernel_rfl) (by kernel_rfl) (fun _ _ _ h => h) (Or.inl ⟨by rfl, ?hy15⟩) hHeld ?rest15; case hy15 => (intro w' hSw; go_simp; try with_reducible rfl))
  try simp only [Act.put, List.setIfInBounds_toArray, List.set_cons_zero, List.set_cons_succ]
  first
    | (refine wpAnyH_take (i := 16) (oi := ⟨some 91, Op.fieldAddr 27 (Operand.tmp 3) 1, 0, _, #[{ on := 11, ground := Ground.guard }], some (11, false)⟩) (v := undef) rfl (by kernel_rfl) (by kernel_rfl) (by kernel_rfl) (fun _ _ _ h => h) (Or.inr ⟨by rfl, rfl⟩) hHeld ?_)
    | (refine wpAnyH_take (i := 16) (oi := ⟨some 91, Op.fieldAddr 27 (Operand.tmp 3) 1, 0, _, #[{ on := 11, ground := Ground.guard }], some (11, false)⟩) (v := ?v16) rfl (by kernel_rfl) (by kernel_rfl) (by kernel_rfl) (fun _ _ _ h => h) (Or.inl ⟨by rfl, ?hy16⟩) hHeld ?rest16; case hy16 => (intro w' hSw; go_simp; try with_reducible rfl))
  try simp only [Act.put, List.setIfInBounds_toArray, List.set_cons_zero, List.set_cons_succ]
  first
    | (refine wpAnyH_take (i := 17) (oi := ⟨some 92, Op.load 3 (Operand.tmp 91), 3, _, #[{ on := 16, ground := Ground.data }, { on := 11, ground := Ground.guard }], some (11, false)⟩) (v := undef) rfl (by kernel_rfl) (by kernel_rfl) (by kernel_rfl) (fun _ _ _ h => h) (Or.inr ⟨by rfl, rfl⟩) hHeld ?_)
    | (refine wpAnyH_take (i := 17) (oi := ⟨some 92, Op.load 3 (Operand.tmp 91), 3, _, #[{ on := 16, ground := Ground.data }, { on := 11, ground := Ground.guard }], some (11, false)⟩) (v := ?v17) rfl (by kernel_rfl) (by kernel_rfl) (by kernel_rfl) (fun _ _ _ h => h) (Or.inl ⟨by rfl, ?hy17⟩) hHeld ?rest17; case hy17 => (intro w' hSw; obtain ⟨hcc, hff⟩ := bcell hSw; go_simp; try with_reducible rfl))
  try simp only [Act.put, List.setIfInBounds_toArray, List.set_cons_zero, List.set_cons_succ]
  first
    | (refine wpAnyH_take (i := 18) (oi := ⟨some 93, Op.binOp BinOp.neq 3 (Operand.tmp 90) (Operand.tmp 92) 3, 4, _, #[{ on := 15, ground := Ground.data }, { on := 17, ground := Ground.data }, { on := 11, ground := Ground.guard }], some (11, false)⟩) (v := undef) rfl (by kernel_rfl) (by kernel_rfl) (by kernel_rfl) (fun _ _ _ h => h) (Or.inr ⟨by rfl, rfl⟩) hHeld ?_)
    | (refine wpAnyH_take (i := 18) (oi := ⟨some 93, Op.binOp BinOp.neq 3 (Operand.tmp 90) (Operand.tmp 92) 3, 4, _, #[{ on := 15, ground := Ground.data }, { on := 17, ground := Ground.data }, { on := 11, ground := Ground.guard }], some (11, false)⟩) (v := ?v18) rfl (by kernel_rfl) (by kernel_rfl) (by kernel_rfl) (fun _ _ _ h => h) (Or.inl ⟨by rfl, ?hy18⟩) hHeld ?rest18; case hy18 => (intro w' hSw; go_simp; try with_reducible rfl))
  try simp only [Act.put, List.setIfInBounds_toArray, List.set_cons_zero, List.set_cons_succ]
  refine wpAnyH_take (i := 14) (oi := ⟨some 89, Op.call { callee := Callee.value (Operand.func 9), args := #[Operand.tmp 87, Operand.tmp 88], argTypes := #[22, 22] }, 4, _, #[{ on := 12, ground := Ground.data }, { on := 13, ground := Ground.data }, { on := 11, ground := Ground.chain }, { on := 11, ground := Ground.guard }], some (11, false)⟩) (v := undef) rfl (by kernel_rfl) (by kernel_rfl) (by kernel_rfl) (fun _ _ _ h => h) (Or.inr ⟨by rfl, rfl⟩) hHeld ?_
  try simp only [Act.put, List.setIfInBounds_toArray, List.set_cons_zero, List.set_cons_succ]
  first
    | (refine wpAnyH_take (i := 19) (oi := ⟨some 94, Op.binOp BinOp.eql 4 (Operand.tmp 89) (Operand.tmp 93) 4, 4, _, #[{ on := 14, ground := Ground.data }, { on := 18, ground := Ground.data }, { on := 11, ground := Ground.guard }], some (11, false)⟩) (v := undef) rfl (by kernel_rfl) (by kernel_rfl) (by kernel_rfl) (fun _ _ _ h => h) (Or.inr ⟨by rfl, rfl⟩) hHeld ?_)
    | (refine wpAnyH_take (i := 19) (oi := ⟨some 94, Op.binOp BinOp.eql 4 (Operand.tmp 89) (Operand.tmp 93) 4, 4, _, #[{ on := 14, ground := Ground.data }, { on := 18, ground := Ground.data }, { on := 11, ground := Ground.guard }], some (11, false)⟩) (v := ?v19) rfl (by kernel_rfl) (by kernel_rfl) (by kernel_rfl) (fun _ _ _ h => h) (Or.inl ⟨by rfl, ?hy19⟩) hHeld ?rest19; case hy19 => (intro w' hSw; go_simp; try with_reducible rfl))
  try simp only [Act.put, List.setIfInBounds_toArray, List.set_cons_zero, List.set_cons_succ]
  refine wpAnyH_take (i := 20) (oi := ⟨some 95, Op.pick (Operand.tmp 86) (Operand.const (Value.bool true)) (Operand.tmp 94), 4, _, #[{ on := 11, ground := Ground.data }, { on := 19, ground := Ground.data }], none⟩) (v := ?v20) rfl (by kernel_rfl) (by kernel_rfl) (by kernel_rfl) (fun _ _ _ h => h) (Or.inl ⟨by rfl, ?hy20⟩) hHeld ?rest20
  case hy20 => (intro w' hSw; go_simp; try with_reducible rfl)
  try simp only [Act.put, List.setIfInBounds_toArray, List.set_cons_zero, List.set_cons_succ]
  refine wpAnyH_take (i := 21) (oi := ⟨some 96, Op.move (Operand.tmp 95), 4, _, #[{ on := 20, ground := Ground.data }, { on := 14, ground := Ground.chain }], none⟩) (v := ?v21) rfl (by kernel_rfl) (by kernel_rfl) (by kernel_rfl) (fun _ _ _ h => h) (Or.inl ⟨by rfl, ?hy21⟩) hHeld ?rest21
  case hy21 => (intro w' hSw; go_simp; try with_reducible rfl)
  try simp only [Act.put, List.setIfInBounds_toArray, List.set_cons_zero, List.set_cons_succ]
  refine wpAnyH_ready (rs := [22]) (by kernel_rfl) (by simp) ?_
  refine AllReadyH.cons (o := ⟨some 97, Op.call { callee := Callee.value (Operand.func 10), args := #[], argTypes := #[] }, 4, _, #[{ on := 21, ground := Ground.chain }, { on := 21, ground := Ground.guard }], some (21, true)⟩) rfl (fun K hK => ?_) AllReadyH.nil
  go_simp
  refine (wakes3_any _ (hG0.call (bthen hB hHeld))).mono ?_
  rintro e wr2 ⟨rfl, hb⟩
  go_wp2_with fail
  have hB2 := bthen hHeld hb
  clear hHeld hb
  refine hK.out _ _ hB2 (fun hHeld => ?_)
  clear hB2 hK K
  try simp only [Act.put, List.setIfInBounds_toArray, List.set_cons_zero, List.set_cons_succ]
  refine wpAnyH_take (i := 23) (oi := ⟨some 98, Op.pick (Operand.tmp 96) (Operand.tmp 97) (Operand.const (Value.bool false)), 4, _, #[{ on := 21, ground := Ground.data }, { on := 22, ground := Ground.data }], none⟩) (v := ?v23) rfl (by kernel_rfl) (by kernel_rfl) (by kernel_rfl) (fun _ _ _ h => h) (Or.inl ⟨by rfl, ?hy23⟩) hHeld ?rest23
  case hy23 => (intro w' hSw; go_simp; try with_reducible rfl)
  try simp only [Act.put, List.setIfInBounds_toArray, List.set_cons_zero, List.set_cons_succ]
  refine wpAnyH_take (i := 24) (oi := ⟨some 6, Op.assign (Operand.tmp 98), 4, _, #[{ on := 23, ground := Ground.data }, { on := 22, ground := Ground.chain }, { on := 0, ground := Ground.phase }, { on := 1, ground := Ground.phase }, { on := 2, ground := Ground.phase }, { on := 3, ground := Ground.phase }, { on := 4, ground := Ground.phase }, { on := 5, ground := Ground.phase }, { on := 6, ground := Ground.phase }, { on := 7, ground := Ground.phase }, { on := 8, ground := Ground.phase }, { on := 9, ground := Ground.phase }, { on := 10, ground := Ground.phase }, { on := 11, ground := Ground.phase }, { on := 12, ground := Ground.phase }, { on := 13, ground := Ground.phase }, { on := 14, ground := Ground.phase }, { on := 15, ground := Ground.phase }, { on := 16, ground := Ground.phase }, { on := 17, ground := Ground.phase }, { on := 18, ground := Ground.phase }, { on := 19, ground := Ground.phase }, { on := 20, ground := Ground.phase }, { on := 21, ground := Ground.phase }, { on := 22, ground := Ground.phase }, { on := 23, ground := Ground.phase }], none⟩) (v := ?v24) rfl (by kernel_rfl) (by kernel_rfl) (by kernel_rfl) (fun _ _ _ h => h) (Or.inl ⟨by rfl, ?hy24⟩) hHeld ?rest24
  case hy24 => (intro w' hSw; go_simp; try with_reducible rfl)
  try simp only [Act.put, List.setIfInBounds_toArray, List.set_cons_zero, List.set_cons_succ]
  refine wpAnyH_done (by kernel_rfl) ?_ _
  replace hB := bthen hB hHeld
  clear hHeld
  go_wp2_with fail
  go_ret
  exact ⟨rfl, hB⟩
set_option maxHeartbeats 8000000 in
theorem descOne_yd2 (k2 f f2 fr : Int) (af ro us ng af2 ro2 us2 ng2 : Bool) (w : World) (hG : G w) (h : dOk 2 f af ro us ng = true) (h2 : dOk k2 f2 af2 ro2 us2 ng2 = true) (hk : ((2 : Int) == k2) = false) (h3 : dOk 2 fr af ro us ng = true) :
    Calls Tryd.prog 5 #[.agg #[.int .i8 2, .int .i64 f, .bool af, .bool ro, .bool us, .bool ng], .agg #[.int .i8 k2, .int .i64 f2, .bool af2, .bool ro2, .bool us2, .bool ng2], .int .i64 fr] w fun e w' => e = .returned (.bool true) ∧ Below w.heap.size w w' := by
  have hG0 := hG
  have Q3 := Lib.hid (dV_fr h h3)
  have Q4 := Lib.hid (dV_dif h h3).1
  have U1 := (dV_dif h h3).2.1
  have U2 := (dV_dif h h3).2.2
  go_enter Tryd.func5, Tryd.ntmps5
  have hR := (Arr.new w #[.int .i8 2, .int .i64 f, .bool af, .bool ro, .bool us, .bool ng] 27).alloc (.cells #[.int .i8 k2, .int .i64 f2, .bool af2, .bool ro2, .bool us2, .bool ng2] 27)
  have hR2 := Arr.new (w.alloc (.cells #[.int .i8 2, .int .i64 f, .bool af, .bool ro, .bool us, .bool ng] 27)) #[.int .i8 k2, .int .i64 f2, .bool af2, .bool ro2, .bool us2, .bool ng2] 27
  have e1 : (w.alloc (.cells #[.int .i8 2, .int .i64 f, .bool af, .bool ro, .bool us, .bool ng] 27)).heap.size = w.heap.size + 1 := World.size_alloc _ _
  rw [e1] at hR2
  clear e1
  have hB := ba (ba (Below.refl w.heap.size w) (.cells #[.int .i8 2, .int .i64 f, .bool af, .bool ro, .bool us, .bool ng] 27)) (.cells #[.int .i8 k2, .int .i64 f2, .bool af2, .bool ro2, .bool us2, .bool ng2] 27)
  go_wp2_with fail
  refine (dEncode_yes 2 f af ro us ng _ (hG0.call hB) h).mono ?_
  rintro e w1 ⟨rfl, hb⟩
  replace hR := hR.call hb
  replace hR2 := hR2.call hb
  replace hB := bthen hB hb
  clear hb
  have r0 := hR2.cell 0 _ rfl
  have r1 := hR2.cell 1 _ rfl
  have r2 := hR2.cell 2 _ rfl
  have r3 := hR2.cell 3 _ rfl
  have r4 := hR2.cell 4 _ rfl
  have r5 := hR2.cell 5 _ rfl
  go_wp2_with fail
  refine (dEncode_yes k2 f2 af2 ro2 us2 ng2 _ (hG0.call hB) h2).mono ?_
  rintro e w2 ⟨rfl, hb⟩
  replace hR := hR.call hb
  replace hR2 := hR2.call hb
  replace hB := bthen hB hb
  clear hb r0 r1 r2 r3 r4 r5
  have q0 := hR.cell 0 _ rfl
  have q1 := hR.cell 1 _ rfl
  have q2 := hR.cell 2 _ rfl
  have q3 := hR.cell 3 _ rfl
  have q4 := hR.cell 4 _ rfl
  have q5 := hR.cell 5 _ rfl
  have r0 := hR2.cell 0 _ rfl
  have r1 := hR2.cell 1 _ rfl
  have r2 := hR2.cell 2 _ rfl
  have r3 := hR2.cell 3 _ rfl
  have r4 := hR2.cell 4 _ rfl
  have r5 := hR2.cell 5 _ rfl
  go_wp2_with fail
  clear r0 r1 r2 r3 r4 r5 q0 q1 q2 q3 q4 q5
  replace hR := hR.alloc (.cells #[.int .i8 2, .int .i64 fr, .bool af, .bool ro, .bool us, .bool ng] 27)
  have hR3 := Arr.new w2 #[.int .i8 2, .int .i64 fr, .bool af, .bool ro, .bool us, .bool ng] 27
  replace hB := ba hB (.cells #[.int .i8 2, .int .i64 fr, .bool af, .bool ro, .bool us, .bool ng] 27)
  refine (dEncode_yes 2 fr af ro us ng _ (hG0.call hB) h3).mono ?_
  rintro e w3 ⟨rfl, hb⟩
  replace hR := hR.call hb
  replace hB := bthen hB hb
  clear hb
  have q0 := hR.cell 0 _ rfl
  have q1 := hR.cell 1 _ rfl
  have Q3' := Q3.out
  go_wp2_with fail
  clear Q3'
  have lR := hR.lt
  clear hR
  refine wp_region_held_drew (S := fun w' => Below w3.heap.size w3 w') (by kernel_rfl) (bd (Below.refl _ _)) (fun hHeld => ?_)
  refine wpAnyH_take (i := 0) (oi := ⟨some 75, Op.move (Operand.tmp 8), 28, _, #[], none⟩) (v := ?v0) rfl (by kernel_rfl) (by kernel_rfl) (by kernel_rfl) (fun _ _ _ h => h) (Or.inl ⟨by rfl, ?hy0⟩) hHeld ?rest0
  case hy0 => (intro w' hSw; go_simp; try with_reducible rfl)
  try simp only [Act.put, List.setIfInBounds_toArray, List.set_cons_zero, List.set_cons_succ]
  refine wpAnyH_take (i := 1) (oi := ⟨some 76, Op.binOp BinOp.neq 28 (Operand.tmp 75) (Operand.const (Value.int IntKind.i64 0)) 28, 4, _, #[{ on := 0, ground := Ground.data }], none⟩) (v := ?v1) rfl (by kernel_rfl) (by kernel_rfl) (by kernel_rfl) (fun _ _ _ h => h) (Or.inl ⟨by rfl, ?hy1⟩) hHeld ?rest1
  case hy1 => (intro w' hSw; go_simp; try with_reducible rfl)
  try simp only [Act.put, List.setIfInBounds_toArray, List.set_cons_zero, List.set_cons_succ]
  refine wpAnyH_take (i := 2) (oi := ⟨some 77, Op.move (Operand.tmp 76), 4, _, #[{ on := 1, ground := Ground.data }], none⟩) (v := ?v2) rfl (by kernel_rfl) (by kernel_rfl) (by kernel_rfl) (fun _ _ _ h => h) (Or.inl ⟨by rfl, ?hy2⟩) hHeld ?rest2
  case hy2 => (intro w' hSw; go_simp; try with_reducible rfl)
  try simp only [Act.put, List.setIfInBounds_toArray, List.set_cons_zero, List.set_cons_succ]
  first
    | (refine wpAnyH_take (i := 3) (oi := ⟨some 78, Op.fieldAddr 27 (Operand.tmp 3) 0, 0, _, #[{ on := 2, ground := Ground.guard }], some (2, false)⟩) (v := undef) rfl (by kernel_rfl) (by kernel_rfl) (by kernel_rfl) (fun _ _ _ h => h) (Or.inr ⟨by rfl, rfl⟩) hHeld ?_)
    | (refine wpAnyH_take (i := 3) (oi := ⟨some 78, Op.fieldAddr 27 (Operand.tmp 3) 0, 0, _, #[{ on := 2, ground := Ground.guard }], some (2, false)⟩) (v := ?v3) rfl (by kernel_rfl) (by kernel_rfl) (by kernel_rfl) (fun _ _ _ h => h) (Or.inl ⟨by rfl, ?hy3⟩) hHeld ?rest3; case hy3 => (intro w' hSw; go_simp; try with_reducible rfl))
  try simp only [Act.put, List.setIfInBounds_toArray, List.set_cons_zero, List.set_cons_succ]
  first
    | (refine wpAnyH_take (i := 4) (oi := ⟨some 79, Op.load 25 (Operand.tmp 78), 25, _, #[{ on := 3, ground := Ground.data }, { on := 2, ground := Ground.guard }], some (2, false)⟩) (v := undef) rfl (by kernel_rfl) (by kernel_rfl) (by kernel_rfl) (fun _ _ _ h => h) (Or.inr ⟨by rfl, rfl⟩) hHeld ?_)
    | (refine wpAnyH_take (i := 4) (oi := ⟨some 79, Op.load 25 (Operand.tmp 78), 25, _, #[{ on := 3, ground := Ground.data }, { on := 2, ground := Ground.guard }], some (2, false)⟩) (v := ?v4) rfl (by kernel_rfl) (by kernel_rfl) (by kernel_rfl) (fun _ _ _ h => h) (Or.inl ⟨by rfl, ?hy4⟩) hHeld ?rest4; case hy4 => (intro w' hSw; obtain ⟨hcc, hff⟩ := bcell hSw; go_simp; try with_reducible rfl))
  try simp only [Act.put, List.setIfInBounds_toArray, List.set_cons_zero, List.set_cons_succ]
  first
    | (refine wpAnyH_take (i := 5) (oi := ⟨some 80, Op.binOp BinOp.neq 25 (Operand.tmp 79) (Operand.const (Value.int IntKind.i8 2)) 25, 4, _, #[{ on := 4, ground := Ground.data }, { on := 2, ground := Ground.guard }], some (2, false)⟩) (v := undef) rfl (by kernel_rfl) (by kernel_rfl) (by kernel_rfl) (fun _ _ _ h => h) (Or.inr ⟨by rfl, rfl⟩) hHeld ?_)
    | (refine wpAnyH_take (i := 5) (oi := ⟨some 80, Op.binOp BinOp.neq 25 (Operand.tmp 79) (Operand.const (Value.int IntKind.i8 2)) 25, 4, _, #[{ on := 4, ground := Ground.data }, { on := 2, ground := Ground.guard }], some (2, false)⟩) (v := ?v5) rfl (by kernel_rfl) (by kernel_rfl) (by kernel_rfl) (fun _ _ _ h => h) (Or.inl ⟨by rfl, ?hy5⟩) hHeld ?rest5; case hy5 => (intro w' hSw; go_simp; try with_reducible rfl))
  try simp only [Act.put, List.setIfInBounds_toArray, List.set_cons_zero, List.set_cons_succ]
  refine wpAnyH_take (i := 6) (oi := ⟨some 81, Op.pick (Operand.tmp 77) (Operand.const (Value.bool true)) (Operand.tmp 80), 4, _, #[{ on := 2, ground := Ground.data }, { on := 5, ground := Ground.data }], none⟩) (v := ?v6) rfl (by kernel_rfl) (by kernel_rfl) (by kernel_rfl) (fun _ _ _ h => h) (Or.inl ⟨by rfl, ?hy6⟩) hHeld ?rest6
  case hy6 => (intro w' hSw; go_simp; try with_reducible rfl)
  try simp only [Act.put, List.setIfInBounds_toArray, List.set_cons_zero, List.set_cons_succ]
  refine wpAnyH_take (i := 7) (oi := ⟨some 82, Op.move (Operand.tmp 81), 4, _, #[{ on := 6, ground := Ground.data }, { on := 2, ground := Ground.chain }], none⟩) (v := ?v7) rfl (by kernel_rfl) (by kernel_rfl) (by kernel_rfl) (fun _ _ _ h => h) (Or.inl ⟨by rfl, ?hy7⟩) hHeld ?rest7
  case hy7 => (intro w' hSw; go_simp; try with_reducible rfl)
  try simp only [Act.put, List.setIfInBounds_toArray, List.set_cons_zero, List.set_cons_succ]
  first
    | (refine wpAnyH_take (i := 8) (oi := ⟨some 83, Op.move (Operand.tmp 13), 28, _, #[{ on := 7, ground := Ground.guard }], some (7, false)⟩) (v := undef) rfl (by kernel_rfl) (by kernel_rfl) (by kernel_rfl) (fun _ _ _ h => h) (Or.inr ⟨by rfl, rfl⟩) hHeld ?_)
    | (refine wpAnyH_take (i := 8) (oi := ⟨some 83, Op.move (Operand.tmp 13), 28, _, #[{ on := 7, ground := Ground.guard }], some (7, false)⟩) (v := ?v8) rfl (by kernel_rfl) (by kernel_rfl) (by kernel_rfl) (fun _ _ _ h => h) (Or.inl ⟨by rfl, ?hy8⟩) hHeld ?rest8; case hy8 => (intro w' hSw; go_simp; try with_reducible rfl))
  try simp only [Act.put, List.setIfInBounds_toArray, List.set_cons_zero, List.set_cons_succ]
  first
    | (refine wpAnyH_take (i := 9) (oi := ⟨some 84, Op.binOp BinOp.neq 28 (Operand.tmp 83) (Operand.const (Value.int IntKind.i64 0)) 28, 4, _, #[{ on := 8, ground := Ground.data }, { on := 7, ground := Ground.guard }], some (7, false)⟩) (v := undef) rfl (by kernel_rfl) (by kernel_rfl) (by kernel_rfl) (fun _ _ _ h => h) (Or.inr ⟨by rfl, rfl⟩) hHeld ?_)
    | (refine wpAnyH_take (i := 9) (oi := ⟨some 84, Op.binOp BinOp.neq 28 (Operand.tmp 83) (Operand.const (Value.int IntKind.i64 0)) 28, 4, _, #[{ on := 8, ground := Ground.data }, { on := 7, ground := Ground.guard }], some (7, false)⟩) (v := ?v9) rfl (by kernel_rfl) (by kernel_rfl) (by kernel_rfl) (fun _ _ _ h => h) (Or.inl ⟨by rfl, ?hy9⟩) hHeld ?rest9; case hy9 => (intro w' hSw; go_simp; try with_reducible rfl))
  try simp only [Act.put, List.setIfInBounds_toArray, List.set_cons_zero, List.set_cons_succ]
  refine wpAnyH_take (i := 10) (oi := ⟨some 85, Op.pick (Operand.tmp 82) (Operand.const (Value.bool true)) (Operand.tmp 84), 4, _, #[{ on := 7, ground := Ground.data }, { on := 9, ground := Ground.data }], none⟩) (v := ?v10) rfl (by kernel_rfl) (by kernel_rfl) (by kernel_rfl) (fun _ _ _ h => h) (Or.inl ⟨by rfl, ?hy10⟩) hHeld ?rest10
  case hy10 => (intro w' hSw; go_simp; try with_reducible rfl)
  try simp only [Act.put, List.setIfInBounds_toArray, List.set_cons_zero, List.set_cons_succ]
  refine wpAnyH_take (i := 11) (oi := ⟨some 86, Op.move (Operand.tmp 85), 4, _, #[{ on := 10, ground := Ground.data }, { on := 7, ground := Ground.chain }], none⟩) (v := ?v11) rfl (by kernel_rfl) (by kernel_rfl) (by kernel_rfl) (fun _ _ _ h => h) (Or.inl ⟨by rfl, ?hy11⟩) hHeld ?rest11
  case hy11 => (intro w' hSw; go_simp; try with_reducible rfl)
  try simp only [Act.put, List.setIfInBounds_toArray, List.set_cons_zero, List.set_cons_succ]
  first
    | (refine wpAnyH_take (i := 12) (oi := ⟨some 87, Op.move (Operand.tmp 7), 22, _, #[{ on := 11, ground := Ground.guard }], some (11, false)⟩) (v := undef) rfl (by kernel_rfl) (by kernel_rfl) (by kernel_rfl) (fun _ _ _ h => h) (Or.inr ⟨by rfl, rfl⟩) hHeld ?_)
    | (refine wpAnyH_take (i := 12) (oi := ⟨some 87, Op.move (Operand.tmp 7), 22, _, #[{ on := 11, ground := Ground.guard }], some (11, false)⟩) (v := ?v12) rfl (by kernel_rfl) (by kernel_rfl) (by kernel_rfl) (fun _ _ _ h => h) (Or.inl ⟨by rfl, ?hy12⟩) hHeld ?rest12; case hy12 => (intro w' hSw; go_simp; try with_reducible rfl))
  try simp only [Act.put, List.setIfInBounds_toArray, List.set_cons_zero, List.set_cons_succ]
  first
    | (refine wpAnyH_take (i := 13) (oi := ⟨some 88, Op.move (Operand.tmp 12), 22, _, #[{ on := 11, ground := Ground.guard }], some (11, false)⟩) (v := undef) rfl (by kernel_rfl) (by kernel_rfl) (by kernel_rfl) (fun _ _ _ h => h) (Or.inr ⟨by rfl, rfl⟩) hHeld ?_)
    | (refine wpAnyH_take (i := 13) (oi := ⟨some 88, Op.move (Operand.tmp 12), 22, _, #[{ on := 11, ground := Ground.guard }], some (11, false)⟩) (v := ?v13) rfl (by kernel_rfl) (by kernel_rfl) (by kernel_rfl) (fun _ _ _ h => h) (Or.inl ⟨by rfl, ?hy13⟩) hHeld ?rest13; case hy13 => (intro w' hSw; go_simp; try with_reducible rfl))
  try simp only [Act.put, List.setIfInBounds_toArray, List.set_cons_zero, List.set_cons_succ]
  first
    | (refine wpAnyH_take (i := 15) (oi := ⟨some 90, Op.move (Operand.tmp 2), 3, _, #[{ on := 11, ground := Ground.guard }], some (11, false)⟩) (v := undef) rfl (by kernel_rfl) (by kernel_rfl) (by kernel_rfl) (fun _ _ _ h => h) (Or.inr ⟨by rfl, rfl⟩) hHeld ?_)
    | (refine wpAnyH_take (i := 15) (oi := ⟨some 90, Op.move (Operand.tmp 2), 3, _, #[{ on := 11, ground := Ground.guard }], some (11, false)⟩) (v := ?v15) rfl (by kernel_rfl) (by kernel_rfl) (by kernel_rfl) (fun _ _ _ h => h) (Or.inl ⟨by rfl, ?hy15⟩) hHeld ?rest15; case hy15 => (intro w' hSw; go_simp; try with_reducible rfl))
  try simp only [Act.put, List.setIfInBounds_toArray, List.set_cons_zero, List.set_cons_succ]
  first
    | (refine wpAnyH_take (i := 16) (oi := ⟨some 91, Op.fieldAddr 27 (Operand.tmp 3) 1, 0, _, #[{ on := 11, ground := Ground.guard }], some (11, false)⟩) (v := undef) rfl (by kernel_rfl) (by kernel_rfl) (by kernel_rfl) (fun _ _ _ h => h) (Or.inr ⟨by rfl, rfl⟩) hHeld ?_)
    | (refine wpAnyH_take (i := 16) (oi := ⟨some 91, Op.fieldAddr 27 (Operand.tmp 3) 1, 0, _, #[{ on := 11, ground := Ground.guard }], some (11, false)⟩) (v := ?v16) rfl (by kernel_rfl) (by kernel_rfl) (by kernel_rfl) (fun _ _ _ h => h) (Or.inl ⟨by rfl, ?hy16⟩) hHeld ?rest16; case hy16 => (intro w' hSw; go_simp; try with_reducible rfl))
  try simp only [Act.put, List.setIfInBounds_toArray, List.set_cons_zero, List.set_cons_succ]
  first
    | (refine wpAnyH_take (i := 17) (oi := ⟨some 92, Op.load 3 (Operand.tmp 91), 3, _, #[{ on := 16, ground := Ground.data }, { on := 11, ground := Ground.guard }], some (11, false)⟩) (v := undef) rfl (by kernel_rfl) (by kernel_rfl) (by kernel_rfl) (fun _ _ _ h => h) (Or.inr ⟨by rfl, rfl⟩) hHeld ?_)
    | (refine wpAnyH_take (i := 17) (oi := ⟨some 92, Op.load 3 (Operand.tmp 91), 3, _, #[{ on := 16, ground := Ground.data }, { on := 11, ground := Ground.guard }], some (11, false)⟩) (v := ?v17) rfl (by kernel_rfl) (by kernel_rfl) (by kernel_rfl) (fun _ _ _ h => h) (Or.inl ⟨by rfl, ?hy17⟩) hHeld ?rest17; case hy17 => (intro w' hSw; obtain ⟨hcc, hff⟩ := bcell hSw; go_simp; try with_reducible rfl))
  try simp only [Act.put, List.setIfInBounds_toArray, List.set_cons_zero, List.set_cons_succ]
  first
    | (refine wpAnyH_take (i := 18) (oi := ⟨some 93, Op.binOp BinOp.neq 3 (Operand.tmp 90) (Operand.tmp 92) 3, 4, _, #[{ on := 15, ground := Ground.data }, { on := 17, ground := Ground.data }, { on := 11, ground := Ground.guard }], some (11, false)⟩) (v := undef) rfl (by kernel_rfl) (by kernel_rfl) (by kernel_rfl) (fun _ _ _ h => h) (Or.inr ⟨by rfl, rfl⟩) hHeld ?_)
    | (refine wpAnyH_take (i := 18) (oi := ⟨some 93, Op.binOp BinOp.neq 3 (Operand.tmp 90) (Operand.tmp 92) 3, 4, _, #[{ on := 15, ground := Ground.data }, { on := 17, ground := Ground.data }, { on := 11, ground := Ground.guard }], some (11, false)⟩) (v := ?v18) rfl (by kernel_rfl) (by kernel_rfl) (by kernel_rfl) (fun _ _ _ h => h) (Or.inl ⟨by rfl, ?hy18⟩) hHeld ?rest18; case hy18 => (intro w' hSw; go_simp; try with_reducible rfl))
  try simp only [Act.put, List.setIfInBounds_toArray, List.set_cons_zero, List.set_cons_succ]
  refine wpAnyH_ready (rs := [14]) (by kernel_rfl) (by simp) ?_
  refine AllReadyH.cons (o := ⟨some 89, Op.call { callee := Callee.value (Operand.func 9), args := #[Operand.tmp 87, Operand.tmp 88], argTypes := #[22, 22] }, 4, _, #[{ on := 12, ground := Ground.data }, { on := 13, ground := Ground.data }, { on := 11, ground := Ground.chain }, { on := 11, ground := Ground.guard }], some (11, false)⟩) rfl (fun K hK => ?_) AllReadyH.nil
  go_simp
  refine (dDiffer_any _ _ _ (hG0.call (bthen hB hHeld)) U1 U2).mono ?_
  rintro e wr1 ⟨rfl, hb⟩
  rw [Q4.out]
  go_wp2_with fail
  have hB2 := bthen hHeld hb
  clear hHeld hb
  refine hK.out _ _ hB2 (fun hHeld => ?_)
  clear hB2 hK K
  try simp only [Act.put, List.setIfInBounds_toArray, List.set_cons_zero, List.set_cons_succ]
  first
    | (refine wpAnyH_take (i := 19) (oi := ⟨some 94, Op.binOp BinOp.eql 4 (Operand.tmp 89) (Operand.tmp 93) 4, 4, _, #[{ on := 14, ground := Ground.data }, { on := 18, ground := Ground.data }, { on := 11, ground := Ground.guard }], some (11, false)⟩) (v := undef) rfl (by kernel_rfl) (by kernel_rfl) (by kernel_rfl) (fun _ _ _ h => h) (Or.inr ⟨by rfl, rfl⟩) hHeld ?_)
    | (refine wpAnyH_take (i := 19) (oi := ⟨some 94, Op.binOp BinOp.eql 4 (Operand.tmp 89) (Operand.tmp 93) 4, 4, _, #[{ on := 14, ground := Ground.data }, { on := 18, ground := Ground.data }, { on := 11, ground := Ground.guard }], some (11, false)⟩) (v := ?v19) rfl (by kernel_rfl) (by kernel_rfl) (by kernel_rfl) (fun _ _ _ h => h) (Or.inl ⟨by rfl, ?hy19⟩) hHeld ?rest19; case hy19 => (intro w' hSw; go_simp; try with_reducible rfl))
  try simp only [Act.put, List.setIfInBounds_toArray, List.set_cons_zero, List.set_cons_succ]
  refine wpAnyH_take (i := 20) (oi := ⟨some 95, Op.pick (Operand.tmp 86) (Operand.const (Value.bool true)) (Operand.tmp 94), 4, _, #[{ on := 11, ground := Ground.data }, { on := 19, ground := Ground.data }], none⟩) (v := ?v20) rfl (by kernel_rfl) (by kernel_rfl) (by kernel_rfl) (fun _ _ _ h => h) (Or.inl ⟨by rfl, ?hy20⟩) hHeld ?rest20
  case hy20 => (intro w' hSw; go_simp; try with_reducible rfl)
  try simp only [Act.put, List.setIfInBounds_toArray, List.set_cons_zero, List.set_cons_succ]
  refine wpAnyH_take (i := 21) (oi := ⟨some 96, Op.move (Operand.tmp 95), 4, _, #[{ on := 20, ground := Ground.data }, { on := 14, ground := Ground.chain }], none⟩) (v := ?v21) rfl (by kernel_rfl) (by kernel_rfl) (by kernel_rfl) (fun _ _ _ h => h) (Or.inl ⟨by rfl, ?hy21⟩) hHeld ?rest21
  case hy21 => (intro w' hSw; go_simp; try with_reducible rfl)
  try simp only [Act.put, List.setIfInBounds_toArray, List.set_cons_zero, List.set_cons_succ]
  refine wpAnyH_ready (rs := [22]) (by kernel_rfl) (by simp) ?_
  refine AllReadyH.cons (o := ⟨some 97, Op.call { callee := Callee.value (Operand.func 10), args := #[], argTypes := #[] }, 4, _, #[{ on := 21, ground := Ground.chain }, { on := 21, ground := Ground.guard }], some (21, true)⟩) rfl (fun K hK => ?_) AllReadyH.nil
  go_simp
  refine (wakes3_any _ (hG0.call (bthen hB hHeld))).mono ?_
  rintro e wr2 ⟨rfl, hb⟩
  go_wp2_with fail
  have hB2 := bthen hHeld hb
  clear hHeld hb
  refine hK.out _ _ hB2 (fun hHeld => ?_)
  clear hB2 hK K
  try simp only [Act.put, List.setIfInBounds_toArray, List.set_cons_zero, List.set_cons_succ]
  refine wpAnyH_take (i := 23) (oi := ⟨some 98, Op.pick (Operand.tmp 96) (Operand.tmp 97) (Operand.const (Value.bool false)), 4, _, #[{ on := 21, ground := Ground.data }, { on := 22, ground := Ground.data }], none⟩) (v := ?v23) rfl (by kernel_rfl) (by kernel_rfl) (by kernel_rfl) (fun _ _ _ h => h) (Or.inl ⟨by rfl, ?hy23⟩) hHeld ?rest23
  case hy23 => (intro w' hSw; go_simp; try with_reducible rfl)
  try simp only [Act.put, List.setIfInBounds_toArray, List.set_cons_zero, List.set_cons_succ]
  refine wpAnyH_take (i := 24) (oi := ⟨some 6, Op.assign (Operand.tmp 98), 4, _, #[{ on := 23, ground := Ground.data }, { on := 22, ground := Ground.chain }, { on := 0, ground := Ground.phase }, { on := 1, ground := Ground.phase }, { on := 2, ground := Ground.phase }, { on := 3, ground := Ground.phase }, { on := 4, ground := Ground.phase }, { on := 5, ground := Ground.phase }, { on := 6, ground := Ground.phase }, { on := 7, ground := Ground.phase }, { on := 8, ground := Ground.phase }, { on := 9, ground := Ground.phase }, { on := 10, ground := Ground.phase }, { on := 11, ground := Ground.phase }, { on := 12, ground := Ground.phase }, { on := 13, ground := Ground.phase }, { on := 14, ground := Ground.phase }, { on := 15, ground := Ground.phase }, { on := 16, ground := Ground.phase }, { on := 17, ground := Ground.phase }, { on := 18, ground := Ground.phase }, { on := 19, ground := Ground.phase }, { on := 20, ground := Ground.phase }, { on := 21, ground := Ground.phase }, { on := 22, ground := Ground.phase }, { on := 23, ground := Ground.phase }], none⟩) (v := ?v24) rfl (by kernel_rfl) (by kernel_rfl) (by kernel_rfl) (fun _ _ _ h => h) (Or.inl ⟨by rfl, ?hy24⟩) hHeld ?rest24
  case hy24 => (intro w' hSw; go_simp; try with_reducible rfl)
  try simp only [Act.put, List.setIfInBounds_toArray, List.set_cons_zero, List.set_cons_succ]
  refine wpAnyH_done (by kernel_rfl) ?_ _
  replace hB := bthen hB hHeld
  clear hHeld
  go_wp2_with fail
  go_ret
  exact ⟨rfl, hB⟩
end Go.Proofs.YtlmfmpmcgokbeaaDoor
