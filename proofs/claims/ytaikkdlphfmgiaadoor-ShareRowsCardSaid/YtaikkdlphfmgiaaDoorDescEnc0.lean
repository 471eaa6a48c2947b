/-
  desc.Encode at kind 0.
-/
import Derived.Test.YtaikkdlphfmgiaaDoorDescEnc
namespace Go.Proofs.YtaikkdlphfmgiaaDoor
open Go.RowKit
set_option linter.unusedVariables false
set_option linter.unusedSimpArgs false

set_option maxHeartbeats 16000000 in
theorem dEncode_0 (f v n : Int) (af ro us ng : Bool) (w : World) (hG : G w) (h0 : 0 ≤ f) (h1 : f ≤ 63)
    (hres : ((bits .andNot .u64 (orV (bits .or .u64 0 (f * 4096)) af ro us ng) 0 != 0) = false ∧ v = orV (bits .or .u64 0 (f * 4096)) af ro us ng ∧ n = 0) ∨ ((bits .andNot .u64 (orV (bits .or .u64 0 (f * 4096)) af ro us ng) 0 != 0) = true ∧ v = 0 ∧ n = 30)) :
    Calls Tryd.prog 50 #[.agg #[.int .i8 0, .int .i64 f, .bool af, .bool ro, .bool us, .bool ng]] w fun e w' => e = .returned (.tuple #[.int .u64 v, .int .i64 n]) ∧ Below w.heap.size w w' := by
  have i0 : ∀ (W : World) (x0 x1 x2 x3 : Bool), (Instr.index 86 (.agg #[.bool x0, .bool x1, .bool x2, .bool x3]) (.int .i64 0)).run Tryd.prog W = .ok (.bool x0) W := fun _ _ _ _ _ => by kernel_rfl
  have i1 : ∀ (W : World) (x0 x1 x2 x3 : Bool), (Instr.index 86 (.agg #[.bool x0, .bool x1, .bool x2, .bool x3]) (.int .i64 1)).run Tryd.prog W = .ok (.bool x1) W := fun _ _ _ _ _ => by kernel_rfl
  have i2 : ∀ (W : World) (x0 x1 x2 x3 : Bool), (Instr.index 86 (.agg #[.bool x0, .bool x1, .bool x2, .bool x3]) (.int .i64 2)).run Tryd.prog W = .ok (.bool x2) W := fun _ _ _ _ _ => by kernel_rfl
  have i3 : ∀ (W : World) (x0 x1 x2 x3 : Bool), (Instr.index 86 (.agg #[.bool x0, .bool x1, .bool x2, .bool x3]) (.int .i64 3)).run Tryd.prog W = .ok (.bool x3) W := fun _ _ _ _ _ => by kernel_rfl
  have g0 := (hG.alloc (.cells #[.int .i8 0, .int .i64 f, .bool af, .bool ro, .bool us, .bool ng] 54))
  have p9 := g0.1.2 9 _ rfl
  have l0 := g0.2.2.1.2 0 _ rfl
  have hR := Arr.new w #[.int .i8 0, .int .i64 f, .bool af, .bool ro, .bool us, .bool ng] 54
  have hB := ba (Below.refl w.heap.size w) (.cells #[.int .i8 0, .int .i64 f, .bool af, .bool ro, .bool us, .bool ng] 54)
  have HB := Lib.hid hres
  clear hG hres
  go_enter Tryd.func50, Tryd.ntmps50
  go_wp2
  go_quiet (fail)
  go_wp2_with fail
  refine (dflags_any _ _ _ _ _ _ _).mono ?_
  rintro e w1 ⟨rfl, hb⟩
  have g1 : G w1 := G.call (show G ((w.alloc (.cells #[.int .i8 0, .int .i64 f, .bool af, .bool ro, .bool us, .bool ng] 54)).drewN nq) from g0) hb
  have hR1 := (hR.drewN nq).call hb
  have hB1 := bthen (bdn hB nq) hb
  clear g0 hR hB hb p9 l0
  have p1 := g1.1.2 1 _ rfl
  have p3 := g1.1.2 3 _ rfl
  have p5 := g1.1.2 5 _ rfl
  have p7 := g1.1.2 7 _ rfl
  have n0 := g1.2.2.2.2 0 _ rfl
  have r0 := hR1.cell 0 _ rfl
  clear g1 hR1
  go_wp2_with fail
  cases us <;> cases ro <;> cases af <;> cases ng
  all_goals
    refine wp_loop_rounds 5 ?_
    rw [rounds_succ]
    go_wp2
    rw [rounds_succ]
    go_wp2
    rw [rounds_succ]
    go_wp2
    rw [rounds_succ]
    go_wp2
    rw [rounds_succ]
    rcases HB.out with ⟨hb0, hv, hn⟩ | ⟨hb0, hv, hn⟩
    · simp only [orV, orB, if_true, if_false, Bool.false_eq_true] at hb0 hv
      subst hv hn
      go_wp2
      go_ret2
      exact ⟨rfl, hB1⟩
    · simp only [orV, orB, if_true, if_false, Bool.false_eq_true] at hb0
      subst hv hn
      go_wp2
      go_ret2
      exact ⟨rfl, hB1⟩
end Go.Proofs.YtaikkdlphfmgiaaDoor
