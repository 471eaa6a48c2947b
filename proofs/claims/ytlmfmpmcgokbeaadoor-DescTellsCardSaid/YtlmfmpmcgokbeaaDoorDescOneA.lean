/-
  The law DescOne of layer 3: the walk.
-/
import Derived.Test.YtlmfmpmcgokbeaaDoorDescBackW
import Derived.Laws.StructEq
import Derived.Deep.RegionHeld
namespace Go.Proofs.YtlmfmpmcgokbeaaDoor
open Go.RowKit
set_option linter.unusedVariables false
set_option linter.unusedSimpArgs false

def eqD (k f : Int) (af ro us ng : Bool) (k2 f2 : Int) (af2 ro2 us2 ng2 : Bool) : Bool := (k == k2) && ((f == f2) && ((af == af2) && ((ro == ro2) && ((us == us2) && (ng == ng2)))))
set_option maxHeartbeats 2000000 in
theorem eqDesc (k f k2 f2 : Int) (af ro us ng af2 ro2 us2 ng2 : Bool) (W : World) : (binOp .eql 27 (.agg #[.int .i8 k, .int .i64 f, .bool af, .bool ro, .bool us, .bool ng]) (.agg #[.int .i8 k2, .int .i64 f2, .bool af2, .bool ro2, .bool us2, .bool ng2])).run Tryd.prog W = .ok (.bool (eqD k f af ro us ng k2 f2 af2 ro2 us2 ng2)) W := by
  unfold eqD
  rcases h1 : (k == k2) with _ | _
  · go_simp
  rcases h2 : (f == f2) with _ | _
  · go_simp
  rcases h3 : (af == af2) with _ | _
  · go_simp
  rcases h4 : (ro == ro2) with _ | _
  · go_simp
  rcases h5 : (us == us2) with _ | _
  · go_simp
  rcases h6 : (ng == ng2) with _ | _
  · go_simp
  go_simp
theorem dV_inj {k f f2 : Int} {af ro us ng af2 ro2 us2 ng2 : Bool} (h : dOk k f af ro us ng = true) (h2 : dOk k f2 af2 ro2 us2 ng2 = true) (e : dV k f af ro us ng = dV k f2 af2 ro2 us2 ng2) : f = f2 ∧ af = af2 ∧ ro = ro2 ∧ us = us2 ∧ ng = ng2 := by
  by_cases hk : k = 1
  · obtain ⟨_, _, a1, a2, a3, a4, a5, _⟩ := enc_dec (l := 0) h (.inl ⟨hk, by omega, by omega⟩)
    obtain ⟨_, _, b1, b2, b3, b4, b5, _⟩ := enc_dec (l := 0) h2 (.inl ⟨hk, by omega, by omega⟩)
    rw [e] at a1 a2 a3 a4 a5
    exact ⟨a1.symm.trans b1, a2.symm.trans b2, a3.symm.trans b3, a4.symm.trans b4, a5.symm.trans b5⟩
  · obtain ⟨_, _, a1, a2, a3, a4, a5, _⟩ := enc_dec (l := 3) h (.inr ⟨hk, rfl⟩)
    obtain ⟨_, _, b1, b2, b3, b4, b5, _⟩ := enc_dec (l := 3) h2 (.inr ⟨hk, rfl⟩)
    rw [e] at a1 a2 a3 a4 a5
    exact ⟨a1.symm.trans b1, a2.symm.trans b2, a3.symm.trans b3, a4.symm.trans b4, a5.symm.trans b5⟩
theorem dV_eq {k f f2 : Int} {af ro us ng af2 ro2 us2 ng2 : Bool} (h : dOk k f af ro us ng = true) (h2 : dOk k f2 af2 ro2 us2 ng2 = true) : (dV k f af ro us ng == dV k f2 af2 ro2 us2 ng2) = eqD k f af ro us ng k f2 af2 ro2 us2 ng2 := by
  rcases e : eqD k f af ro us ng k f2 af2 ro2 us2 ng2 with _ | _
  · rw [beq_eq_false_iff_ne]
    intro e'
    obtain ⟨rfl, rfl, rfl, rfl, rfl⟩ := dV_inj h h2 e'
    simp [eqD] at e
  · simp only [eqD, Bool.and_eq_true, beq_iff_eq] at e
    obtain ⟨_, rfl, rfl, rfl, rfl, rfl⟩ := e
    simp
theorem dV_fr {k f fr : Int} {af ro us ng : Bool} (h : dOk k f af ro us ng = true) (h2 : dOk k fr af ro us ng = true) : (dV k fr af ro us ng == dV k f af ro us ng) = (fr == f) := by
  rw [dV_eq h2 h]; simp [eqD]
theorem dV_dif {f fr : Int} {af ro us ng : Bool} (h : dOk 2 f af ro us ng = true) (h2 : dOk 2 fr af ro us ng = true) : dif (dV 2 f af ro us ng) (dV 2 fr af ro us ng) = (fr != f) ∧ U64 (dV 2 f af ro us ng) ∧ U64 (dV 2 fr af ro us ng) := by
  obtain ⟨u1, p1, a1, _, _, _, _, _⟩ := enc_dec (l := 3) h (.inr ⟨by omega, rfl⟩)
  obtain ⟨u2, p2, b1, _, _, _, _, _⟩ := enc_dec (l := 3) h2 (.inr ⟨by omega, rfl⟩)
  have g1 : good (dV 2 f af ro us ng) 3 = true := by
    rcases e : good (dV 2 f af ro us ng) 3 with _ | _
    · simp [dk, e] at p1
    · rfl
  have g2 : good (dV 2 fr af ro us ng) 3 = true := by
    rcases e : good (dV 2 fr af ro us ng) 3 with _ | _
    · simp [dk, e] at p2
    · rfl
  refine ⟨?_, u1, u2⟩
  simp only [dif, g1, g2, a1, b1, Bool.true_and]
  by_cases e : f = fr
  · subst e; simp
  · have e' : fr ≠ f := fun h => e h.symm
    have a : (f == fr) = false := by simpa using e
    have b : (fr == f) = false := by simpa using e'
    simp [bne, a, b]
end Go.Proofs.YtlmfmpmcgokbeaaDoor
