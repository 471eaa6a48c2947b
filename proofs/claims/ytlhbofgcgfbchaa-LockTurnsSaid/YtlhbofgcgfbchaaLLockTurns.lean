/-
  'LockTurns': for every input the call returns true, and each argument reads afterwards as it read before. No condition beyond the given row's own.
-/
import Derived.Test.YtlhbofgcgfbchaaLift
import Derived.Test.YtlhbofgcgfbchaaLockTurns
import Derived.Test.YtlhbofgcgfbchaaOpenInts
namespace Go.Proofs.Ytlhbofgcgfbchaa.lockTurns
open Go.ChangeShapes Go.WideShapes Go.ChangeAt Go.RowKit
set_option linter.unusedVariables false
set_option linter.unusedSimpArgs false

theorem cells3 : Try.prog.cellsOf 3 = 1 := by kernel_rfl

set_option maxRecDepth 100000 in
theorem lifted (os : Os) (started : os.Started) (H : Type) (enc : TypeId × Value → H) :
    ReturnsInHanded {} Try.checked os 9 .any (Rows.lockTurnsSpec.pre6 enc Try.prog Try.f9 Rows.lockTurnsRow.domain false) (Rows.lockTurnsSpec.post enc Try.prog Try.f9 false true false false) := by
  refine returnsInHanded_of_change (C := Try.checked) A_own started (by kernel_rfl) Try.func9
    (ChangeSpec.witness6 (enc := enc) (C := Try.checked) false ⟨#[], #[.int .u64 0, .slice none 0 0], []⟩ 8 (by kernel_rfl) (by kernel_rfl) (by kernel_rfl) (by kernel_rfl)) ?_
  intro W base args ds gs before hval0 hW hcnd hsz
  have hval : ∀ (j : Nat) t v, Try.f9.params[j]? = some t → args[j]? = some v → Value.okWide Try.prog W .any base t v := hval0
  have hW' := hW
  obtain ⟨p, q, hA0, hV, rfl, hfz, hnd⟩ := hW
  have hA : DataW.TrodAll enc Try.prog W 0 (fun _ => true) true Try.f9.params.toList args.toList ds p := hA0
  obtain ⟨rfl, rfl⟩ := trodVars_none hV
  simp only [List.append_nil] at hW'
  have hback : ∀ W' : World, Below W.heap.size W W' → ∃ pa, DataW.TrodAll enc Try.prog W' 0 (fun b => decide (b < W.heap.size)) true Try.f9.params.toList args.toList ds pa :=
    fun W' hb => ⟨p, args_back A_laidOut hb (by kernel_rfl) (fun x hx => hW'.lt x hx) hA⟩
  rw [Try.params9] at hA hval
  obtain ⟨v0, vs0, d0, ds0, p0, q0, hargs, rfl, rfl, h0, r0⟩ := trodAll_cons hA
  obtain ⟨v1, vs1, d1, ds1, p1, q1, rfl, rfl, rfl, h1, r1⟩ := trodAll_cons r0
  obtain ⟨rfl, rfl, rfl⟩ := trodAll_nil r1
  obtain rfl : args = #[v0, v1] := by cases args; simp_all
  obtain ⟨a0, rfl, -, -, w0⟩ := open_int Try.underlying22 (hval 0 22 v0 rfl rfl) h0
  obtain ⟨O1, len1, cap1, zs1, rfl, lc1, lm1, wz1, hI1⟩ := open_intsArg Try.underlying53 Try.underlying3 cells3 (hval 1 53 v1 rfl rfl) h1
  clear hA0 hval0
  refine (lockTurns_any a0 W O1 len1 cap1 zs1 (u64_wf w0) hI1 lc1 (Nat.le_trans lc1 lm1)).mono fun e W' ⟨he, hb⟩ => ?_
  subst he
  obtain ⟨pa, hpa⟩ := hback W' hb
  exact ⟨_, rfl, _, _, _, [], pa, [], hW', (trodAll_cons_mk (shut_bool Try.underlying4 _) trodAll_mk0), hpa, rfl, hb.frame _, fun h => by cases h⟩

theorem over : Rows.lockTurnsRow.holds Try.pinned (OpenSpec.ofChange Rows.lockTurnsSpec) :=
  OpenClaim.holds_of_wide 9 Try.f9 rfl rfl rfl rfl rfl rfl rfl ⟨rfl, rfl, rfl, rfl, rfl⟩ rfl rfl rfl rfl rfl (by kernel_rfl) Try.func9 (by kernel_rfl)
    (of_decide_eq_true (by kernel_rfl)) (by unfold Func.isWrapper; first | (rw [if_pos (by decide +kernel)]; kernel_rfl) | (rw [if_neg (by decide +kernel)]; exact ⟨rfl, rfl⟩))
    (fun os started H enc _ => lifted os started H enc)

/-- The statement. -/
theorem proved : Rows.LockTurnsSaid :=
  over
#print axioms proved
end Go.Proofs.Ytlhbofgcgfbchaa.lockTurns
