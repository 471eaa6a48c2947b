/-
  'MemNil': for every input the call returns true, and each argument reads afterwards as it read before. No condition beyond the given row's own.
-/
import Derived.Test.YtlhbofgcgfbchaaLift
import Derived.Test.YtlhbofgcgfbchaaMemLaws
import Derived.Test.YtlhbofgcgfbchaaOpen5
namespace Go.Proofs.Ytlhbofgcgfbchaa.memNil
open Go.ChangeShapes Go.WideShapes Go.ChangeAt Go.RowKit
set_option linter.unusedVariables false
set_option linter.unusedSimpArgs false

theorem cells29 : Try.prog.cellsOf 29 = 5 := by kernel_rfl

set_option maxRecDepth 100000 in
theorem lifted (os : Os) (started : os.Started) (H : Type) (enc : TypeId × Value → H) :
    ReturnsInHanded {} Try.checked os 6 .any (Rows.memNilSpec.pre6 enc Try.prog Try.f6 Rows.memNilRow.domain false) (Rows.memNilSpec.post enc Try.prog Try.f6 false true false false) := by
  refine returnsInHanded_of_change (C := Try.checked) A_own started (by kernel_rfl) Try.func6
    (ChangeSpec.witness6 (enc := enc) (C := Try.checked) false ⟨#[], #[.int .u64 0, .int .u64 0, .agg #[.int .i8 0, .int .u64 0, .int .u64 0, .int .i64 0, .int .i64 0]], []⟩ 8 (by kernel_rfl) (by kernel_rfl) (by kernel_rfl) (by kernel_rfl)) ?_
  intro W base args ds gs before hval0 hW hcnd hsz
  have hval : ∀ (j : Nat) t v, Try.f6.params[j]? = some t → args[j]? = some v → Value.okWide Try.prog W .any base t v := hval0
  have hW' := hW
  obtain ⟨p, q, hA0, hV, rfl, hfz, hnd⟩ := hW
  have hA : DataW.TrodAll enc Try.prog W 0 (fun _ => true) true Try.f6.params.toList args.toList ds p := hA0
  obtain ⟨rfl, rfl⟩ := trodVars_none hV
  simp only [List.append_nil] at hW'
  have hback : ∀ W' : World, Below W.heap.size W W' → ∃ pa, DataW.TrodAll enc Try.prog W' 0 (fun b => decide (b < W.heap.size)) true Try.f6.params.toList args.toList ds pa :=
    fun W' hb => ⟨p, args_back A_laidOut hb (by kernel_rfl) (fun x hx => hW'.lt x hx) hA⟩
  rw [Try.params6] at hA hval
  obtain ⟨v0, vs0, d0, ds0, p0, q0, hargs, rfl, rfl, h0, r0⟩ := trodAll_cons hA
  obtain ⟨v1, vs1, d1, ds1, p1, q1, rfl, rfl, rfl, h1, r1⟩ := trodAll_cons r0
  obtain ⟨v2, vs2, d2, ds2, p2, q2, rfl, rfl, rfl, h2, r2⟩ := trodAll_cons r1
  obtain ⟨rfl, rfl, rfl⟩ := trodAll_nil r2
  obtain rfl : args = #[v0, v1, v2] := by cases args; simp_all
  obtain ⟨a0, rfl, -, -, w0⟩ := open_int Try.underlying22 (hval 0 22 v0 rfl rfl) h0
  obtain ⟨a1, rfl, -, -, w1⟩ := open_int Try.underlying22 (hval 1 22 v1 rfl rfl) h1
  obtain ⟨c2_0, c2_1, c2_2, c2_3, c2_4, y2_0, y2_1, y2_2, y2_3, y2_4, m2, rfl, -, -, hy2_0, hy2_1, hy2_2, hy2_3, hy2_4⟩ := open_aggN5 Try.underlying29 (by kernel_rfl) cells29 (hval 2 29 v2 rfl rfl) h2
  obtain ⟨a2_0, e2_0, -, w2_0⟩ := DataW.trod_int Try.underlying27 hy2_0
  simp only [List.cons.injEq, and_true] at e2_0; subst e2_0
  obtain ⟨a2_1, e2_1, -, w2_1⟩ := DataW.trod_int Try.underlying22 hy2_1
  simp only [List.cons.injEq, and_true] at e2_1; subst e2_1
  obtain ⟨a2_2, e2_2, -, w2_2⟩ := DataW.trod_int Try.underlying22 hy2_2
  simp only [List.cons.injEq, and_true] at e2_2; subst e2_2
  obtain ⟨a2_3, e2_3, -, w2_3⟩ := DataW.trod_int Try.underlying3 hy2_3
  simp only [List.cons.injEq, and_true] at e2_3; subst e2_3
  obtain ⟨a2_4, e2_4, -, w2_4⟩ := DataW.trod_int Try.underlying3 hy2_4
  simp only [List.cons.injEq, and_true] at e2_4; subst e2_4
  clear hA0 hval0
  refine (memNil_any a0 a1 a2_0 a2_1 a2_2 a2_3 a2_4 W).mono fun e W' ⟨he, hb⟩ => ?_
  subst he
  obtain ⟨pa, hpa⟩ := hback W' hb
  exact ⟨_, rfl, _, _, _, [], pa, [], hW', (trodAll_cons_mk (shut_bool Try.underlying4 _) trodAll_mk0), hpa, rfl, hb.frame _, fun h => by cases h⟩

theorem over : Rows.memNilRow.holds Try.pinned (OpenSpec.ofChange Rows.memNilSpec) :=
  OpenClaim.holds_of_wide 6 Try.f6 rfl rfl rfl rfl rfl rfl rfl ⟨rfl, rfl, rfl, rfl, rfl⟩ rfl rfl rfl rfl rfl (by kernel_rfl) Try.func6 (by kernel_rfl)
    (of_decide_eq_true (by kernel_rfl)) (by unfold Func.isWrapper; first | (rw [if_pos (by decide +kernel)]; kernel_rfl) | (rw [if_neg (by decide +kernel)]; exact ⟨rfl, rfl⟩))
    (fun os started H enc _ => lifted os started H enc)

/-- The statement. -/
theorem proved : Rows.MemNilSaid :=
  over
#print axioms proved
end Go.Proofs.Ytlhbofgcgfbchaa.memNil
