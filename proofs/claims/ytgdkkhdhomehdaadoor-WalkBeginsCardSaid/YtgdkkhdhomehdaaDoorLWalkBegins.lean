/-
  'WalkBegins': for every input the call returns true, and each argument reads afterwards as it read before. No condition beyond the given row's own.
-/
import Derived.Test.YtgdkkhdhomehdaaDoorLift
import Derived.Test.YtgdkkhdhomehdaaDoorMwU
import Derived.Test.YtgdkkhdhomehdaaDoorOpen5
import Derived.Test.YtgdkkhdhomehdaaDoorMwX
import Derived.Test.YtgdkkhdhomehdaaDoorMwZ
import Derived.Test.YtgdkkhdhomehdaaDoorCards
import Derived.Test.YtgdkkhdhomehdaaDoorTie
import Derived.SevenTiedAt
import Derived.LaidMore
import Derived.Stop.Joined
namespace Go.Proofs.YtgdkkhdhomehdaaDoor.walkBegins
open Go.ChangeShapes Go.WideShapes Go.ChangeAt Go.RowKit
set_option linter.unusedVariables false
set_option linter.unusedSimpArgs false

theorem cells26 : Tryd.prog.cellsOf 26 = 5 := by kernel_rfl

set_option maxRecDepth 100000 in
theorem lifted (os : Os) (started : os.Started) (H : Type) (enc : TypeId × Value → H) :
    ReturnsInHanded {} Tryd.checked os 3 .any (fun w args => (Rows.walkBeginsSpec.pre enc Tryd.prog Tryd.f3 Rows.walkBeginsRow.domain false w args ∧ laidMetH Tryd.prog laidD w) ∧ sizedMet enc Tryd.prog Tryd.f3 (OpenSpec.ofChange Rows.walkBeginsSpec) false w args) (Rows.walkBeginsSpec.post enc Tryd.prog Tryd.f3 false true false false) := by
  refine returnsInHanded_of_change_and (C := Tryd.checked) (X := fun w _ => laidMetH Tryd.prog laidD w) (fun _ _ _ hh h => h.of_heap hh) A_own started (by kernel_rfl) Tryd.func3
    (ChangeSpec.witness_shaped (enc := enc) (C := Tryd.checked) (os := os) (X := fun w _ => laidMetH Tryd.prog laidD w) false (World.doorLaid Tryd.prog 400 os) #[.int .i64 0, .int .i64 0, .int .u64 0, .slice none 0 0, .agg #[.bool false, .int .i64 0, .int .u64 0, .int .i8 0, .int .i64 0]] 8 rfl (World.shaped_of_RefB (by kernel_rfl) (by kernel_rfl)) (by kernel_rfl) (by kernel_rfl) (by kernel_rfl) (door_met os _)) ?_
  intro W base args ds gs before hval0 hW _ _ hL _
  have hG := of_laid hL
  have hval : ∀ (j : Nat) t v, Tryd.f3.params[j]? = some t → args[j]? = some v → Value.okWide Tryd.prog W .any base t v := hval0
  have hW' := hW
  obtain ⟨p, q, hA0, hV, rfl, hfz, hnd⟩ := hW
  have hA : DataW.TrodAll enc Tryd.prog W 0 (fun _ => true) true Tryd.f3.params.toList args.toList ds p := hA0
  obtain ⟨rfl, rfl⟩ := trodVars_none hV
  simp only [List.append_nil] at hW'
  have hback : ∀ W' : World, Below W.heap.size W W' → ∃ pa, DataW.TrodAll enc Tryd.prog W' 0 (fun b => decide (b < W.heap.size)) true Tryd.f3.params.toList args.toList ds pa :=
    fun W' hb => ⟨p, args_back A_laidOut hb (by kernel_rfl) (fun x hx => hW'.lt x hx) hA⟩
  rw [Tryd.params3] at hA hval
  obtain ⟨v0, vs0, d0, ds0, p0, q0, hargs, rfl, rfl, h0, r0⟩ := trodAll_cons hA
  obtain ⟨v1, vs1, d1, ds1, p1, q1, rfl, rfl, rfl, h1, r1⟩ := trodAll_cons r0
  obtain ⟨v2, vs2, d2, ds2, p2, q2, rfl, rfl, rfl, h2, r2⟩ := trodAll_cons r1
  obtain ⟨v3, vs3, d3, ds3, p3, q3, rfl, rfl, rfl, h3, r3⟩ := trodAll_cons r2
  obtain ⟨v4, vs4, d4, ds4, p4, q4, rfl, rfl, rfl, h4, r4⟩ := trodAll_cons r3
  obtain ⟨rfl, rfl, rfl⟩ := trodAll_nil r4
  obtain rfl : args = #[v0, v1, v2, v3, v4] := by cases args; simp_all
  obtain ⟨a0, rfl, -, -, w0⟩ := open_int Tryd.underlying3 (hval 0 3 v0 rfl rfl) h0
  obtain ⟨a1, rfl, -, -, w1⟩ := open_int Tryd.underlying3 (hval 1 3 v1 rfl rfl) h1
  obtain ⟨a2, rfl, -, -, w2⟩ := open_int Tryd.underlying22 (hval 2 22 v2 rfl rfl) h2
  obtain ⟨O3, cap3, l3, rfl, lc3, lm3, wz3, hI3⟩ := open_stepsArg Tryd.underlying23 Tryd.underlying36 (by kernel_rfl) (by kernel_rfl) Tryd.underlying3 Tryd.underlying24 Tryd.underlying22 Tryd.underlying3 (hval 3 23 v3 rfl rfl) h3
  obtain ⟨c4_0, c4_1, c4_2, c4_3, c4_4, y4_0, y4_1, y4_2, y4_3, y4_4, m4, rfl, -, -, hy4_0, hy4_1, hy4_2, hy4_3, hy4_4⟩ := open_aggN5 Tryd.underlying26 (by kernel_rfl) cells26 (hval 4 26 v4 rfl rfl) h4
  obtain ⟨a4_0, e4_0, -⟩ := DataW.trod_bool Tryd.underlying4 hy4_0
  simp only [List.cons.injEq, and_true] at e4_0; subst e4_0
  obtain ⟨a4_1, e4_1, -, w4_1⟩ := DataW.trod_int Tryd.underlying3 hy4_1
  simp only [List.cons.injEq, and_true] at e4_1; subst e4_1
  obtain ⟨a4_2, e4_2, -, w4_2⟩ := DataW.trod_int Tryd.underlying22 hy4_2
  simp only [List.cons.injEq, and_true] at e4_2; subst e4_2
  obtain ⟨a4_3, e4_3, -, w4_3⟩ := DataW.trod_int Tryd.underlying24 hy4_3
  simp only [List.cons.injEq, and_true] at e4_3; subst e4_3
  obtain ⟨a4_4, e4_4, -, w4_4⟩ := DataW.trod_int Tryd.underlying3 hy4_4
  simp only [List.cons.injEq, and_true] at e4_4; subst e4_4
  clear hA0 hval0
  refine (walkBegins_any a0 a1 a2 O3 cap3 l3 ⟨a4_0, a4_1, a4_2, a4_3, a4_4⟩ W hG hI3 lc3 lm3 (u64_wf w4_2)).mono fun e W' ⟨he, hb⟩ => ?_
  subst he
  obtain ⟨pa, hpa⟩ := hback W' hb
  exact ⟨_, rfl, _, _, _, [], pa, [], hW', (trodAll_cons_mk (shut_bool Tryd.underlying4 _) trodAll_mk0), hpa, rfl, hb.frame _, fun h => by cases h⟩

theorem over : Rows.walkBeginsRow.holds Tryd.pinned (OpenSpec.ofChange Rows.walkBeginsSpec) :=
  OpenClaim.holds_of_wide 3 Tryd.f3 rfl rfl rfl rfl rfl rfl rfl ⟨rfl, rfl, rfl, rfl, rfl⟩ rfl rfl rfl rfl rfl (by kernel_rfl) Tryd.func3 (by kernel_rfl)
    (of_decide_eq_true (by kernel_rfl)) (by unfold Func.isWrapper; first | (rw [if_pos (by decide +kernel)]; kernel_rfl) | (rw [if_neg (by decide +kernel)]; exact ⟨rfl, rfl⟩))
    (fun os started H enc _ => lifted os started H enc)

/-- The statement: the tied card. -/
theorem proved : Rows.WalkBeginsCardSaid :=
  Claim7.holds_tied_plain_at .later [] [.data, .data, .data, .data] true (true, "15c57c24d83f003511d9fc00362e36c97b3db8b78fc29acf920c6d99a0349fe2") false
    over (fun _ h => by cases h) (by kernel_rfl) (fun _ h => by cases h) walkBegins_row_tie rfl ⟨rfl, rfl⟩ (by kernel_rfl) rfl
    (fun f fn hf hfn => by
      obtain rfl : f = 3 := Option.some.inj ((show Tryd.prog.funcNamed "tenement/tenementlaw12.WalkBegins" = some 3 by kernel_rfl).symm.trans hf) |>.symm
      obtain rfl : fn = Tryd.f3 := (Option.some.inj (Tryd.func3.symm.trans hfn)).symm
      exact ⟨by kernel_rfl, fun j t ht => by
        rw [Tryd.params3] at ht
        have hm : t ∈ [3, 3, 22, 23, 26] := by simpa using Array.mem_of_getElem? ht
        have hall : ([3, 3, 22, 23, 26].all fun u => !Tryd.prog.wantsStandIn u) = true := by kernel_rfl
        exact (show Tryd.prog.wantsStandIn t = false by simpa using List.all_eq_true.1 hall t hm)⟩)
    (by kernel_rfl)
#print axioms proved
end Go.Proofs.YtgdkkhdhomehdaaDoor.walkBegins
