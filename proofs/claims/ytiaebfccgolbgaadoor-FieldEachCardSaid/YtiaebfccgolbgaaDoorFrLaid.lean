/-
  The table as its text lays it: from the row's condition to the cells that the walks read.
-/
import Derived.Test.YtiaebfccgolbgaaDoorFrBase
import Derived.ProofKit
import Derived.LaidMore
import Derived.OpenShut
import Derived.Stop.Joined
namespace Go.Proofs.YtiaebfccgolbgaaDoor
open Go.ChangeShapes Go.WideShapes Go.ChangeAt Go.RowKit
set_option linter.unusedVariables false
set_option linter.unusedSimpArgs false

section
variable {H : Type} {enc : TypeId × Value → H} {P : Program} {w : World} {base : Nat} {spare : Nat → Bool} {held : Bool}
theorem flat_cells {t e : TypeId} {n : Nat} {k : IntKind} {fuel : Nat} {cs : List Value} {zs : List Int} {p : List MemPlace} (ht : P.underlying t = some (.array n e)) (he : P.underlying e = some (.int k)) (hc : P.cellsOf e = 1)
    (h : DataW.trod enc P w base spare held fuel t cs = some (DataW.agg (zs.map fun z : Int => DataW.lit (Lit.int k z)), p)) : ∀ (i : Nat) (z : Int), zs[i]? = some z → cs[i]? = some (Value.int k z) := by
  obtain ⟨xs, m, _, hx, hlen, hn, hel⟩ := DataW.trod_array ht h
  simp only [Prod.mk.injEq, DataW.agg.injEq] at hx
  intro i z hz
  have hil : i < zs.length := (List.getElem?_eq_some_iff.1 hz).1
  have hxl : xs.length = zs.length := by have := congrArg List.length hx.1; simpa using this.symm
  have h1 := hel i (by omega)
  rw [hc, Nat.mul_one] at h1
  have hxs : xs[i]? = some xs[i] := List.getElem?_eq_getElem (by omega)
  rw [hxs] at h1
  obtain ⟨q, e1, e2, _⟩ := DataW.trod_int he h1
  have h2 : (zs.map fun z : Int => (DataW.lit (Lit.int k z) : DataW H))[i]? = (xs.map (·.1))[i]? := by rw [hx.1]
  rw [List.getElem?_map, List.getElem?_map, hz, hxs, e2] at h2
  simp only [Option.map_some, Option.some.injEq, DataW.lit.injEq, Lit.int.injEq, true_and] at h2
  subst h2
  have h3 : ((cs.drop i).take 1)[0]? = some (.int k z) := by rw [e1]; rfl
  rw [List.getElem?_take, List.getElem?_drop] at h3
  simpa using h3
end
theorem gTab : Tryd.prog.globalNamed "math/bits.deBruijn64tab" = some 0 := by kernel_rfl
theorem tTab : (Tryd.prog.globals[0]?).map (·.type) = some 39 := by kernel_rfl
def laidD : List (String × DataW Unit) := [("math/bits.deBruijn64tab", Rows.laid_math_bits_deBruijn64tab)]
theorem of_laid {W : World} (h : laidMetH Tryd.prog laidD W) : G W := by
  rw [MakeChecks.laidMetH_plain _ _ _ (by kernel_rfl)] at h
  obtain ⟨ps, ⟨g0, t0, cs0, f0, p0, q0, hg0, ht0, hv0, hd0, _, _⟩, _, _⟩ := h
  obtain rfl := Option.some.inj (gTab.symm.trans hg0)
  obtain rfl := Option.some.inj (tTab.symm.trans ht0)
  have c3 : Tryd.prog.cellsOf 5 = 1 := by kernel_rfl
  have k0 := flat_cells (zs := tabN) Tryd.underlying39 Tryd.underlying5 c3 hd0
  have v0 := World.var?_cell hg0 hv0
  have e0 : ∀ i : Nat, cs0[i]? = cs0.toList[i]? := fun i => Array.getElem?_toList.symm
  have hall : ∀ i v, tabL[i]? = some v → W.cell? ⟨0, i, none⟩ = some v := by
    intro i v hi
    rw [v0, e0]
    unfold tabL at hi
    rw [List.getElem?_map] at hi
    rcases hz : tabN[i]? with _ | z
    · rw [hz] at hi; cases hi
    · rw [hz] at hi
      simp at hi
      subst hi
      exact k0 i z hz
  exact ⟨World.block_lt_of_cell? W ⟨0, 0, none⟩ (hall 0 _ rfl), hall⟩
/-- The door's own heap meets the condition. -/
theorem door_met (os : Os) (args : Array Value) : laidMetH Tryd.prog laidD ((World.doorLaid Tryd.prog 400 os).forCall (fun _ _ => 0) ⟨#[], args, []⟩).memory :=
  laidMetH_of_parts3 (fuel := 8) (laidMet_of_run' 8 (by kernel_rfl) (by kernel_rfl)) (by kernel_rfl) (by kernel_rfl)
end Go.Proofs.YtiaebfccgolbgaaDoor
