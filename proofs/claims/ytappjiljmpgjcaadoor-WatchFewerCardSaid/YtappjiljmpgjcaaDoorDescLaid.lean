/-
  The package's tables as its text lays them: from the row's condition to the cells that the walks read.
-/
import Derived.Test.YtappjiljmpgjcaaDoorDescWalks
import Derived.ProofKit
import Derived.LaidMore
import Derived.OpenShut
import Derived.Stop.Joined
namespace Go.Proofs.YtappjiljmpgjcaaDoor
open Go.ChangeShapes Go.WideShapes Go.ChangeAt Go.RowKit
set_option linter.unusedVariables false
set_option linter.unusedSimpArgs false

section
variable {H : Type} {enc : TypeId × Value → H} {P : Program} {w : World} {base : Nat} {spare : Nat → Bool} {held : Bool}
theorem flat_cells {t e : TypeId} {n : Nat} {k : IntKind} {fuel : Nat} {cs : List Value} {zs : List Int} {p : List MemPlace} (ht : P.underlying t = some (.array n e)) (he : P.underlying e = some (.int k)) (hc : P.cellsOf e = 1)
    (h : DataW.trod enc P w base spare held fuel t cs = some (DataW.agg (zs.map fun z : Int => DataW.lit (Lit.int k z)), p)) : ∀ (i : Nat) (z : Int), zs[i]? = some z → cs[i]? = some (Value.int k z) := by
  obtain ⟨xs, m, _, hx, hlen, hn, hel⟩ := DataW.trod_array ht h
  simp only [Prod.mk.injEq, DataW.agg.injEq] at hx
  intro i z hz
  have hil : i < zs.length := (List.getElem?_eq_some_iff.1 hz).1
  have hxl : xs.length = zs.length := by have := congrArg List.length hx.1; simpa using this.symm
  have h1 := hel i (by omega)
  rw [hc, Nat.mul_one] at h1
  have hxs : xs[i]? = some xs[i] := List.getElem?_eq_getElem (by omega)
  rw [hxs] at h1
  obtain ⟨q, e1, e2, _⟩ := DataW.trod_int he h1
  have h2 : (zs.map fun z : Int => (DataW.lit (Lit.int k z) : DataW H))[i]? = (xs.map (·.1))[i]? := by rw [hx.1]
  rw [List.getElem?_map, List.getElem?_map, hz, hxs, e2] at h2
  simp only [Option.map_some, Option.some.injEq, DataW.lit.injEq, Lit.int.injEq, true_and] at h2
  subst h2
  have h3 : ((cs.drop i).take 1)[0]? = some (.int k z) := by rw [e1]; rfl
  rw [List.getElem?_take, List.getElem?_drop] at h3
  simpa using h3
theorem nested_cells {t s e : TypeId} {n m : Nat} {k : IntKind} {fuel : Nat} {cs : List Value} {zss : List (List Int)} {p : List MemPlace} (ht : P.underlying t = some (.array n s)) (hs : P.underlying s = some (.array m e)) (he : P.underlying e = some (.int k)) (hc : P.cellsOf e = 1) (hcs : P.cellsOf s = m)
    (h : DataW.trod enc P w base spare held fuel t cs = some (DataW.agg (zss.map fun zs : List Int => DataW.agg (zs.map fun z : Int => DataW.lit (Lit.int k z))), p)) : ∀ (i : Nat) (zs : List Int), zss[i]? = some zs → ∀ (j : Nat) (z : Int), zs[j]? = some z → j < m → cs[i * m + j]? = some (Value.int k z) := by
  obtain ⟨xs, q, _, hx, hlen, hn, hel⟩ := DataW.trod_array ht h
  simp only [Prod.mk.injEq, DataW.agg.injEq] at hx
  intro i zs hzs j z hz hj
  have hil : i < zss.length := (List.getElem?_eq_some_iff.1 hzs).1
  have hxl : xs.length = zss.length := by have := congrArg List.length hx.1; simpa using this.symm
  have h1 := hel i (by omega)
  rw [hcs] at h1
  have hxs : xs[i]? = some xs[i] := List.getElem?_eq_getElem (by omega)
  rw [hxs] at h1
  have h2 : (zss.map fun zs : List Int => (DataW.agg (zs.map fun z : Int => DataW.lit (Lit.int k z)) : DataW H))[i]? = (xs.map (·.1))[i]? := by rw [hx.1]
  rw [List.getElem?_map, List.getElem?_map, hzs, hxs] at h2
  simp only [Option.map_some, Option.some.injEq] at h2
  have h3 : DataW.trod enc P w base spare held q s ((cs.drop (i * m)).take m) = some (DataW.agg (zs.map fun z : Int => DataW.lit (Lit.int k z)), xs[i].2) := by
    rw [h1, h2]
  have h4 := flat_cells hs he hc h3 j z hz
  rw [List.getElem?_take, List.getElem?_drop] at h4
  simpa [hj] using h4
end
theorem gPlaces : Tryd.prog.globalNamed "tenement/desc.places" = some 3 := by kernel_rfl
theorem gKinds : Tryd.prog.globalNamed "tenement/desc.kinds" = some 0 := by kernel_rfl
theorem gLow : Tryd.prog.globalNamed "tenement/desc.low" = some 1 := by kernel_rfl
theorem gNamed : Tryd.prog.globalNamed "tenement/desc.named" = some 2 := by kernel_rfl
theorem tPlaces : (Tryd.prog.globals[3]?).map (·.type) = some 123 := by kernel_rfl
theorem tKinds : (Tryd.prog.globals[0]?).map (·.type) = some 114 := by kernel_rfl
theorem tLow : (Tryd.prog.globals[1]?).map (·.type) = some 116 := by kernel_rfl
theorem tNamed : (Tryd.prog.globals[2]?).map (·.type) = some 116 := by kernel_rfl
def laidD : List (String × DataW Unit) := [("tenement/desc.places", Rows.laid_tenement_desc_places), ("tenement/desc.named", Rows.laid_tenement_desc_named), ("tenement/desc.low", Rows.laid_tenement_desc_low), ("tenement/desc.kinds", Rows.laid_tenement_desc_kinds)]
theorem has_of {W : World} {b : Nat} {cs : List Value} (hne : cs ≠ []) (h : ∀ i v, cs[i]? = some v → W.cell? ⟨b, i, none⟩ = some v) : Has W b cs := by
  refine ⟨?_, h⟩
  cases cs with
  | nil => exact absurd rfl hne
  | cons v l => exact World.block_lt_of_cell? W ⟨b, 0, none⟩ (h 0 v rfl)
theorem of_laid {W : World} (h : laidMetH Tryd.prog laidD W) : G W := by
  rw [MakeChecks.laidMetH_plain _ _ _ (by kernel_rfl)] at h
  obtain ⟨ps, ⟨g0, t0, cs0, f0, p0, q0, hg0, ht0, hv0, hd0, ⟨g1, t1, cs1, f1, p1, q1, hg1, ht1, hv1, hd1, ⟨g2, t2, cs2, f2, p2, q2, hg2, ht2, hv2, hd2, ⟨g3, t3, cs3, f3, p3, q3, hg3, ht3, hv3, hd3, _, _⟩, _⟩, _⟩, _⟩, _, _⟩ := h
  obtain rfl := Option.some.inj (gPlaces.symm.trans hg0)
  obtain rfl := Option.some.inj (gNamed.symm.trans hg1)
  obtain rfl := Option.some.inj (gLow.symm.trans hg2)
  obtain rfl := Option.some.inj (gKinds.symm.trans hg3)
  obtain rfl := Option.some.inj (tPlaces.symm.trans ht0)
  obtain rfl := Option.some.inj (tNamed.symm.trans ht1)
  obtain rfl := Option.some.inj (tLow.symm.trans ht2)
  obtain rfl := Option.some.inj (tKinds.symm.trans ht3)
  have c3 : Tryd.prog.cellsOf 3 = 1 := by kernel_rfl
  have c22 : Tryd.prog.cellsOf 30 = 1 := by kernel_rfl
  have c25 : Tryd.prog.cellsOf 29 = 1 := by kernel_rfl
  have c41 : Tryd.prog.cellsOf 103 = 2 := by kernel_rfl
  have k0 := nested_cells (zss := [[6, 6], [7, 7], [10, 10], [11, 11], [47, 12]]) Tryd.underlying123 Tryd.underlying103 Tryd.underlying3 c3 c41 hd0
  have k1 := flat_cells (zs := [0, 281474976706563, 281474976709827]) Tryd.underlying116 Tryd.underlying30 c22 hd1
  have k2 := flat_cells (zs := [0, 3, 3]) Tryd.underlying116 Tryd.underlying30 c22 hd2
  have k3 := flat_cells (zs := [1, 1, 1, 2]) Tryd.underlying114 Tryd.underlying29 c25 hd3
  have v0 := World.var?_cell hg0 hv0
  have v1 := World.var?_cell hg1 hv1
  have v2 := World.var?_cell hg2 hv2
  have v3 := World.var?_cell hg3 hv3
  have e0 : ∀ i : Nat, cs0[i]? = cs0.toList[i]? := fun i => Array.getElem?_toList.symm
  have e1 : ∀ i : Nat, cs1[i]? = cs1.toList[i]? := fun i => Array.getElem?_toList.symm
  have e2 : ∀ i : Nat, cs2[i]? = cs2.toList[i]? := fun i => Array.getElem?_toList.symm
  have e3 : ∀ i : Nat, cs3[i]? = cs3.toList[i]? := fun i => Array.getElem?_toList.symm
  refine ⟨has_of (by intro h; cases h) ?_, has_of (by intro h; cases h) ?_, has_of (by intro h; cases h) ?_, has_of (by intro h; cases h) ?_⟩
  · intro i v hi
    rw [v0, e0]
    have hlt : i < 10 := (List.getElem?_eq_some_iff.1 hi).1
    have hi' : i = 0 ∨ i = 1 ∨ i = 2 ∨ i = 3 ∨ i = 4 ∨ i = 5 ∨ i = 6 ∨ i = 7 ∨ i = 8 ∨ i = 9 := by omega
    rcases hi' with rfl | rfl | rfl | rfl | rfl | rfl | rfl | rfl | rfl | rfl
    · rw [← hi]; exact k0 0 _ rfl 0 _ rfl (by omega)
    · rw [← hi]; exact k0 0 _ rfl 1 _ rfl (by omega)
    · rw [← hi]; exact k0 1 _ rfl 0 _ rfl (by omega)
    · rw [← hi]; exact k0 1 _ rfl 1 _ rfl (by omega)
    · rw [← hi]; exact k0 2 _ rfl 0 _ rfl (by omega)
    · rw [← hi]; exact k0 2 _ rfl 1 _ rfl (by omega)
    · rw [← hi]; exact k0 3 _ rfl 0 _ rfl (by omega)
    · rw [← hi]; exact k0 3 _ rfl 1 _ rfl (by omega)
    · rw [← hi]; exact k0 4 _ rfl 0 _ rfl (by omega)
    · rw [← hi]; exact k0 4 _ rfl 1 _ rfl (by omega)
  · intro i v hi
    rw [v3, e3]
    have hlt : i < 4 := (List.getElem?_eq_some_iff.1 hi).1
    have hi' : i = 0 ∨ i = 1 ∨ i = 2 ∨ i = 3 := by omega
    rcases hi' with rfl | rfl | rfl | rfl
    · rw [← hi]; exact k3 0 _ rfl
    · rw [← hi]; exact k3 1 _ rfl
    · rw [← hi]; exact k3 2 _ rfl
    · rw [← hi]; exact k3 3 _ rfl
  · intro i v hi
    rw [v2, e2]
    have hlt : i < 3 := (List.getElem?_eq_some_iff.1 hi).1
    have hi' : i = 0 ∨ i = 1 ∨ i = 2 := by omega
    rcases hi' with rfl | rfl | rfl
    · rw [← hi]; exact k2 0 _ rfl
    · rw [← hi]; exact k2 1 _ rfl
    · rw [← hi]; exact k2 2 _ rfl
  · intro i v hi
    rw [v1, e1]
    have hlt : i < 3 := (List.getElem?_eq_some_iff.1 hi).1
    have hi' : i = 0 ∨ i = 1 ∨ i = 2 := by omega
    rcases hi' with rfl | rfl | rfl
    · rw [← hi]; exact k1 0 _ rfl
    · rw [← hi]; exact k1 1 _ rfl
    · rw [← hi]; exact k1 2 _ rfl
/-- The door's own heap meets the condition. -/
theorem door_met (os : Os) (args : Array Value) : laidMetH Tryd.prog laidD ((World.doorLaid Tryd.prog 400 os).forCall (fun _ _ => 0) ⟨#[], args, []⟩).memory :=
  laidMetH_of_parts3 (fuel := 8) (laidMet_of_run' 8 (by kernel_rfl) (by kernel_rfl)) (by kernel_rfl) (by kernel_rfl)
end Go.Proofs.YtappjiljmpgjcaaDoor
