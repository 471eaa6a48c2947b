/-
  A struct of six one-cell fields, by value, opened.
-/
import Derived.Test.YtlmfmpmcgokbeaaDoorLift
namespace Go.Proofs.YtlmfmpmcgokbeaaDoor
open Go.ChangeShapes Go.WideShapes Go.ChangeAt Go.RowKit Go.Deep
set_option linter.unusedVariables false
theorem sixCells {α : Type} {cs : Array α} (h : cs.size = 6) : ∃ c0 c1 c2 c3 c4 c5, cs = #[c0, c1, c2, c3, c4, c5] := by
  obtain ⟨l⟩ := cs
  match l, h with
  | [c0, c1, c2, c3, c4, c5], _ => exact ⟨c0, c1, c2, c3, c4, c5, rfl⟩
theorem open_aggN6 {H : Type} {enc : TypeId × Value → H} {w : World} {base : Nat} {spare : Nat → Bool} {held : Bool} {P : Program} {r : Reach} {b0 : Nat} {t : TypeId} {f0 f1 f2 f3 f4 f5 : Field} {v : Value} {d : DataW H} {p : List MemPlace}
    (hs : P.underlying t = some (.struct #[f0, f1, f2, f3, f4, f5])) (hone : oneCellFields P #[f0, f1, f2, f3, f4, f5] = true) (hC : P.cellsOf t = 6) (hv : Value.okWide P w r b0 t v) (h : DataW.Trod enc P w base spare held t v d p) :
    ∃ (v0 v1 v2 v3 v4 v5 : Value) (y0 y1 y2 y3 y4 y5 : DataW H × List MemPlace) (n : Nat), v = .agg #[v0, v1, v2, v3, v4, v5] ∧ True ∧ True ∧
      DataW.trod enc P w base spare held n f0.type [v0] = some y0 ∧ DataW.trod enc P w base spare held n f1.type [v1] = some y1 ∧ DataW.trod enc P w base spare held n f2.type [v2] = some y2 ∧ DataW.trod enc P w base spare held n f3.type [v3] = some y3 ∧ DataW.trod enc P w base spare held n f4.type [v4] = some y4 ∧ DataW.trod enc P w base spare held n f5.type [v5] = some y5 := by
  obtain ⟨cs, rfl, hsz⟩ := okWide_struct hs hv
  obtain ⟨c0, c1, c2, c3, c4, c5, rfl⟩ := sixCells (hsz.trans hC)
  obtain ⟨fuel, hf⟩ := h
  obtain ⟨xs, n, _, _, _, hlen, hfs⟩ := DataW.trod_struct hs hf
  have get : ∀ i (f : Field), (#[f0, f1, f2, f3, f4, f5] : Array Field)[i]? = some f → ∃ y, xs[i]? = some y := fun i f hi => by
    have hi' : i < 6 := by have := (Array.getElem?_eq_some_iff.1 hi).1; simpa using this
    exact ⟨_, List.getElem?_eq_getElem (by have : xs.length = 6 := by simpa using hlen
                                           omega)⟩
  obtain ⟨y0, e0⟩ := get 0 f0 rfl
  obtain ⟨y1, e1⟩ := get 1 f1 rfl
  obtain ⟨y2, e2⟩ := get 2 f2 rfl
  obtain ⟨y3, e3⟩ := get 3 f3 rfl
  obtain ⟨y4, e4⟩ := get 4 f4 rfl
  obtain ⟨y5, e5⟩ := get 5 f5 rfl
  have h0 := hfs 0 f0 rfl; have h1 := hfs 1 f1 rfl; have h2 := hfs 2 f2 rfl; have h3 := hfs 3 f3 rfl; have h4 := hfs 4 f4 rfl; have h5 := hfs 5 f5 rfl
  rw [e0] at h0; rw [e1] at h1; rw [e2] at h2; rw [e3] at h3; rw [e4] at h4; rw [e5] at h5
  obtain ⟨o0, k0⟩ := hone_of hone 0 f0 rfl
  obtain ⟨o1, k1⟩ := hone_of hone 1 f1 rfl
  obtain ⟨o2, k2⟩ := hone_of hone 2 f2 rfl
  obtain ⟨o3, k3⟩ := hone_of hone 3 f3 rfl
  obtain ⟨o4, k4⟩ := hone_of hone 4 f4 rfl
  obtain ⟨o5, k5⟩ := hone_of hone 5 f5 rfl
  exact ⟨c0, c1, c2, c3, c4, c5, y0, y1, y2, y3, y4, y5, n, rfl, trivial, trivial, by simpa [Value.cells, o0, k0] using h0, by simpa [Value.cells, o1, k1] using h1, by simpa [Value.cells, o2, k2] using h2, by simpa [Value.cells, o3, k3] using h3, by simpa [Value.cells, o4, k4] using h4, by simpa [Value.cells, o5, k5] using h5⟩
end Go.Proofs.YtlmfmpmcgokbeaaDoor
