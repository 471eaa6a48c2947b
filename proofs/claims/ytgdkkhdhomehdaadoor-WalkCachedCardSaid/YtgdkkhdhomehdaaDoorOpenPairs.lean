/-
  A slice of structs of two integers that came in, opened.
-/
import Derived.Test.YtgdkkhdhomehdaaDoorLift
import Derived.ChangeSlices
import Derived.Deep.SlicePairs
namespace Go.Proofs.YtgdkkhdhomehdaaDoor
open Go.ChangeShapes Go.WideShapes Go.ChangeAt Go.RowKit Go.Deep
set_option linter.unusedVariables false
/-- A slice of pairs of integers lies in w. -/
def PairsK (k0 k1 : IntKind) (w : World) (O : Option Addr) (len : Nat) (xs ys : Nat → Int) : Prop := 0 < len → ∃ b off : Nat, O = some ⟨b, off, none⟩ ∧ ∀ i, i < len → w.cell? ⟨b, off + i * 2, none⟩ = some (.int k0 (xs i)) ∧ w.cell? ⟨b, off + (i * 2 + 1), none⟩ = some (.int k1 (ys i))
theorem open_pairsArg {H : Type} {enc : TypeId × Value → H} {P : Program} {w : World} {base : Nat} {held : Bool} {k0 k1 : IntKind} {r : Reach} {b0 : Nat} {t e : TypeId} {f0 f1 : Field} {v : Value} {d : DataW H} {p : List MemPlace}
    (ht : P.underlying t = some (.slice e)) (he : P.underlying e = some (.struct #[f0, f1])) (ce : P.cellsOf e = 2) (o0 : f0.offset = 0) (o1 : f1.offset = 1) (c0 : P.cellsOf f0.type = 1) (c1 : P.cellsOf f1.type = 1)
    (u0 : P.underlying f0.type = some (.int k0)) (u1 : P.underlying f1.type = some (.int k1)) (hv : Value.okWide P w r b0 t v) (h : DataW.Trod enc P w base (fun _ => true) held t v d p) :
    ∃ (O : Option Addr) (len cap : Nat) (xs ys : Nat → Int), v = .slice O len cap ∧ len ≤ cap ∧ cap ≤ maxLen ∧ (∀ i, i < len → (Lit.int k0 (xs i)).wf = true ∧ (Lit.int k1 (ys i)).wf = true) ∧ PairsK k0 k1 w O len xs ys := by
  obtain ⟨a0, len, cap, rfl⟩ := okWide_slice ht hv
  obtain ⟨fuel, hf⟩ := h
  rcases open_slice_pairs ht he ce o0 o1 c0 c1 hf with ⟨hcs, hx⟩ | ⟨a, len', cap', m, n, V0, V1, D0, D1, P0, P1, hcs, _, hl, hm, hmm, hx, hcell⟩
  · simp [Value.cells] at hcs
    obtain ⟨rfl, rfl, rfl⟩ := hcs
    exact ⟨none, 0, 0, fun _ => 0, fun _ => 0, rfl, Nat.le_refl _, by unfold maxLen; omega, fun i hi => by omega, fun h => by omega⟩
  · simp [Value.cells] at hcs
    obtain ⟨rfl, rfl, rfl⟩ := hcs
    simp only [if_true] at hmm
    have each : ∀ i, i < len → ∃ x y : Int, w.cell? (a.add (i * 2)) = some (.int k0 x) ∧ w.cell? (a.add (i * 2 + 1)) = some (.int k1 y) ∧ (Lit.int k0 x).wf = true ∧ (Lit.int k1 y).wf = true := fun i hi => by
      obtain ⟨h1, h2, h3, h4⟩ := hcell i (by omega)
      obtain ⟨x, e1, _, w1⟩ := DataW.trod_int u0 h3
      obtain ⟨y, e2, _, w2⟩ := DataW.trod_int u1 h4
      simp only [List.cons.injEq, and_true] at e1 e2
      rw [e1] at h1
      rw [e2] at h2
      exact ⟨x, y, h1, h2, w1, w2⟩
    let xs : Nat → Int := fun i => if h : i < len then (each i h).choose else 0
    let ys : Nat → Int := fun i => if h : i < len then (each i h).choose_spec.choose else 0
    have all : ∀ i, i < len → w.cell? (a.add (i * 2)) = some (.int k0 (xs i)) ∧ w.cell? (a.add (i * 2 + 1)) = some (.int k1 (ys i)) ∧ (Lit.int k0 (xs i)).wf = true ∧ (Lit.int k1 (ys i)).wf = true := fun i hi => by
      have := (each i hi).choose_spec.choose_spec
      simp only [xs, ys, hi, dif_pos]
      exact this
    refine ⟨some a, len, cap, xs, ys, rfl, hl, hm, fun i hi => (all i hi).2.2, fun h0 => ?_⟩
    obtain ⟨b, off, spot⟩ := a
    have hspot : spot = none := by simpa [Addr.add] using World.cell?_spot (all 0 (by omega)).1
    subst hspot
    refine ⟨b, off, rfl, fun i hi => ?_⟩
    have := all i hi
    have ad : ∀ j, (⟨b, off, none⟩ : Addr).add j = ⟨b, off + j, none⟩ := fun j => by unfold Addr.add; split <;> simp_all
    rw [ad, ad] at this
    exact ⟨this.1, this.2.1⟩
end Go.Proofs.YtgdkkhdhomehdaaDoor
