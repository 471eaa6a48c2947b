/-
  A slice of structs of any kind, opened as far as each element's cells.
-/
import Derived.Test.YtappjiljmpgjcaaDoorLift
import Derived.ChangeSlices
import Derived.Deep.Slices
import Derived.Deep.Fields
import Derived.ChangeSame
namespace Go.Proofs.YtappjiljmpgjcaaDoor
open Go.ChangeShapes Go.WideShapes Go.ChangeAt Go.RowKit Go.Deep
set_option linter.unusedVariables false
/-- Each element's cells, and that they read. -/
theorem open_elems {H : Type} {enc : TypeId × Value → H} {P : Program} {w : World} {base : Nat} {held : Bool} {r : Reach} {b0 : Nat} {t e : TypeId} {v : Value} {d : DataW H} {p : List MemPlace} {C : Nat}
    (ht : P.underlying t = some (.slice e)) (hC : P.cellsOf e = C) (hp : 0 < C)
    (hv : Value.okWide P w r b0 t v) (h : DataW.Trod enc P w base (fun _ => true) held t v d p) :
    ∃ (O : Option Addr) (len cap : Nat), v = .slice O len cap ∧ len ≤ cap ∧ cap ≤ maxLen ∧ (0 < len → ∃ b off : Nat, O = some ⟨b, off, none⟩ ∧ ∀ i, i < len →
      ∃ (cs : List Value) (n : Nat) (y : DataW H × List MemPlace), cs.length = C ∧ (∀ j u, cs[j]? = some u → w.cell? ⟨b, off + (i * C + j), none⟩ = some u) ∧ DataW.trod enc P w base (fun _ => true) held n e cs = some y) := by
  obtain ⟨a0, len, cap, rfl⟩ := okWide_slice ht hv
  obtain ⟨fuel, hf⟩ := h
  rcases open_slice ht hf with ⟨hcs, hx⟩ | ⟨a, len', cap', m, n, D, Pl, hcs, hb, hl, hm, hmm, hx, hel⟩
  · simp [Value.cells] at hcs
    obtain ⟨rfl, rfl, rfl⟩ := hcs
    exact ⟨none, 0, 0, rfl, Nat.le_refl _, by unfold maxLen; omega, fun h => by omega⟩
  · simp [Value.cells] at hcs
    obtain ⟨rfl, rfl, rfl⟩ := hcs
    simp only [if_true] at hmm
    have each : ∀ i, i < len → ∃ (cs : List Value) (k : Nat) (y : DataW H × List MemPlace), cs.length = C ∧ (∀ j u, cs[j]? = some u → w.cell? (a.add (i * C + j)) = some u) ∧ DataW.trod enc P w base (fun _ => true) held k e cs = some y := by
      intro i hi
      obtain ⟨cs, h1, h2⟩ := hel i (by omega)
      rw [hC] at h1
      obtain ⟨_, hlen, hcell⟩ := World.cells?_some h1
      refine ⟨cs, _, _, hlen, fun j u hj => ?_, h2⟩
      have hjl : j < C := by have := (List.getElem?_eq_some_iff.1 hj).1; omega
      have c := hcell j hjl
      rw [Go.Deep.add_add, hj] at c
      exact c
    refine ⟨some a, len, cap, rfl, hl, hm, fun h0 => ?_⟩
    obtain ⟨b, off, spot⟩ := a
    obtain ⟨cs, _, _, hl0, hu, _⟩ := each 0 (by omega)
    have hspot : spot = none := by
      have := hu 0 _ (List.getElem?_eq_getElem (by omega))
      simpa [Addr.add] using World.cell?_spot this
    subst hspot
    refine ⟨b, off, rfl, fun i hi => ?_⟩
    have ad : ∀ q, (⟨b, off, none⟩ : Addr).add q = ⟨b, off + q, none⟩ := fun q => by unfold Addr.add; split <;> simp_all
    obtain ⟨cs, k, y, h0, h1, h2⟩ := each i hi
    simp only [ad] at h1
    exact ⟨cs, k, y, h0, h1, h2⟩
/-- A field of a struct's cells reads. -/
theorem field_reads {H : Type} {enc : TypeId × Value → H} {P : Program} {w : World} {base : Nat} {spare : Nat → Bool} {held : Bool} {t : TypeId} {fs : Array Field} {n : Nat} {cs : List Value} {y : DataW H × List MemPlace}
    (hs : P.underlying t = some (.struct fs)) (h : DataW.trod enc P w base spare held n t cs = some y) (i : Nat) (f : Field) (hi : fs[i]? = some f) :
    ∃ (k : Nat) (z : DataW H × List MemPlace), DataW.trod enc P w base spare held k f.type ((cs.drop f.offset).take (P.cellsOf f.type)) = some z := by
  obtain ⟨xs, k, _, _, _, hxl, hfl⟩ := DataW.trod_struct hs h
  have hlt : i < fs.size := (Array.getElem?_eq_some_iff.1 hi).1
  exact ⟨k, _, (hfl i f hi).trans (List.getElem?_eq_getElem (by omega))⟩
end Go.Proofs.YtappjiljmpgjcaaDoor
