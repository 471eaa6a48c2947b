/-
  A block whose first cells are known and may be written: kept over calls that change nothing old, new blocks, stores.
-/
import Derived.Below
import Derived.WalkKit
import Derived.Laws.NewBlocks
import Derived.Deep.Draws
import Derived.Laws.Rows
namespace Go.Proofs.YtappjiljmpgjcaaDoor
open Go.RowKit

/-- Block b of w begins with the cells cs, and none of these is frozen. -/
def Arr (w : World) (b : Nat) (cs : List Value) : Prop :=
  b < w.heap.size ∧ (∀ i v, cs[i]? = some v → w.cell? ⟨b, i, none⟩ = some v) ∧ (∀ i, i < cs.length → w.frozen? ⟨b, i, none⟩ = false)
section
variable {w w' : World} {b : Nat} {cs : List Value}
theorem Arr.lt (h : Arr w b cs) : b < w.heap.size := h.1
theorem Arr.cell (h : Arr w b cs) (i : Nat) (v : Value) (hi : cs[i]? = some v) : w.cell? ⟨b, i, none⟩ = some v := h.2.1 i v hi
theorem Arr.frozen (h : Arr w b cs) (i : Nat) (hi : i < cs.length) : w.frozen? ⟨b, i, none⟩ = false := h.2.2 i hi
theorem Arr.below {B : Nat} (h : Arr w b cs) (hb : Below B w w') (hB : b < B) : Arr w' b cs :=
  ⟨Nat.lt_of_lt_of_le h.1 hb.size, fun i v hi => (hb.cell (p := ⟨b, i, none⟩) hB).trans (h.2.1 i v hi), fun i hi => (hb.frozen (p := ⟨b, i, none⟩) hB).trans (h.2.2 i hi)⟩
theorem Arr.call (h : Arr w b cs) (hb : Below w.heap.size w w') : Arr w' b cs := h.below hb h.1
theorem Arr.drew (h : Arr w b cs) : Arr w.drew b cs := h
theorem Arr.drewN (h : Arr w b cs) (n : Nat) : Arr (w.drewN n) b cs := h
theorem Arr.alloc (h : Arr w b cs) (o : Obj) : Arr (w.alloc o) b cs := h.below ((Below.refl w.heap.size w).alloc (Nat.le_refl _) o) h.1
theorem Arr.set (h : Arr w b cs) (i : Nat) (hi : i < cs.length) (v : Value) : Arr (w.setCell ⟨b, i, none⟩ v) b (cs.set i v) := by
  refine ⟨by simpa using h.1, fun j u hj => ?_, fun j hj => ?_⟩
  · by_cases e : j = i
    · subst e
      rw [List.getElem?_set_self hi] at hj
      injection hj with hj
      subst hj
      obtain ⟨x, hx⟩ : ∃ x, cs[j]? = some x := ⟨cs[j], List.getElem?_eq_getElem hi⟩
      exact World.cell?_setCell_same _ _ _ (h.2.1 j x hx)
    · rw [List.getElem?_set_ne (by omega)] at hj
      rw [World.cell?_setCell_other _ _ _ _ (fun e' => e (by injection e' with _ e' _; exact e'.symm))]
      exact h.2.1 j u hj
  · rw [World.frozen?_setCell]
    exact h.2.2 j (by simpa using hj)
theorem Arr.far (h : Arr w b cs) {p : Addr} (hp : p.block ≠ b) (v : Value) : Arr (w.setCell p v) b cs := by
  refine ⟨by simpa using h.1, fun j u hj => ?_, fun j hj => ?_⟩
  · rw [World.cell?_setCell_other _ _ _ _ (fun e' => hp (by rw [e']))]
    exact h.2.1 j u hj
  · rw [World.frozen?_setCell]
    exact h.2.2 j hj
theorem Arr.new (w : World) (cs : Array Value) (t : TypeId) : Arr (w.alloc (.cells cs t)) w.heap.size cs.toList := by
  have hb : (w.alloc (.cells cs t)).heap[w.heap.size]? = some (.cells cs t (0, 0)) := heap_alloc_new w _
  refine ⟨by simp, fun j u hj => ?_, fun j hj => ?_⟩
  · rw [cell_of_row _ _ j cs t (0, 0) hb]
    simpa using hj
  · unfold World.frozen?
    rw [hb]
    simp
theorem Arr.nat (h : Arr w b cs) (i : Nat) (hi : i < cs.length) : w.cell? ⟨b, i, none⟩ = some cs[i] := h.2.1 i _ (List.getElem?_eq_getElem hi)
end
end Go.Proofs.YtappjiljmpgjcaaDoor
