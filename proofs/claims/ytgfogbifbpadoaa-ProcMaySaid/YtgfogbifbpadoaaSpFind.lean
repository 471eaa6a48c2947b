/-
  Package space: where a page is.
-/
import Derived.Test.YtgfogbifbpadoaaSpWalks
namespace Go.Proofs.Ytgfogbifbpadoaa
open Go.RowKit
set_option linter.unusedVariables false
set_option linter.unusedSimpArgs false
/-- The search's question. -/
def pB (l : List Reg) (p : Int) (k : Nat) : Bool := decide (p < (rg l k).f + (rg l k).c)
/-- What the search's closure has caught: the regions and the page. -/
def Caught (w : World) (B C : Nat) (O : Option Addr) (len cap : Nat) (p : Int) : Prop := w.cell? ⟨B, 0, none⟩ = some (.slice O len cap) ∧ w.cell? ⟨C, 0, none⟩ = some (.int .u64 p)
theorem Caught.call {w w' : World} {B C : Nat} {O : Option Addr} {len cap : Nat} {p : Int} (h : Caught w B C O len cap p) (hb : Below w.heap.size w w') : Caught w' B C O len cap p :=
  ⟨(hb.cell (p := ⟨B, 0, none⟩) (World.block_lt_of_cell? w ⟨B, 0, none⟩ h.1)).trans h.1, (hb.cell (p := ⟨C, 0, none⟩) (World.block_lt_of_cell? w ⟨C, 0, none⟩ h.2)).trans h.2⟩
theorem behind_mono {l : List Reg} (h : chainB 0 l = true) {i j : Nat} (hij : i ≤ j) (hj : j < l.length) : (rg l i).f + (rg l i).c ≤ (rg l j).f + (rg l j).c := by
  by_cases e : i = j
  · subst e; exact Int.le_refl _
  · have h1 := chain_lt l 0 h i j (by omega) hj
    have h2 := chain_at l 0 h j hj
    omega
/-- What a search leaves. -/
def SrPost (l : List Reg) (p : Int) (w : World) (e : Ending) (w' : World) : Prop := ∃ k : Nat, e = .returned (.int .i64 k) ∧ Plc l p k ∧ Below w.heap.size w w'
def SrRel (w0 : World) (l : List Reg) (p : Int) (i j : Value) (w : World) : Prop :=
  ∃ a b : Nat, i = .int .i64 a ∧ j = .int .i64 b ∧ a ≤ b ∧ b ≤ l.length ∧ (∀ t, t < a → (rg l t).f + (rg l t).c ≤ p) ∧ (∀ t, b ≤ t → t < l.length → p < (rg l t).f + (rg l t).c) ∧ Below w0.heap.size w0 w
end Go.Proofs.Ytgfogbifbpadoaa
