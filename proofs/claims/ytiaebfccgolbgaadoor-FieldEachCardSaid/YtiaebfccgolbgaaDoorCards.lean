/-
  DERIVED. GIVEN WITH THE SEED: THE CARDS: each row of YtiaebfccgolbgaaDoorRows.lean that lists a variable, with what it lists TIED to the program's text (the seventh form; the later family's looks); each row that meets fmt, with fmt's text TOLD by the authors' own Lean function (tested against real Go, not proved from fmt's source: count such statements apart). THE CARD IS WHAT COUNTS. Prove the row's statement (the work); the ties are given (YtiaebfccgolbgaaDoorTie.lean); close each card by the builder's one call (the guide's Derived/Test/ToyasCard.lean, 'card_holds'). Laid BY PROGRAM, IN A SANDBOX (cutbox-door.mjs). By AI agents, Wed Nov 11 2026. No macro, syntax, notation, axiom, sorry.
-/
import Derived.Test.YtiaebfccgolbgaaDoorRows
import GoSem.ClaimSeven
namespace Go.Proofs.YtiaebfccgolbgaaDoor
namespace Rows

/-- THE TIED CARD OF 'tenementlaw01.FieldEach'. -/
def fieldEachCard : Claim7 := { stood := { row := fieldEachRow, standIns := [], harness := (true, "13d1ee16f434d4ef9e3b9f6bc0c13b0604235a1e802296c56a489fd6aea034df"), looks := false }, kinds := [], alts := [], laidByText := true, laidKinds := [.data], laidTests := true, laidLooks := .later }
def FieldEachCardSaid : Prop := Claim7.holds Tryd.pinned (.plain (OpenSpec.ofChange fieldEachSpec)) fieldEachCard

/-- THE SECOND FORM's CARD OF 'tenementlaw01.FieldEach'. -/
def fieldEachUptoCard : Claim7 := { stood := { row := fieldEachUptoRow, standIns := [], harness := (true, "13d1ee16f434d4ef9e3b9f6bc0c13b0604235a1e802296c56a489fd6aea034df"), looks := false }, kinds := [], alts := [], laidByText := true, laidKinds := [.data], laidTests := true, laidLooks := .later }
def FieldEachUptoCardSaid : Prop := Claim7.holds Tryd.pinned (.plain (OpenSpec.upto fieldEachSpec)) fieldEachUptoCard
end Rows
end Go.Proofs.YtiaebfccgolbgaaDoor
