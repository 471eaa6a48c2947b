/-
  DERIVED. GIVEN WITH THE SEED: THE CARDS: each row of YtaikkdlphfmgiaaDoorRows.lean that lists a variable, with what it lists TIED to the program's text (the seventh form; the later family's looks); each row that meets fmt, with fmt's text TOLD by the authors' own Lean function (tested against real Go, not proved from fmt's source: count such statements apart). THE CARD IS WHAT COUNTS. Prove the row's statement (the work); the ties are given (YtaikkdlphfmgiaaDoorTie.lean); close each card by the builder's one call (the guide's Derived/Test/ToyasCard.lean, 'card_holds'). Laid BY PROGRAM, IN A SANDBOX (cutbox-door.mjs). By AI agents, Wed Nov 11 2026. No macro, syntax, notation, axiom, sorry.
-/
import Derived.Test.YtaikkdlphfmgiaaDoorRows
import GoSem.ClaimSeven
namespace Go.Proofs.YtaikkdlphfmgiaaDoor
namespace Rows

/-- THE TIED CARD OF 'tenementlaw20.ShareEnds'. -/
def shareEndsCard : Claim7 := { stood := { row := shareEndsRow, standIns := [], harness := (true, "38d03d1ef93c761389870faf3b1a1df6ccba886e1bb70571b55d2cfa96457205"), looks := false }, kinds := [], alts := [], laidByText := true, laidKinds := [.data, .data, .data, .data], laidTests := true, laidLooks := .later }
def ShareEndsCardSaid : Prop := Claim7.holds Tryd.pinned (.plain (OpenSpec.ofChange shareEndsSpec)) shareEndsCard

/-- THE TIED CARD OF 'tenementlaw20.ShareDecides'. -/
def shareDecidesCard : Claim7 := { stood := { row := shareDecidesRow, standIns := [], harness := (true, "38d03d1ef93c761389870faf3b1a1df6ccba886e1bb70571b55d2cfa96457205"), looks := false }, kinds := [], alts := [], laidByText := true, laidKinds := [.data, .data, .data, .data], laidTests := true, laidLooks := .later }
def ShareDecidesCardSaid : Prop := Claim7.holds Tryd.pinned (.plain (OpenSpec.ofChange shareDecidesSpec)) shareDecidesCard

/-- THE TIED CARD OF 'tenementlaw20.ShareLoads'. -/
def shareLoadsCard : Claim7 := { stood := { row := shareLoadsRow, standIns := [], harness := (true, "38d03d1ef93c761389870faf3b1a1df6ccba886e1bb70571b55d2cfa96457205"), looks := false }, kinds := [], alts := [], laidByText := true, laidKinds := [.data, .data, .data, .data], laidTests := true, laidLooks := .later }
def ShareLoadsCardSaid : Prop := Claim7.holds Tryd.pinned (.plain (OpenSpec.ofChange shareLoadsSpec)) shareLoadsCard

/-- THE TIED CARD OF 'tenementlaw20.ShareRows'. -/
def shareRowsCard : Claim7 := { stood := { row := shareRowsRow, standIns := [], harness := (true, "38d03d1ef93c761389870faf3b1a1df6ccba886e1bb70571b55d2cfa96457205"), looks := false }, kinds := [], alts := [], laidByText := true, laidKinds := [.data, .data, .data, .data], laidTests := true, laidLooks := .later }
def ShareRowsCardSaid : Prop := Claim7.holds Tryd.pinned (.plain (OpenSpec.ofChange shareRowsSpec)) shareRowsCard

/-- THE SECOND FORM's CARD OF 'tenementlaw20.ShareEnds'. -/
def shareEndsUptoCard : Claim7 := { stood := { row := shareEndsUptoRow, standIns := [], harness := (true, "38d03d1ef93c761389870faf3b1a1df6ccba886e1bb70571b55d2cfa96457205"), looks := false }, kinds := [], alts := [], laidByText := true, laidKinds := [.data, .data, .data, .data], laidTests := true, laidLooks := .later }
def ShareEndsUptoCardSaid : Prop := Claim7.holds Tryd.pinned (.plain (OpenSpec.upto shareEndsSpec)) shareEndsUptoCard

/-- THE SECOND FORM's CARD OF 'tenementlaw20.ShareDecides'. -/
def shareDecidesUptoCard : Claim7 := { stood := { row := shareDecidesUptoRow, standIns := [], harness := (true, "38d03d1ef93c761389870faf3b1a1df6ccba886e1bb70571b55d2cfa96457205"), looks := false }, kinds := [], alts := [], laidByText := true, laidKinds := [.data, .data, .data, .data], laidTests := true, laidLooks := .later }
def ShareDecidesUptoCardSaid : Prop := Claim7.holds Tryd.pinned (.plain (OpenSpec.upto shareDecidesSpec)) shareDecidesUptoCard

/-- THE SECOND FORM's CARD OF 'tenementlaw20.ShareLoads'. -/
def shareLoadsUptoCard : Claim7 := { stood := { row := shareLoadsUptoRow, standIns := [], harness := (true, "38d03d1ef93c761389870faf3b1a1df6ccba886e1bb70571b55d2cfa96457205"), looks := false }, kinds := [], alts := [], laidByText := true, laidKinds := [.data, .data, .data, .data], laidTests := true, laidLooks := .later }
def ShareLoadsUptoCardSaid : Prop := Claim7.holds Tryd.pinned (.plain (OpenSpec.upto shareLoadsSpec)) shareLoadsUptoCard

/-- THE SECOND FORM's CARD OF 'tenementlaw20.ShareRows'. -/
def shareRowsUptoCard : Claim7 := { stood := { row := shareRowsUptoRow, standIns := [], harness := (true, "38d03d1ef93c761389870faf3b1a1df6ccba886e1bb70571b55d2cfa96457205"), looks := false }, kinds := [], alts := [], laidByText := true, laidKinds := [.data, .data, .data, .data], laidTests := true, laidLooks := .later }
def ShareRowsUptoCardSaid : Prop := Claim7.holds Tryd.pinned (.plain (OpenSpec.upto shareRowsSpec)) shareRowsUptoCard
end Rows
end Go.Proofs.YtaikkdlphfmgiaaDoor
