/-
  DERIVED. GIVEN WITH THE SEED: THE CARDS: each row of YtlmfmpmcgokbeaaDoorRows.lean that lists a variable, with what it lists TIED to the program's text (the seventh form; the later family's looks); each row that meets fmt, with fmt's text TOLD by the authors' own Lean function (tested against real Go, not proved from fmt's source: count such statements apart). THE CARD IS WHAT COUNTS. Prove the row's statement (the work); the ties are given (YtlmfmpmcgokbeaaDoorTie.lean); close each card by the builder's one call (the guide's Derived/Test/ToyasCard.lean, 'card_holds'). Laid BY PROGRAM, IN A SANDBOX (cutbox-door.mjs). By AI agents, Wed Nov 11 2026. No macro, syntax, notation, axiom, sorry.
-/
import Derived.Test.YtlmfmpmcgokbeaaDoorRows
import GoSem.ClaimSeven
namespace Go.Proofs.YtlmfmpmcgokbeaaDoor
namespace Rows

/-- THE TIED CARD OF 'tenementlaw03.DescTouch'. -/
def descTouchCard : Claim7 := { stood := { row := descTouchRow, standIns := [], harness := (true, "4006ff16508ee215aa2a038344a3e7401cc42e12d8bed0519a7ecae173379082"), looks := false }, kinds := [], alts := [], laidByText := true, laidKinds := [.data, .data, .data, .data], laidTests := true, laidLooks := .later }
def DescTouchCardSaid : Prop := Claim7.holds Tryd.pinned (.plain (OpenSpec.ofChange descTouchSpec)) descTouchCard

/-- THE TIED CARD OF 'tenementlaw03.DescBack'. -/
def descBackCard : Claim7 := { stood := { row := descBackRow, standIns := [], harness := (true, "4006ff16508ee215aa2a038344a3e7401cc42e12d8bed0519a7ecae173379082"), looks := false }, kinds := [], alts := [], laidByText := true, laidKinds := [.data, .data, .data, .data], laidTests := true, laidLooks := .later }
def DescBackCardSaid : Prop := Claim7.holds Tryd.pinned (.plain (OpenSpec.ofChange descBackSpec)) descBackCard

/-- THE TIED CARD OF 'tenementlaw03.DescOne'. -/
def descOneCard : Claim7 := { stood := { row := descOneRow, standIns := [], harness := (true, "4006ff16508ee215aa2a038344a3e7401cc42e12d8bed0519a7ecae173379082"), looks := false }, kinds := [], alts := [], laidByText := true, laidKinds := [.data, .data, .data, .data], laidTests := true, laidLooks := .later }
def DescOneCardSaid : Prop := Claim7.holds Tryd.pinned (.plain (OpenSpec.ofChange descOneSpec)) descOneCard

/-- THE TIED CARD OF 'tenementlaw03.DescTells'. -/
def descTellsCard : Claim7 := { stood := { row := descTellsRow, standIns := [], harness := (true, "4006ff16508ee215aa2a038344a3e7401cc42e12d8bed0519a7ecae173379082"), looks := false }, kinds := [], alts := [], laidByText := true, laidKinds := [.data, .data, .data, .data], laidTests := true, laidLooks := .later }
def DescTellsCardSaid : Prop := Claim7.holds Tryd.pinned (.plain (OpenSpec.ofChange descTellsSpec)) descTellsCard

/-- THE SECOND FORM's CARD OF 'tenementlaw03.DescTouch'. -/
def descTouchUptoCard : Claim7 := { stood := { row := descTouchUptoRow, standIns := [], harness := (true, "4006ff16508ee215aa2a038344a3e7401cc42e12d8bed0519a7ecae173379082"), looks := false }, kinds := [], alts := [], laidByText := true, laidKinds := [.data, .data, .data, .data], laidTests := true, laidLooks := .later }
def DescTouchUptoCardSaid : Prop := Claim7.holds Tryd.pinned (.plain (OpenSpec.upto descTouchSpec)) descTouchUptoCard

/-- THE SECOND FORM's CARD OF 'tenementlaw03.DescBack'. -/
def descBackUptoCard : Claim7 := { stood := { row := descBackUptoRow, standIns := [], harness := (true, "4006ff16508ee215aa2a038344a3e7401cc42e12d8bed0519a7ecae173379082"), looks := false }, kinds := [], alts := [], laidByText := true, laidKinds := [.data, .data, .data, .data], laidTests := true, laidLooks := .later }
def DescBackUptoCardSaid : Prop := Claim7.holds Tryd.pinned (.plain (OpenSpec.upto descBackSpec)) descBackUptoCard

/-- THE SECOND FORM's CARD OF 'tenementlaw03.DescOne'. -/
def descOneUptoCard : Claim7 := { stood := { row := descOneUptoRow, standIns := [], harness := (true, "4006ff16508ee215aa2a038344a3e7401cc42e12d8bed0519a7ecae173379082"), looks := false }, kinds := [], alts := [], laidByText := true, laidKinds := [.data, .data, .data, .data], laidTests := true, laidLooks := .later }
def DescOneUptoCardSaid : Prop := Claim7.holds Tryd.pinned (.plain (OpenSpec.upto descOneSpec)) descOneUptoCard

/-- THE SECOND FORM's CARD OF 'tenementlaw03.DescTells'. -/
def descTellsUptoCard : Claim7 := { stood := { row := descTellsUptoRow, standIns := [], harness := (true, "4006ff16508ee215aa2a038344a3e7401cc42e12d8bed0519a7ecae173379082"), looks := false }, kinds := [], alts := [], laidByText := true, laidKinds := [.data, .data, .data, .data], laidTests := true, laidLooks := .later }
def DescTellsUptoCardSaid : Prop := Claim7.holds Tryd.pinned (.plain (OpenSpec.upto descTellsSpec)) descTellsUptoCard
end Rows
end Go.Proofs.YtlmfmpmcgokbeaaDoor
