/-
  DERIVED. GIVEN WITH THE SEED: THE CARDS: each row of YtokmcelmodoeoaaDoorRows.lean that lists a variable, with what it lists TIED to the program's text (the seventh form; the later family's looks); each row that meets fmt, with fmt's text TOLD by the authors' own Lean function (tested against real Go, not proved from fmt's source: count such statements apart). THE CARD IS WHAT COUNTS. Prove the row's statement (the work); the ties are given (YtokmcelmodoeoaaDoorTie.lean); close each card by the builder's one call (the guide's Derived/Test/ToyasCard.lean, 'card_holds'). Laid BY PROGRAM, IN A SANDBOX (cutbox-door.mjs). By AI agents, Wed Nov 11 2026. No macro, syntax, notation, axiom, sorry.
-/
import Derived.Test.YtokmcelmodoeoaaDoorRows
import GoSem.ClaimSeven
namespace Go.Proofs.YtokmcelmodoeoaaDoor
namespace Rows

/-- THE TIED CARD OF 'tenementlaw15.FramesCount'. -/
def framesCountCard : Claim7 := { stood := { row := framesCountRow, standIns := [], harness := (true, "e385c66dda0fcfe2fb3f1c9cc6bc8443d53156fd3b0faf02d1bfbab1b2c23f63"), looks := false }, kinds := [], alts := [], laidByText := true, laidKinds := [.data], laidTests := true, laidLooks := .later }
def FramesCountCardSaid : Prop := Claim7.holds Tryd.pinned (.plain (OpenSpec.ofChange framesCountSpec)) framesCountCard

/-- THE TIED CARD OF 'tenementlaw15.FramesPlay'. -/
def framesPlayCard : Claim7 := { stood := { row := framesPlayRow, standIns := [], harness := (true, "e385c66dda0fcfe2fb3f1c9cc6bc8443d53156fd3b0faf02d1bfbab1b2c23f63"), looks := false }, kinds := [], alts := [], laidByText := true, laidKinds := [.data], laidTests := true, laidLooks := .later }
def FramesPlayCardSaid : Prop := Claim7.holds Tryd.pinned (.plain (OpenSpec.ofChange framesPlaySpec)) framesPlayCard

/-- THE TIED CARD OF 'tenementlaw15.FramesNil'. -/
def framesNilCard : Claim7 := { stood := { row := framesNilRow, standIns := [], harness := (true, "e385c66dda0fcfe2fb3f1c9cc6bc8443d53156fd3b0faf02d1bfbab1b2c23f63"), looks := false }, kinds := [], alts := [], laidByText := true, laidKinds := [.data], laidTests := true, laidLooks := .later }
def FramesNilCardSaid : Prop := Claim7.holds Tryd.pinned (.plain (OpenSpec.ofChange framesNilSpec)) framesNilCard

/-- THE TIED CARD OF 'tenementlaw15.FramesLeast'. -/
def framesLeastCard : Claim7 := { stood := { row := framesLeastRow, standIns := [], harness := (true, "e385c66dda0fcfe2fb3f1c9cc6bc8443d53156fd3b0faf02d1bfbab1b2c23f63"), looks := false }, kinds := [], alts := [], laidByText := true, laidKinds := [.data], laidTests := true, laidLooks := .later }
def FramesLeastCardSaid : Prop := Claim7.holds Tryd.pinned (.plain (OpenSpec.ofChange framesLeastSpec)) framesLeastCard

/-- THE SECOND FORM's CARD OF 'tenementlaw15.FramesCount'. -/
def framesCountUptoCard : Claim7 := { stood := { row := framesCountUptoRow, standIns := [], harness := (true, "e385c66dda0fcfe2fb3f1c9cc6bc8443d53156fd3b0faf02d1bfbab1b2c23f63"), looks := false }, kinds := [], alts := [], laidByText := true, laidKinds := [.data], laidTests := true, laidLooks := .later }
def FramesCountUptoCardSaid : Prop := Claim7.holds Tryd.pinned (.plain (OpenSpec.upto framesCountSpec)) framesCountUptoCard

/-- THE SECOND FORM's CARD OF 'tenementlaw15.FramesPlay'. -/
def framesPlayUptoCard : Claim7 := { stood := { row := framesPlayUptoRow, standIns := [], harness := (true, "e385c66dda0fcfe2fb3f1c9cc6bc8443d53156fd3b0faf02d1bfbab1b2c23f63"), looks := false }, kinds := [], alts := [], laidByText := true, laidKinds := [.data], laidTests := true, laidLooks := .later }
def FramesPlayUptoCardSaid : Prop := Claim7.holds Tryd.pinned (.plain (OpenSpec.upto framesPlaySpec)) framesPlayUptoCard

/-- THE SECOND FORM's CARD OF 'tenementlaw15.FramesNil'. -/
def framesNilUptoCard : Claim7 := { stood := { row := framesNilUptoRow, standIns := [], harness := (true, "e385c66dda0fcfe2fb3f1c9cc6bc8443d53156fd3b0faf02d1bfbab1b2c23f63"), looks := false }, kinds := [], alts := [], laidByText := true, laidKinds := [.data], laidTests := true, laidLooks := .later }
def FramesNilUptoCardSaid : Prop := Claim7.holds Tryd.pinned (.plain (OpenSpec.upto framesNilSpec)) framesNilUptoCard

/-- THE SECOND FORM's CARD OF 'tenementlaw15.FramesLeast'. -/
def framesLeastUptoCard : Claim7 := { stood := { row := framesLeastUptoRow, standIns := [], harness := (true, "e385c66dda0fcfe2fb3f1c9cc6bc8443d53156fd3b0faf02d1bfbab1b2c23f63"), looks := false }, kinds := [], alts := [], laidByText := true, laidKinds := [.data], laidTests := true, laidLooks := .later }
def FramesLeastUptoCardSaid : Prop := Claim7.holds Tryd.pinned (.plain (OpenSpec.upto framesLeastSpec)) framesLeastUptoCard
end Rows
end Go.Proofs.YtokmcelmodoeoaaDoor
