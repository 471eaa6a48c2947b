/-
  DERIVED. GIVEN WITH THE SEED: THE CARDS: each row of YtappjiljmpgjcaaDoorRows.lean that lists a variable, with what it lists TIED to the program's text (the seventh form; the later family's looks); each row that meets fmt, with fmt's text TOLD by the authors' own Lean function (tested against real Go, not proved from fmt's source: count such statements apart). THE CARD IS WHAT COUNTS. Prove the row's statement (the work); the ties are given (YtappjiljmpgjcaaDoorTie.lean); close each card by the builder's one call (the guide's Derived/Test/ToyasCard.lean, 'card_holds'). Laid BY PROGRAM, IN A SANDBOX (cutbox-door.mjs). By AI agents, Wed Nov 11 2026. No macro, syntax, notation, axiom, sorry.
-/
import Derived.Test.YtappjiljmpgjcaaDoorRows
import GoSem.ClaimSeven
namespace Go.Proofs.YtappjiljmpgjcaaDoor
namespace Rows

/-- THE TIED CARD OF 'tenementlaw29.WatchFewer'. -/
def watchFewerCard : Claim7 := { stood := { row := watchFewerRow, standIns := [], harness := (true, "25cc23f2a928249254f3934b03da93e65592f90aa9dfba106cb9d781a41f79c1"), looks := false }, kinds := [], alts := [], laidByText := true, laidKinds := [.data, .data, .data, .data], laidTests := true, laidLooks := .later }
def WatchFewerCardSaid : Prop := Claim7.holds Tryd.pinned (.plain (OpenSpec.ofChange watchFewerSpec)) watchFewerCard

/-- THE TIED CARD OF 'tenementlaw29.WatchFar'. -/
def watchFarCard : Claim7 := { stood := { row := watchFarRow, standIns := [], harness := (true, "25cc23f2a928249254f3934b03da93e65592f90aa9dfba106cb9d781a41f79c1"), looks := false }, kinds := [], alts := [], laidByText := true, laidKinds := [.data, .data, .data, .data], laidTests := true, laidLooks := .later }
def WatchFarCardSaid : Prop := Claim7.holds Tryd.pinned (.plain (OpenSpec.ofChange watchFarSpec)) watchFarCard

/-- THE SECOND FORM's CARD OF 'tenementlaw29.WatchFewer'. -/
def watchFewerUptoCard : Claim7 := { stood := { row := watchFewerUptoRow, standIns := [], harness := (true, "25cc23f2a928249254f3934b03da93e65592f90aa9dfba106cb9d781a41f79c1"), looks := false }, kinds := [], alts := [], laidByText := true, laidKinds := [.data, .data, .data, .data], laidTests := true, laidLooks := .later }
def WatchFewerUptoCardSaid : Prop := Claim7.holds Tryd.pinned (.plain (OpenSpec.upto watchFewerSpec)) watchFewerUptoCard

/-- THE SECOND FORM's CARD OF 'tenementlaw29.WatchFar'. -/
def watchFarUptoCard : Claim7 := { stood := { row := watchFarUptoRow, standIns := [], harness := (true, "25cc23f2a928249254f3934b03da93e65592f90aa9dfba106cb9d781a41f79c1"), looks := false }, kinds := [], alts := [], laidByText := true, laidKinds := [.data, .data, .data, .data], laidTests := true, laidLooks := .later }
def WatchFarUptoCardSaid : Prop := Claim7.holds Tryd.pinned (.plain (OpenSpec.upto watchFarSpec)) watchFarUptoCard
end Rows
end Go.Proofs.YtappjiljmpgjcaaDoor
