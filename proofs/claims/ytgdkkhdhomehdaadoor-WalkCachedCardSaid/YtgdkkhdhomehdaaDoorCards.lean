/-
  DERIVED. GIVEN WITH THE SEED: THE CARDS: each row of YtgdkkhdhomehdaaDoorRows.lean that lists a variable, with what it lists TIED to the program's text (the seventh form; the later family's looks); each row that meets fmt, with fmt's text TOLD by the authors' own Lean function (tested against real Go, not proved from fmt's source: count such statements apart). THE CARD IS WHAT COUNTS. Prove the row's statement (the work); the ties are given (YtgdkkhdhomehdaaDoorTie.lean); close each card by the builder's one call (the guide's Derived/Test/ToyasCard.lean, 'card_holds'). Laid BY PROGRAM, IN A SANDBOX (cutbox-door.mjs). By AI agents, Wed Nov 11 2026. No macro, syntax, notation, axiom, sorry.
-/
import Derived.Test.YtgdkkhdhomehdaaDoorRows
import GoSem.ClaimSeven
namespace Go.Proofs.YtgdkkhdhomehdaaDoor
namespace Rows

/-- THE TIED CARD OF 'tenementlaw12.WalkBegins'. -/
def walkBeginsCard : Claim7 := { stood := { row := walkBeginsRow, standIns := [], harness := (true, "15c57c24d83f003511d9fc00362e36c97b3db8b78fc29acf920c6d99a0349fe2"), looks := false }, kinds := [], alts := [], laidByText := true, laidKinds := [.data, .data, .data, .data], laidTests := true, laidLooks := .later }
def WalkBeginsCardSaid : Prop := Claim7.holds Tryd.pinned (.plain (OpenSpec.ofChange walkBeginsSpec)) walkBeginsCard

/-- THE TIED CARD OF 'tenementlaw12.WalkNext'. -/
def walkNextCard : Claim7 := { stood := { row := walkNextRow, standIns := [], harness := (true, "15c57c24d83f003511d9fc00362e36c97b3db8b78fc29acf920c6d99a0349fe2"), looks := false }, kinds := [], alts := [], laidByText := true, laidKinds := [.data, .data, .data, .data], laidTests := true, laidLooks := .later }
def WalkNextCardSaid : Prop := Claim7.holds Tryd.pinned (.plain (OpenSpec.ofChange walkNextSpec)) walkNextCard

/-- THE TIED CARD OF 'tenementlaw12.WalkAll'. -/
def walkAllCard : Claim7 := { stood := { row := walkAllRow, standIns := [], harness := (true, "15c57c24d83f003511d9fc00362e36c97b3db8b78fc29acf920c6d99a0349fe2"), looks := false }, kinds := [], alts := [], laidByText := true, laidKinds := [.data, .data, .data, .data], laidTests := true, laidLooks := .later }
def WalkAllCardSaid : Prop := Claim7.holds Tryd.pinned (.plain (OpenSpec.ofChange walkAllSpec)) walkAllCard

/-- THE TIED CARD OF 'tenementlaw12.WalkCached'. -/
def walkCachedCard : Claim7 := { stood := { row := walkCachedRow, standIns := [], harness := (true, "15c57c24d83f003511d9fc00362e36c97b3db8b78fc29acf920c6d99a0349fe2"), looks := false }, kinds := [], alts := [], laidByText := true, laidKinds := [.data, .data, .data, .data], laidTests := true, laidLooks := .later }
def WalkCachedCardSaid : Prop := Claim7.holds Tryd.pinned (.plain (OpenSpec.ofChange walkCachedSpec)) walkCachedCard

/-- THE TIED CARD OF 'tenementlaw12.WalkTouch'. -/
def walkTouchCard : Claim7 := { stood := { row := walkTouchRow, standIns := [], harness := (true, "15c57c24d83f003511d9fc00362e36c97b3db8b78fc29acf920c6d99a0349fe2"), looks := false }, kinds := [], alts := [], laidByText := true, laidKinds := [.data, .data, .data, .data], laidTests := true, laidLooks := .later }
def WalkTouchCardSaid : Prop := Claim7.holds Tryd.pinned (.plain (OpenSpec.ofChange walkTouchSpec)) walkTouchCard

/-- THE TIED CARD OF 'tenementlaw29.WatchFewer'. -/
def watchFewerCard : Claim7 := { stood := { row := watchFewerRow, standIns := [], harness := (true, "15c57c24d83f003511d9fc00362e36c97b3db8b78fc29acf920c6d99a0349fe2"), looks := false }, kinds := [], alts := [], laidByText := true, laidKinds := [.data, .data, .data, .data], laidTests := true, laidLooks := .later }
def WatchFewerCardSaid : Prop := Claim7.holds Tryd.pinned (.plain (OpenSpec.ofChange watchFewerSpec)) watchFewerCard

/-- THE TIED CARD OF 'tenementlaw29.WatchFar'. -/
def watchFarCard : Claim7 := { stood := { row := watchFarRow, standIns := [], harness := (true, "15c57c24d83f003511d9fc00362e36c97b3db8b78fc29acf920c6d99a0349fe2"), looks := false }, kinds := [], alts := [], laidByText := true, laidKinds := [.data, .data, .data, .data], laidTests := true, laidLooks := .later }
def WatchFarCardSaid : Prop := Claim7.holds Tryd.pinned (.plain (OpenSpec.ofChange watchFarSpec)) watchFarCard

/-- THE SECOND FORM's CARD OF 'tenementlaw12.WalkBegins'. -/
def walkBeginsUptoCard : Claim7 := { stood := { row := walkBeginsUptoRow, standIns := [], harness := (true, "15c57c24d83f003511d9fc00362e36c97b3db8b78fc29acf920c6d99a0349fe2"), looks := false }, kinds := [], alts := [], laidByText := true, laidKinds := [.data, .data, .data, .data], laidTests := true, laidLooks := .later }
def WalkBeginsUptoCardSaid : Prop := Claim7.holds Tryd.pinned (.plain (OpenSpec.upto walkBeginsSpec)) walkBeginsUptoCard

/-- THE SECOND FORM's CARD OF 'tenementlaw12.WalkNext'. -/
def walkNextUptoCard : Claim7 := { stood := { row := walkNextUptoRow, standIns := [], harness := (true, "15c57c24d83f003511d9fc00362e36c97b3db8b78fc29acf920c6d99a0349fe2"), looks := false }, kinds := [], alts := [], laidByText := true, laidKinds := [.data, .data, .data, .data], laidTests := true, laidLooks := .later }
def WalkNextUptoCardSaid : Prop := Claim7.holds Tryd.pinned (.plain (OpenSpec.upto walkNextSpec)) walkNextUptoCard

/-- THE SECOND FORM's CARD OF 'tenementlaw12.WalkAll'. -/
def walkAllUptoCard : Claim7 := { stood := { row := walkAllUptoRow, standIns := [], harness := (true, "15c57c24d83f003511d9fc00362e36c97b3db8b78fc29acf920c6d99a0349fe2"), looks := false }, kinds := [], alts := [], laidByText := true, laidKinds := [.data, .data, .data, .data], laidTests := true, laidLooks := .later }
def WalkAllUptoCardSaid : Prop := Claim7.holds Tryd.pinned (.plain (OpenSpec.upto walkAllSpec)) walkAllUptoCard

/-- THE SECOND FORM's CARD OF 'tenementlaw12.WalkCached'. -/
def walkCachedUptoCard : Claim7 := { stood := { row := walkCachedUptoRow, standIns := [], harness := (true, "15c57c24d83f003511d9fc00362e36c97b3db8b78fc29acf920c6d99a0349fe2"), looks := false }, kinds := [], alts := [], laidByText := true, laidKinds := [.data, .data, .data, .data], laidTests := true, laidLooks := .later }
def WalkCachedUptoCardSaid : Prop := Claim7.holds Tryd.pinned (.plain (OpenSpec.upto walkCachedSpec)) walkCachedUptoCard

/-- THE SECOND FORM's CARD OF 'tenementlaw12.WalkTouch'. -/
def walkTouchUptoCard : Claim7 := { stood := { row := walkTouchUptoRow, standIns := [], harness := (true, "15c57c24d83f003511d9fc00362e36c97b3db8b78fc29acf920c6d99a0349fe2"), looks := false }, kinds := [], alts := [], laidByText := true, laidKinds := [.data, .data, .data, .data], laidTests := true, laidLooks := .later }
def WalkTouchUptoCardSaid : Prop := Claim7.holds Tryd.pinned (.plain (OpenSpec.upto walkTouchSpec)) walkTouchUptoCard

/-- THE SECOND FORM's CARD OF 'tenementlaw29.WatchFewer'. -/
def watchFewerUptoCard : Claim7 := { stood := { row := watchFewerUptoRow, standIns := [], harness := (true, "15c57c24d83f003511d9fc00362e36c97b3db8b78fc29acf920c6d99a0349fe2"), looks := false }, kinds := [], alts := [], laidByText := true, laidKinds := [.data, .data, .data, .data], laidTests := true, laidLooks := .later }
def WatchFewerUptoCardSaid : Prop := Claim7.holds Tryd.pinned (.plain (OpenSpec.upto watchFewerSpec)) watchFewerUptoCard

/-- THE SECOND FORM's CARD OF 'tenementlaw29.WatchFar'. -/
def watchFarUptoCard : Claim7 := { stood := { row := watchFarUptoRow, standIns := [], harness := (true, "15c57c24d83f003511d9fc00362e36c97b3db8b78fc29acf920c6d99a0349fe2"), looks := false }, kinds := [], alts := [], laidByText := true, laidKinds := [.data, .data, .data, .data], laidTests := true, laidLooks := .later }
def WatchFarUptoCardSaid : Prop := Claim7.holds Tryd.pinned (.plain (OpenSpec.upto watchFarSpec)) watchFarUptoCard
end Rows
end Go.Proofs.YtgdkkhdhomehdaaDoor
