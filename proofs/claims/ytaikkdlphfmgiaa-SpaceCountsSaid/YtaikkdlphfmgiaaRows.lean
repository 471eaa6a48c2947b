/-
  No cell of these rows narrows 'for every input' (looked for: loops, veiled, ifaces, maps, wideKeys, modest, calm, conditions, laid).
  DERIVED. THE GIVEN ROWS OF THIS SEAT. 4 by the template 'for every input the law returns true; each argument reads behind the call as it read before'; 0 by the template 'total and deterministic' (their statements: YtaikkdlphfmgiaaTotals.lean).
  GIVEN WITH THE SEED: the statements are not yours to turn. If you find one false, say at which input.
  Laid BY PROGRAM, IN A SANDBOX (cutbox-rows.mjs): the forced cells as the released guide's own fill.sh prints them over the translation e86cd442d68d0fd1… (all of the seat's roots in one cut). By AI agents, Wed Nov 11 2026. No macro, syntax, notation, axiom, sorry.
-/
import Derived.Test.YtaikkdlphfmgiaaChecked
import GoSem.Claim
import GoSem.ClaimJoined
import GoSem.ClaimMapViews
import Derived.JoinedTies
import Derived.KernelRfl
namespace Go.Proofs.Ytaikkdlphfmgiaa
/- THE CELL 'sum', in the pinned program and in every row, IS THE sha256 OF THE DUMP (.gsa) THAT YtaikkdlphfmgiaaProg.lean LOADS. Nothing in Lean hashes anything: it is a label: what it is worth is what the hold of that sum in a sandbox is worth. -/
noncomputable def Try.pinned : Pinned := { name := "ytaikkdlphfmgiaa", sum := "e86cd442d68d0fd1b61b76626f6c0406f1da9911176e090a7fd1e78964fc8746", checked := Try.checked }
namespace Rows
def none {H : Type} : Left H := { results := [], args := [] }

/-- 'tenementlaw19.SpaceChanges': WHATEVER THE INPUT: true; the input reads as it did. -/
def spaceChangesSpec : ChangeSpec := { name := "spaceChanges", fn := fun _ => fun
  | [d1, d2] => { results := [.lit (.bool true)], args := [d1, d2] }
  | _ => none }
def spaceChangesRow : OpenClaim := { program := "ytaikkdlphfmgiaa", sum := "e86cd442d68d0fd1b61b76626f6c0406f1da9911176e090a7fd1e78964fc8746", func := "tenement/tenementlaw19.SpaceChanges", spec := "spaceChanges", inPlace := ["slices.overlaps[tenement/api.Region]"], unfollowed := true, recurses := true, apart := false }
def SpaceChangesSaid : Prop := spaceChangesRow.holds Try.pinned (OpenSpec.ofChange spaceChangesSpec)

/-- ITS FALSE NEIGHBOUR: 'it returns false'. Refute it at one input. -/
def spaceChangesWrong : ChangeSpec := { name := "spaceChanges", fn := fun _ => fun
  | [d1, d2] => { results := [.lit (.bool false)], args := [d1, d2] }
  | _ => none }
def SpaceChangesWrongFalsely : Prop := spaceChangesRow.holds Try.pinned (OpenSpec.ofChange spaceChangesWrong)

/-- 'tenementlaw19.SpacePages': WHATEVER THE INPUT: true; the input reads as it did. -/
def spacePagesSpec : ChangeSpec := { name := "spacePages", fn := fun _ => fun
  | [d1, d2, d3] => { results := [.lit (.bool true)], args := [d1, d2, d3] }
  | _ => none }
def spacePagesRow : OpenClaim := { program := "ytaikkdlphfmgiaa", sum := "e86cd442d68d0fd1b61b76626f6c0406f1da9911176e090a7fd1e78964fc8746", func := "tenement/tenementlaw19.SpacePages", spec := "spacePages", inPlace := ["slices.overlaps[tenement/api.Region]"], unfollowed := true, recurses := true, apart := false }
def SpacePagesSaid : Prop := spacePagesRow.holds Try.pinned (OpenSpec.ofChange spacePagesSpec)

/-- ITS FALSE NEIGHBOUR: 'it returns false'. Refute it at one input. -/
def spacePagesWrong : ChangeSpec := { name := "spacePages", fn := fun _ => fun
  | [d1, d2, d3] => { results := [.lit (.bool false)], args := [d1, d2, d3] }
  | _ => none }
def SpacePagesWrongFalsely : Prop := spacePagesRow.holds Try.pinned (OpenSpec.ofChange spacePagesWrong)

/-- 'tenementlaw19.SpaceCounts': WHATEVER THE INPUT: true; the input reads as it did. -/
def spaceCountsSpec : ChangeSpec := { name := "spaceCounts", fn := fun _ => fun
  | [d1, d2] => { results := [.lit (.bool true)], args := [d1, d2] }
  | _ => none }
def spaceCountsRow : OpenClaim := { program := "ytaikkdlphfmgiaa", sum := "e86cd442d68d0fd1b61b76626f6c0406f1da9911176e090a7fd1e78964fc8746", func := "tenement/tenementlaw19.SpaceCounts", spec := "spaceCounts", inPlace := ["slices.overlaps[tenement/api.Region]"], unfollowed := true, recurses := true, apart := false }
def SpaceCountsSaid : Prop := spaceCountsRow.holds Try.pinned (OpenSpec.ofChange spaceCountsSpec)

/-- ITS FALSE NEIGHBOUR: 'it returns false'. Refute it at one input. -/
def spaceCountsWrong : ChangeSpec := { name := "spaceCounts", fn := fun _ => fun
  | [d1, d2] => { results := [.lit (.bool false)], args := [d1, d2] }
  | _ => none }
def SpaceCountsWrongFalsely : Prop := spaceCountsRow.holds Try.pinned (OpenSpec.ofChange spaceCountsWrong)

/-- 'tenementlaw19.SpaceTells': WHATEVER THE INPUT: true; the input reads as it did. -/
def spaceTellsSpec : ChangeSpec := { name := "spaceTells", fn := fun _ => fun
  | [d1, d2, d3, d4] => { results := [.lit (.bool true)], args := [d1, d2, d3, d4] }
  | _ => none }
def spaceTellsRow : OpenClaim := { program := "ytaikkdlphfmgiaa", sum := "e86cd442d68d0fd1b61b76626f6c0406f1da9911176e090a7fd1e78964fc8746", func := "tenement/tenementlaw19.SpaceTells", spec := "spaceTells", inPlace := ["slices.overlaps[tenement/api.Region]"], unfollowed := true, recurses := true, apart := false }
def SpaceTellsSaid : Prop := spaceTellsRow.holds Try.pinned (OpenSpec.ofChange spaceTellsSpec)

/-- ITS FALSE NEIGHBOUR: 'it returns false'. Refute it at one input. -/
def spaceTellsWrong : ChangeSpec := { name := "spaceTells", fn := fun _ => fun
  | [d1, d2, d3, d4] => { results := [.lit (.bool false)], args := [d1, d2, d3, d4] }
  | _ => none }
def SpaceTellsWrongFalsely : Prop := spaceTellsRow.holds Try.pinned (OpenSpec.ofChange spaceTellsWrong)

/- THE SECOND FORM. 'bulk': how many values and letters a reading holds, each counted each time it is reached (what is shared counts as often as it is met; a slice's spare places count too). A statement '..UptoSaid' is the law's where the arguments, and the package variables that the reading takes, are together of bulk at most 1048576: NARROWER than '..Said'. Prove '..Said' where nothing that the law and all that it calls make is longer than what came in: it says more and counts as full. Else prove '..UptoSaid'. A law counts once. -/
mutual
def uptoBulk {H : Type} : DataW H → Nat
  | .lit (.string bytes) => bytes.length + 1
  | .lit _ => 1
  | .nil => 1
  | .ptr d => uptoBulk d + 1
  | .slice elems spare => uptoBulkAll elems + uptoBulkAll spare + 1
  | .agg parts => uptoBulkAll parts + 1
  | .iface _ d => uptoBulk d + 1
  | .map entries => uptoBulkEntries entries + 1
  | .held _ => 1
def uptoBulkAll {H : Type} : List (DataW H) → Nat
  | [] => 0
  | d :: r => uptoBulk d + uptoBulkAll r
def uptoBulkEntries {H : Type} : List (Lit × DataW H) → Nat
  | [] => 0
  | x :: r => uptoBulkEntry x + uptoBulkEntries r
def uptoBulkEntry {H : Type} : Lit × DataW H → Nat
  | (.string bytes, d) => bytes.length + uptoBulk d + 1
  | (_, d) => uptoBulk d + 1
 end
def uptoSmall : (H : Type) → List (DataW H) → Bool := fun _ ds => decide (uptoBulkAll ds ≤ 1048576)
def OpenSpec.upto (s : _root_.Go.ChangeSpec) : _root_.Go.OpenSpec := { _root_.Go.OpenSpec.ofChange s with cond := some uptoSmall }

/-- 'tenementlaw19.SpaceChanges', WHERE WHAT IT READS IS OF BULK AT MOST 1048576: true; the input reads as it did. -/
def spaceChangesUptoRow : OpenClaim := { program := "ytaikkdlphfmgiaa", sum := "e86cd442d68d0fd1b61b76626f6c0406f1da9911176e090a7fd1e78964fc8746", func := "tenement/tenementlaw19.SpaceChanges", spec := "spaceChanges", inPlace := ["slices.overlaps[tenement/api.Region]"], unfollowed := true, recurses := true, apart := false, narrowed := true }
def SpaceChangesUptoSaid : Prop := spaceChangesUptoRow.holds Try.pinned (OpenSpec.upto spaceChangesSpec)

/-- 'tenementlaw19.SpacePages', WHERE WHAT IT READS IS OF BULK AT MOST 1048576: true; the input reads as it did. -/
def spacePagesUptoRow : OpenClaim := { program := "ytaikkdlphfmgiaa", sum := "e86cd442d68d0fd1b61b76626f6c0406f1da9911176e090a7fd1e78964fc8746", func := "tenement/tenementlaw19.SpacePages", spec := "spacePages", inPlace := ["slices.overlaps[tenement/api.Region]"], unfollowed := true, recurses := true, apart := false, narrowed := true }
def SpacePagesUptoSaid : Prop := spacePagesUptoRow.holds Try.pinned (OpenSpec.upto spacePagesSpec)

/-- 'tenementlaw19.SpaceCounts', WHERE WHAT IT READS IS OF BULK AT MOST 1048576: true; the input reads as it did. -/
def spaceCountsUptoRow : OpenClaim := { program := "ytaikkdlphfmgiaa", sum := "e86cd442d68d0fd1b61b76626f6c0406f1da9911176e090a7fd1e78964fc8746", func := "tenement/tenementlaw19.SpaceCounts", spec := "spaceCounts", inPlace := ["slices.overlaps[tenement/api.Region]"], unfollowed := true, recurses := true, apart := false, narrowed := true }
def SpaceCountsUptoSaid : Prop := spaceCountsUptoRow.holds Try.pinned (OpenSpec.upto spaceCountsSpec)

/-- 'tenementlaw19.SpaceTells', WHERE WHAT IT READS IS OF BULK AT MOST 1048576: true; the input reads as it did. -/
def spaceTellsUptoRow : OpenClaim := { program := "ytaikkdlphfmgiaa", sum := "e86cd442d68d0fd1b61b76626f6c0406f1da9911176e090a7fd1e78964fc8746", func := "tenement/tenementlaw19.SpaceTells", spec := "spaceTells", inPlace := ["slices.overlaps[tenement/api.Region]"], unfollowed := true, recurses := true, apart := false, narrowed := true }
def SpaceTellsUptoSaid : Prop := spaceTellsUptoRow.holds Try.pinned (OpenSpec.upto spaceTellsSpec)

end Rows
end Go.Proofs.Ytaikkdlphfmgiaa
