/-
  NARROWER THAN 'FOR EVERY INPUT', by the rows' own cells (each row's printed sentence says how): WatchFewer: laid · WatchFar: laid.
  DERIVED. THE GIVEN ROWS OF THIS SEAT. 2 by the template 'for every input the law returns true; each argument reads behind the call as it read before'; 0 by the template 'total and deterministic' (their statements: YtappjiljmpgjcaaDoorTotals.lean).
  GIVEN WITH THE SEED: the statements are not yours to turn. If you find one false, say at which input.
  Laid BY PROGRAM, IN A SANDBOX (cutbox-rows.mjs): the forced cells as the released guide's own fill.sh prints them over the translation 491adfa14a461713… (all of the seat's roots in one cut). By AI agents, Wed Nov 11 2026. No macro, syntax, notation, axiom, sorry.
-/
import Derived.Test.YtappjiljmpgjcaaDoorChecked
import GoSem.Claim
import GoSem.ClaimJoined
import GoSem.ClaimMapViews
import Derived.JoinedTies
import Derived.KernelRfl
namespace Go.Proofs.YtappjiljmpgjcaaDoor
/- THE CELL 'sum', in the pinned program and in every row, IS THE sha256 OF THE DUMP (.gsa) THAT YtappjiljmpgjcaaDoorProg.lean LOADS. Nothing in Lean hashes anything: it is a label: what it is worth is what the hold of that sum in a sandbox is worth. -/
noncomputable def Tryd.pinned : Pinned := { name := "ytappjiljmpgjcaadoor", sum := "491adfa14a46171371f46fc4b1ef8eb4cde6b1f335eb7f6286da5f8a033ebea0", checked := Tryd.checked }
namespace Rows
def none {H : Type} : Left H := { results := [], args := [] }

/- WHAT THE LISTED PACKAGE-LEVEL VARIABLES READ AS WHEN THE CALL BEGINS. Each datum BY PROGRAM (the guide's laid-datum.mjs) off the statement by which the dump's own 'gosem.cut.vars' lays the variable. In a bare row this is a premise. The card (YtappjiljmpgjcaaDoorCards.lean) ties it to the program's text. -/
def laid_tenement_desc_places {H : Type} : DataW H := .agg [.agg [.lit (.int .i64 6), .lit (.int .i64 6)], .agg [.lit (.int .i64 7), .lit (.int .i64 7)], .agg [.lit (.int .i64 10), .lit (.int .i64 10)], .agg [.lit (.int .i64 11), .lit (.int .i64 11)], .agg [.lit (.int .i64 47), .lit (.int .i64 12)]]
def laid_tenement_desc_named {H : Type} : DataW H := .agg [.lit (.int .u64 0), .lit (.int .u64 281474976706563), .lit (.int .u64 281474976709827)]
def laid_tenement_desc_low {H : Type} : DataW H := .agg [.lit (.int .u64 0), .lit (.int .u64 3), .lit (.int .u64 3)]
def laid_tenement_desc_kinds {H : Type} : DataW H := .agg [.lit (.int .i8 1), .lit (.int .i8 1), .lit (.int .i8 1), .lit (.int .i8 2)]

/-- 'tenementlaw29.WatchFewer': WHATEVER THE INPUT: true; the input reads as it did. -/
def watchFewerSpec : ChangeSpec := { name := "watchFewer", fn := fun _ => fun
  | [d1, d2, d3, d4] => { results := [.lit (.bool true)], args := [d1, d2, d3, d4] }
  | _ => none }
def watchFewerRow : OpenClaim := { program := "ytappjiljmpgjcaadoor", sum := "491adfa14a46171371f46fc4b1ef8eb4cde6b1f335eb7f6286da5f8a033ebea0", func := "tenement/tenementlaw29.WatchFewer", spec := "watchFewer", unfollowed := true, recurses := true, named := ["tenement/desc.kinds", "tenement/desc.low", "tenement/desc.named", "tenement/desc.places"], plainKeys := false, apart := false, laid := [("tenement/desc.places", laid_tenement_desc_places), ("tenement/desc.named", laid_tenement_desc_named), ("tenement/desc.low", laid_tenement_desc_low), ("tenement/desc.kinds", laid_tenement_desc_kinds)] }
def WatchFewerSaid : Prop := watchFewerRow.holds Tryd.pinned (OpenSpec.ofChange watchFewerSpec)

/-- ITS FALSE NEIGHBOUR: 'it returns false'. Refute it at one input. -/
def watchFewerWrong : ChangeSpec := { name := "watchFewer", fn := fun _ => fun
  | [d1, d2, d3, d4] => { results := [.lit (.bool false)], args := [d1, d2, d3, d4] }
  | _ => none }
def WatchFewerWrongFalsely : Prop := watchFewerRow.holds Tryd.pinned (OpenSpec.ofChange watchFewerWrong)

/-- 'tenementlaw29.WatchFar': WHATEVER THE INPUT: true; the input reads as it did. -/
def watchFarSpec : ChangeSpec := { name := "watchFar", fn := fun _ => fun
  | [d1, d2, d3, d4, d5, d6] => { results := [.lit (.bool true)], args := [d1, d2, d3, d4, d5, d6] }
  | _ => none }
def watchFarRow : OpenClaim := { program := "ytappjiljmpgjcaadoor", sum := "491adfa14a46171371f46fc4b1ef8eb4cde6b1f335eb7f6286da5f8a033ebea0", func := "tenement/tenementlaw29.WatchFar", spec := "watchFar", unfollowed := true, recurses := true, named := ["tenement/desc.kinds", "tenement/desc.low", "tenement/desc.named", "tenement/desc.places"], plainKeys := false, apart := false, laid := [("tenement/desc.places", laid_tenement_desc_places), ("tenement/desc.named", laid_tenement_desc_named), ("tenement/desc.low", laid_tenement_desc_low), ("tenement/desc.kinds", laid_tenement_desc_kinds)] }
def WatchFarSaid : Prop := watchFarRow.holds Tryd.pinned (OpenSpec.ofChange watchFarSpec)

/-- ITS FALSE NEIGHBOUR: 'it returns false'. Refute it at one input. -/
def watchFarWrong : ChangeSpec := { name := "watchFar", fn := fun _ => fun
  | [d1, d2, d3, d4, d5, d6] => { results := [.lit (.bool false)], args := [d1, d2, d3, d4, d5, d6] }
  | _ => none }
def WatchFarWrongFalsely : Prop := watchFarRow.holds Tryd.pinned (OpenSpec.ofChange watchFarWrong)

/- THE SECOND FORM. 'bulk': how many values and letters a reading holds, each counted each time it is reached (what is shared counts as often as it is met; a slice's spare places count too). A statement '..UptoSaid' is the law's where the arguments, and the package variables that the reading takes, are together of bulk at most 1048576: NARROWER than '..Said'. Prove '..Said' where nothing that the law and all that it calls make is longer than what came in: it says more and counts as full. Else prove '..UptoSaid'. A law counts once. -/
mutual
def uptoBulk {H : Type} : DataW H → Nat
  | .lit (.string bytes) => bytes.length + 1
  | .lit _ => 1
  | .nil => 1
  | .ptr d => uptoBulk d + 1
  | .slice elems spare => uptoBulkAll elems + uptoBulkAll spare + 1
  | .agg parts => uptoBulkAll parts + 1
  | .iface _ d => uptoBulk d + 1
  | .map entries => uptoBulkEntries entries + 1
  | .held _ => 1
def uptoBulkAll {H : Type} : List (DataW H) → Nat
  | [] => 0
  | d :: r => uptoBulk d + uptoBulkAll r
def uptoBulkEntries {H : Type} : List (Lit × DataW H) → Nat
  | [] => 0
  | x :: r => uptoBulkEntry x + uptoBulkEntries r
def uptoBulkEntry {H : Type} : Lit × DataW H → Nat
  | (.string bytes, d) => bytes.length + uptoBulk d + 1
  | (_, d) => uptoBulk d + 1
 end
def uptoSmall : (H : Type) → List (DataW H) → Bool := fun _ ds => decide (uptoBulkAll ds ≤ 1048576)
def OpenSpec.upto (s : _root_.Go.ChangeSpec) : _root_.Go.OpenSpec := { _root_.Go.OpenSpec.ofChange s with cond := some uptoSmall }

/-- 'tenementlaw29.WatchFewer', WHERE WHAT IT READS IS OF BULK AT MOST 1048576: true; the input reads as it did. -/
def watchFewerUptoRow : OpenClaim := { program := "ytappjiljmpgjcaadoor", sum := "491adfa14a46171371f46fc4b1ef8eb4cde6b1f335eb7f6286da5f8a033ebea0", func := "tenement/tenementlaw29.WatchFewer", spec := "watchFewer", unfollowed := true, recurses := true, named := ["tenement/desc.kinds", "tenement/desc.low", "tenement/desc.named", "tenement/desc.places"], plainKeys := false, apart := false, laid := [("tenement/desc.places", laid_tenement_desc_places), ("tenement/desc.named", laid_tenement_desc_named), ("tenement/desc.low", laid_tenement_desc_low), ("tenement/desc.kinds", laid_tenement_desc_kinds)], narrowed := true }
def WatchFewerUptoSaid : Prop := watchFewerUptoRow.holds Tryd.pinned (OpenSpec.upto watchFewerSpec)

/-- 'tenementlaw29.WatchFar', WHERE WHAT IT READS IS OF BULK AT MOST 1048576: true; the input reads as it did. -/
def watchFarUptoRow : OpenClaim := { program := "ytappjiljmpgjcaadoor", sum := "491adfa14a46171371f46fc4b1ef8eb4cde6b1f335eb7f6286da5f8a033ebea0", func := "tenement/tenementlaw29.WatchFar", spec := "watchFar", unfollowed := true, recurses := true, named := ["tenement/desc.kinds", "tenement/desc.low", "tenement/desc.named", "tenement/desc.places"], plainKeys := false, apart := false, laid := [("tenement/desc.places", laid_tenement_desc_places), ("tenement/desc.named", laid_tenement_desc_named), ("tenement/desc.low", laid_tenement_desc_low), ("tenement/desc.kinds", laid_tenement_desc_kinds)], narrowed := true }
def WatchFarUptoSaid : Prop := watchFarUptoRow.holds Tryd.pinned (OpenSpec.upto watchFarSpec)

end Rows
end Go.Proofs.YtappjiljmpgjcaaDoor
