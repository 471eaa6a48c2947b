/-
  NARROWER THAN 'FOR EVERY INPUT', by the rows' own cells (each row's printed sentence says how): WalkBegins: laid · WalkNext: laid · WalkAll: laid · WalkCached: laid · WalkTouch: laid · WatchFewer: laid · WatchFar: laid.
  DERIVED. THE GIVEN ROWS OF THIS SEAT. 7 by the template 'for every input the law returns true; each argument reads behind the call as it read before'; 0 by the template 'total and deterministic' (their statements: YtgdkkhdhomehdaaDoorTotals.lean).
  GIVEN WITH THE SEED: the statements are not yours to turn. If you find one false, say at which input.
  Laid BY PROGRAM, IN A SANDBOX (cutbox-rows.mjs): the forced cells as the released guide's own fill.sh prints them over the translation 03990f034865f8cf… (all of the seat's roots in one cut). By AI agents, Wed Nov 11 2026. No macro, syntax, notation, axiom, sorry.
-/
import Derived.Test.YtgdkkhdhomehdaaDoorChecked
import GoSem.Claim
import GoSem.ClaimJoined
import GoSem.ClaimMapViews
import Derived.JoinedTies
import Derived.KernelRfl
namespace Go.Proofs.YtgdkkhdhomehdaaDoor
/- THE CELL 'sum', in the pinned program and in every row, IS THE sha256 OF THE DUMP (.gsa) THAT YtgdkkhdhomehdaaDoorProg.lean LOADS. Nothing in Lean hashes anything: it is a label: what it is worth is what the hold of that sum in a sandbox is worth. -/
noncomputable def Tryd.pinned : Pinned := { name := "ytgdkkhdhomehdaadoor", sum := "03990f034865f8cfff873718b320cbe24d5b1dc4d27cd6236be3d044660f9e07", checked := Tryd.checked }
namespace Rows
def none {H : Type} : Left H := { results := [], args := [] }

/- WHAT THE LISTED PACKAGE-LEVEL VARIABLES READ AS WHEN THE CALL BEGINS. Each datum BY PROGRAM (the guide's laid-datum.mjs) off the statement by which the dump's own 'gosem.cut.vars' lays the variable. In a bare row this is a premise. The card (YtgdkkhdhomehdaaDoorCards.lean) ties it to the program's text. -/
def laid_tenement_desc_places {H : Type} : DataW H := .agg [.agg [.lit (.int .i64 6), .lit (.int .i64 6)], .agg [.lit (.int .i64 7), .lit (.int .i64 7)], .agg [.lit (.int .i64 10), .lit (.int .i64 10)], .agg [.lit (.int .i64 11), .lit (.int .i64 11)], .agg [.lit (.int .i64 47), .lit (.int .i64 12)]]
def laid_tenement_desc_named {H : Type} : DataW H := .agg [.lit (.int .u64 0), .lit (.int .u64 281474976706563), .lit (.int .u64 281474976709827)]
def laid_tenement_desc_low {H : Type} : DataW H := .agg [.lit (.int .u64 0), .lit (.int .u64 3), .lit (.int .u64 3)]
def laid_tenement_desc_kinds {H : Type} : DataW H := .agg [.lit (.int .i8 1), .lit (.int .i8 1), .lit (.int .i8 1), .lit (.int .i8 2)]

/-- 'tenementlaw12.WalkBegins': WHATEVER THE INPUT: true; the input reads as it did. -/
def walkBeginsSpec : ChangeSpec := { name := "walkBegins", fn := fun _ => fun
  | [d1, d2, d3, d4, d5] => { results := [.lit (.bool true)], args := [d1, d2, d3, d4, d5] }
  | _ => none }
def walkBeginsRow : OpenClaim := { program := "ytgdkkhdhomehdaadoor", sum := "03990f034865f8cfff873718b320cbe24d5b1dc4d27cd6236be3d044660f9e07", func := "tenement/tenementlaw12.WalkBegins", spec := "walkBegins", unfollowed := true, recurses := true, named := ["tenement/desc.kinds", "tenement/desc.low", "tenement/desc.named", "tenement/desc.places"], plainKeys := false, apart := false, laid := [("tenement/desc.places", laid_tenement_desc_places), ("tenement/desc.named", laid_tenement_desc_named), ("tenement/desc.low", laid_tenement_desc_low), ("tenement/desc.kinds", laid_tenement_desc_kinds)] }
def WalkBeginsSaid : Prop := walkBeginsRow.holds Tryd.pinned (OpenSpec.ofChange walkBeginsSpec)

/-- ITS FALSE NEIGHBOUR: 'it returns false'. Refute it at one input. -/
def walkBeginsWrong : ChangeSpec := { name := "walkBegins", fn := fun _ => fun
  | [d1, d2, d3, d4, d5] => { results := [.lit (.bool false)], args := [d1, d2, d3, d4, d5] }
  | _ => none }
def WalkBeginsWrongFalsely : Prop := walkBeginsRow.holds Tryd.pinned (OpenSpec.ofChange walkBeginsWrong)

/-- 'tenementlaw12.WalkNext': WHATEVER THE INPUT: true; the input reads as it did. -/
def walkNextSpec : ChangeSpec := { name := "walkNext", fn := fun _ => fun
  | [d1, d2] => { results := [.lit (.bool true)], args := [d1, d2] }
  | _ => none }
def walkNextRow : OpenClaim := { program := "ytgdkkhdhomehdaadoor", sum := "03990f034865f8cfff873718b320cbe24d5b1dc4d27cd6236be3d044660f9e07", func := "tenement/tenementlaw12.WalkNext", spec := "walkNext", unfollowed := true, recurses := true, named := ["tenement/desc.kinds", "tenement/desc.low", "tenement/desc.named", "tenement/desc.places"], plainKeys := false, apart := false, laid := [("tenement/desc.places", laid_tenement_desc_places), ("tenement/desc.named", laid_tenement_desc_named), ("tenement/desc.low", laid_tenement_desc_low), ("tenement/desc.kinds", laid_tenement_desc_kinds)] }
def WalkNextSaid : Prop := walkNextRow.holds Tryd.pinned (OpenSpec.ofChange walkNextSpec)

/-- ITS FALSE NEIGHBOUR: 'it returns false'. Refute it at one input. -/
def walkNextWrong : ChangeSpec := { name := "walkNext", fn := fun _ => fun
  | [d1, d2] => { results := [.lit (.bool false)], args := [d1, d2] }
  | _ => none }
def WalkNextWrongFalsely : Prop := walkNextRow.holds Tryd.pinned (OpenSpec.ofChange walkNextWrong)

/-- 'tenementlaw12.WalkAll': WHATEVER THE INPUT: true; the input reads as it did. -/
def walkAllSpec : ChangeSpec := { name := "walkAll", fn := fun _ => fun
  | [d1, d2, d3, d4] => { results := [.lit (.bool true)], args := [d1, d2, d3, d4] }
  | _ => none }
def walkAllRow : OpenClaim := { program := "ytgdkkhdhomehdaadoor", sum := "03990f034865f8cfff873718b320cbe24d5b1dc4d27cd6236be3d044660f9e07", func := "tenement/tenementlaw12.WalkAll", spec := "walkAll", unfollowed := true, recurses := true, named := ["tenement/desc.kinds", "tenement/desc.low", "tenement/desc.named", "tenement/desc.places"], plainKeys := false, apart := false, laid := [("tenement/desc.places", laid_tenement_desc_places), ("tenement/desc.named", laid_tenement_desc_named), ("tenement/desc.low", laid_tenement_desc_low), ("tenement/desc.kinds", laid_tenement_desc_kinds)] }
def WalkAllSaid : Prop := walkAllRow.holds Tryd.pinned (OpenSpec.ofChange walkAllSpec)

/-- ITS FALSE NEIGHBOUR: 'it returns false'. Refute it at one input. -/
def walkAllWrong : ChangeSpec := { name := "walkAll", fn := fun _ => fun
  | [d1, d2, d3, d4] => { results := [.lit (.bool false)], args := [d1, d2, d3, d4] }
  | _ => none }
def WalkAllWrongFalsely : Prop := walkAllRow.holds Tryd.pinned (OpenSpec.ofChange walkAllWrong)

/-- 'tenementlaw12.WalkCached': WHATEVER THE INPUT: true; the input reads as it did. -/
def walkCachedSpec : ChangeSpec := { name := "walkCached", fn := fun _ => fun
  | [d1, d2, d3, d4, d5, d6] => { results := [.lit (.bool true)], args := [d1, d2, d3, d4, d5, d6] }
  | _ => none }
def walkCachedRow : OpenClaim := { program := "ytgdkkhdhomehdaadoor", sum := "03990f034865f8cfff873718b320cbe24d5b1dc4d27cd6236be3d044660f9e07", func := "tenement/tenementlaw12.WalkCached", spec := "walkCached", unfollowed := true, recurses := true, named := ["tenement/desc.kinds", "tenement/desc.low", "tenement/desc.named", "tenement/desc.places"], plainKeys := false, apart := false, laid := [("tenement/desc.places", laid_tenement_desc_places), ("tenement/desc.named", laid_tenement_desc_named), ("tenement/desc.low", laid_tenement_desc_low), ("tenement/desc.kinds", laid_tenement_desc_kinds)] }
def WalkCachedSaid : Prop := walkCachedRow.holds Tryd.pinned (OpenSpec.ofChange walkCachedSpec)

/-- ITS FALSE NEIGHBOUR: 'it returns false'. Refute it at one input. -/
def walkCachedWrong : ChangeSpec := { name := "walkCached", fn := fun _ => fun
  | [d1, d2, d3, d4, d5, d6] => { results := [.lit (.bool false)], args := [d1, d2, d3, d4, d5, d6] }
  | _ => none }
def WalkCachedWrongFalsely : Prop := walkCachedRow.holds Tryd.pinned (OpenSpec.ofChange walkCachedWrong)

/-- 'tenementlaw12.WalkTouch': WHATEVER THE INPUT: true; the input reads as it did. -/
def walkTouchSpec : ChangeSpec := { name := "walkTouch", fn := fun _ => fun
  | [d1, d2, d3, d4] => { results := [.lit (.bool true)], args := [d1, d2, d3, d4] }
  | _ => none }
def walkTouchRow : OpenClaim := { program := "ytgdkkhdhomehdaadoor", sum := "03990f034865f8cfff873718b320cbe24d5b1dc4d27cd6236be3d044660f9e07", func := "tenement/tenementlaw12.WalkTouch", spec := "walkTouch", unfollowed := true, recurses := true, named := ["tenement/desc.kinds", "tenement/desc.low", "tenement/desc.named", "tenement/desc.places"], plainKeys := false, apart := false, laid := [("tenement/desc.places", laid_tenement_desc_places), ("tenement/desc.named", laid_tenement_desc_named), ("tenement/desc.low", laid_tenement_desc_low), ("tenement/desc.kinds", laid_tenement_desc_kinds)] }
def WalkTouchSaid : Prop := walkTouchRow.holds Tryd.pinned (OpenSpec.ofChange walkTouchSpec)

/-- ITS FALSE NEIGHBOUR: 'it returns false'. Refute it at one input. -/
def walkTouchWrong : ChangeSpec := { name := "walkTouch", fn := fun _ => fun
  | [d1, d2, d3, d4] => { results := [.lit (.bool false)], args := [d1, d2, d3, d4] }
  | _ => none }
def WalkTouchWrongFalsely : Prop := walkTouchRow.holds Tryd.pinned (OpenSpec.ofChange walkTouchWrong)

/-- 'tenementlaw29.WatchFewer': WHATEVER THE INPUT: true; the input reads as it did. -/
def watchFewerSpec : ChangeSpec := { name := "watchFewer", fn := fun _ => fun
  | [d1, d2, d3, d4] => { results := [.lit (.bool true)], args := [d1, d2, d3, d4] }
  | _ => none }
def watchFewerRow : OpenClaim := { program := "ytgdkkhdhomehdaadoor", sum := "03990f034865f8cfff873718b320cbe24d5b1dc4d27cd6236be3d044660f9e07", func := "tenement/tenementlaw29.WatchFewer", spec := "watchFewer", unfollowed := true, recurses := true, named := ["tenement/desc.kinds", "tenement/desc.low", "tenement/desc.named", "tenement/desc.places"], plainKeys := false, apart := false, laid := [("tenement/desc.places", laid_tenement_desc_places), ("tenement/desc.named", laid_tenement_desc_named), ("tenement/desc.low", laid_tenement_desc_low), ("tenement/desc.kinds", laid_tenement_desc_kinds)] }
def WatchFewerSaid : Prop := watchFewerRow.holds Tryd.pinned (OpenSpec.ofChange watchFewerSpec)

/-- ITS FALSE NEIGHBOUR: 'it returns false'. Refute it at one input. -/
def watchFewerWrong : ChangeSpec := { name := "watchFewer", fn := fun _ => fun
  | [d1, d2, d3, d4] => { results := [.lit (.bool false)], args := [d1, d2, d3, d4] }
  | _ => none }
def WatchFewerWrongFalsely : Prop := watchFewerRow.holds Tryd.pinned (OpenSpec.ofChange watchFewerWrong)

/-- 'tenementlaw29.WatchFar': WHATEVER THE INPUT: true; the input reads as it did. -/
def watchFarSpec : ChangeSpec := { name := "watchFar", fn := fun _ => fun
  | [d1, d2, d3, d4, d5, d6] => { results := [.lit (.bool true)], args := [d1, d2, d3, d4, d5, d6] }
  | _ => none }
def watchFarRow : OpenClaim := { program := "ytgdkkhdhomehdaadoor", sum := "03990f034865f8cfff873718b320cbe24d5b1dc4d27cd6236be3d044660f9e07", func := "tenement/tenementlaw29.WatchFar", spec := "watchFar", unfollowed := true, recurses := true, named := ["tenement/desc.kinds", "tenement/desc.low", "tenement/desc.named", "tenement/desc.places"], plainKeys := false, apart := false, laid := [("tenement/desc.places", laid_tenement_desc_places), ("tenement/desc.named", laid_tenement_desc_named), ("tenement/desc.low", laid_tenement_desc_low), ("tenement/desc.kinds", laid_tenement_desc_kinds)] }
def WatchFarSaid : Prop := watchFarRow.holds Tryd.pinned (OpenSpec.ofChange watchFarSpec)

/-- ITS FALSE NEIGHBOUR: 'it returns false'. Refute it at one input. -/
def watchFarWrong : ChangeSpec := { name := "watchFar", fn := fun _ => fun
  | [d1, d2, d3, d4, d5, d6] => { results := [.lit (.bool false)], args := [d1, d2, d3, d4, d5, d6] }
  | _ => none }
def WatchFarWrongFalsely : Prop := watchFarRow.holds Tryd.pinned (OpenSpec.ofChange watchFarWrong)

/- THE SECOND FORM. 'bulk': how many values and letters a reading holds, each counted each time it is reached (what is shared counts as often as it is met; a slice's spare places count too). A statement '..UptoSaid' is the law's where the arguments, and the package variables that the reading takes, are together of bulk at most 1048576: NARROWER than '..Said'. Prove '..Said' where nothing that the law and all that it calls make is longer than what came in: it says more and counts as full. Else prove '..UptoSaid'. A law counts once. -/
mutual
def uptoBulk {H : Type} : DataW H → Nat
  | .lit (.string bytes) => bytes.length + 1
  | .lit _ => 1
  | .nil => 1
  | .ptr d => uptoBulk d + 1
  | .slice elems spare => uptoBulkAll elems + uptoBulkAll spare + 1
  | .agg parts => uptoBulkAll parts + 1
  | .iface _ d => uptoBulk d + 1
  | .map entries => uptoBulkEntries entries + 1
  | .held _ => 1
def uptoBulkAll {H : Type} : List (DataW H) → Nat
  | [] => 0
  | d :: r => uptoBulk d + uptoBulkAll r
def uptoBulkEntries {H : Type} : List (Lit × DataW H) → Nat
  | [] => 0
  | x :: r => uptoBulkEntry x + uptoBulkEntries r
def uptoBulkEntry {H : Type} : Lit × DataW H → Nat
  | (.string bytes, d) => bytes.length + uptoBulk d + 1
  | (_, d) => uptoBulk d + 1
 end
def uptoSmall : (H : Type) → List (DataW H) → Bool := fun _ ds => decide (uptoBulkAll ds ≤ 1048576)
def OpenSpec.upto (s : _root_.Go.ChangeSpec) : _root_.Go.OpenSpec := { _root_.Go.OpenSpec.ofChange s with cond := some uptoSmall }

/-- 'tenementlaw12.WalkBegins', WHERE WHAT IT READS IS OF BULK AT MOST 1048576: true; the input reads as it did. -/
def walkBeginsUptoRow : OpenClaim := { program := "ytgdkkhdhomehdaadoor", sum := "03990f034865f8cfff873718b320cbe24d5b1dc4d27cd6236be3d044660f9e07", func := "tenement/tenementlaw12.WalkBegins", spec := "walkBegins", unfollowed := true, recurses := true, named := ["tenement/desc.kinds", "tenement/desc.low", "tenement/desc.named", "tenement/desc.places"], plainKeys := false, apart := false, laid := [("tenement/desc.places", laid_tenement_desc_places), ("tenement/desc.named", laid_tenement_desc_named), ("tenement/desc.low", laid_tenement_desc_low), ("tenement/desc.kinds", laid_tenement_desc_kinds)], narrowed := true }
def WalkBeginsUptoSaid : Prop := walkBeginsUptoRow.holds Tryd.pinned (OpenSpec.upto walkBeginsSpec)

/-- 'tenementlaw12.WalkNext', WHERE WHAT IT READS IS OF BULK AT MOST 1048576: true; the input reads as it did. -/
def walkNextUptoRow : OpenClaim := { program := "ytgdkkhdhomehdaadoor", sum := "03990f034865f8cfff873718b320cbe24d5b1dc4d27cd6236be3d044660f9e07", func := "tenement/tenementlaw12.WalkNext", spec := "walkNext", unfollowed := true, recurses := true, named := ["tenement/desc.kinds", "tenement/desc.low", "tenement/desc.named", "tenement/desc.places"], plainKeys := false, apart := false, laid := [("tenement/desc.places", laid_tenement_desc_places), ("tenement/desc.named", laid_tenement_desc_named), ("tenement/desc.low", laid_tenement_desc_low), ("tenement/desc.kinds", laid_tenement_desc_kinds)], narrowed := true }
def WalkNextUptoSaid : Prop := walkNextUptoRow.holds Tryd.pinned (OpenSpec.upto walkNextSpec)

/-- 'tenementlaw12.WalkAll', WHERE WHAT IT READS IS OF BULK AT MOST 1048576: true; the input reads as it did. -/
def walkAllUptoRow : OpenClaim := { program := "ytgdkkhdhomehdaadoor", sum := "03990f034865f8cfff873718b320cbe24d5b1dc4d27cd6236be3d044660f9e07", func := "tenement/tenementlaw12.WalkAll", spec := "walkAll", unfollowed := true, recurses := true, named := ["tenement/desc.kinds", "tenement/desc.low", "tenement/desc.named", "tenement/desc.places"], plainKeys := false, apart := false, laid := [("tenement/desc.places", laid_tenement_desc_places), ("tenement/desc.named", laid_tenement_desc_named), ("tenement/desc.low", laid_tenement_desc_low), ("tenement/desc.kinds", laid_tenement_desc_kinds)], narrowed := true }
def WalkAllUptoSaid : Prop := walkAllUptoRow.holds Tryd.pinned (OpenSpec.upto walkAllSpec)

/-- 'tenementlaw12.WalkCached', WHERE WHAT IT READS IS OF BULK AT MOST 1048576: true; the input reads as it did. -/
def walkCachedUptoRow : OpenClaim := { program := "ytgdkkhdhomehdaadoor", sum := "03990f034865f8cfff873718b320cbe24d5b1dc4d27cd6236be3d044660f9e07", func := "tenement/tenementlaw12.WalkCached", spec := "walkCached", unfollowed := true, recurses := true, named := ["tenement/desc.kinds", "tenement/desc.low", "tenement/desc.named", "tenement/desc.places"], plainKeys := false, apart := false, laid := [("tenement/desc.places", laid_tenement_desc_places), ("tenement/desc.named", laid_tenement_desc_named), ("tenement/desc.low", laid_tenement_desc_low), ("tenement/desc.kinds", laid_tenement_desc_kinds)], narrowed := true }
def WalkCachedUptoSaid : Prop := walkCachedUptoRow.holds Tryd.pinned (OpenSpec.upto walkCachedSpec)

/-- 'tenementlaw12.WalkTouch', WHERE WHAT IT READS IS OF BULK AT MOST 1048576: true; the input reads as it did. -/
def walkTouchUptoRow : OpenClaim := { program := "ytgdkkhdhomehdaadoor", sum := "03990f034865f8cfff873718b320cbe24d5b1dc4d27cd6236be3d044660f9e07", func := "tenement/tenementlaw12.WalkTouch", spec := "walkTouch", unfollowed := true, recurses := true, named := ["tenement/desc.kinds", "tenement/desc.low", "tenement/desc.named", "tenement/desc.places"], plainKeys := false, apart := false, laid := [("tenement/desc.places", laid_tenement_desc_places), ("tenement/desc.named", laid_tenement_desc_named), ("tenement/desc.low", laid_tenement_desc_low), ("tenement/desc.kinds", laid_tenement_desc_kinds)], narrowed := true }
def WalkTouchUptoSaid : Prop := walkTouchUptoRow.holds Tryd.pinned (OpenSpec.upto walkTouchSpec)

/-- 'tenementlaw29.WatchFewer', WHERE WHAT IT READS IS OF BULK AT MOST 1048576: true; the input reads as it did. -/
def watchFewerUptoRow : OpenClaim := { program := "ytgdkkhdhomehdaadoor", sum := "03990f034865f8cfff873718b320cbe24d5b1dc4d27cd6236be3d044660f9e07", func := "tenement/tenementlaw29.WatchFewer", spec := "watchFewer", unfollowed := true, recurses := true, named := ["tenement/desc.kinds", "tenement/desc.low", "tenement/desc.named", "tenement/desc.places"], plainKeys := false, apart := false, laid := [("tenement/desc.places", laid_tenement_desc_places), ("tenement/desc.named", laid_tenement_desc_named), ("tenement/desc.low", laid_tenement_desc_low), ("tenement/desc.kinds", laid_tenement_desc_kinds)], narrowed := true }
def WatchFewerUptoSaid : Prop := watchFewerUptoRow.holds Tryd.pinned (OpenSpec.upto watchFewerSpec)

/-- 'tenementlaw29.WatchFar', WHERE WHAT IT READS IS OF BULK AT MOST 1048576: true; the input reads as it did. -/
def watchFarUptoRow : OpenClaim := { program := "ytgdkkhdhomehdaadoor", sum := "03990f034865f8cfff873718b320cbe24d5b1dc4d27cd6236be3d044660f9e07", func := "tenement/tenementlaw29.WatchFar", spec := "watchFar", unfollowed := true, recurses := true, named := ["tenement/desc.kinds", "tenement/desc.low", "tenement/desc.named", "tenement/desc.places"], plainKeys := false, apart := false, laid := [("tenement/desc.places", laid_tenement_desc_places), ("tenement/desc.named", laid_tenement_desc_named), ("tenement/desc.low", laid_tenement_desc_low), ("tenement/desc.kinds", laid_tenement_desc_kinds)], narrowed := true }
def WatchFarUptoSaid : Prop := watchFarUptoRow.holds Tryd.pinned (OpenSpec.upto watchFarSpec)

end Rows
end Go.Proofs.YtgdkkhdhomehdaaDoor
