/-
  NARROWER THAN 'FOR EVERY INPUT', by the rows' own cells (each row's printed sentence says how): DescTouch: laid · DescBack: laid · DescOne: laid · DescTells: laid.
  DERIVED. THE GIVEN ROWS OF THIS SEAT. 4 by the template 'for every input the law returns true; each argument reads behind the call as it read before'; 0 by the template 'total and deterministic' (their statements: YtlmfmpmcgokbeaaDoorTotals.lean).
  GIVEN WITH THE SEED: the statements are not yours to turn. If you find one false, say at which input.
  Laid BY PROGRAM, IN A SANDBOX (cutbox-rows.mjs): the forced cells as the released guide's own fill.sh prints them over the translation 728abf10534680b5… (all of the seat's roots in one cut). By AI agents, Wed Nov 11 2026. No macro, syntax, notation, axiom, sorry.
-/
import Derived.Test.YtlmfmpmcgokbeaaDoorChecked
import GoSem.Claim
import GoSem.ClaimJoined
import GoSem.ClaimMapViews
import Derived.JoinedTies
import Derived.KernelRfl
namespace Go.Proofs.YtlmfmpmcgokbeaaDoor
/- THE CELL 'sum', in the pinned program and in every row, IS THE sha256 OF THE DUMP (.gsa) THAT YtlmfmpmcgokbeaaDoorProg.lean LOADS. Nothing in Lean hashes anything: it is a label: what it is worth is what the hold of that sum in a sandbox is worth. -/
noncomputable def Tryd.pinned : Pinned := { name := "ytlmfmpmcgokbeaadoor", sum := "728abf10534680b54bee9fb11d52c68932c65c3c40282e4df25091e2e379410b", checked := Tryd.checked }
namespace Rows
def none {H : Type} : Left H := { results := [], args := [] }

/- WHAT THE LISTED PACKAGE-LEVEL VARIABLES READ AS WHEN THE CALL BEGINS. Each datum BY PROGRAM (the guide's laid-datum.mjs) off the statement by which the dump's own 'gosem.cut.vars' lays the variable. In a bare row this is a premise. The card (YtlmfmpmcgokbeaaDoorCards.lean) ties it to the program's text. -/
def laid_tenement_desc_places {H : Type} : DataW H := .agg [.agg [.lit (.int .i64 6), .lit (.int .i64 6)], .agg [.lit (.int .i64 7), .lit (.int .i64 7)], .agg [.lit (.int .i64 10), .lit (.int .i64 10)], .agg [.lit (.int .i64 11), .lit (.int .i64 11)], .agg [.lit (.int .i64 47), .lit (.int .i64 12)]]
def laid_tenement_desc_named {H : Type} : DataW H := .agg [.lit (.int .u64 0), .lit (.int .u64 281474976706563), .lit (.int .u64 281474976709827)]
def laid_tenement_desc_low {H : Type} : DataW H := .agg [.lit (.int .u64 0), .lit (.int .u64 3), .lit (.int .u64 3)]
def laid_tenement_desc_kinds {H : Type} : DataW H := .agg [.lit (.int .i8 1), .lit (.int .i8 1), .lit (.int .i8 1), .lit (.int .i8 2)]

/-- 'tenementlaw03.DescTouch': WHATEVER THE INPUT: true; the input reads as it did. -/
def descTouchSpec : ChangeSpec := { name := "descTouch", fn := fun _ => fun
  | [d1, d2] => { results := [.lit (.bool true)], args := [d1, d2] }
  | _ => none }
def descTouchRow : OpenClaim := { program := "ytlmfmpmcgokbeaadoor", sum := "728abf10534680b54bee9fb11d52c68932c65c3c40282e4df25091e2e379410b", func := "tenement/tenementlaw03.DescTouch", spec := "descTouch", named := ["tenement/desc.places", "tenement/desc.kinds", "tenement/desc.low", "tenement/desc.named"], apart := false, laid := [("tenement/desc.places", laid_tenement_desc_places), ("tenement/desc.named", laid_tenement_desc_named), ("tenement/desc.low", laid_tenement_desc_low), ("tenement/desc.kinds", laid_tenement_desc_kinds)] }
def DescTouchSaid : Prop := descTouchRow.holds Tryd.pinned (OpenSpec.ofChange descTouchSpec)

/-- ITS FALSE NEIGHBOUR: 'it returns false'. Refute it at one input. -/
def descTouchWrong : ChangeSpec := { name := "descTouch", fn := fun _ => fun
  | [d1, d2] => { results := [.lit (.bool false)], args := [d1, d2] }
  | _ => none }
def DescTouchWrongFalsely : Prop := descTouchRow.holds Tryd.pinned (OpenSpec.ofChange descTouchWrong)

/-- 'tenementlaw03.DescBack': WHATEVER THE INPUT: true; the input reads as it did. -/
def descBackSpec : ChangeSpec := { name := "descBack", fn := fun _ => fun
  | [d1, d2, d3] => { results := [.lit (.bool true)], args := [d1, d2, d3] }
  | _ => none }
def descBackRow : OpenClaim := { program := "ytlmfmpmcgokbeaadoor", sum := "728abf10534680b54bee9fb11d52c68932c65c3c40282e4df25091e2e379410b", func := "tenement/tenementlaw03.DescBack", spec := "descBack", named := ["tenement/desc.low", "tenement/desc.places", "tenement/desc.named", "tenement/desc.kinds"], apart := false, laid := [("tenement/desc.places", laid_tenement_desc_places), ("tenement/desc.named", laid_tenement_desc_named), ("tenement/desc.low", laid_tenement_desc_low), ("tenement/desc.kinds", laid_tenement_desc_kinds)] }
def DescBackSaid : Prop := descBackRow.holds Tryd.pinned (OpenSpec.ofChange descBackSpec)

/-- ITS FALSE NEIGHBOUR: 'it returns false'. Refute it at one input. -/
def descBackWrong : ChangeSpec := { name := "descBack", fn := fun _ => fun
  | [d1, d2, d3] => { results := [.lit (.bool false)], args := [d1, d2, d3] }
  | _ => none }
def DescBackWrongFalsely : Prop := descBackRow.holds Tryd.pinned (OpenSpec.ofChange descBackWrong)

/-- 'tenementlaw03.DescOne': WHATEVER THE INPUT: true; the input reads as it did. -/
def descOneSpec : ChangeSpec := { name := "descOne", fn := fun _ => fun
  | [d1, d2, d3] => { results := [.lit (.bool true)], args := [d1, d2, d3] }
  | _ => none }
def descOneRow : OpenClaim := { program := "ytlmfmpmcgokbeaadoor", sum := "728abf10534680b54bee9fb11d52c68932c65c3c40282e4df25091e2e379410b", func := "tenement/tenementlaw03.DescOne", spec := "descOne", named := ["tenement/desc.low", "tenement/desc.places", "tenement/desc.named", "tenement/desc.kinds"], apart := false, laid := [("tenement/desc.places", laid_tenement_desc_places), ("tenement/desc.named", laid_tenement_desc_named), ("tenement/desc.low", laid_tenement_desc_low), ("tenement/desc.kinds", laid_tenement_desc_kinds)] }
def DescOneSaid : Prop := descOneRow.holds Tryd.pinned (OpenSpec.ofChange descOneSpec)

/-- ITS FALSE NEIGHBOUR: 'it returns false'. Refute it at one input. -/
def descOneWrong : ChangeSpec := { name := "descOne", fn := fun _ => fun
  | [d1, d2, d3] => { results := [.lit (.bool false)], args := [d1, d2, d3] }
  | _ => none }
def DescOneWrongFalsely : Prop := descOneRow.holds Tryd.pinned (OpenSpec.ofChange descOneWrong)

/-- 'tenementlaw03.DescTells': WHATEVER THE INPUT: true; the input reads as it did. -/
def descTellsSpec : ChangeSpec := { name := "descTells", fn := fun _ => fun
  | [d1, d2, d3, d4] => { results := [.lit (.bool true)], args := [d1, d2, d3, d4] }
  | _ => none }
def descTellsRow : OpenClaim := { program := "ytlmfmpmcgokbeaadoor", sum := "728abf10534680b54bee9fb11d52c68932c65c3c40282e4df25091e2e379410b", func := "tenement/tenementlaw03.DescTells", spec := "descTells", named := ["tenement/desc.low", "tenement/desc.places", "tenement/desc.named", "tenement/desc.kinds"], apart := false, laid := [("tenement/desc.places", laid_tenement_desc_places), ("tenement/desc.named", laid_tenement_desc_named), ("tenement/desc.low", laid_tenement_desc_low), ("tenement/desc.kinds", laid_tenement_desc_kinds)] }
def DescTellsSaid : Prop := descTellsRow.holds Tryd.pinned (OpenSpec.ofChange descTellsSpec)

/-- ITS FALSE NEIGHBOUR: 'it returns false'. Refute it at one input. -/
def descTellsWrong : ChangeSpec := { name := "descTells", fn := fun _ => fun
  | [d1, d2, d3, d4] => { results := [.lit (.bool false)], args := [d1, d2, d3, d4] }
  | _ => none }
def DescTellsWrongFalsely : Prop := descTellsRow.holds Tryd.pinned (OpenSpec.ofChange descTellsWrong)

/- THE SECOND FORM. 'bulk': how many values and letters a reading holds, each counted each time it is reached (what is shared counts as often as it is met; a slice's spare places count too). A statement '..UptoSaid' is the law's where the arguments, and the package variables that the reading takes, are together of bulk at most 1048576: NARROWER than '..Said'. Prove '..Said' where nothing that the law and all that it calls make is longer than what came in: it says more and counts as full. Else prove '..UptoSaid'. A law counts once. -/
mutual
def uptoBulk {H : Type} : DataW H → Nat
  | .lit (.string bytes) => bytes.length + 1
  | .lit _ => 1
  | .nil => 1
  | .ptr d => uptoBulk d + 1
  | .slice elems spare => uptoBulkAll elems + uptoBulkAll spare + 1
  | .agg parts => uptoBulkAll parts + 1
  | .iface _ d => uptoBulk d + 1
  | .map entries => uptoBulkEntries entries + 1
  | .held _ => 1
def uptoBulkAll {H : Type} : List (DataW H) → Nat
  | [] => 0
  | d :: r => uptoBulk d + uptoBulkAll r
def uptoBulkEntries {H : Type} : List (Lit × DataW H) → Nat
  | [] => 0
  | x :: r => uptoBulkEntry x + uptoBulkEntries r
def uptoBulkEntry {H : Type} : Lit × DataW H → Nat
  | (.string bytes, d) => bytes.length + uptoBulk d + 1
  | (_, d) => uptoBulk d + 1
 end
def uptoSmall : (H : Type) → List (DataW H) → Bool := fun _ ds => decide (uptoBulkAll ds ≤ 1048576)
def OpenSpec.upto (s : _root_.Go.ChangeSpec) : _root_.Go.OpenSpec := { _root_.Go.OpenSpec.ofChange s with cond := some uptoSmall }

/-- 'tenementlaw03.DescTouch', WHERE WHAT IT READS IS OF BULK AT MOST 1048576: true; the input reads as it did. -/
def descTouchUptoRow : OpenClaim := { program := "ytlmfmpmcgokbeaadoor", sum := "728abf10534680b54bee9fb11d52c68932c65c3c40282e4df25091e2e379410b", func := "tenement/tenementlaw03.DescTouch", spec := "descTouch", named := ["tenement/desc.places", "tenement/desc.kinds", "tenement/desc.low", "tenement/desc.named"], apart := false, laid := [("tenement/desc.places", laid_tenement_desc_places), ("tenement/desc.named", laid_tenement_desc_named), ("tenement/desc.low", laid_tenement_desc_low), ("tenement/desc.kinds", laid_tenement_desc_kinds)], narrowed := true }
def DescTouchUptoSaid : Prop := descTouchUptoRow.holds Tryd.pinned (OpenSpec.upto descTouchSpec)

/-- 'tenementlaw03.DescBack', WHERE WHAT IT READS IS OF BULK AT MOST 1048576: true; the input reads as it did. -/
def descBackUptoRow : OpenClaim := { program := "ytlmfmpmcgokbeaadoor", sum := "728abf10534680b54bee9fb11d52c68932c65c3c40282e4df25091e2e379410b", func := "tenement/tenementlaw03.DescBack", spec := "descBack", named := ["tenement/desc.low", "tenement/desc.places", "tenement/desc.named", "tenement/desc.kinds"], apart := false, laid := [("tenement/desc.places", laid_tenement_desc_places), ("tenement/desc.named", laid_tenement_desc_named), ("tenement/desc.low", laid_tenement_desc_low), ("tenement/desc.kinds", laid_tenement_desc_kinds)], narrowed := true }
def DescBackUptoSaid : Prop := descBackUptoRow.holds Tryd.pinned (OpenSpec.upto descBackSpec)

/-- 'tenementlaw03.DescOne', WHERE WHAT IT READS IS OF BULK AT MOST 1048576: true; the input reads as it did. -/
def descOneUptoRow : OpenClaim := { program := "ytlmfmpmcgokbeaadoor", sum := "728abf10534680b54bee9fb11d52c68932c65c3c40282e4df25091e2e379410b", func := "tenement/tenementlaw03.DescOne", spec := "descOne", named := ["tenement/desc.low", "tenement/desc.places", "tenement/desc.named", "tenement/desc.kinds"], apart := false, laid := [("tenement/desc.places", laid_tenement_desc_places), ("tenement/desc.named", laid_tenement_desc_named), ("tenement/desc.low", laid_tenement_desc_low), ("tenement/desc.kinds", laid_tenement_desc_kinds)], narrowed := true }
def DescOneUptoSaid : Prop := descOneUptoRow.holds Tryd.pinned (OpenSpec.upto descOneSpec)

/-- 'tenementlaw03.DescTells', WHERE WHAT IT READS IS OF BULK AT MOST 1048576: true; the input reads as it did. -/
def descTellsUptoRow : OpenClaim := { program := "ytlmfmpmcgokbeaadoor", sum := "728abf10534680b54bee9fb11d52c68932c65c3c40282e4df25091e2e379410b", func := "tenement/tenementlaw03.DescTells", spec := "descTells", named := ["tenement/desc.low", "tenement/desc.places", "tenement/desc.named", "tenement/desc.kinds"], apart := false, laid := [("tenement/desc.places", laid_tenement_desc_places), ("tenement/desc.named", laid_tenement_desc_named), ("tenement/desc.low", laid_tenement_desc_low), ("tenement/desc.kinds", laid_tenement_desc_kinds)], narrowed := true }
def DescTellsUptoSaid : Prop := descTellsUptoRow.holds Tryd.pinned (OpenSpec.upto descTellsSpec)

end Rows
end Go.Proofs.YtlmfmpmcgokbeaaDoor
