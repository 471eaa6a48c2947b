/-
  No cell of these rows narrows 'for every input' (looked for: loops, veiled, ifaces, maps, wideKeys, modest, calm, conditions, laid).
  DERIVED. THE GIVEN ROWS OF THIS SEAT. 5 by the template 'for every input the law returns true; each argument reads behind the call as it read before'; 0 by the template 'total and deterministic' (their statements: YtencifnopfianaaTotals.lean).
  GIVEN WITH THE SEED: the statements are not yours to turn. If you find one false, say at which input.
  Laid BY PROGRAM, IN A SANDBOX (cutbox-rows.mjs): the forced cells as the released guide's own fill.sh prints them over the translation 53a2c810dafaeb44… (all of the seat's roots in one cut). By AI agents, Wed Nov 11 2026. No macro, syntax, notation, axiom, sorry.
-/
import Derived.Test.YtencifnopfianaaChecked
import GoSem.Claim
import GoSem.ClaimJoined
import GoSem.ClaimMapViews
import Derived.JoinedTies
import Derived.KernelRfl
namespace Go.Proofs.Ytencifnopfianaa
/- THE CELL 'sum', in the pinned program and in every row, IS THE sha256 OF THE DUMP (.gsa) THAT YtencifnopfianaaProg.lean LOADS. Nothing in Lean hashes anything: it is a label: what it is worth is what the hold of that sum in a sandbox is worth. -/
noncomputable def Try.pinned : Pinned := { name := "ytencifnopfianaa", sum := "53a2c810dafaeb443b2126c291cfbe3cc93e3697f6d62c6dfd3b178ed2d62b70", checked := Try.checked }
namespace Rows
def none {H : Type} : Left H := { results := [], args := [] }

/-- 'tenementlaw11.TlbDrops': WHATEVER THE INPUT: true; the input reads as it did. -/
def tlbDropsSpec : ChangeSpec := { name := "tlbDrops", fn := fun _ => fun
  | [d1, d2, d3, d4, d5] => { results := [.lit (.bool true)], args := [d1, d2, d3, d4, d5] }
  | _ => none }
def tlbDropsRow : OpenClaim := { program := "ytencifnopfianaa", sum := "53a2c810dafaeb443b2126c291cfbe3cc93e3697f6d62c6dfd3b178ed2d62b70", func := "tenement/tenementlaw11.TlbDrops", spec := "tlbDrops", unfollowed := true, recurses := true, apart := false }
def TlbDropsSaid : Prop := tlbDropsRow.holds Try.pinned (OpenSpec.ofChange tlbDropsSpec)

/-- ITS FALSE NEIGHBOUR: 'it returns false'. Refute it at one input. -/
def tlbDropsWrong : ChangeSpec := { name := "tlbDrops", fn := fun _ => fun
  | [d1, d2, d3, d4, d5] => { results := [.lit (.bool false)], args := [d1, d2, d3, d4, d5] }
  | _ => none }
def TlbDropsWrongFalsely : Prop := tlbDropsRow.holds Try.pinned (OpenSpec.ofChange tlbDropsWrong)

/-- 'tenementlaw11.TlbAgain': WHATEVER THE INPUT: true; the input reads as it did. -/
def tlbAgainSpec : ChangeSpec := { name := "tlbAgain", fn := fun _ => fun
  | [d1, d2, d3, d4] => { results := [.lit (.bool true)], args := [d1, d2, d3, d4] }
  | _ => none }
def tlbAgainRow : OpenClaim := { program := "ytencifnopfianaa", sum := "53a2c810dafaeb443b2126c291cfbe3cc93e3697f6d62c6dfd3b178ed2d62b70", func := "tenement/tenementlaw11.TlbAgain", spec := "tlbAgain", unfollowed := true, recurses := true, apart := false }
def TlbAgainSaid : Prop := tlbAgainRow.holds Try.pinned (OpenSpec.ofChange tlbAgainSpec)

/-- ITS FALSE NEIGHBOUR: 'it returns false'. Refute it at one input. -/
def tlbAgainWrong : ChangeSpec := { name := "tlbAgain", fn := fun _ => fun
  | [d1, d2, d3, d4] => { results := [.lit (.bool false)], args := [d1, d2, d3, d4] }
  | _ => none }
def TlbAgainWrongFalsely : Prop := tlbAgainRow.holds Try.pinned (OpenSpec.ofChange tlbAgainWrong)

/-- 'tenementlaw11.TlbBest': WHATEVER THE INPUT: true; the input reads as it did. -/
def tlbBestSpec : ChangeSpec := { name := "tlbBest", fn := fun _ => fun
  | [d1, d2, d3] => { results := [.lit (.bool true)], args := [d1, d2, d3] }
  | _ => none }
def tlbBestRow : OpenClaim := { program := "ytencifnopfianaa", sum := "53a2c810dafaeb443b2126c291cfbe3cc93e3697f6d62c6dfd3b178ed2d62b70", func := "tenement/tenementlaw11.TlbBest", spec := "tlbBest", unfollowed := true, recurses := true, apart := false }
def TlbBestSaid : Prop := tlbBestRow.holds Try.pinned (OpenSpec.ofChange tlbBestSpec)

/-- ITS FALSE NEIGHBOUR: 'it returns false'. Refute it at one input. -/
def tlbBestWrong : ChangeSpec := { name := "tlbBest", fn := fun _ => fun
  | [d1, d2, d3] => { results := [.lit (.bool false)], args := [d1, d2, d3] }
  | _ => none }
def TlbBestWrongFalsely : Prop := tlbBestRow.holds Try.pinned (OpenSpec.ofChange tlbBestWrong)

/-- 'tenementlaw11.TlbTells': WHATEVER THE INPUT: true; the input reads as it did. -/
def tlbTellsSpec : ChangeSpec := { name := "tlbTells", fn := fun _ => fun
  | [d1, d2, d3, d4, d5, d6] => { results := [.lit (.bool true)], args := [d1, d2, d3, d4, d5, d6] }
  | _ => none }
def tlbTellsRow : OpenClaim := { program := "ytencifnopfianaa", sum := "53a2c810dafaeb443b2126c291cfbe3cc93e3697f6d62c6dfd3b178ed2d62b70", func := "tenement/tenementlaw11.TlbTells", spec := "tlbTells", unfollowed := true, recurses := true, apart := false }
def TlbTellsSaid : Prop := tlbTellsRow.holds Try.pinned (OpenSpec.ofChange tlbTellsSpec)

/-- ITS FALSE NEIGHBOUR: 'it returns false'. Refute it at one input. -/
def tlbTellsWrong : ChangeSpec := { name := "tlbTells", fn := fun _ => fun
  | [d1, d2, d3, d4, d5, d6] => { results := [.lit (.bool false)], args := [d1, d2, d3, d4, d5, d6] }
  | _ => none }
def TlbTellsWrongFalsely : Prop := tlbTellsRow.holds Try.pinned (OpenSpec.ofChange tlbTellsWrong)

/-- 'tenementlaw11.TlbSteps': WHATEVER THE INPUT: true; the input reads as it did. -/
def tlbStepsSpec : ChangeSpec := { name := "tlbSteps", fn := fun _ => fun
  | [d1, d2, d3, d4, d5, d6] => { results := [.lit (.bool true)], args := [d1, d2, d3, d4, d5, d6] }
  | _ => none }
def tlbStepsRow : OpenClaim := { program := "ytencifnopfianaa", sum := "53a2c810dafaeb443b2126c291cfbe3cc93e3697f6d62c6dfd3b178ed2d62b70", func := "tenement/tenementlaw11.TlbSteps", spec := "tlbSteps", unfollowed := true, recurses := true, apart := false }
def TlbStepsSaid : Prop := tlbStepsRow.holds Try.pinned (OpenSpec.ofChange tlbStepsSpec)

/-- ITS FALSE NEIGHBOUR: 'it returns false'. Refute it at one input. -/
def tlbStepsWrong : ChangeSpec := { name := "tlbSteps", fn := fun _ => fun
  | [d1, d2, d3, d4, d5, d6] => { results := [.lit (.bool false)], args := [d1, d2, d3, d4, d5, d6] }
  | _ => none }
def TlbStepsWrongFalsely : Prop := tlbStepsRow.holds Try.pinned (OpenSpec.ofChange tlbStepsWrong)

/- THE SECOND FORM. 'bulk': how many values and letters a reading holds, each counted each time it is reached (what is shared counts as often as it is met; a slice's spare places count too). A statement '..UptoSaid' is the law's where the arguments, and the package variables that the reading takes, are together of bulk at most 1048576: NARROWER than '..Said'. Prove '..Said' where nothing that the law and all that it calls make is longer than what came in: it says more and counts as full. Else prove '..UptoSaid'. A law counts once. -/
mutual
def uptoBulk {H : Type} : DataW H → Nat
  | .lit (.string bytes) => bytes.length + 1
  | .lit _ => 1
  | .nil => 1
  | .ptr d => uptoBulk d + 1
  | .slice elems spare => uptoBulkAll elems + uptoBulkAll spare + 1
  | .agg parts => uptoBulkAll parts + 1
  | .iface _ d => uptoBulk d + 1
  | .map entries => uptoBulkEntries entries + 1
  | .held _ => 1
def uptoBulkAll {H : Type} : List (DataW H) → Nat
  | [] => 0
  | d :: r => uptoBulk d + uptoBulkAll r
def uptoBulkEntries {H : Type} : List (Lit × DataW H) → Nat
  | [] => 0
  | x :: r => uptoBulkEntry x + uptoBulkEntries r
def uptoBulkEntry {H : Type} : Lit × DataW H → Nat
  | (.string bytes, d) => bytes.length + uptoBulk d + 1
  | (_, d) => uptoBulk d + 1
 end
def uptoSmall : (H : Type) → List (DataW H) → Bool := fun _ ds => decide (uptoBulkAll ds ≤ 1048576)
def OpenSpec.upto (s : _root_.Go.ChangeSpec) : _root_.Go.OpenSpec := { _root_.Go.OpenSpec.ofChange s with cond := some uptoSmall }

/-- 'tenementlaw11.TlbDrops', WHERE WHAT IT READS IS OF BULK AT MOST 1048576: true; the input reads as it did. -/
def tlbDropsUptoRow : OpenClaim := { program := "ytencifnopfianaa", sum := "53a2c810dafaeb443b2126c291cfbe3cc93e3697f6d62c6dfd3b178ed2d62b70", func := "tenement/tenementlaw11.TlbDrops", spec := "tlbDrops", unfollowed := true, recurses := true, apart := false, narrowed := true }
def TlbDropsUptoSaid : Prop := tlbDropsUptoRow.holds Try.pinned (OpenSpec.upto tlbDropsSpec)

/-- 'tenementlaw11.TlbAgain', WHERE WHAT IT READS IS OF BULK AT MOST 1048576: true; the input reads as it did. -/
def tlbAgainUptoRow : OpenClaim := { program := "ytencifnopfianaa", sum := "53a2c810dafaeb443b2126c291cfbe3cc93e3697f6d62c6dfd3b178ed2d62b70", func := "tenement/tenementlaw11.TlbAgain", spec := "tlbAgain", unfollowed := true, recurses := true, apart := false, narrowed := true }
def TlbAgainUptoSaid : Prop := tlbAgainUptoRow.holds Try.pinned (OpenSpec.upto tlbAgainSpec)

/-- 'tenementlaw11.TlbBest', WHERE WHAT IT READS IS OF BULK AT MOST 1048576: true; the input reads as it did. -/
def tlbBestUptoRow : OpenClaim := { program := "ytencifnopfianaa", sum := "53a2c810dafaeb443b2126c291cfbe3cc93e3697f6d62c6dfd3b178ed2d62b70", func := "tenement/tenementlaw11.TlbBest", spec := "tlbBest", unfollowed := true, recurses := true, apart := false, narrowed := true }
def TlbBestUptoSaid : Prop := tlbBestUptoRow.holds Try.pinned (OpenSpec.upto tlbBestSpec)

/-- 'tenementlaw11.TlbTells', WHERE WHAT IT READS IS OF BULK AT MOST 1048576: true; the input reads as it did. -/
def tlbTellsUptoRow : OpenClaim := { program := "ytencifnopfianaa", sum := "53a2c810dafaeb443b2126c291cfbe3cc93e3697f6d62c6dfd3b178ed2d62b70", func := "tenement/tenementlaw11.TlbTells", spec := "tlbTells", unfollowed := true, recurses := true, apart := false, narrowed := true }
def TlbTellsUptoSaid : Prop := tlbTellsUptoRow.holds Try.pinned (OpenSpec.upto tlbTellsSpec)

/-- 'tenementlaw11.TlbSteps', WHERE WHAT IT READS IS OF BULK AT MOST 1048576: true; the input reads as it did. -/
def tlbStepsUptoRow : OpenClaim := { program := "ytencifnopfianaa", sum := "53a2c810dafaeb443b2126c291cfbe3cc93e3697f6d62c6dfd3b178ed2d62b70", func := "tenement/tenementlaw11.TlbSteps", spec := "tlbSteps", unfollowed := true, recurses := true, apart := false, narrowed := true }
def TlbStepsUptoSaid : Prop := tlbStepsUptoRow.holds Try.pinned (OpenSpec.upto tlbStepsSpec)

end Rows
end Go.Proofs.Ytencifnopfianaa
