/-
  desc.Encode: the descriptor's word.
-/
import Derived.Test.YtappjiljmpgjcaaDoorDescWalks
namespace Go.Proofs.YtappjiljmpgjcaaDoor
open Go.RowKit
set_option linter.unusedVariables false
set_option linter.unusedSimpArgs false

def bI (b : Bool) : Int := if b then 1 else 0
/-- The word of a page or a table. -/
def wordV (f : Int) (af ro us ng : Bool) : Int := 3 + f * 4096 + bI us * 64 + bI ro * 128 + bI af * 1024 + bI ng * 2048
def noFlag (af ro us ng : Bool) : Bool := !af && (!ro && (!us && !ng))
def dOk (k f : Int) (af ro us ng : Bool) : Bool := decide (0 ≤ f ∧ f ≤ 63) && (((k == 0) && ((f == 0) && noFlag af ro us ng)) || (((k == 1) && noFlag af ro us ng) || (k == 2)))
def dV (k f : Int) (af ro us ng : Bool) : Int := if k = 0 then 0 else wordV f af ro us ng
def orB (x : Int) (b : Bool) (m : Int) : Int := if b then bits .or .u64 x m else x
/-- What the loop makes of the first word. -/
def orV (x : Int) (af ro us ng : Bool) : Int := orB (orB (orB (orB x us 64) ro 128) af 1024) ng 2048
theorem orV_word : ∀ (f : Fin 64) (af ro us ng : Bool), orV (bits .or .u64 3 ((f.val : Int) * 4096)) af ro us ng = wordV f.val af ro us ng := by decide +kernel
theorem orV_zero : ∀ (f : Fin 64) (af ro us ng : Bool), (orV (bits .or .u64 0 ((f.val : Int) * 4096)) af ro us ng == 0) = ((((f.val : Int)) == 0) && noFlag af ro us ng) := by decide +kernel
theorem orV_named2 : ∀ (f : Fin 64) (af ro us ng : Bool), (bits .andNot .u64 (wordV f.val af ro us ng) 281474976709827 != 0) = false := by decide +kernel
theorem orV_named1 : ∀ (f : Fin 64) (af ro us ng : Bool), (bits .andNot .u64 (wordV f.val af ro us ng) 281474976706563 != 0) = !noFlag af ro us ng := by decide +kernel
theorem orV_named0 : ∀ (f : Fin 64) (af ro us ng : Bool), (bits .andNot .u64 (orV (bits .or .u64 0 ((f.val : Int) * 4096)) af ro us ng) 0 != 0) = !(((((f.val : Int)) == 0) && noFlag af ro us ng)) := by decide +kernel
theorem fin_of {f : Int} (h0 : 0 ≤ f) (h1 : f ≤ 63) : ∃ n : Fin 64, f = n.val := ⟨⟨f.toNat, by omega⟩, by simp; omega⟩
end Go.Proofs.YtappjiljmpgjcaaDoor
