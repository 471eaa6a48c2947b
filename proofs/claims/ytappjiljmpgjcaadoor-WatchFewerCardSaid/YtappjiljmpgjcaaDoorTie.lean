/-
  DERIVED. GIVEN WITH THE SEED: THE PROGRAM's TIES (one call each: nine closed facts by the kernel) AND EACH ROW's TIE, after the 31st guide's Derived/Test/Toyas{Tie, Card}.lean. No idea stands in it: it is a product of the set-up. Laid BY PROGRAM, IN A SANDBOX (cutbox-door.mjs). By AI agents, Wed Nov 11 2026. No macro, syntax, notation, axiom, sorry.
-/
import Derived.Test.YtappjiljmpgjcaaDoorRows
import Derived.LaidByTextLater
import Derived.SevenTiedAt
import Derived.LaidSub
import Derived.LaidOnce
namespace Go.Proofs.YtappjiljmpgjcaaDoor
open Go
set_option maxRecDepth 100000
theorem seatTie1 : Tryd.prog.laidByTextLater [("tenement/desc.places", Rows.laid_tenement_desc_places), ("tenement/desc.named", Rows.laid_tenement_desc_named), ("tenement/desc.low", Rows.laid_tenement_desc_low), ("tenement/desc.kinds", Rows.laid_tenement_desc_kinds)] [.data, .data, .data, .data] true :=
  Program.laidByTextLater_by_one 34 8 11 (by kernel_rfl) (by kernel_rfl) (by kernel_rfl) (by kernel_rfl) (by kernel_rfl) (by kernel_rfl) (fun _ _ => by kernel_rfl)
theorem noOwnUnsafe : Tryd.pinned.checked.prog.headLifts.contains "ownunsafe" = false := by kernel_rfl
theorem tie : Tryd.prog.laidByTextLater [("tenement/desc.places", Rows.laid_tenement_desc_places), ("tenement/desc.named", Rows.laid_tenement_desc_named), ("tenement/desc.low", Rows.laid_tenement_desc_low), ("tenement/desc.kinds", Rows.laid_tenement_desc_kinds)] [.data, .data, .data, .data] true :=
  Program.laidByTextLater.sub seatTie1 ["tenement/desc.places", "tenement/desc.named", "tenement/desc.low", "tenement/desc.kinds"] (by kernel_rfl) (by kernel_rfl)
theorem watchFewer_row_tie : Rows.watchFewerRow.laidByTextAt .later Tryd.pinned [.data, .data, .data, .data] true :=
  OpenClaim.laidByTextAt_later rfl rfl tie noOwnUnsafe
theorem watchFar_row_tie : Rows.watchFarRow.laidByTextAt .later Tryd.pinned [.data, .data, .data, .data] true :=
  OpenClaim.laidByTextAt_later rfl rfl tie noOwnUnsafe
theorem watchFewerUpto_row_tie : Rows.watchFewerUptoRow.laidByTextAt .later Tryd.pinned [.data, .data, .data, .data] true :=
  OpenClaim.laidByTextAt_later rfl rfl tie noOwnUnsafe
theorem watchFarUpto_row_tie : Rows.watchFarUptoRow.laidByTextAt .later Tryd.pinned [.data, .data, .data, .data] true :=
  OpenClaim.laidByTextAt_later rfl rfl tie noOwnUnsafe
end Go.Proofs.YtappjiljmpgjcaaDoor
