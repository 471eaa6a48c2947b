/-
  desc.Encode at kind 2.
-/
import Derived.Test.YtappjiljmpgjcaaDoorDescEnc
namespace Go.Proofs.YtappjiljmpgjcaaDoor
open Go.RowKit
set_option linter.unusedVariables false
set_option linter.unusedSimpArgs false

end Go.Proofs.YtappjiljmpgjcaaDoor
