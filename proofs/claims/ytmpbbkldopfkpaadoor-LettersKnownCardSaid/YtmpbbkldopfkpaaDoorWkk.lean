/-
  The examples of the chapter are right.
-/
import Derived.Test.YtmpbbkldopfkpaaDoorWC0
import Derived.Test.YtmpbbkldopfkpaaDoorQM10
namespace Go.Proofs.YtmpbbkldopfkpaaDoor
open Go.RowKit
set_option linter.unusedVariables false
def A10 : Option (Bool) := m10 (some true) A13 A15 A18 A20 A22 A36 A37 A38 60
theorem known10 : A10 = some true := by kernel_rfl
theorem K10k : FnOk Tryd.prog 10 (F10 (some true)) := known10 ▸ ok10 (some true) A13 A15 A18 A20 A22 A36 A37 A38 K11t K13 K15 K18 K20 K22 K36 K37 K38 A10 fun r h => ⟨60, h⟩
end Go.Proofs.YtmpbbkldopfkpaaDoor
