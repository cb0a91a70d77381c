/-
 Functions of the law, told as plain functions.
-/
import Derived.Test.YtbjfbbfglkmadaaDoorQFI
namespace Go.Proofs.YtbjfbbfglkmadaaDoor
open Go.RowKit
set_option linter.unusedVariables false
end Go.Proofs.YtbjfbbfglkmadaaDoor
