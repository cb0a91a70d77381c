/-
  Lean coalitions, the smallest one, the nearest customers: what the program computes.
-/
import Derived.Test.YtbjfbbfglkmadaaDoorM4
namespace Go.Proofs.YtbjfbbfglkmadaaDoor
open Go.RowKit
set_option linter.unusedVariables false

end Go.Proofs.YtbjfbbfglkmadaaDoor
