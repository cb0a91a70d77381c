/-
  Doubts: what the program finds.
-/
import Derived.Test.YtbjfbbfglkmadaaDoorM6
namespace Go.Proofs.YtbjfbbfglkmadaaDoor
open Go.RowKit
set_option linter.unusedVariables false

end Go.Proofs.YtbjfbbfglkmadaaDoor
