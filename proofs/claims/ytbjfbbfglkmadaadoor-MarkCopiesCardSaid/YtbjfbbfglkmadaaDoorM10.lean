/-
  How a doubt is verified.
-/
import Derived.Test.YtbjfbbfglkmadaaDoorM7
namespace Go.Proofs.YtbjfbbfglkmadaaDoor
open Go.RowKit
set_option linter.unusedVariables false

end Go.Proofs.YtbjfbbfglkmadaaDoor
