/-
  What the program asks of a candidate for a doubt.
-/
import Derived.Test.YtbjfbbfglkmadaaDoorM9
import Derived.Test.YtbjfbbfglkmadaaDoorM10
namespace Go.Proofs.YtbjfbbfglkmadaaDoor
open Go.RowKit
set_option linter.unusedVariables false

end Go.Proofs.YtbjfbbfglkmadaaDoor
