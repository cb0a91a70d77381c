/-
  Who is framed: what the program computes.
-/
import Derived.Test.YtbjfbbfglkmadaaDoorM5
namespace Go.Proofs.YtbjfbbfglkmadaaDoor
open Go.RowKit
set_option linter.unusedVariables false

end Go.Proofs.YtbjfbbfglkmadaaDoor
