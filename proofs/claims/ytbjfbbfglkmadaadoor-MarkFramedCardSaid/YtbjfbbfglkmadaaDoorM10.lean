/-
  How a doubt is verified.
-/
import Derived.Test.YtbjfbbfglkmadaaDoorM7
namespace Go.Proofs.YtbjfbbfglkmadaaDoor
open Go.RowKit
set_option linter.unusedVariables false

def cm (ls : List (List Int)) : Bool := (ls.getD 0 []).any fun x => ls.all fun l => decide (x ∈ l)
end Go.Proofs.YtbjfbbfglkmadaaDoor
