/-
  Lifting Go functions to plain Lean functions, part GV: what package variables hold that are not turned.
-/
import Derived.Test.YtbjfbbfglkmadaaDoorQA
namespace Go.Proofs.YtbjfbbfglkmadaaDoor
open Go.RowKit

def GTV : Nat → Option ((t : DT) × t.den)
 | 0 => some ⟨.sl (.int .i64), ([0, 1, 1, 2, 1, 2, 2, 3, 1, 2, 2, 3, 2, 3, 3, 4] : List Int)⟩
  | _ => none

end Go.Proofs.YtbjfbbfglkmadaaDoor
