/-
  The bits of one number without those of another.
-/
import Derived.Test.YtbjfbbfglkmadaaDoorQFI
namespace Go.Proofs.YtbjfbbfglkmadaaDoor
open Go.RowKit
set_option linter.unusedVariables false

abbrev bAndNot (k : IntKind) (a b : Int) : Int := k.wrap ((BitVec.ofInt k.bits a &&& ~~~BitVec.ofInt k.bits b).toNat : Int)
end Go.Proofs.YtbjfbbfglkmadaaDoor
