/-
 Before: which letters come after another one always.
-/
import Derived.Test.YtmpbbkldopfkpaaDoorL5
import Derived.Test.YtmpbbkldopfkpaaDoorQM21
namespace Go.Proofs.YtmpbbkldopfkpaaDoor
open Go.RowKit
set_option linter.unusedVariables false

section
variable (D : UInt8 → UInt8 → Bool) (log : Wd) (i : Nat)

def hit (l : List Nat) (n : Nat) : Bool := l.any fun y => D (log.getD y 0) (log.getD n 0)
end

end Go.Proofs.YtmpbbkldopfkpaaDoor
