/-
  Loops of mirrors, told as recursions over lists.
-/
import Derived.Test.YtmpbbkldopfkpaaDoorYD
namespace Go.Proofs.YtmpbbkldopfkpaaDoor
open Go.RowKit
set_option linter.unusedVariables false

theorem w64_eq {n : Int} (h0 : -9223372036854775808 ≤ n) (h1 : n < 9223372036854775808) : w64 n = n := by
  simp [w64, IntKind.wrap, IntKind.bits, IntKind.signed]; omega
end Go.Proofs.YtmpbbkldopfkpaaDoor
