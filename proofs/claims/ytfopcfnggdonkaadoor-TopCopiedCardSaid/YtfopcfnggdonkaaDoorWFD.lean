/-

-/
import Derived.Test.YtfopcfnggdonkaaDoorF4
namespace Go.Proofs.YtfopcfnggdonkaaDoor
open Go.RowKit
set_option linter.unusedVariables false
def A11 : Int → Int → Int → Option (Bool) := fun lo0 n1 hi2 => m11 60 lo0 n1 hi2
theorem K11 : FnOk Tryd.prog 11 (F11 A11) := ok11 A11 fun lo0 n1 hi2 r h => ⟨60, h⟩
def A6 : Int → Option (List Int × Int) := fun n0 => m6 A11 A12 60 n0
theorem K6 : FnOk Tryd.prog 6 (F6 A6) := ok6 A11 A12 K11 KB12 A6 fun n0 r h => ⟨60, h⟩
def A5 : Int → Option (Int × Int) := fun n0 => m5 A6 60 n0
theorem K5 : FnOk Tryd.prog 5 (F5 A5) := ok5 A6 K6 A5 fun n0 r h => ⟨60, h⟩
end Go.Proofs.YtfopcfnggdonkaaDoor
