/-
 The examples of the chapter: what functions answer there.
-/
import Derived.Test.YtbjfbbfglkmadaaDoorFS
namespace Go.Proofs.YtbjfbbfglkmadaaDoor
open Go.RowKit
set_option linter.unusedVariables false

def vC : Cd := (3, [[0, 0, 0], [1, 1, 1], [2, 2, 2]], ())
def vD : Cd := (2, [[0, 0], [0, 1], [1, 0], [1, 1]], ())
def t28 : Cd → List Int → Int → Option (List Int × Int) := fun c w z => cond (decide (c = vC ∧ w = [0, 1, 1] ∧ z = 2)) (some ([0, 1], 0)) (cond (decide (c = vD ∧ w = [0, 1] ∧ z = 1)) (some ([1], 0)) (cond (decide (c = vC ∧ w = [0, 1, 2] ∧ z = 2)) (some ([], 14)) (cond (decide (c = vD ∧ w = [0, 1] ∧ z = 2)) (some ([], 0)) none)))

def S28 : Cd → List Int → Int → List Int × Int := fun c w z => (t28 c w z).getD ([], 0)
def S38 : Cd → (List Int × List (List Int) × Unit) → Int := fun _ _ => 0

end Go.Proofs.YtbjfbbfglkmadaaDoor
