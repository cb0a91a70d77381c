/-

-/
import Derived.Test.YtfopcfnggdonkaaDoorLCM
namespace Go.Proofs.YtfopcfnggdonkaaDoor
open Go.RowKit
set_option linter.unusedVariables false
def A65 : Int → Option (Bool) := fun x0 => m65 60 x0
theorem K65 : FnOk Tryd.prog 65 (F65 A65) := ok65 A65 fun x0 r h => ⟨60, h⟩
def A52 : Int → Int → Option (Bool) := fun x0 y1 => m52 A65 60 x0 y1
theorem K52 : FnOk Tryd.prog 52 (F52 A52) := ok52 A65 K65 A52 fun x0 y1 r h => ⟨60, h⟩
def A53 : Int → Option (Bool) := fun x0 => m53 60 x0
theorem K53 : FnOk Tryd.prog 53 (F53 A53) := ok53 A53 fun x0 r h => ⟨60, h⟩
def A38 : (List Int) → Int → Option (Int × Bool) := fun x0 target1 => m38 A52 A53 60 x0 target1
theorem K38 : FnOk Tryd.prog 38 (F38 A38) := ok38 A52 A53 K52 K53 A38 fun x0 target1 r h => ⟨60, h⟩
def A31 : (List Int) → Int → Option (List Int × Bool) := fun chain0 n1 => m31 A38 60 chain0 n1
theorem K31 : FnOk Tryd.prog 31 (F31 A31) := ok31 A38 K38 A31 fun chain0 n1 r h => ⟨60, h⟩
def A30 : (List Int) → Int → Option (Int) := fun s0 v1 => m30 60 s0 v1
theorem K30 : FnOk Tryd.prog 30 (F30 A30) := ok30 A30 fun s0 v1 r h => ⟨60, h⟩
def A20 : (List Int) → Int → Option (Bool) := fun s0 v1 => m20 A30 60 s0 v1
theorem K20 : FnOk Tryd.prog 20 (F20 A20) := ok20 A30 K30 A20 fun s0 v1 r h => ⟨60, h⟩
def A24 : (Option (List Int)) → Option (List Int) := fun s0 => m24 60 s0
theorem K24 : FnOk Tryd.prog 24 (F24 A24) := ok24 A24 fun s0 r h => ⟨60, h⟩
end Go.Proofs.YtfopcfnggdonkaaDoor
