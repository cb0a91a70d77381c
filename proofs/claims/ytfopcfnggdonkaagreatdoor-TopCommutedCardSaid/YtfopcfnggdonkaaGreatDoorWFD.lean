/-
-/
import Derived.Test.YtfopcfnggdonkaaGreatDoorWDM
import Derived.Test.YtfopcfnggdonkaaGreatDoorWFB
import Derived.Test.YtfopcfnggdonkaaGreatDoorFd
namespace Go.Proofs.YtfopcfnggdonkaaGreatDoor
open Go.Proofs.Tryz
open Go.RowKit
set_option linter.unusedVariables false
def RJ : Int -> Int -> Int -> Option (Bool) := fun eF n1 hi2 => Qx 60 eF n1 hi2
theorem anJ : aC prog 143 (NJ RJ) := az8 RJ fun eF n1 hi2 r h => ⟨60, h⟩
def RG : Int -> Option (List Int × Int) := fun n0 => Qu RJ RN 60 n0
theorem anF : aC prog 130 (NH RG) := az5 RJ RN anJ aoL RG fun n0 r h => ⟨60, h⟩
def Ho : Int -> Option (Int × Int) := fun n0 => Qo RG 60 n0
theorem am9 : aC prog 112 (TR Ho) := azY RG anF Ho fun n0 r h => ⟨60, h⟩
end Go.Proofs.YtfopcfnggdonkaaGreatDoor
