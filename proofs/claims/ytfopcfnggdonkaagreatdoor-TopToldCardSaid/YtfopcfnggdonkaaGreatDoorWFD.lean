/-
-/
import Derived.Test.YtfopcfnggdonkaaGreatDoorWDM
import Derived.Test.YtfopcfnggdonkaaGreatDoorWFB
import Derived.Test.YtfopcfnggdonkaaGreatDoorFd
namespace Go.Proofs.YtfopcfnggdonkaaGreatDoor
open Go.Proofs.Tryz
open Go.RowKit
set_option linter.unusedVariables false
def VO : Int -> Int -> Int -> Option (Bool) := fun dR n1 hi2 => Vs 60 dR n1 hi2
theorem aoP : aF prog 143 (P6 VO) := aAZ VO fun dR n1 hi2 r h => ⟨60, h⟩
def VL : Int -> Option (List Int × Int) := fun n0 => Vp VO VQ 60 n0
theorem aoL : aF prog 130 (PY VL) := aAV VO VQ aoP ap1 VL fun n0 r h => ⟨60, h⟩
def Ld : Int -> Option (Int × Int) := fun n0 => Vj VL 60 n0
theorem aoF : aF prog 112 (XD Ld) := aAP VL aoL Ld fun n0 r h => ⟨60, h⟩
end Go.Proofs.YtfopcfnggdonkaaGreatDoor
