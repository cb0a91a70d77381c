/-
-/
import Derived.Test.YtfopcfnggdonkaaGreatDoorCBM
import Derived.Test.YtfopcfnggdonkaaGreatDoorWFC
namespace Go.Proofs.YtfopcfnggdonkaaGreatDoor
open Go.Proofs.Tryz
open Go.RowKit
set_option linter.unusedVariables false
def I7 : Int -> Int -> Int -> Option (Bool) := fun eF n1 hi2 => Qp 60 eF n1 hi2
theorem Zo : aC prog 120 (EU I7) := az0 I7 fun eF n1 hi2 r h => ⟨60, h⟩
def RI : (Int × Int × Int × Unit) -> Option (Bool) := fun rU => Qw I7 60 rU
theorem anH : aC prog 132 (JM RI) := az7 I7 Zo RI fun rU r h => ⟨60, h⟩
def RP : (List (Int × Int × Int × Unit)) -> Option (Int) := fun s0 => Dc RI 60 s0
theorem anK : aC prog 145 (JO RP) := az9 RI anH RP fun s0 r h => ⟨60, h⟩
def RH : (List (Int × Int × Int × Unit)) -> Option (Bool) := fun s0 => Qv RP 60 s0
theorem anG : aC prog 131 (NI RH) := az6 RP anK RH fun s0 r h => ⟨60, h⟩
def Q8 : (List (Int × Int × Int × Unit)) -> Option (Int) := fun fA => Qq RH 60 fA
theorem anA : aC prog 121 (NC Q8) := az1 RH anG Q8 fun fA r h => ⟨60, h⟩
def Q5 : Int -> Int -> (List (Int × Int × Int × Unit)) -> Option (Int) := fun aV hx1 aS => Qn I7 Q8 60 aV hx1 aS
theorem am3 : aC prog 108 (MV Q5) := azU I7 Q8 Zo anA Q5 fun aV hx1 aS r h => ⟨60, h⟩
def Q9 : Int -> Int -> (List (Int × Int × Int × Unit)) -> Option (Int × Bool) := fun aV hx1 aS => Cm 60 aV hx1 aS
theorem anB : aC prog 122 (ND Q9) := az2 Q9 fun aV hx1 aS r h => ⟨60, h⟩
def RF : (Int × Int × Bool × (Bool × Int × Unit) × Unit) -> (Int × Int × Bool × (Bool × Int × Unit) × Unit) -> Option (Bool) := fun dY o1 => Qs 60 dY o1
theorem anE : aC prog 124 (NG RF) := az4 RF fun dY o1 r h => ⟨60, h⟩
def RD : (Int × Int × Bool × (Bool × Int × Unit) × Unit) -> (Int × Int × Bool × (Bool × Int × Unit) × Unit) -> (Bool × Int × Unit) -> Nat -> Nat -> (List (List (List (Int × Int × Bool × (Bool × Int × Unit) × Unit)))) -> Option (Nat × Nat × List (List (List (Int × Int × Bool × (Bool × Int × Unit) × Unit)))) := fun x0 y1 sU p3 p4 p5 => Qr RF 60 x0 y1 sU p3 p4 p5
theorem anD : aC prog 123 (NF RD) := az3 RF anE RD fun x0 y1 sU p3 p4 p5 r h => ⟨60, h⟩
def Q7 : Int -> Int -> (List (Int × Int × Int × Unit)) -> Option (List (List (List (Int × Int × Bool × (Bool × Int × Unit) × Unit)))) := fun aV hx1 aS => Cj Q9 RD 60 aV hx1 aS
theorem am4 : aC prog 109 (MW Q7) := azV Q9 RD anB anD Q7 fun aV hx1 aS r h => ⟨60, h⟩
def Ht : Int -> Int -> (List (Int × Int × Int × Unit)) -> Option (Int × Int) := fun aV hx1 aS => Rz Q5 Q7 60 aV hx1 aS
theorem K94 : aC prog 94 (UE Ht) := aA8 Q5 Q7 am3 am4 Ht fun aV hx1 aS r h => ⟨60, h⟩
end Go.Proofs.YtfopcfnggdonkaaGreatDoor
