/-
-/
import Derived.Test.YtfopcfnggdonkaaGreatDoorCBM
import Derived.Test.YtfopcfnggdonkaaGreatDoorWFC
namespace Go.Proofs.YtfopcfnggdonkaaGreatDoor
open Go.Proofs.Tryz
open Go.RowKit
set_option linter.unusedVariables false
def KN : Int -> Int -> Int -> Option (Bool) := fun dR n1 hi2 => Vk 60 dR n1 hi2
theorem abK : aF prog 120 (G9 KN) := aAQ KN fun dR n1 hi2 r h => ⟨60, h⟩
def VN : (Int × Int × Int × Unit) -> Option (Bool) := fun uQ => Vr KN 60 uQ
theorem aoN : aF prog 132 (LM VN) := aAX KN abK VN fun uQ r h => ⟨60, h⟩
def VS : (List (Int × Int × Int × Unit)) -> Option (Int) := fun s0 => Hm VN 60 s0
theorem aoQ : aF prog 145 (LP VS) := aA0 VN aoN VS fun s0 r h => ⟨60, h⟩
def VM : (List (Int × Int × Int × Unit)) -> Option (Bool) := fun s0 => Vq VS 60 s0
theorem aoM : aF prog 131 (PZ VM) := aAW VS aoQ VM fun s0 r h => ⟨60, h⟩
def VH : (List (Int × Int × Int × Unit)) -> Option (Int) := fun uP => Vl VM 60 uP
theorem aoG : aF prog 121 (PU VH) := aAR VM aoM VH fun uP r h => ⟨60, h⟩
def VF : Int -> Int -> (List (Int × Int × Int × Unit)) -> Option (Int) := fun aT hx1 aZ => Vh KN VH 60 aT hx1 aZ
theorem aoB : aF prog 108 (PS VF) := aAN KN VH abK aoG VF fun aT hx1 aZ r h => ⟨60, h⟩
def VI : Int -> Int -> (List (Int × Int × Int × Unit)) -> Option (Int × Bool) := fun aT hx1 aZ => Hl 60 aT hx1 aZ
theorem aoH : aF prog 122 (PV VI) := aAS VI fun aT hx1 aZ r h => ⟨60, h⟩
def VK : (Int × Int × Bool × (Bool × Int × Unit) × Unit) -> (Int × Int × Bool × (Bool × Int × Unit) × Unit) -> Option (Bool) := fun aG o1 => Vo 60 aG o1
theorem aoK : aF prog 124 (PX VK) := aAU VK fun aG o1 r h => ⟨60, h⟩
def VJ : (Int × Int × Bool × (Bool × Int × Unit) × Unit) -> (Int × Int × Bool × (Bool × Int × Unit) × Unit) -> (Bool × Int × Unit) -> Nat -> Nat -> (List (List (List (Int × Int × Bool × (Bool × Int × Unit) × Unit)))) -> Option (Nat × Nat × List (List (List (Int × Int × Bool × (Bool × Int × Unit) × Unit)))) := fun x0 y1 vH p3 p4 p5 => Vm VK 60 x0 y1 vH p3 p4 p5
theorem aoJ : aF prog 123 (PW VJ) := aAT VK aoK VJ fun x0 y1 vH p3 p4 p5 r h => ⟨60, h⟩
def VG : Int -> Int -> (List (Int × Int × Int × Unit)) -> Option (List (List (List (Int × Int × Bool × (Bool × Int × Unit) × Unit)))) := fun aT hx1 aZ => Hg VI VJ 60 aT hx1 aZ
theorem aoC : aF prog 109 (PT VG) := aAO VI VJ aoH aoJ VG fun aT hx1 aZ r h => ⟨60, h⟩
def Lm : Int -> Int -> (List (Int × Int × Int × Unit)) -> Option (Int × Int) := fun aT hx1 aZ => Xa VF VG 60 aT hx1 aZ
theorem K94 : aF prog 94 (XI Lm) := aB7 VF VG aoB aoC Lm fun aT hx1 aZ r h => ⟨60, h⟩
end Go.Proofs.YtfopcfnggdonkaaGreatDoor
