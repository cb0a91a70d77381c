/-
-/
import Derived.Test.YtfopcfnggdonkaaGreatDoorWCM
namespace Go.Proofs.YtfopcfnggdonkaaGreatDoor
open Go.Proofs.Tryz
open Go.RowKit
set_option linter.unusedVariables false
def KO : Int -> Int -> Int -> Option (Bool) := fun dR n1 hi2 => Wp 60 dR n1 hi2
theorem K49 : aF prog 49 (H8 KO) := aBS KO fun dR n1 hi2 r h => ⟨60, h⟩
def VE : (List (List Int)) -> (List Int) -> Option (Int) := fun s0 v1 => Hf 60 s0 v1
theorem an' : aF prog 101 (PR VE) := aAM VE fun s0 v1 r h => ⟨60, h⟩
def V9 : (List (List Int)) -> (List Int) -> Option (Bool) := fun s0 v1 => Wy VE 60 s0 v1
theorem K81 : aF prog 81 (QO V9) := aB6 VE an' V9 fun s0 v1 r h => ⟨60, h⟩
def V4 : (Int × List (List Int) × Unit) -> Option (Int) := fun o0 => Ic KO V9 60 o0
theorem K48 : aF prog 48 (QJ V4) := aBR KO V9 K49 K81 V4 fun o0 r h => ⟨60, h⟩
def VY : (Int × List (List Int) × Unit) -> (List (List UInt8)) -> Option (List Int × Int) := fun o0 dB => m21 V4 KO 60 o0 dB
theorem K21 : aF prog 21 (LQ VY) := aBA V4 KO K48 K49 VY fun o0 dB r h => ⟨60, h⟩
def V5 : (List Int) -> Int -> Int -> Option (Bool) := fun d0 x1 y2 => Wq 60 d0 x1 y2
theorem K63 : aF prog 63 (LX V5) := aBT V5 fun d0 x1 y2 r h => ⟨60, h⟩
def Nw (_ : Int × List (List Int) × Unit) (_ : List UInt8) : Int × Int := (3, 0)
def VZ : (Int × List (List Int) × Unit) -> (List UInt8) -> Option (Int × Int) := fun o0 bH => (Hr VY V5 (Nw o0 bH).1 (Nw o0 bH).2 60 o0 bH).map fun _ => Nw o0 bH
theorem K29 : aF prog 29 (XH VZ) := aBB VY V5 K21 K63 VZ fun o0 bH r h => by
  simp only [VZ, Option.map_eq_some_iff] at h
  obtain ⟨u, h, rfl⟩ := h
  exact ⟨60, h⟩
def VX : Int -> Option (Bool) := fun x0 => Vw 60 x0
theorem ao0 : aF prog 177 (QC VX) := aA7 VX fun x0 r h => ⟨60, h⟩
def VV : Int -> Int -> Option (Bool) := fun x0 y1 => Vt VX 60 x0 y1
theorem aoY : aF prog 174 (QA VV) := aA5 VX ao0 VV fun x0 y1 r h => ⟨60, h⟩
def VW : Int -> Option (Bool) := fun x0 => Vu 60 x0
theorem aoZ : aF prog 175 (QB VW) := aA6 VW fun x0 r h => ⟨60, h⟩
def VU : (List Int) -> Int -> Option (Int × Bool) := fun x0 jO => Hq VV VW 60 x0 jO
theorem aoV : aF prog 169 (P8 VU) := aA3 VV VW aoY aoZ VU fun x0 jO r h => ⟨60, h⟩
def VT : (List Int) -> Int -> Option (List Int × Bool) := fun iR n1 => Ho VU 60 iR n1
theorem aoT : aF prog 166 (XG VT) := aA2 VU aoV VT fun iR n1 r h => ⟨60, h⟩
def V7 : (List Int) -> Int -> Option (Int) := fun s0 v1 => UO 60 s0 v1
theorem K74 : aF prog 74 (L6 V7) := aiL V7 fun s0 v1 r h => ⟨60, h⟩
def Lj : (List Int) -> Int -> Option (Bool) := fun s0 v1 => Ia V7 60 s0 v1
theorem K41 : aF prog 41 (yO Lj) := aiJ V7 K74 Lj fun s0 v1 r h => ⟨60, h⟩
def G7 : (Option (List Int)) -> Option (Option (List Int)) := fun s0 => UN 60 s0
theorem K43 : aF prog 43 (yP G7) := aiK G7 fun s0 r h => ⟨60, h⟩
end Go.Proofs.YtfopcfnggdonkaaGreatDoor
