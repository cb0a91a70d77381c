/-
-/
import Derived.Test.YtfopcfnggdonkaaGreatDoorWCM
namespace Go.Proofs.YtfopcfnggdonkaaGreatDoor
open Go.Proofs.Tryz
open Go.RowKit
set_option linter.unusedVariables false
def I9 : Int -> Int -> Int -> Option (Bool) := fun eF n1 hi2 => Dp 60 eF n1 hi2
theorem Zx : aC prog 49 (CY I9) := ag3 I9 fun eF n1 hi2 r h => ⟨60, h⟩
def Q4 : (List (List Int)) -> (List Int) -> Option (Int) := fun s0 v1 => Ci 60 s0 v1
theorem am1 : aC prog 101 (JL Q4) := agZ Q4 fun s0 v1 r h => ⟨60, h⟩
def SE : (List (List Int)) -> (List Int) -> Option (Bool) := fun s0 v1 => Rx Q4 60 s0 v1
theorem K81 : aC prog 81 (JU SE) := ag5 Q4 am1 SE fun s0 v1 r h => ⟨60, h⟩
def SA : (Int × List (List Int) × Unit) -> Option (Int) := fun o0 => QF I9 SE 60 o0
theorem K48 : aC prog 48 (JP SA) := ag2 I9 SE Zx K81 SA fun o0 r h => ⟨60, h⟩
def RY : (Int × List (List Int) × Unit) -> (List (List UInt8)) -> Option (List Int × Int) := fun o0 bP => m21 SA I9 60 o0 bP
theorem K21 : aC prog 21 (vM RY) := ag0 SA I9 K48 Zx RY fun o0 bP r h => ⟨60, h⟩
def SB : (List Int) -> Int -> Int -> Option (Bool) := fun d0 x1 y2 => Dx 60 d0 x1 y2
theorem K63 : aC prog 63 (AO SB) := ag4 SB fun d0 x1 y2 r h => ⟨60, h⟩
def Iw (_ : Int × List (List Int) × Unit) (_ : List UInt8) : Int × Int := (3, 0)
def RZ : (Int × List (List Int) × Unit) -> (List UInt8) -> Option (Int × Int) := fun o0 aU => (Dl RY SB (Iw o0 aU).1 (Iw o0 aU).2 60 o0 aU).map fun _ => Iw o0 aU
theorem K29 : aC prog 29 (UA RZ) := aAM RY SB K21 K63 RZ fun o0 aU r h => by
  simp only [RZ, Option.map_eq_some_iff] at h
  obtain ⟨u, h, rfl⟩ := h
  exact ⟨60, h⟩
def RX : Int -> Option (Bool) := fun x0 => Rf 60 x0
theorem anS : aC prog 177 (NP RX) := aAD RX fun x0 r h => ⟨60, h⟩
def RU : Int -> Int -> Option (Bool) := fun x0 y1 => Qy RX 60 x0 y1
theorem anQ : aC prog 174 (NL RU) := aAB RX anS RU fun x0 y1 r h => ⟨60, h⟩
def RV : Int -> Option (Bool) := fun x0 => Qz 60 x0
theorem anR : aC prog 175 (NM RV) := aAC RV fun x0 r h => ⟨60, h⟩
def RS : (List Int) -> Int -> Option (Int × Bool) := fun x0 jB => Dh RU RV 60 x0 jB
theorem anO : aC prog 169 (NK RS) := aAA RU RV anQ anR RS fun x0 jB r h => ⟨60, h⟩
def RQ : (List Int) -> Int -> Option (List Int × Bool) := fun iF n1 => Df RS 60 iF n1
theorem anM : aC prog 166 (TW RQ) := az' RS anO RQ fun iF n1 r h => ⟨60, h⟩
def SC : (List Int) -> Int -> Option (Int) := fun s0 v1 => Dy 60 s0 v1
theorem K74 : aC prog 74 (N9 SC) := aA2 SC fun s0 v1 r h => ⟨60, h⟩
def Hr : (List Int) -> Int -> Option (Bool) := fun s0 v1 => Rk SC 60 s0 v1
theorem K41 : aC prog 41 (UB Hr) := aAN SC K74 Hr fun s0 v1 r h => ⟨60, h⟩
def MK : (Option (List Int)) -> Option (Option (List Int)) := fun s0 => Dn 60 s0
theorem K43 : aC prog 43 (UC MK) := aAO MK fun s0 r h => ⟨60, h⟩
end Go.Proofs.YtfopcfnggdonkaaGreatDoor
