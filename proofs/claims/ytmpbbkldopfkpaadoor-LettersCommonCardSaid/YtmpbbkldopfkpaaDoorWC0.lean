/-
 The answers of the functions that the examples of the chapter reach, and that they are so.
-/
import Derived.Test.YtmpbbkldopfkpaaDoorFB
import Derived.Test.YtmpbbkldopfkpaaDoorWM0
import Derived.Test.YtmpbbkldopfkpaaDoorL1
namespace Go.Proofs.YtmpbbkldopfkpaaDoor
open Go.RowKit
set_option linter.unusedVariables false
def A51 : Int → Int → Int → Option (Bool) := fun lo0 n1 hi2 => m51 60 lo0 n1 hi2
theorem K51 : FnOk Tryd.prog 51 (F51 A51) := ok51 A51 fun lo0 n1 hi2 r h => ⟨60, h⟩
def A73 : (List (List Int)) → (List Int) → Option (Int) := fun s0 v1 => m73 60 s0 v1
theorem K73 : FnOk Tryd.prog 73 (F73 A73) := ok73 A73 fun s0 v1 r h => ⟨60, h⟩
def A59 : (List (List Int)) → (List Int) → Option (Bool) := fun s0 v1 => m59 A73 60 s0 v1
theorem K59 : FnOk Tryd.prog 59 (F59 A59) := ok59 A73 K73 A59 fun s0 v1 r h => ⟨60, h⟩
def A38 : (Int × List (List Int) × Unit) → Option (Int) := fun o0 => m38 A51 A59 60 o0
theorem K38 : FnOk Tryd.prog 38 (F38 A38) := ok38 A51 A59 K51 K59 A38 fun o0 r h => ⟨60, h⟩
def A41 : (Int × List (List Int) × Unit) → (List (List UInt8)) → Option (List Int × Int) := fun o0 logs1 => m41 A38 A51 60 o0 logs1
theorem K41 : FnOk Tryd.prog 41 (F41 A41) := ok41 A38 A51 K38 K51 A41 fun o0 logs1 r h => ⟨60, h⟩
def A61c : (List Int) → (List UInt8) → (List (Int × Bool)) → Option (List Int × List UInt8 × List (Int × Bool)) := fun p0 p1 p2 => m61c 60 p0 p1 p2
theorem K61c : FnOk Tryd.prog 61 (F61c A61c) := ok61c A61c fun p0 p1 p2 r h => ⟨60, h⟩
def A42 : (List Int) → (List UInt8) → Option (List (Int × Bool) × List Int × List UInt8) := fun d0 log1 => m42 A61c 60 d0 log1
theorem K42 : FnOk Tryd.prog 42 (F42 A42) := ok42 A61c K61c A42 fun d0 log1 r h => ⟨60, h⟩
def A49 : (List Int) → Int → Int → Option (Bool) := fun d0 x1 y2 => m49 60 d0 x1 y2
theorem K49 : FnOk Tryd.prog 49 (F49 A49) := ok49 A49 fun d0 x1 y2 r h => ⟨60, h⟩
def A46c : Int → (List Int) → (List UInt8) → (List (Int × Bool)) → Option (Bool × List Int × List UInt8 × List (Int × Bool)) := fun i1 p1 p2 p3 => m46c A49 60 i1 p1 p2 p3
theorem K46c : FnOk Tryd.prog 46 (F46c A46c) := ok46c A49 K49 A46c fun i1 p1 p2 p3 r h => ⟨60, h⟩
def A53c : Int → (List Int) → (List UInt8) → (List (Int × Bool)) → Option (Int × Bool × List Int × List UInt8 × List (Int × Bool)) := fun kind1 p1 p2 p3 => m53c A46c 60 kind1 p1 p2 p3
theorem K53c : FnOk Tryd.prog 53 (F53c A53c) := ok53c A46c K46c A53c fun kind1 p1 p2 p3 r h => ⟨60, h⟩
def A43c : (List Int) → (List UInt8) → (List (Int × Bool)) → Option (List UInt8 × List Int × List UInt8 × List (Int × Bool)) := A43 A53c
theorem K43c : FnOk Tryd.prog 43 (F43c A43c) := ok43 K53c
def A13 : (Int × List (List Int) × Unit) → (List UInt8) → Option (List UInt8 × Int) := fun o0 log1 => m13 A41 A42 A43c 60 o0 log1
theorem K13 : FnOk Tryd.prog 13 (F13 A13) := ok13 A41 A42 A43c K41 K42 K43c A13 fun o0 log1 r h => ⟨60, h⟩
def A98 : Int → Option (Bool) := fun x0 => m98 60 x0
theorem K98 : FnOk Tryd.prog 98 (F98 A98) := ok98 A98 fun x0 r h => ⟨60, h⟩
def A81 : Int → Int → Option (Bool) := fun x0 y1 => m81 A98 60 x0 y1
theorem K81 : FnOk Tryd.prog 81 (F81 A81) := ok81 A98 K98 A81 fun x0 y1 r h => ⟨60, h⟩
def A75c : Int → Int → (List Int) → Option (List Int) := fun ax1 b2 p2 => m75c A81 60 ax1 b2 p2
theorem K75c : FnOk Tryd.prog 75 (F75c A75c) := ok75c A81 K81 A75c fun ax1 b2 p2 r h => ⟨60, h⟩
def A65c : Int → Int → Int → (List Int) → Option (List Int) := fun ax1 b2 limit3 p3 => m65c A75c 60 ax1 b2 limit3 p3
theorem K65c : FnOk Tryd.prog 65 (F65c A65c) := ok65c A75c K75c A65c fun ax1 b2 limit3 p3 r h => ⟨60, h⟩
def A85 : Int → Option (Int) := fun x0 => m85 60 x0
theorem K85 : FnOk Tryd.prog 85 (F85 A85) := ok85 A85 fun x0 r h => ⟨60, h⟩
def A66 : Int → Option (Int) := fun x0 => m66 A85 60 x0
theorem K66 : FnOk Tryd.prog 66 (F66 A66) := ok66 A85 K85 A66 fun x0 r h => ⟨60, h⟩
def A47c : (List Int) → Option (List Int) := fun p0 => m47c A65c A66 60 p0
theorem K47c : FnOk Tryd.prog 47 (F47c A47c) := ok47c A65c A66 K65c K66 A47c fun p0 r h => ⟨60, h⟩
def A15 : (Int × List (List Int) × Unit) → (List UInt8) → Option (List (List UInt8) × Int) := fun o0 log1 => m15 A41 A42 A46c A47c 60 o0 log1
theorem K15 : FnOk Tryd.prog 15 (F15 A15) := ok15 A41 A42 A46c A47c K41 K42 K46c K47c A15 fun o0 log1 r h => ⟨60, h⟩
def A17 : (List (List UInt8)) → (List (List UInt8)) → Option (Bool) := fun ax0 b1 => m17 60 ax0 b1
theorem K17 : FnOk Tryd.prog 17 (F17 A17) := ok17 A17 fun ax0 b1 r h => ⟨60, h⟩
def S18 (o : Int × List (List Int) × Unit) (l : List UInt8) : Int × Int := match A41 o [l] with | some (d, e) => if e = 0 then ((cntW (Dk d) abc l.length l : Nat), 0) else (0, e) | none => (0, 0)
def A18 : (Int × List (List Int) × Unit) → (List UInt8) → Option (Int × Int) := fun o0 log1 => (m18 A41 A49 (S18 o0 log1).1 (S18 o0 log1).2 60 o0 log1).map fun _ => S18 o0 log1
theorem K18 : FnOk Tryd.prog 18 (F18 A18) := ok18 A41 A49 K41 K49 A18 fun o0 log1 r h => by
 simp only [A18, Option.map_eq_some_iff] at h
 obtain ⟨u, h, rfl⟩ := h
 exact ⟨60, h⟩
def A20 : (Int × List (List Int) × Unit) → (List UInt8) → Int → Int → Option (Bool × Int) := fun o0 log1 i2 kx3 => m20 A41 A51 60 o0 log1 i2 kx3
theorem K20 : FnOk Tryd.prog 20 (F20 A20) := ok20 A41 A51 K41 K51 A20 fun o0 log1 i2 kx3 r h => ⟨60, h⟩
def A22 : (Int × List (List Int) × Unit) → (List UInt8) → (List UInt8) → Option (List UInt8 × Int) := fun o0 ax1 b2 => m22 A41 A42 A43c A53c 60 o0 ax1 b2
theorem K22 : FnOk Tryd.prog 22 (F22 A22) := ok22 A41 A42 A43c A53c K41 K42 K43c K53c A22 fun o0 ax1 b2 r h => ⟨60, h⟩
def A70 : Int → Option (Int) := fun x0 => m70 60 x0
theorem K70t : FnOk Tryd.prog 70 (F70 A70) := ok70 A70 fun x0 r h => ⟨60, h⟩
def A56 : Int → Option (Int) := fun x0 => m56 A70 60 x0
theorem K56 : FnOk Tryd.prog 56 (F56 A56) := ok56 A70 K70t A56 fun x0 r h => ⟨60, h⟩
def A24 : (Int × List (List Int) × Unit) → (List UInt8) → (List UInt8) → Option (List UInt8 × Int) := fun o0 ax1 b2 => m24 A41 A42 A43c A53c A56 60 o0 ax1 b2
theorem K24 : FnOk Tryd.prog 24 (F24 A24) := ok24 A41 A42 A43c A53c A56 K41 K42 K43c K53c K56 A24 fun o0 ax1 b2 r h => ⟨60, h⟩
def A58 : (List Int) → (Int × List (List Int) × Unit) → (List UInt8) → (List UInt8) → Option (Int × Int × Bool) := fun d0 o1 ax2 b3 => m58 A72 60 d0 o1 ax2 b3
theorem K58 : FnOk Tryd.prog 58 (F58 A58) := ok58 A72 ok72 A58 fun d0 o1 ax2 b3 r h => ⟨60, h⟩
def A34 : (Int × List (List Int) × Unit) → (List UInt8) → (List UInt8) → Option (Bool × Int) := fun o0 ax1 b2 => m34 A41 A58 60 o0 ax1 b2
theorem K34 : FnOk Tryd.prog 34 (F34 A34) := ok34 A41 A58 K41 K58 A34 fun o0 ax1 b2 r h => ⟨60, h⟩
def A36 : (Int × List (List Int) × Unit) → (List UInt8) → (List UInt8) → Option (Int × Int × Int) := fun o0 ax1 b2 => m36 A41 A58 60 o0 ax1 b2
theorem K36 : FnOk Tryd.prog 36 (F36 A36) := ok36 A41 A58 K41 K58 A36 fun o0 ax1 b2 r h => ⟨60, h⟩
def A37 : Option (Int × List (List Int) × Unit) := m37 60
theorem K37 : FnOk Tryd.prog 37 (F37 A37) := ok37 A37 fun r h => ⟨60, h⟩
def A60 : (List Int) → Int → Option (Int) := fun s0 v1 => m60 60 s0 v1
theorem K60 : FnOk Tryd.prog 60 (F60 A60) := ok60 A60 fun s0 v1 r h => ⟨60, h⟩
def A39 : (Int × List (List Int) × Unit) → (List UInt8) → (List UInt8) → Option (List Int × Int) := fun o0 ax1 b2 => m39 A41 A58 A60 60 o0 ax1 b2
theorem K39 : FnOk Tryd.prog 39 (F39 A39) := ok39 A41 A58 A60 K41 K58 K60 A39 fun o0 ax1 b2 r h => ⟨60, h⟩
def A40 : (Int × List (List Int) × Unit) → (List UInt8) → (List UInt8) → (List Int) → Option (Int) := fun o0 ax1 b2 swaps3 => m40 A41 A49 A51 60 o0 ax1 b2 swaps3
theorem K40 : FnOk Tryd.prog 40 (F40 A40) := ok40 A41 A49 A51 K41 K49 K51 A40 fun o0 ax1 b2 swaps3 r h => ⟨60, h⟩
def A11 : Option (Bool) := m11 A13 A15 A17 A18 A20 A22 A24 A34 A36 A37 A39 A40 60
theorem K11 : FnOk Tryd.prog 11 (F11 A11) := ok11 A13 A15 A17 A18 A20 A22 A24 A34 A36 A37 A39 A40 K13 K15 K17 K18 K20 K22 K24 K34 K36 K37 K39 K40 A11 fun r h => ⟨60, h⟩
theorem works11 : A11 = some true := by kernel_rfl
theorem K11t : FnOk Tryd.prog 11 (F11 (some true)) := works11 ▸ K11
end Go.Proofs.YtmpbbkldopfkpaaDoor
