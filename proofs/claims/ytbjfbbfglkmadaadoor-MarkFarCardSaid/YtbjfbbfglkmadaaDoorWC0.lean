import Derived.Test.YtbjfbbfglkmadaaDoorTab
import Derived.Test.YtbjfbbfglkmadaaDoorWM0
namespace Go.Proofs.YtbjfbbfglkmadaaDoor
open Go.RowKit
set_option linter.unusedVariables false
def A52 : (Int × List (List Int) × Unit) → Option (Int) := fun c0 => m52 60 c0
theorem K52 : FnOk Tryd.prog 52 (F52 A52) := ok52 A52 fun c0 r h => ⟨60, h⟩
def A62 : Int → Int → Int → Option (Bool) := fun lo0 n1 hi2 => m62 60 lo0 n1 hi2
theorem K62 : FnOk Tryd.prog 62 (F62 A62) := ok62 A62 fun lo0 n1 hi2 r h => ⟨60, h⟩
def A83c : Int → (List (Int × List (List Int) × Unit)) → Option (Bool × List (Int × List (List Int) × Unit)) := fun m0 p1 => m83c A62 60 m0 p1
theorem K83c : FnOk Tryd.prog 83 (F83c A83c) := ok83c A62 K62 A83c fun m0 p1 r h => ⟨60, h⟩
def A96c83 : (List Int) → (List (Int × List (List Int) × Unit)) → Option (Int × List (Int × List (List Int) × Unit)) := fun p0 p1 => m96c83 A83c 60 p0 p1
theorem K96c83 : FnOk Tryd.prog 96 (F96c83 A96c83) := ok96c83 A83c K83c A96c83 fun p0 p1 r h => ⟨60, h⟩
def A82c83 : (List Int) → (List (Int × List (List Int) × Unit)) → Option (Bool × List (Int × List (List Int) × Unit)) := fun s0 p1 => m82c83 A96c83 60 s0 p1
theorem K82c83 : FnOk Tryd.prog 82 (F82c83 A82c83) := ok82c83 A96c83 K96c83 A82c83 fun s0 p1 r h => ⟨60, h⟩
def A58 : (Int × List (List Int) × Unit) → (List Int) → Option (Int) := fun c0 w1 => m58 A52 A82c83 60 c0 w1
theorem K58 : FnOk Tryd.prog 58 (F58 A58) := ok58 A52 A82c83 K52 K82c83 A58 fun c0 w1 r h => ⟨60, h⟩
def A64c : (List Int) → (List (Int × List (List Int) × Unit)) → Option (Bool × List (Int × List (List Int) × Unit)) := fun w0 p1 => m64c A52 60 w0 p1
theorem K64c : FnOk Tryd.prog 64 (F64c A64c) := ok64c A52 K52 A64c fun w0 p1 r h => ⟨60, h⟩
def A85c64 : (List (List Int)) → (List (Int × List (List Int) × Unit)) → Option (Int × List (Int × List (List Int) × Unit)) := fun s0 p1 => m85c64 A64c 60 s0 p1
theorem K85c64 : FnOk Tryd.prog 85 (F85c64 A85c64) := ok85c64 A64c K64c A85c64 fun s0 p1 r h => ⟨60, h⟩
def A63c64 : (List (List Int)) → (List (Int × List (List Int) × Unit)) → Option (Bool × List (Int × List (List Int) × Unit)) := fun s0 p1 => m63c64 A85c64 60 s0 p1
theorem K63c64 : FnOk Tryd.prog 63 (F63c64 A63c64) := ok63c64 A85c64 K85c64 A63c64 fun s0 p1 r h => ⟨60, h⟩
def A22 : (Int × List (List Int) × Unit) → Option (Int) := fun c0 => m22 A52 A58 A62 A63c64 60 c0
theorem K22 : FnOk Tryd.prog 22 (F22 A22) := ok22 A52 A58 A62 A63c64 K52 K58 K62 K63c64 A22 fun c0 r h => ⟨60, h⟩
def A53 : (List Int) → (List Int) → Option (Int) := fun a0 b1 => m53 60 a0 b1
theorem K53 : FnOk Tryd.prog 53 (F53 A53) := ok53 A53 fun a0 b1 r h => ⟨60, h⟩
def A16 : (Int × List (List Int) × Unit) → Option (Int × Int) := fun c0 => m16 A22 A52 A53 60 c0
theorem K16 : FnOk Tryd.prog 16 (F16 A16) := ok16 A22 A52 A53 K22 K52 K53 A16 fun c0 r h => ⟨60, h⟩
def A55 : (Int × List (List Int) × Unit) → (List Int) → Option (Int) := fun c0 l1 => m55 A62 60 c0 l1
theorem K55 : FnOk Tryd.prog 55 (F55 A55) := ok55 A62 K62 A55 fun c0 l1 r h => ⟨60, h⟩
def A81 : (List (List Int)) → Option (List Int) := fun words0 => m81 60 words0
theorem K81 : FnOk Tryd.prog 81 (F81 A81) := ok81 A81 fun words0 r h => ⟨60, h⟩
def A56 : (Int × List (List Int) × Unit) → (List Int) → Option (List Int) := fun c0 l1 => m56 A81 60 c0 l1
theorem K56 : FnOk Tryd.prog 56 (F56 A56) := ok56 A81 K81 A56 fun c0 l1 r h => ⟨60, h⟩
def A18 : (Int × List (List Int) × Unit) → (List Int) → Option (Int × Int) := fun c0 coalition1 => m18 A22 A55 A56 60 c0 coalition1
theorem K18 : FnOk Tryd.prog 18 (F18 A18) := ok18 A22 A55 A56 K22 K55 K56 A18 fun c0 coalition1 r h => ⟨60, h⟩
def A84 : (List Int) → (List Int) → Option (List Int) := fun a0 b1 => m84 60 a0 b1
theorem K84 : FnOk Tryd.prog 84 (F84 A84) := ok84 A84 fun a0 b1 r h => ⟨60, h⟩
def A59 : (Int × List (List Int) × Unit) → (List Int) → (List Int) → Option (Bool) := fun c0 l1 w2 => m59 A56 A81 A84 60 c0 l1 w2
theorem K59 : FnOk Tryd.prog 59 (F59 A59) := ok59 A56 A81 A84 K56 K81 K84 A59 fun c0 l1 w2 r h => ⟨60, h⟩
def A20 : (Int × List (List Int) × Unit) → (List Int) → (List Int) → Option (Int) := fun c0 coalition1 word2 => m20 A22 A55 A58 A59 60 c0 coalition1 word2
theorem K20 : FnOk Tryd.prog 20 (F20 A20) := ok20 A22 A55 A58 A59 K22 K55 K58 K59 A20 fun c0 coalition1 word2 r h => ⟨60, h⟩
def A66 : (Int × List (List Int) × Unit) → (List Int) → Option (Int) := fun c0 w1 => m66 A22 A58 60 c0 w1
theorem K66 : FnOk Tryd.prog 66 (F66 A66) := ok66 A22 A58 K22 K58 A66 fun c0 w1 r h => ⟨60, h⟩
def A67 : (Int × List (List Int) × Unit) → Int → Option (Int × Int × List (List Int) × Unit) := fun c0 size1 => m67 60 c0 size1
theorem K67 : FnOk Tryd.prog 67 (F67 A67) := ok67 A67 fun c0 size1 r h => ⟨60, h⟩
def A68 : (Option (List Int)) → Option (List Int) := fun s0 => m68 60 s0
theorem K68 : FnOk Tryd.prog 68 (F68 A68) := ok68 A68 fun s0 r h => ⟨60, h⟩
def A24 : (Int × List (List Int) × Unit) → (List Int) → Option (List Int × Int) := fun c0 word1 => m24 A59 A66 A67 A68 60 c0 word1
theorem K24 : FnOk Tryd.prog 24 (F24 A24) := ok24 A59 A66 A67 A68 K59 K66 K67 K68 A24 fun c0 word1 r h => ⟨60, h⟩
def A90c : Int → Option (List Int) := fun n1 => m90c 60 n1
theorem K90c : FnOk Tryd.prog 90 (F90c A90c) := ok90c A90c fun n1 r h => ⟨60, h⟩
def A73 : (List (List Int)) → Option (List Int) := fun slices0 => m73 A90c 60 slices0
theorem K73 : FnOk Tryd.prog 73 (F73 A73) := ok73 A90c K90c A73 fun slices0 r h => ⟨60, h⟩
def A70 : (Int × List (List Int) × Unit) → (List Int) → (List Int) → Option (Bool) := fun c0 l1 w2 => m70 A59 A73 60 c0 l1 w2
theorem K70 : FnOk Tryd.prog 70 (F70 A70) := ok70 A59 A73 K59 K73 A70 fun c0 l1 w2 r h => ⟨60, h⟩
def A26 : (Int × List (List Int) × Unit) → (List Int) → Int → Option (List (List Int) × Int) := fun c0 word1 size2 => m26 A62 A66 A67 A68 A70 60 c0 word1 size2
theorem K26 : FnOk Tryd.prog 26 (F26 A26) := ok26 A62 A66 A67 A68 A70 K62 K66 K67 K68 K70 A26 fun c0 word1 size2 r h => ⟨60, h⟩
def A28 : (Int × List (List Int) × Unit) → (List Int) → Int → Option (List Int × Int) := fun c0 word1 size2 => (m28 A26 A73 A74 (S28 c0 word1 size2).1 (S28 c0 word1 size2).2 60 c0 word1 size2).map fun _ => S28 c0 word1 size2
theorem K28 : FnOk Tryd.prog 28 (F28 A28) := ok28 A26 A73 A74 K26 K73 ok74 A28 fun c0 word1 size2 r h => by
  simp only [A28, Option.map_eq_some_iff] at h
  obtain ⟨u, h, rfl⟩ := h
  exact ⟨60, h⟩
def A30 : (Int × List (List Int) × Unit) → (List Int) → Option (List Int × Int) := fun c0 word1 => m30 A52 A53 A66 60 c0 word1
theorem K30 : FnOk Tryd.prog 30 (F30 A30) := ok30 A52 A53 A66 K52 K53 K66 A30 fun c0 word1 r h => ⟨60, h⟩
def A32 : (List Int) → (List Int) → Option (Bool) := fun a0 b1 => m32 60 a0 b1
theorem K32 : FnOk Tryd.prog 32 (F32 A32) := ok32 A32 fun a0 b1 r h => ⟨60, h⟩
def A33 : (List (List Int)) → (List (List Int)) → Option (Bool) := fun a0 b1 => m33 A32 60 a0 b1
theorem K33 : FnOk Tryd.prog 33 (F33 A33) := ok33 A32 K32 A33 fun a0 b1 r h => ⟨60, h⟩
def A93 : (List Int) → Int → Option (Int) := fun s0 v1 => m93 60 s0 v1
theorem K93 : FnOk Tryd.prog 93 (F93 A93) := ok93 A93 fun s0 v1 r h => ⟨60, h⟩
def A75 : (List Int) → Int → Option (Bool) := fun s0 v1 => m75 A93 60 s0 v1
theorem K75 : FnOk Tryd.prog 75 (F75 A75) := ok75 A93 K93 A75 fun s0 v1 r h => ⟨60, h⟩
def A34 : (Int × List (List Int) × Unit) → Int → Option (List Int × Int × Int) := fun c0 size1 => m34 A22 A59 A62 A67 A68 A75 60 c0 size1
theorem K34 : FnOk Tryd.prog 34 (F34 A34) := ok34 A22 A59 A62 A67 A68 A75 K22 K59 K62 K67 K68 K75 A34 fun c0 size1 r h => ⟨60, h⟩
def A95c : Int → (List Int) → Option (Bool × List Int) := fun i0 p1 => m95c A75 60 i0 p1
theorem K95c : FnOk Tryd.prog 95 (F95c A95c) := ok95c A75 K75 A95c fun i0 p1 r h => ⟨60, h⟩
def A96c95 : (List Int) → (List Int) → Option (Int × List Int × List Int) := fun p0 p1 => m96c95 A95c 60 p0 p1
theorem K96c95 : FnOk Tryd.prog 96 (F96c95 A96c95) := ok96c95 A95c K95c A96c95 fun p0 p1 r h => ⟨60, h⟩
def A94c95 : (List Int) → (List Int) → Option (List Int × List Int) := fun p0 p1 => m94c95 A95c A96c95 60 p0 p1
theorem K94c95 : FnOk Tryd.prog 94 (F94c95 A94c95) := ok94c95 A95c A96c95 K95c K96c95 A94c95 fun p0 p1 r h => ⟨60, h⟩
def A97c : Int → Int → Option (Bool × Int) := fun m0 p1 => m97c 60 m0 p1
theorem K97c : FnOk Tryd.prog 97 (F97c A97c) := ok97c A97c fun m0 p1 r h => ⟨60, h⟩
def A96c97 : (List Int) → Int → Option (Int × List Int × Int) := fun p0 p1 => m96c97 A97c 60 p0 p1
theorem K96c97 : FnOk Tryd.prog 96 (F96c97 A96c97) := ok96c97 A97c K97c A96c97 fun p0 p1 r h => ⟨60, h⟩
def A78 : (Int × List (List Int) × Unit) → (List (List Int)) → Option ((List Int × List (List Int) × Unit) × Bool) := fun c0 l1 => m78 A52 A56 A68 A84 A94c95 A96c97 60 c0 l1
theorem K78 : FnOk Tryd.prog 78 (F78 A78) := ok78 A52 A56 A68 A84 A94c95 A96c97 K52 K56 K68 K84 K94c95 K96c97 A78 fun c0 l1 r h => ⟨60, h⟩
def A36 : (Int × List (List Int) × Unit) → Option ((List Int × List (List Int) × Unit) × Int) := fun c0 => m36 A22 A67 A68 A78 60 c0
theorem K36 : FnOk Tryd.prog 36 (F36 A36) := ok36 A22 A67 A68 A78 K22 K67 K68 K78 A36 fun c0 r h => ⟨60, h⟩
def A38 : (Int × List (List Int) × Unit) → (List Int × List (List Int) × Unit) → Option (Int) := fun c0 d1 => (m38 A55 A59 A66 (S38 c0 d1) 60 c0 d1).map fun _ => S38 c0 d1
theorem K38 : FnOk Tryd.prog 38 (F38 A38) := ok38 A55 A59 A66 K55 K59 K66 A38 fun c0 d1 r h => by
  simp only [A38, Option.map_eq_some_iff] at h
  obtain ⟨u, h, rfl⟩ := h
  exact ⟨60, h⟩
def A49 : Option (Int × List (List Int) × Unit) := m49 60
theorem K49 : FnOk Tryd.prog 49 (F49 A49) := ok49 A49 fun r h => ⟨60, h⟩
def A50 : (List Int) → Option (List Int) := fun l0 => m50 60 l0
theorem K50 : FnOk Tryd.prog 50 (F50 A50) := ok50 A50 fun l0 r h => ⟨60, h⟩
def A51 : Option (Int × List (List Int) × Unit) := m51 60
theorem K51 : FnOk Tryd.prog 51 (F51 A51) := ok51 A51 fun r h => ⟨60, h⟩
end Go.Proofs.YtbjfbbfglkmadaaDoor
