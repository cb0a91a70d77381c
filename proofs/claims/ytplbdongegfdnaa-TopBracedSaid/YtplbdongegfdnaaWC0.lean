/-
 The answers of the functions that the example of the chapter reaches, and that they are so.
-/
import Derived.Test.YtplbdongegfdnaaWM0
namespace Go.Proofs.Ytplbdongegfdnaa
open Go.RowKit
set_option linter.unusedVariables false
def A41 : Int → Int → Int → Option (Bool) := fun lo0 n1 hi2 => m41 60 lo0 n1 hi2
theorem K41 : FnOk Try.prog 41 (F41 A41) := ok41 A41 fun lo0 n1 hi2 r h => ⟨60, h⟩
def A45 : Int → Int → Option (Int × Int) := fun rows0 columns1 => m45 A41 60 rows0 columns1
theorem K45 : FnOk Try.prog 45 (F45 A45) := ok45 A41 K41 A45 fun rows0 columns1 r h => ⟨60, h⟩
def A86c : Int → Int → (List (List Int)) → Option (Int × List (List Int)) := fun s0 d1 p2 => m86c 60 s0 d1 p2
theorem K86c : FnOk Try.prog 86 (F86c A86c) := ok86c A86c fun s0 d1 p2 r h => ⟨60, h⟩
def A85c86 : Int → (List Int) → (List (List Int)) → Option (Int × List (List Int)) := fun start0 lx1 p2 => m85c86 A86c 60 start0 lx1 p2
theorem K85c86 : FnOk Try.prog 85 (F85c86 A85c86) := ok85c86 A86c K86c A85c86 fun start0 lx1 p2 r h => ⟨60, h⟩
def A53 : (List (List Int)) → Int → (List Int) → Option (Int) := fun t0 s1 lx2 => m53 A85c86 60 t0 s1 lx2
theorem K53 : FnOk Try.prog 53 (F53 A53) := ok53 A85c86 K85c86 A53 fun t0 s1 lx2 r h => ⟨60, h⟩
def A30 : Int → Int → Int → Option (Bool) := fun lo0 n1 hi2 => m30 60 lo0 n1 hi2
theorem K30 : FnOk Try.prog 30 (F30 A30) := ok30 A30 fun lo0 n1 hi2 r h => ⟨60, h⟩
def A32c : (List Int) → Int → Option (Bool × Int) := fun row0 p1 => m32c 60 row0 p1
theorem K32c : FnOk Try.prog 32 (F32c A32c) := ok32c A32c fun row0 p1 r h => ⟨60, h⟩
def A67c32 : (List (List Int)) → Int → Option (Int × Int) := fun s0 p1 => m67c32 A32c 60 s0 p1
theorem K67c32 : FnOk Try.prog 67 (F67c32 A67c32) := ok67c32 A32c K32c A67c32 fun s0 p1 r h => ⟨60, h⟩
def A31c32 : (List (List Int)) → Int → Option (Bool × Int) := fun s0 p1 => m31c32 A67c32 60 s0 p1
theorem K31c32 : FnOk Try.prog 31 (F31c32 A31c32) := ok31c32 A67c32 K67c32 A31c32 fun s0 p1 r h => ⟨60, h⟩
def A35c : Int → Int → Option (Bool × Int) := fun x0 p1 => m35c A30 60 x0 p1
theorem K35c : FnOk Try.prog 35 (F35c A35c) := ok35c A30 K30 A35c fun x0 p1 r h => ⟨60, h⟩
def A68c35 : (List Int) → Int → Option (Int × Int) := fun s0 p1 => m68c35 A35c 60 s0 p1
theorem K68c35 : FnOk Try.prog 68 (F68c35 A68c35) := ok68c35 A35c K35c A68c35 fun s0 p1 r h => ⟨60, h⟩
def A33c35 : (List Int) → Int → Option (Bool × Int) := fun s0 p1 => m33c35 A68c35 60 s0 p1
theorem K33c35 : FnOk Try.prog 33 (F33c35 A33c35) := ok33c35 A68c35 K68c35 A33c35 fun s0 p1 r h => ⟨60, h⟩
def A69c : Int → Option (List Int) := fun n1 => m69c 60 n1
theorem K69c : FnOk Try.prog 69 (F69c A69c) := ok69c A69c fun n1 r h => ⟨60, h⟩
def A34 : (List (List Int)) → Option (List Int) := fun slices0 => m34 A69c 60 slices0
theorem K34 : FnOk Try.prog 34 (F34 A34) := ok34 A69c K69c A34 fun slices0 r h => ⟨60, h⟩
def A36 : (List (List Int)) → Option (Bool) := fun t0 => m36 60 t0
theorem K36 : FnOk Try.prog 36 (F36 A36) := ok36 A36 fun t0 r h => ⟨60, h⟩
def A13 : (List (List Int)) → Option (Int) := fun table0 => m13 A30 A31c32 A33c35 A34 A36 60 table0
theorem K13 : FnOk Try.prog 13 (F13 A13) := ok13 A30 A31c32 A33c35 A34 A36 K30 K31c32 K33c35 K34 K36 A13 fun table0 r h => ⟨60, h⟩
def A98c : Int → (List (List Int)) → Option (Bool × List (List Int)) := fun d0 p1 => m98c A30 60 d0 p1
theorem K98c : FnOk Try.prog 98 (F98c A98c) := ok98c A30 K30 A98c fun d0 p1 r h => ⟨60, h⟩
def A68c98 : (List Int) → (List (List Int)) → Option (Int × List (List Int)) := fun s0 p1 => m68c98 A98c 60 s0 p1
theorem K68c98 : FnOk Try.prog 68 (F68c98 A68c98) := ok68c98 A98c K98c A68c98 fun s0 p1 r h => ⟨60, h⟩
def A33c98 : (List Int) → (List (List Int)) → Option (Bool × List (List Int)) := fun s0 p1 => m33c98 A68c98 60 s0 p1
theorem K33c98 : FnOk Try.prog 33 (F33c98 A33c98) := ok33c98 A68c98 K68c98 A33c98 fun s0 p1 r h => ⟨60, h⟩
def A84 : (List (List Int)) → (List Int) → Option (Int) := fun t0 lx1 => m84 A13 A33c98 60 t0 lx1
theorem K84 : FnOk Try.prog 84 (F84 A84) := ok84 A13 A33c98 K13 K33c98 A84 fun t0 lx1 r h => ⟨60, h⟩
def A50 : (List (List Int)) → (List Int) → Option (Int × Int) := fun table0 lx1 => m50 A53 A84 60 table0 lx1
theorem K50 : FnOk Try.prog 50 (F50 A50) := ok50 A53 A84 K53 K84 A50 fun table0 lx1 r h => ⟨60, h⟩
def A51 : (List Int) → Int → Option (Int) := fun s0 v1 => m51 60 s0 v1
theorem K51 : FnOk Try.prog 51 (F51 A51) := ok51 A51 fun s0 v1 r h => ⟨60, h⟩
def A20 : (List (List Int)) → (List Int) → Option (Int × Int) := fun table0 lx1 => m20 A50 A51 60 table0 lx1
theorem K20 : FnOk Try.prog 20 (F20 A20) := ok20 A50 A51 K50 K51 A20 fun table0 lx1 r h => ⟨60, h⟩
def A91 : Int → Int → Option (Int) := fun ax0 b1 => m91 60 ax0 b1
theorem K91 : FnOk Try.prog 91 (F91 A91) := ok91 A91 fun ax0 b1 r h => ⟨60, h⟩
def A75 : Int → Int → Option (List (List Int) × Int) := fun base0 step1 => m75 A30 A91 60 base0 step1
theorem K75 : FnOk Try.prog 75 (F75 A75) := ok75 A30 A91 K30 K91 A75 fun base0 step1 r h => ⟨60, h⟩
def A99 : Int → Int → Int → Option (Bool) := fun lo0 n1 hi2 => m99 60 lo0 n1 hi2
theorem K99 : FnOk Try.prog 99 (F99 A99) := ok99 A99 fun lo0 n1 hi2 r h => ⟨60, h⟩
def A100c : Int → (List (Int × List (List Int) × Unit)) → Option (Bool × List (Int × List (List Int) × Unit)) := fun cx0 p1 => m100c A99 60 cx0 p1
theorem K100c : FnOk Try.prog 100 (F100c A100c) := ok100c A99 K99 A100c fun cx0 p1 r h => ⟨60, h⟩
def A68c100 : (List Int) → (List (Int × List (List Int) × Unit)) → Option (Int × List (Int × List (List Int) × Unit)) := fun s0 p1 => m68c100 A100c 60 s0 p1
theorem K68c100 : FnOk Try.prog 68 (F68c100 A68c100) := ok68c100 A100c K100c A68c100 fun s0 p1 r h => ⟨60, h⟩
def A33c100 : (List Int) → (List (Int × List (List Int) × Unit)) → Option (Bool × List (Int × List (List Int) × Unit)) := fun s0 p1 => m33c100 A68c100 60 s0 p1
theorem K33c100 : FnOk Try.prog 33 (F33c100 A33c100) := ok33c100 A68c100 K68c100 A33c100 fun s0 p1 r h => ⟨60, h⟩
def A92 : (Int × List (List Int) × Unit) → Option (Int) := fun p0 => m92 A33c100 A99 60 p0
theorem K92 : FnOk Try.prog 92 (F92 A92) := ok92 A33c100 A99 K33c100 K99 A92 fun p0 r h => ⟨60, h⟩
def A93 : (Int × List (List Int) × Unit) → (List Int) → Option (Int × Int) := fun p0 lx1 => m93 A99 60 p0 lx1
theorem K93 : FnOk Try.prog 93 (F93 A93) := ok93 A99 K99 A93 fun p0 lx1 r h => ⟨60, h⟩
def A105 : Int → Int → Option (Int) := fun o0 t1 => m105 60 o0 t1
theorem K105 : FnOk Try.prog 105 (F105 A105) := ok105 A105 fun o0 t1 r h => ⟨60, h⟩
def A108 : Int → Int → Option (Bool) := fun s0 colour1 => m108 60 s0 colour1
theorem K108 : FnOk Try.prog 108 (F108 A108) := ok108 A108 fun s0 colour1 r h => ⟨60, h⟩
def A106 : Int → Option (List Int) := fun s0 => m106 A108 60 s0
theorem K106 : FnOk Try.prog 106 (F106 A106) := ok106 A108 K108 A106 fun s0 r h => ⟨60, h⟩
def A124 : (List Int) → Int → Option (Int) := fun cx0 colour1 => m124 60 cx0 colour1
theorem K124 : FnOk Try.prog 124 (F124 A124) := ok124 A124 fun cx0 colour1 r h => ⟨60, h⟩
def A101 : Int → (Int ⊕ ((List Int) ⊕ Unit)) → Option (Int) := fun s0 kx1 => m101 A105 A106 A124 60 s0 kx1
theorem K101 : FnOk Try.prog 101 (F101 A101) := ok101 A105 A106 A124 K105 K106 K124 A101 fun s0 kx1 r h => ⟨60, h⟩
def A107 : (List Int) → Option (Int) := fun x0 => m107 60 x0
theorem K107 : FnOk Try.prog 107 (F107 A107) := ok107 A107 fun x0 r h => ⟨60, h⟩
def A97 : (List Int) → Option (Int) := fun x0 => m97 60 x0
theorem K97 : FnOk Try.prog 97 (F97 A97) := ok97 A97 fun x0 r h => ⟨60, h⟩
def A102 : (Int × List (List Int) × Unit) → Int → Option (Int ⊕ ((List Int) ⊕ Unit)) := fun p0 i1 => m102 A107 A97 60 p0 i1
theorem K102 : FnOk Try.prog 102 (F102 A102) := ok102 A107 A97 K107 K97 A102 fun p0 i1 r h => ⟨60, h⟩
def A43 : (List Int) → Option (List Int) := fun s0 => m43 60 s0
theorem K43 : FnOk Try.prog 43 (F43 A43) := ok43 A43 fun s0 r h => ⟨60, h⟩
def A94 : (Int × List (List Int) × Unit) → Int → Option (List Int × Bool) := fun p0 want1 => m94 A101 A102 A43 60 p0 want1
theorem K94 : FnOk Try.prog 94 (F94 A94) := ok94 A101 A102 A43 K101 K102 K43 A94 fun p0 want1 r h => ⟨60, h⟩
def A76 : (Int × List (List Int) × Unit) → (List Int) → Option (List Int × Int) := fun p0 sketch1 => m76 A92 A93 A94 60 p0 sketch1
theorem K76 : FnOk Try.prog 76 (F76 A76) := ok76 A92 A93 A94 K92 K93 K94 A76 fun p0 sketch1 r h => ⟨60, h⟩
def A46 : Option (Bool) := m46 A20 A75 A76 60
theorem K46 : FnOk Try.prog 46 (F46 A46) := ok46 A20 A75 A76 K20 K75 K76 A46 fun r h => ⟨60, h⟩
def A17 : Option (Bool) := m17 A45 A46 60
theorem K17 : FnOk Try.prog 17 (F17 A17) := ok17 A45 A46 K45 K46 A17 fun r h => ⟨60, h⟩
end Go.Proofs.Ytplbdongegfdnaa
