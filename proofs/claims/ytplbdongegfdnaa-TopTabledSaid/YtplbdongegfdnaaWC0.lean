/-
 The answers of the functions that the examples of the chapters reach, and that they are so.
-/
import Derived.Test.YtplbdongegfdnaaTBM
namespace Go.Proofs.Ytplbdongegfdnaa
open Go.RowKit
set_option linter.unusedVariables false
def A41 : Int → Int → Int → Option (Bool) := fun lo0 n1 hi2 => m41 60 lo0 n1 hi2
theorem K41 : FnOk Try.prog 41 (F41 A41) := ok41 A41 fun lo0 n1 hi2 r h => ⟨60, h⟩
def A45 : Int → Int → Option (Int × Int) := fun rows0 columns1 => m45 A41 60 rows0 columns1
theorem K45 : FnOk Try.prog 45 (F45 A45) := ok45 A41 K41 A45 fun rows0 columns1 r h => ⟨60, h⟩
def A86c : Int → Int → (List (List Int)) → Option (Int × List (List Int)) := fun s0 d1 p2 => m86c 60 s0 d1 p2
theorem K86c : FnOk Try.prog 86 (F86c A86c) := ok86c A86c fun s0 d1 p2 r h => ⟨60, h⟩
def A85c86 : Int → (List Int) → (List (List Int)) → Option (Int × List (List Int)) := fun start0 lx1 p2 => m85c86 A86c 60 start0 lx1 p2
theorem K85c86 : FnOk Try.prog 85 (F85c86 A85c86) := ok85c86 A86c K86c A85c86 fun start0 lx1 p2 r h => ⟨60, h⟩
def A53 : (List (List Int)) → Int → (List Int) → Option (Int) := fun t0 s1 lx2 => m53 A85c86 60 t0 s1 lx2
theorem K53 : FnOk Try.prog 53 (F53 A53) := ok53 A85c86 K85c86 A53 fun t0 s1 lx2 r h => ⟨60, h⟩
def A30 : Int → Int → Int → Option (Bool) := fun lo0 n1 hi2 => m30 60 lo0 n1 hi2
theorem K30 : FnOk Try.prog 30 (F30 A30) := ok30 A30 fun lo0 n1 hi2 r h => ⟨60, h⟩
def A32c : (List Int) → Int → Option (Bool × Int) := fun row0 p1 => m32c 60 row0 p1
theorem K32c : FnOk Try.prog 32 (F32c A32c) := ok32c A32c fun row0 p1 r h => ⟨60, h⟩
def A67c32 : (List (List Int)) → Int → Option (Int × Int) := fun s0 p1 => m67c32 A32c 60 s0 p1
theorem K67c32 : FnOk Try.prog 67 (F67c32 A67c32) := ok67c32 A32c K32c A67c32 fun s0 p1 r h => ⟨60, h⟩
def A31c32 : (List (List Int)) → Int → Option (Bool × Int) := fun s0 p1 => m31c32 A67c32 60 s0 p1
theorem K31c32 : FnOk Try.prog 31 (F31c32 A31c32) := ok31c32 A67c32 K67c32 A31c32 fun s0 p1 r h => ⟨60, h⟩
def A35c : Int → Int → Option (Bool × Int) := fun x0 p1 => m35c A30 60 x0 p1
theorem K35c : FnOk Try.prog 35 (F35c A35c) := ok35c A30 K30 A35c fun x0 p1 r h => ⟨60, h⟩
def A68c35 : (List Int) → Int → Option (Int × Int) := fun s0 p1 => m68c35 A35c 60 s0 p1
theorem K68c35 : FnOk Try.prog 68 (F68c35 A68c35) := ok68c35 A35c K35c A68c35 fun s0 p1 r h => ⟨60, h⟩
def A33c35 : (List Int) → Int → Option (Bool × Int) := fun s0 p1 => m33c35 A68c35 60 s0 p1
theorem K33c35 : FnOk Try.prog 33 (F33c35 A33c35) := ok33c35 A68c35 K68c35 A33c35 fun s0 p1 r h => ⟨60, h⟩
def A69c : Int → Option (List Int) := fun n1 => m69c 60 n1
theorem K69c : FnOk Try.prog 69 (F69c A69c) := ok69c A69c fun n1 r h => ⟨60, h⟩
def A34 : (List (List Int)) → Option (List Int) := fun slices0 => m34 A69c 60 slices0
theorem K34 : FnOk Try.prog 34 (F34 A34) := ok34 A69c K69c A34 fun slices0 r h => ⟨60, h⟩
def A36 : (List (List Int)) → Option (Bool) := fun t0 => m36 60 t0
theorem K36 : FnOk Try.prog 36 (F36 A36) := ok36 A36 fun t0 r h => ⟨60, h⟩
def A13 : (List (List Int)) → Option (Int) := fun table0 => m13 A30 A31c32 A33c35 A34 A36 60 table0
theorem K13 : FnOk Try.prog 13 (F13 A13) := ok13 A30 A31c32 A33c35 A34 A36 K30 K31c32 K33c35 K34 K36 A13 fun table0 r h => ⟨60, h⟩
def A98c : Int → (List (List Int)) → Option (Bool × List (List Int)) := fun d0 p1 => m98c A30 60 d0 p1
theorem K98c : FnOk Try.prog 98 (F98c A98c) := ok98c A30 K30 A98c fun d0 p1 r h => ⟨60, h⟩
def A68c98 : (List Int) → (List (List Int)) → Option (Int × List (List Int)) := fun s0 p1 => m68c98 A98c 60 s0 p1
theorem K68c98 : FnOk Try.prog 68 (F68c98 A68c98) := ok68c98 A98c K98c A68c98 fun s0 p1 r h => ⟨60, h⟩
def A33c98 : (List Int) → (List (List Int)) → Option (Bool × List (List Int)) := fun s0 p1 => m33c98 A68c98 60 s0 p1
theorem K33c98 : FnOk Try.prog 33 (F33c98 A33c98) := ok33c98 A68c98 K68c98 A33c98 fun s0 p1 r h => ⟨60, h⟩
def A84 : (List (List Int)) → (List Int) → Option (Int) := fun t0 lx1 => m84 A13 A33c98 60 t0 lx1
theorem K84 : FnOk Try.prog 84 (F84 A84) := ok84 A13 A33c98 K13 K33c98 A84 fun t0 lx1 r h => ⟨60, h⟩
def A50 : (List (List Int)) → (List Int) → Option (Int × Int) := fun table0 lx1 => m50 A53 A84 60 table0 lx1
theorem K50 : FnOk Try.prog 50 (F50 A50) := ok50 A53 A84 K53 K84 A50 fun table0 lx1 r h => ⟨60, h⟩
def A51 : (List Int) → Int → Option (Int) := fun s0 v1 => m51 60 s0 v1
theorem K51 : FnOk Try.prog 51 (F51 A51) := ok51 A51 fun s0 v1 r h => ⟨60, h⟩
def A20 : (List (List Int)) → (List Int) → Option (Int × Int) := fun table0 lx1 => m20 A50 A51 60 table0 lx1
theorem K20 : FnOk Try.prog 20 (F20 A20) := ok20 A50 A51 K50 K51 A20 fun table0 lx1 r h => ⟨60, h⟩
def A91 : Int → Int → Option (Int) := fun ax0 b1 => m91 60 ax0 b1
theorem K91 : FnOk Try.prog 91 (F91 A91) := ok91 A91 fun ax0 b1 r h => ⟨60, h⟩
def A75 : Int → Int → Option (List (List Int) × Int) := fun base0 step1 => m75 A30 A91 60 base0 step1
theorem K75 : FnOk Try.prog 75 (F75 A75) := ok75 A30 A91 K30 K91 A75 fun base0 step1 r h => ⟨60, h⟩
def A99 : Int → Int → Int → Option (Bool) := fun lo0 n1 hi2 => m99 60 lo0 n1 hi2
theorem K99 : FnOk Try.prog 99 (F99 A99) := ok99 A99 fun lo0 n1 hi2 r h => ⟨60, h⟩
def A100c : Int → (List (Int × List (List Int) × Unit)) → Option (Bool × List (Int × List (List Int) × Unit)) := fun cx0 p1 => m100c A99 60 cx0 p1
theorem K100c : FnOk Try.prog 100 (F100c A100c) := ok100c A99 K99 A100c fun cx0 p1 r h => ⟨60, h⟩
def A68c100 : (List Int) → (List (Int × List (List Int) × Unit)) → Option (Int × List (Int × List (List Int) × Unit)) := fun s0 p1 => m68c100 A100c 60 s0 p1
theorem K68c100 : FnOk Try.prog 68 (F68c100 A68c100) := ok68c100 A100c K100c A68c100 fun s0 p1 r h => ⟨60, h⟩
def A33c100 : (List Int) → (List (Int × List (List Int) × Unit)) → Option (Bool × List (Int × List (List Int) × Unit)) := fun s0 p1 => m33c100 A68c100 60 s0 p1
theorem K33c100 : FnOk Try.prog 33 (F33c100 A33c100) := ok33c100 A68c100 K68c100 A33c100 fun s0 p1 r h => ⟨60, h⟩
def A92 : (Int × List (List Int) × Unit) → Option (Int) := fun p0 => m92 A33c100 A99 60 p0
theorem K92 : FnOk Try.prog 92 (F92 A92) := ok92 A33c100 A99 K33c100 K99 A92 fun p0 r h => ⟨60, h⟩
def A93 : (Int × List (List Int) × Unit) → (List Int) → Option (Int × Int) := fun p0 lx1 => m93 A99 60 p0 lx1
theorem K93 : FnOk Try.prog 93 (F93 A93) := ok93 A99 K99 A93 fun p0 lx1 r h => ⟨60, h⟩
def A105 : Int → Int → Option (Int) := fun o0 t1 => m105 60 o0 t1
theorem K105 : FnOk Try.prog 105 (F105 A105) := ok105 A105 fun o0 t1 r h => ⟨60, h⟩
def A108 : Int → Int → Option (Bool) := fun s0 colour1 => m108 60 s0 colour1
theorem K108 : FnOk Try.prog 108 (F108 A108) := ok108 A108 fun s0 colour1 r h => ⟨60, h⟩
def A106 : Int → Option (List Int) := fun s0 => m106 A108 60 s0
theorem K106 : FnOk Try.prog 106 (F106 A106) := ok106 A108 K108 A106 fun s0 r h => ⟨60, h⟩
def A124 : (List Int) → Int → Option (Int) := fun cx0 colour1 => m124 60 cx0 colour1
theorem K124 : FnOk Try.prog 124 (F124 A124) := ok124 A124 fun cx0 colour1 r h => ⟨60, h⟩
def A101 : Int → (Int ⊕ ((List Int) ⊕ Unit)) → Option (Int) := fun s0 kx1 => m101 A105 A106 A124 60 s0 kx1
theorem K101 : FnOk Try.prog 101 (F101 A101) := ok101 A105 A106 A124 K105 K106 K124 A101 fun s0 kx1 r h => ⟨60, h⟩
def A107 : (List Int) → Option (Int) := fun x0 => m107 60 x0
theorem K107 : FnOk Try.prog 107 (F107 A107) := ok107 A107 fun x0 r h => ⟨60, h⟩
def A97 : (List Int) → Option (Int) := fun x0 => m97 60 x0
theorem K97 : FnOk Try.prog 97 (F97 A97) := ok97 A97 fun x0 r h => ⟨60, h⟩
def A102 : (Int × List (List Int) × Unit) → Int → Option (Int ⊕ ((List Int) ⊕ Unit)) := fun p0 i1 => m102 A107 A97 60 p0 i1
theorem K102 : FnOk Try.prog 102 (F102 A102) := ok102 A107 A97 K107 K97 A102 fun p0 i1 r h => ⟨60, h⟩
def A43 : (List Int) → Option (List Int) := fun s0 => m43 60 s0
theorem K43 : FnOk Try.prog 43 (F43 A43) := ok43 A43 fun s0 r h => ⟨60, h⟩
def A94 : (Int × List (List Int) × Unit) → Int → Option (List Int × Bool) := fun p0 want1 => m94 A101 A102 A43 60 p0 want1
theorem K94 : FnOk Try.prog 94 (F94 A94) := ok94 A101 A102 A43 K101 K102 K43 A94 fun p0 want1 r h => ⟨60, h⟩
def A76 : (Int × List (List Int) × Unit) → (List Int) → Option (List Int × Int) := fun p0 sketch1 => m76 A92 A93 A94 60 p0 sketch1
theorem K76 : FnOk Try.prog 76 (F76 A76) := ok76 A92 A93 A94 K92 K93 K94 A76 fun p0 sketch1 r h => ⟨60, h⟩
def A46 : Option (Bool) := m46 A20 A75 A76 60
theorem K46 : FnOk Try.prog 46 (F46 A46) := ok46 A20 A75 A76 K20 K75 K76 A46 fun r h => ⟨60, h⟩
def A17 : Option (Bool) := m17 A45 A46 60
theorem K17 : FnOk Try.prog 17 (F17 A17) := ok17 A45 A46 K45 K46 A17 fun r h => ⟨60, h⟩
def A88c : (List Int) → (List (List Int)) → Option (Bool × List (List Int)) := fun lx0 p1 => m88c 60 lx0 p1
theorem K88c : FnOk Try.prog 88 (F88c A88c) := ok88c A88c fun lx0 p1 r h => ⟨60, h⟩
def A67c88 : (List (List Int)) → (List (List Int)) → Option (Int × List (List Int)) := fun s0 p1 => m67c88 A88c 60 s0 p1
theorem K67c88 : FnOk Try.prog 67 (F67c88 A67c88) := ok67c88 A88c K88c A67c88 fun s0 p1 r h => ⟨60, h⟩
def A31c88 : (List (List Int)) → (List (List Int)) → Option (Bool × List (List Int)) := fun s0 p1 => m31c88 A67c88 60 s0 p1
theorem K31c88 : FnOk Try.prog 31 (F31c88 A31c88) := ok31c88 A67c88 K67c88 A31c88 fun s0 p1 r h => ⟨60, h⟩
def A57 : Int → Int → Int → Option (Bool) := fun lo0 n1 hi2 => m57 60 lo0 n1 hi2
theorem K57 : FnOk Try.prog 57 (F57 A57) := ok57 A57 fun lo0 n1 hi2 r h => ⟨60, h⟩
def A89 : Int → Option (Bool) := fun hx0 => m89 A57 60 hx0
theorem K89 : FnOk Try.prog 89 (F89 A89) := ok89 A57 K57 A89 fun hx0 r h => ⟨60, h⟩
def A68c89 : (List Int) → Option (Int) := fun s0 => m68c89 A89 60 s0
theorem K68c89 : FnOk Try.prog 68 (F68c89 A68c89) := ok68c89 A89 K89 A68c89 fun s0 r h => ⟨60, h⟩
def A33c89 : (List Int) → Option (Bool) := fun s0 => m33c89 A68c89 60 s0
theorem K33c89 : FnOk Try.prog 33 (F33c89 A33c89) := ok33c89 A68c89 K68c89 A33c89 fun s0 r h => ⟨60, h⟩
def A56 : (List (List Int)) → Option (Int) := fun work0 => m56 A31c88 A33c89 A34 A57 60 work0
theorem K56 : FnOk Try.prog 56 (F56 A56) := ok56 A31c88 A33c89 A34 A57 K31c88 K33c89 K34 K57 A56 fun work0 r h => ⟨60, h⟩
def A23 : (List (List Int)) → Int → Option (Int) := fun work0 seats1 => m23 A56 A57 60 work0 seats1
theorem K23 : FnOk Try.prog 23 (F23 A23) := ok23 A56 A57 K56 K57 A23 fun work0 seats1 r h => ⟨60, h⟩
def A63 : Int → Option (Int) := fun n0 => m63 60 n0
theorem K63 : FnOk Try.prog 63 (F63 A63) := ok63 A63 fun n0 r h => ⟨60, h⟩
def A62c63 : (List Int) → Option (Int) := fun lx0 => m62c63 A63 60 lx0
theorem K62c63 : FnOk Try.prog 62 (F62c63 A62c63) := ok62c63 A63 K63 A62c63 fun lx0 r h => ⟨60, h⟩
def A65c : (List Int) → Int → Option (Int × Int) := fun lx0 p1 => m65c 60 lx0 p1
theorem K65c : FnOk Try.prog 65 (F65c A65c) := ok65c A65c fun lx0 p1 r h => ⟨60, h⟩
def A64c65 : (List (List Int)) → Int → Option (Int × Int) := fun lx0 p1 => m64c65 A65c 60 lx0 p1
theorem K64c65 : FnOk Try.prog 64 (F64c65 A64c65) := ok64c65 A65c K65c A64c65 fun lx0 p1 r h => ⟨60, h⟩
def A25 : (List (List Int)) → Option (List Int × List Int) := fun work0 => m25 A62c63 A64c65 60 work0
theorem K25 : FnOk Try.prog 25 (F25 A25) := ok25 A62c63 A64c65 K62c63 K64c65 A25 fun work0 r h => ⟨60, h⟩
def A24 : (List (List Int)) → Int → Option (Int × List Int × List Int × Int × Int × Int) := fun work0 seats1 => m24 A25 60 work0 seats1
theorem K24 : FnOk Try.prog 24 (F24 A24) := ok24 A25 K25 A24 fun work0 seats1 r h => ⟨60, h⟩
def A58c : Int → (List Int) → Option (Int × List Int) := fun i0 p1 => m58c 60 i0 p1
theorem K58c : FnOk Try.prog 58 (F58c A58c) := ok58c A58c fun i0 p1 r h => ⟨60, h⟩
def A59c : Int → (List Int) → Option (Int × List Int) := fun i0 p1 => m59c 60 i0 p1
theorem K59c : FnOk Try.prog 59 (F59c A59c) := ok59c A59c fun i0 p1 r h => ⟨60, h⟩
def A61 : Int → Int → Option (Int) := fun ax0 b1 => m61 60 ax0 b1
theorem K61 : FnOk Try.prog 61 (F61 A61) := ok61 A61 fun ax0 b1 r h => ⟨60, h⟩
def A60c : Int → (List Int) → Int → Option (Int × List Int × Int) := fun t0 p1 p2 => m60c A61 A62c63 60 t0 p1 p2
theorem K60c : FnOk Try.prog 60 (F60c A60c) := ok60c A61 A62c63 K61 K62c63 A60c fun t0 p1 p2 r h => ⟨60, h⟩
def A7 : (List (List Int)) → Int → Option (Int × Int) := fun work0 seats1 => m7 A23 A24 A58c A59c A60c 60 work0 seats1
theorem K7 : FnOk Try.prog 7 (F7 A7) := ok7 A23 A24 A58c A59c A60c K23 K24 K58c K59c K60c A7 fun work0 seats1 r h => ⟨60, h⟩
def A9 : Option (Bool) := m9 A17 A7 60
theorem K9 : FnOk Try.prog 9 (F9 A9) := ok9 A17 A7 K17 K7 A9 fun r h => ⟨60, h⟩
def A47 : (List (List Int)) → Int → Int → Option (List (List Int)) := fun work0 seats1 length2 => m47 A25 60 work0 seats1 length2
theorem K47 : FnOk Try.prog 47 (F47 A47) := ok47 A25 K25 A47 fun work0 seats1 length2 r h => ⟨60, h⟩
def A104 : Int → Int → Option (Int × Int) := fun x0 y1 => m104 60 x0 y1
theorem K104 : FnOk Try.prog 104 (F104 A104) := ok104 A104 fun x0 y1 r h => ⟨60, h⟩
def A95 : Int → Int → Option (Int × Int) := fun x0 y1 => m95 A104 60 x0 y1
theorem K95 : FnOk Try.prog 95 (F95 A95) := ok95 A104 K104 A95 fun x0 y1 r h => ⟨60, h⟩
def A77 : (List Int) → Int → Option (List Int) := fun x0 count1 => m77 A95 60 x0 count1
theorem K77 : FnOk Try.prog 77 (F77 A77) := ok77 A95 K95 A77 fun x0 count1 r h => ⟨60, h⟩
def A78cF : Nat → Int → (List Bool) → (List (List Int)) → (List Int) → Option (Bool × List Bool × List (List Int) × List Int)
 | 0 => fun _ _ _ _ => none
 | k + 1 => fun i0 p1 p2 p3 => m78c (A78cF k) 60 i0 p1 p2 p3
theorem K78cF : ∀ k, FnOk Try.prog 78 (F78c (A78cF k))
 | 0 => by intro args Of x hx; simp only [F78c, A78cF] at hx; split at hx <;> cases hx
 | k + 1 => ok78c (A78cF k) (K78cF k) _ (fun i0 p1 p2 p3 r h => ⟨60, h⟩)
def A78c : Int → (List Bool) → (List (List Int)) → (List Int) → Option (Bool × List Bool × List (List Int) × List Int) := A78cF 60
theorem K78c : FnOk Try.prog 78 (F78c A78c) := K78cF 60
def A48 : (List (List Int)) → Option (List Int) := fun s0 => m48 A77 A78c 60 s0
theorem K48 : FnOk Try.prog 48 (F48 A48) := ok48 A77 A78c K77 K78c A48 fun s0 r h => ⟨60, h⟩
def A18 : (List (List Int)) → Int → Option (List (Int × List Int × Unit) × Int) := fun work0 seats1 => m18 A47 A48 A7 60 work0 seats1
theorem K18 : FnOk Try.prog 18 (F18 A18) := ok18 A47 A48 A7 K47 K48 K7 A18 fun work0 seats1 r h => ⟨60, h⟩
def A81 : Int → Option (Bool) := fun hx0 => m81 60 hx0
theorem K81 : FnOk Try.prog 81 (F81 A81) := ok81 A81 fun hx0 r h => ⟨60, h⟩
def A68c81 : (List Int) → Option (Int) := fun s0 => m68c81 A81 60 s0
theorem K68c81 : FnOk Try.prog 68 (F68c81 A68c81) := ok68c81 A81 K81 A68c81 fun s0 r h => ⟨60, h⟩
def A33c81 : (List Int) → Option (Bool) := fun s0 => m33c81 A68c81 60 s0
theorem K33c81 : FnOk Try.prog 33 (F33c81 A33c81) := ok33c81 A68c81 K68c81 A33c81 fun s0 r h => ⟨60, h⟩
def A79 : (Option (List Int)) → Option (List Int) := fun s0 => m79 60 s0
theorem K79 : FnOk Try.prog 79 (F79 A79) := ok79 A79 fun s0 r h => ⟨60, h⟩
def A96c : Int → Int → Option (Bool × Int) := fun kx0 p1 => m96c A57 60 kx0 p1
theorem K96c : FnOk Try.prog 96 (F96c A96c) := ok96c A57 K57 A96c fun kx0 p1 r h => ⟨60, h⟩
def A68c96 : (List Int) → Int → Option (Int × Int) := fun s0 p1 => m68c96 A96c 60 s0 p1
theorem K68c96 : FnOk Try.prog 68 (F68c96 A68c96) := ok68c96 A96c K96c A68c96 fun s0 p1 r h => ⟨60, h⟩
def A33c96 : (List Int) → Int → Option (Bool × Int) := fun s0 p1 => m33c96 A68c96 60 s0 p1
theorem K33c96 : FnOk Try.prog 33 (F33c96 A33c96) := ok33c96 A68c96 K68c96 A33c96 fun s0 p1 r h => ⟨60, h⟩
def A80 : (List (List Int)) → Int → (Int × List Int × Unit) → Option (Int) := fun work0 seats1 s2 => m80 A33c96 A57 A62c63 A97 60 work0 seats1 s2
theorem K80 : FnOk Try.prog 80 (F80 A80) := ok80 A33c96 A57 A62c63 A97 K33c96 K57 K62c63 K97 A80 fun work0 seats1 s2 r h => ⟨60, h⟩
def A83 : (Int × List Int × Unit) → Option (Int) := fun s0 => m83 60 s0
theorem K83 : FnOk Try.prog 83 (F83 A83) := ok83 A83 fun s0 r h => ⟨60, h⟩
def A82c83 : (List (Int × List Int × Unit)) → Option (Int) := fun lx0 => m82c83 A83 60 lx0
theorem K82c83 : FnOk Try.prog 82 (F82c83 A82c83) := ok82c83 A83 K83 A82c83 fun lx0 r h => ⟨60, h⟩
def A49 : (List (List Int)) → Int → (List (Int × List Int × Unit)) → Option (Int × Int) := fun work0 seats1 plan2 => m49 A23 A33c81 A34 A79 A80 A82c83 60 work0 seats1 plan2
theorem K49 : FnOk Try.prog 49 (F49 A49) := ok49 A23 A33c81 A34 A79 A80 A82c83 K23 K33c81 K34 K79 K80 K82c83 A49 fun work0 seats1 plan2 r h => ⟨60, h⟩
def A19 : (List (List Int)) → Int → (List (Int × List Int × Unit)) → Option (Int) := fun work0 seats1 plan2 => m19 A49 A7 60 work0 seats1 plan2
theorem K19 : FnOk Try.prog 19 (F19 A19) := ok19 A49 A7 K49 K7 A19 fun work0 seats1 plan2 r h => ⟨60, h⟩
theorem works9 : A9 = some true := by kernel_rfl
theorem K9t : FnOk Try.prog 9 (F9 (some true)) := works9 ▸ K9
end Go.Proofs.Ytplbdongegfdnaa
