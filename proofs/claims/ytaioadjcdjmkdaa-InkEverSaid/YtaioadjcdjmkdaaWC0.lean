/-
  The answers of the functions that the examples of the chapter reach, and that they are so.
-/
import Derived.Test.YtaioadjcdjmkdaaQFS
import Derived.Test.YtaioadjcdjmkdaaWM0
namespace Go.Proofs.Ytaioadjcdjmkdaa
open Go.RowKit
set_option linter.unusedVariables false
def A63 : Int → Int → Int → Option (Bool) := fun lo0 n1 hi2 => m63 60 lo0 n1 hi2
theorem K63 : FnOk Try.prog 63 (F63 A63) := ok63 A63 fun lo0 n1 hi2 r h => ⟨60, h⟩
def A65c : Int → (List (Int × List (List Int) × Unit)) → Option (Bool × List (Int × List (List Int) × Unit)) := fun c0 p1 => m65c A63 60 c0 p1
theorem K65c : FnOk Try.prog 65 (F65c A65c) := ok65c A63 K63 A65c fun c0 p1 r h => ⟨60, h⟩
def A85c65 : (List Int) → (List (Int × List (List Int) × Unit)) → Option (Int × List (Int × List (List Int) × Unit)) := fun s0 p1 => m85c65 A65c 60 s0 p1
theorem K85c65 : FnOk Try.prog 85 (F85c65 A85c65) := ok85c65 A65c K65c A85c65 fun s0 p1 r h => ⟨60, h⟩
def A64c65 : (List Int) → (List (Int × List (List Int) × Unit)) → Option (Bool × List (Int × List (List Int) × Unit)) := fun s0 p1 => m64c65 A85c65 60 s0 p1
theorem K64c65 : FnOk Try.prog 64 (F64c65 A64c65) := ok64c65 A85c65 K85c65 A64c65 fun s0 p1 r h => ⟨60, h⟩
def A24 : (Int × List (List Int) × Unit) → Option (Int) := fun p0 => m24 A63 A64c65 60 p0
theorem K24 : FnOk Try.prog 24 (F24 A24) := ok24 A63 A64c65 K63 K64c65 A24 fun p0 r h => ⟨60, h⟩
def A81c : Int → (List (Int × List (List Int) × Unit)) → Option (Bool × List (Int × List (List Int) × Unit)) := fun i0 p1 => m81c A63 60 i0 p1
theorem K81c : FnOk Try.prog 81 (F81c A81c) := ok81c A63 K63 A81c fun i0 p1 r h => ⟨60, h⟩
def A85c81 : (List Int) → (List (Int × List (List Int) × Unit)) → Option (Int × List (Int × List (List Int) × Unit)) := fun s0 p1 => m85c81 A81c 60 s0 p1
theorem K85c81 : FnOk Try.prog 85 (F85c81 A85c81) := ok85c81 A81c K81c A85c81 fun s0 p1 r h => ⟨60, h⟩
def A64c81 : (List Int) → (List (Int × List (List Int) × Unit)) → Option (Bool × List (Int × List (List Int) × Unit)) := fun s0 p1 => m64c81 A85c81 60 s0 p1
theorem K64c81 : FnOk Try.prog 64 (F64c81 A64c81) := ok64c81 A85c81 K85c81 A64c81 fun s0 p1 r h => ⟨60, h⟩
def A55 : (Int × List (List Int) × Unit) → (List Int) → Int → Option (Int) := fun p0 l1 most2 => m55 A24 A64c81 60 p0 l1 most2
theorem K55 : FnOk Try.prog 55 (F55 A55) := ok55 A24 A64c81 K24 K64c81 A55 fun p0 l1 most2 r h => ⟨60, h⟩
def A82 : (List Int) → Option (Int) := fun x0 => m82 60 x0
theorem K82 : FnOk Try.prog 82 (F82 A82) := ok82 A82 fun x0 r h => ⟨60, h⟩
def A83 : (List Int) → Option (Int) := fun x0 => m83 60 x0
theorem K83 : FnOk Try.prog 83 (F83 A83) := ok83 A83 fun x0 r h => ⟨60, h⟩
def A61 : (Int × List (List Int) × Unit) → Int → Option (Int ⊕ ((List Int) ⊕ Unit)) := fun p0 i1 => m61 A82 A83 60 p0 i1
theorem K61 : FnOk Try.prog 61 (F61 A61) := ok61 A82 A83 K82 K83 A61 fun p0 i1 r h => ⟨60, h⟩
def A127 : (List Int) → Int → Option (Int) := fun c0 colour1 => m127 60 c0 colour1
theorem K127 : FnOk Try.prog 127 (F127 A127) := ok127 A127 fun c0 colour1 r h => ⟨60, h⟩
def A71 : Int → Int → Option (Bool) := fun s0 colour1 => m71 60 s0 colour1
theorem K71 : FnOk Try.prog 71 (F71 A71) := ok71 A71 fun s0 colour1 r h => ⟨60, h⟩
def A57 : Int → Option (List Int) := fun s0 => m57 A71 60 s0
theorem K57 : FnOk Try.prog 57 (F57 A57) := ok57 A71 K71 A57 fun s0 r h => ⟨60, h⟩
def A87 : Int → Int → Option (Int) := fun o0 t1 => m87 60 o0 t1
theorem K87 : FnOk Try.prog 87 (F87 A87) := ok87 A87 fun o0 t1 r h => ⟨60, h⟩
def A68 : Int → (Int ⊕ ((List Int) ⊕ Unit)) → Option (Int) := fun s0 k1 => m68 A127 A57 A87 60 s0 k1
theorem K68 : FnOk Try.prog 68 (F68 A68) := ok68 A127 A57 A87 K127 K57 K87 A68 fun s0 k1 r h => ⟨60, h⟩
def A56 : (Int × List (List Int) × Unit) → (List Int) → Option (Int) := fun p0 sequence1 => m56 A61 A68 60 p0 sequence1
theorem K56 : FnOk Try.prog 56 (F56 A56) := ok56 A61 A68 K61 K68 A56 fun p0 sequence1 r h => ⟨60, h⟩
def A17 : (Int × List (List Int) × Unit) → (List Int) → Option (List Int × Int) := fun p0 sequence1 => m17 A55 A56 A57 60 p0 sequence1
theorem K17 : FnOk Try.prog 17 (F17 A17) := ok17 A55 A56 A57 K55 K56 K57 A17 fun p0 sequence1 r h => ⟨60, h⟩
def A19 : (Int × List (List Int) × Unit) → (List Int) → (List Bool) → Option (Int × Int) := fun p0 sequence1 choice2 => m19 A127 A55 A61 A87 60 p0 sequence1 choice2
theorem K19 : FnOk Try.prog 19 (F19 A19) := ok19 A127 A55 A61 A87 K127 K55 K61 K87 A19 fun p0 sequence1 choice2 r h => ⟨60, h⟩
def A84c : Int → Option (List Int) := fun n1 => m84c 60 n1
theorem K84c : FnOk Try.prog 84 (F84c A84c) := ok84c A84c fun n1 r h => ⟨60, h⟩
def A62 : (List (List Int)) → Option (List Int) := fun slices0 => m62 A84c 60 slices0
theorem K62 : FnOk Try.prog 62 (F62 A62) := ok62 A84c K84c A62 fun slices0 r h => ⟨60, h⟩
def A21 : (Int × List (List Int) × Unit) → (List Int) → Option (List Int × Int) := fun p0 sequence1 => m21 A55 A56 A62 60 p0 sequence1
theorem K21 : FnOk Try.prog 21 (F21 A21) := ok21 A55 A56 A62 K55 K56 K62 A21 fun p0 sequence1 r h => ⟨60, h⟩
def A23 : (List Int) → (List Int) → Option (Bool) := fun a0 b1 => m23 60 a0 b1
theorem K23 : FnOk Try.prog 23 (F23 A23) := ok23 A23 fun a0 b1 r h => ⟨60, h⟩
def A67 : (List Bool) → Option (List Bool) := fun s0 => m67 60 s0
theorem K67 : FnOk Try.prog 67 (F67 A67) := ok67 A67 fun s0 r h => ⟨60, h⟩
def A26 : (Int × List (List Int) × Unit) → (List Int) → Int → Option (List Bool × Int) := fun p0 sequence1 colour2 => m26 A127 A55 A61 A63 A67 A87 60 p0 sequence1 colour2
theorem K26 : FnOk Try.prog 26 (F26 A26) := ok26 A127 A55 A61 A63 A67 A87 K127 K55 K61 K63 K67 K87 A26 fun p0 sequence1 colour2 r h => ⟨60, h⟩
def A29 : (Int × List (List Int) × Unit) → Option (List Int × Int) := fun p0 => m29 A24 A57 A61 A68 60 p0
theorem K29 : FnOk Try.prog 29 (F29 A29) := ok29 A24 A57 A61 A68 K24 K57 K61 K68 A29 fun p0 r h => ⟨60, h⟩
def A70 : (Int × List (List Int) × Unit) → (List Int) → Option (Int × Int) := fun p0 l1 => m70 A63 60 p0 l1
theorem K70 : FnOk Try.prog 70 (F70 A70) := ok70 A63 K63 A70 fun p0 l1 r h => ⟨60, h⟩
def A31 : (Int × List (List Int) × Unit) → (List Int) → Int → Option (Int) := fun p0 colours1 colour2 => m31 A24 A61 A63 A68 A70 A71 60 p0 colours1 colour2
theorem K31 : FnOk Try.prog 31 (F31 A31) := ok31 A24 A61 A63 A68 A70 A71 K24 K61 K63 K68 K70 K71 A31 fun p0 colours1 colour2 r h => ⟨60, h⟩
def A80 : (List Int) → Option (List Int) := fun s0 => m80 60 s0
theorem K80 : FnOk Try.prog 80 (F80 A80) := ok80 A80 fun s0 r h => ⟨60, h⟩
def A74 : (Int × List (List Int) × Unit) → Int → Option (List Int × Bool) := fun p0 want1 => m74 A61 A68 A80 60 p0 want1
theorem K74 : FnOk Try.prog 74 (F74 A74) := ok74 A61 A68 A80 K61 K68 K80 A74 fun p0 want1 r h => ⟨60, h⟩
def A33 : (Int × List (List Int) × Unit) → (List Int) → Option (List Int × Int) := fun p0 sketch1 => m33 A24 A70 A74 60 p0 sketch1
theorem K33 : FnOk Try.prog 33 (F33 A33) := ok33 A24 A70 A74 K24 K70 K74 A33 fun p0 sketch1 r h => ⟨60, h⟩
def A35 : (Int × List (List Int) × Unit) → Int → Option (Int × Int) := fun p0 colour1 => m35 A24 A63 A74 60 p0 colour1
theorem K35 : FnOk Try.prog 35 (F35 A35) := ok35 A24 A63 A74 K24 K63 K74 A35 fun p0 colour1 r h => ⟨60, h⟩
def A37 : (Int × List (List Int) × Unit) → (List Int) → (List Int) → Option (Int) := fun p0 sketch1 sequence2 => m37 A55 A56 A70 60 p0 sketch1 sequence2
theorem K37 : FnOk Try.prog 37 (F37 A37) := ok37 A55 A56 A70 K55 K56 K70 A37 fun p0 sketch1 sequence2 r h => ⟨60, h⟩
def A76 : (List Int) → Option (List Int) := fun s0 => m76 60 s0
theorem K76 : FnOk Try.prog 76 (F76 A76) := ok76 A76 fun s0 r h => ⟨60, h⟩
def A78 : Int → Option (Int) := fun x0 => m78 60 x0
theorem K78 : FnOk Try.prog 78 (F78 A78) := ok78 A78 fun x0 r h => ⟨60, h⟩
def A79 : (Option (List Int)) → Option (List Int) := fun s0 => m79 60 s0
theorem K79 : FnOk Try.prog 79 (F79 A79) := ok79 A79 fun s0 r h => ⟨60, h⟩
def A77cF : Nat → (Option (List Int)) → (List Int) → (List (Int × List (List Int) × Unit)) → Int → (List Int) → Option (List (Int × List (List Int) × Unit) × Int × List Int)
  | 0 => fun _ _ _ _ _ => none
  | k + 1 => fun l0 left1 p2 p3 p4 => m77c A56 A62 (A77cF k) A78 A79 A80 60 l0 left1 p2 p3 p4
theorem K77cF : ∀ k, FnOk Try.prog 77 (F77c (A77cF k))
  | 0 => by intro args Of x hx; simp only [F77c, A77cF] at hx; split at hx <;> cases hx
  | k + 1 => ok77c A56 A62 (A77cF k) A78 A79 A80 K56 K62 (K77cF k) K78 K79 K80 _ (fun l0 left1 p2 p3 p4 r h => ⟨60, h⟩)
def A77c : (Option (List Int)) → (List Int) → (List (Int × List (List Int) × Unit)) → Int → (List Int) → Option (List (Int × List (List Int) × Unit) × Int × List Int) := A77cF 60
theorem K77c : FnOk Try.prog 77 (F77c A77c) := K77cF 60
def A39 : (Int × List (List Int) × Unit) → (List Int) → Option (List Int × Int × Int) := fun p0 stones1 => m39 A55 A75 A76 A77c 60 p0 stones1
theorem K39 : FnOk Try.prog 39 (F39 A39) := ok39 A55 A75 A76 A77c K55 KB75 K76 K77c A39 fun p0 stones1 r h => ⟨60, h⟩
def A52 : Option (Int × List (List Int) × Unit) := m52 60
theorem K52 : FnOk Try.prog 52 (F52 A52) := ok52 A52 fun r h => ⟨60, h⟩
def A53 : (List Int) → Option (List Int) := fun l0 => m53 60 l0
theorem K53 : FnOk Try.prog 53 (F53 A53) := ok53 A53 fun l0 r h => ⟨60, h⟩
def A54 : Option (Int × List (List Int) × Unit) := m54 60
theorem K54 : FnOk Try.prog 54 (F54 A54) := ok54 A54 fun r h => ⟨60, h⟩
def A16 : Option (Bool) := m16 A17 A19 A21 A23 A26 A29 A31 A33 A35 A37 A39 A52 A53 A54 60
theorem K16 : FnOk Try.prog 16 (F16 A16) := ok16 A17 A19 A21 A23 A26 A29 A31 A33 A35 A37 A39 A52 A53 A54 K17 K19 K21 K23 K26 K29 K31 K33 K35 K37 K39 K52 K53 K54 A16 fun r h => ⟨60, h⟩
theorem works16 : A16 = some true := by kernel_rfl
theorem K16t : FnOk Try.prog 16 (F16 (some true)) := works16 ▸ K16
end Go.Proofs.Ytaioadjcdjmkdaa
