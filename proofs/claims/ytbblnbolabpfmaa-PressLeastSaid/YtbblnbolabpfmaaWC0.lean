/-
  The answers of the functions that the examples of the chapter reach, and that they are so.
-/
import Derived.Test.YtbblnbolabpfmaaFS
import Derived.Test.YtbblnbolabpfmaaFit
import Derived.Test.YtbblnbolabpfmaaWM0
namespace Go.Proofs.Ytbblnbolabpfmaa
open Go.RowKit
set_option linter.unusedVariables false
def A49 : Int → Int → Int → Option (Bool) := fun lo0 n1 hi2 => m49 60 lo0 n1 hi2
theorem K49 : FnOk Try.prog 49 (F49 A49) := ok49 A49 fun lo0 n1 hi2 r h => ⟨60, h⟩
def A59 : (Int × Int × Unit) → Option (Bool) := fun o0 => m59 A49 60 o0
theorem K59 : FnOk Try.prog 59 (F59 A59) := ok59 A49 K49 A59 fun o0 r h => ⟨60, h⟩
def A65c59 : (List (Int × Int × Unit)) → Option (Int) := fun s0 => m65c59 A59 60 s0
theorem K65c59 : FnOk Try.prog 65 (F65c59 A65c59) := ok65c59 A59 K59 A65c59 fun s0 r h => ⟨60, h⟩
def A58c59 : (List (Int × Int × Unit)) → Option (Bool) := fun s0 => m58c59 A65c59 60 s0
theorem K58c59 : FnOk Try.prog 58 (F58c59 A58c59) := ok58c59 A65c59 K65c59 A58c59 fun s0 r h => ⟨60, h⟩
def A23 : (List (Int × Int × Unit)) → Option (Int) := fun l0 => m23 A58c59 60 l0
theorem K23 : FnOk Try.prog 23 (F23 A23) := ok23 A58c59 K58c59 A23 fun l0 r h => ⟨60, h⟩
def A50 : (List (Int × Int × Unit)) → (List Int) → Option (Int) := fun l0 set1 => m50 A70 60 l0 set1
theorem K50 : FnOk Try.prog 50 (F50 A50) := ok50 A70 ok70 A50 fun l0 set1 r h => ⟨60, h⟩
def A16 : (List (Int × Int × Unit)) → (List Int) → Option (Int × Int) := fun l0 set1 => m16 A23 A49 A50 60 l0 set1
theorem K16 : FnOk Try.prog 16 (F16 A16) := ok16 A23 A49 A50 K23 K49 K50 A16 fun l0 set1 r h => ⟨60, h⟩
def A80 : Int → Option (Bool) := fun x0 => m80 60 x0
theorem K80 : FnOk Try.prog 80 (F80 A80) := ok80 A80 fun x0 r h => ⟨60, h⟩
def A62 : Int → Int → Option (Int) := fun x0 y1 => m62 A80 60 x0 y1
theorem K62 : FnOk Try.prog 62 (F62 A62) := ok62 A80 K80 A62 fun x0 y1 r h => ⟨60, h⟩
def A72 : (Int × Int × Unit) → (Int × Int × Unit) → Option (Int) := fun a0 b1 => m72 A62 60 a0 b1
theorem K72 : FnOk Try.prog 72 (F72 A72) := ok72 A62 K62 A72 fun a0 b1 r h => ⟨60, h⟩
def A73c : (Int × Int × Unit) → (List (Int × Int × Unit)) → Option (List (Int × Int × Unit)) := fun x1 p1 => m73c A72 A85 60 x1 p1
theorem K73c : FnOk Try.prog 73 (F73c A73c) := ok73c A72 A85 K72 ok85 A73c fun x1 p1 r h => ⟨60, h⟩
def A74c : (List (Int × Int × Unit)) → Option ((Int × Int × Unit) × Bool × List (Int × Int × Unit)) := fun p0 => m74c 60 p0
theorem K74c : FnOk Try.prog 74 (F74c A74c) := ok74c A74c fun p0 r h => ⟨60, h⟩
def A53 : (List (Int × Int × Unit)) → Option (Int) := fun l0 => m53 A73c A74c 60 l0
theorem K53 : FnOk Try.prog 53 (F53 A53) := ok53 A73c A74c K73c K74c A53 fun l0 r h => ⟨60, h⟩
def A18 : (List (Int × Int × Unit)) → Option (Int × Int) := fun l0 => m18 A23 A53 60 l0
theorem K18 : FnOk Try.prog 18 (F18 A18) := ok18 A23 A53 K23 K53 A18 fun l0 r h => ⟨60, h⟩
def A78c : Int → Int → (List (Int × Int × Unit)) → Option (Int × List (Int × Int × Unit)) := fun a0 b1 p2 => m78c A62 60 a0 b1 p2
theorem K78c : FnOk Try.prog 78 (F78c A78c) := ok78c A62 K62 A78c fun a0 b1 p2 r h => ⟨60, h⟩
def A86c78 : Int → Int → (List Int) → (List (Int × Int × Unit)) → Option (List Int × List (Int × Int × Unit)) := fun a1 b2 p2 p3 => m86c78 A78c 60 a1 b2 p2 p3
theorem K86c78 : FnOk Try.prog 86 (F86c78 A86c78) := ok86c78 A78c K78c A86c78 fun a1 b2 p2 p3 r h => ⟨60, h⟩
def A87c78 : Int → Int → Int → (List Int) → (List (Int × Int × Unit)) → Option (List Int × List (Int × Int × Unit)) := fun _ _ _ _ _ => none
theorem K87c78 : FnOk Try.prog 87 (F87c78 A87c78) := by intro args Of x hx; simp only [F87c78, A87c78] at hx; split at hx <;> cases hx
def A79c78 : Int → (List Int) → (List (Int × Int × Unit)) → Option (List Int × List (Int × Int × Unit)) := fun n1 p1 p2 => m79c78 A86c78 A87c78 60 n1 p1 p2
theorem K79c78 : FnOk Try.prog 79 (F79c78 A79c78) := ok79c78 A86c78 A87c78 K86c78 K87c78 A79c78 fun n1 p1 p2 r h => ⟨60, h⟩
def A60c78 : (List Int) → (List (Int × Int × Unit)) → Option (List Int × List (Int × Int × Unit)) := fun p0 p1 => m60c78 A79c78 60 p0 p1
theorem K60c78 : FnOk Try.prog 60 (F60c78 A60c78) := ok60c78 A79c78 K79c78 A60c78 fun p0 p1 r h => ⟨60, h⟩
def A81 : (List Int) → Int → Option (Int) := fun s0 v1 => m81 60 s0 v1
theorem K81 : FnOk Try.prog 81 (F81 A81) := ok81 A81 fun s0 v1 r h => ⟨60, h⟩
def A63 : (List Int) → Int → Option (Bool) := fun s0 v1 => m63 A81 60 s0 v1
theorem K63 : FnOk Try.prog 63 (F63 A63) := ok63 A81 K81 A63 fun s0 v1 r h => ⟨60, h⟩
def A77 : (List Int) → Option (List Int) := fun s0 => m77 60 s0
theorem K77 : FnOk Try.prog 77 (F77 A77) := ok77 A77 fun s0 r h => ⟨60, h⟩
def A76c : Int → (List (Int × Int × Unit)) → (List Int) → Option (Bool) := fun i0 p1 p2 => m76c A50 A77 60 i0 p1 p2
theorem K76c : FnOk Try.prog 76 (F76c A76c) := ok76c A50 A77 K50 K77 A76c fun i0 p1 p2 r h => ⟨60, h⟩
def A76cv2 : Int → (List (Int × Int × Unit)) → (List Int) → Option (Bool × List (Int × Int × Unit) × List Int) := A76v A76c
theorem K76cv2 : FnOk Try.prog 76 (F76cv2 A76cv2) := ok76v K76c
def A55c : (List (Int × Int × Unit)) → Option (List Int) := fun l0 => m55c A60c78 A63 A70 A76cv2 60 l0
theorem K55c : FnOk Try.prog 55 (F55c A55c) := ok55c A60c78 A63 A70 A76cv2 K60c78 K63 ok70 K76cv2 A55c fun l0 r h => ⟨60, h⟩
def A20 : (List (Int × Int × Unit)) → Option (List Int × Int) := fun l0 => m20 A23 A55c 60 l0
theorem K20 : FnOk Try.prog 20 (F20 A20) := ok20 A23 A55c K23 K55c A20 fun l0 r h => ⟨60, h⟩
def A22 : (List Int) → (List Int) → Option (Bool) := fun a0 b1 => m22 60 a0 b1
theorem K22 : FnOk Try.prog 22 (F22 A22) := ok22 A22 fun a0 b1 r h => ⟨60, h⟩
def A61c : Int → Int → (List (Int × Int × Unit)) → Option (Int × List (Int × Int × Unit)) := fun a0 b1 p2 => m61c A62 60 a0 b1 p2
theorem K61c : FnOk Try.prog 61 (F61c A61c) := ok61c A62 K62 A61c fun a0 b1 p2 r h => ⟨60, h⟩
def A86c61 : Int → Int → (List Int) → (List (Int × Int × Unit)) → Option (List Int × List (Int × Int × Unit)) := fun a1 b2 p2 p3 => m86c61 A61c 60 a1 b2 p2 p3
theorem K86c61 : FnOk Try.prog 86 (F86c61 A86c61) := ok86c61 A61c K61c A86c61 fun a1 b2 p2 p3 r h => ⟨60, h⟩
def A87c61 : Int → Int → Int → (List Int) → (List (Int × Int × Unit)) → Option (List Int × List (Int × Int × Unit)) := fun _ _ _ _ _ => none
theorem K87c61 : FnOk Try.prog 87 (F87c61 A87c61) := by intro args Of x hx; simp only [F87c61, A87c61] at hx; split at hx <;> cases hx
def A79c61 : Int → (List Int) → (List (Int × Int × Unit)) → Option (List Int × List (Int × Int × Unit)) := fun n1 p1 p2 => m79c61 A86c61 A87c61 60 n1 p1 p2
theorem K79c61 : FnOk Try.prog 79 (F79c61 A79c61) := ok79c61 A86c61 A87c61 K86c61 K87c61 A79c61 fun n1 p1 p2 r h => ⟨60, h⟩
def A60c61 : (List Int) → (List (Int × Int × Unit)) → Option (List Int × List (Int × Int × Unit)) := fun p0 p1 => m60c61 A79c61 60 p0 p1
theorem K60c61 : FnOk Try.prog 60 (F60c61 A60c61) := ok60c61 A79c61 K79c61 A60c61 fun p0 p1 r h => ⟨60, h⟩
def A25 : (List (Int × Int × Unit)) → Option (List Int × Int) := fun l0 => m25 A20 A60c61 60 l0
theorem K25 : FnOk Try.prog 25 (F25 A25) := ok25 A20 A60c61 K20 K60c61 A25 fun l0 r h => ⟨60, h⟩
def A26 : (List (Int × Int × Unit)) → (List Int) → Option (Int × Int) := fun l0 plan1 => m26 A23 A49 A63 60 l0 plan1
theorem K26 : FnOk Try.prog 26 (F26 A26) := ok26 A23 A49 A63 K23 K49 K63 A26 fun l0 plan1 r h => ⟨60, h⟩
def A28 : (List (Int × Int × Unit)) → (List Int) → Option (Int) := fun l0 plan1 => m28 A26 A53 60 l0 plan1
theorem K28 : FnOk Try.prog 28 (F28 A28) := ok28 A26 A53 K26 K53 A28 fun l0 plan1 r h => ⟨60, h⟩
def A88c : Int → Option (List (Int × Int × Unit)) := fun n1 => m88c 60 n1
theorem K88c : FnOk Try.prog 88 (F88c A88c) := ok88c A88c fun n1 r h => ⟨60, h⟩
def A82 : (List (List (Int × Int × Unit))) → Option (List (Int × Int × Unit)) := fun slices0 => m82 A88c 60 slices0
theorem K82 : FnOk Try.prog 82 (F82 A82) := ok82 A88c K88c A82 fun slices0 r h => ⟨60, h⟩
def A64 : (List (Int × Int × Unit)) → Int → Option (List (Int × Int × Unit)) := fun l0 i1 => m64 A82 60 l0 i1
theorem K64 : FnOk Try.prog 64 (F64 A64) := ok64 A82 K82 A64 fun l0 i1 r h => ⟨60, h⟩
def A30 : (List (Int × Int × Unit)) → Option (List Int × Int) := fun l0 => m30 A23 A53 A64 60 l0
theorem K30 : FnOk Try.prog 30 (F30 A30) := ok30 A23 A53 A64 K23 K53 K64 A30 fun l0 r h => ⟨60, h⟩
def A55cv1 : (List (Int × Int × Unit)) → (List Int) → Option (List Int) := fun l0 p1 => m55cv1 A60c78 A63 A70 A76cv2 60 l0 p1
theorem K55cv1 : FnOk Try.prog 55 (F55cv1 A55cv1) := ok55cv1 A60c78 A63 A70 A76cv2 K60c78 K63 ok70 K76cv2 A55cv1 fun l0 p1 r h => ⟨60, h⟩
def A66c : (Int × Int × Unit) → (List (Int × Int × Unit)) → Option (Bool × List (Int × Int × Unit)) := fun x0 p1 => m66c 60 x0 p1
theorem K66c : FnOk Try.prog 66 (F66c A66c) := ok66c A66c fun x0 p1 r h => ⟨60, h⟩
def A65c66 : (List (Int × Int × Unit)) → (List (Int × Int × Unit)) → Option (Int × List (Int × Int × Unit)) := fun s0 p1 => m65c66 A66c 60 s0 p1
theorem K65c66 : FnOk Try.prog 65 (F65c66 A65c66) := ok65c66 A66c K66c A65c66 fun s0 p1 r h => ⟨60, h⟩
def A32 : (List (Int × Int × Unit)) → Option (List Int × Int) := fun l0 => m32 A23 A53 A55cv1 A63 A65c66 60 l0
theorem K32 : FnOk Try.prog 32 (F32 A32) := ok32 A23 A53 A55cv1 A63 A65c66 K23 K53 K55cv1 K63 K65c66 A32 fun l0 r h => ⟨60, h⟩
def A34 : (List (Int × Int × Unit)) → Int → Option (Int × Int × Int) := fun l0 fine1 => m34 A23 A49 60 l0 fine1
theorem K34 : FnOk Try.prog 34 (F34 A34) := ok34 A23 A49 K23 K49 A34 fun l0 fine1 r h => ⟨60, h⟩
def A36 : (List (Int × Int × Unit)) → Int → Option (Int × Int) := fun l0 days1 => m36 A23 A49 A53 60 l0 days1
theorem K36 : FnOk Try.prog 36 (F36 A36) := ok36 A23 A49 A53 K23 K49 K53 A36 fun l0 days1 r h => ⟨60, h⟩
def A38 : (List (Int × Int × Unit)) → Int → Option (Int × Int) := fun l0 order1 => m38 A23 A49 A53 A64 60 l0 order1
theorem K38 : FnOk Try.prog 38 (F38 A38) := ok38 A23 A49 A53 A64 K23 K49 K53 K64 A38 fun l0 order1 r h => ⟨60, h⟩
def A67 : (List Int) → Option (List (Int × Int × Unit)) := fun l0 => m67 60 l0
theorem K67 : FnOk Try.prog 67 (F67 A67) := ok67 A67 fun l0 r h => ⟨60, h⟩
def A47 : Option (List (Int × Int × Unit)) := m47 A67 60
theorem K47 : FnOk Try.prog 47 (F47 A47) := ok47 A67 K67 A47 fun r h => ⟨60, h⟩
def A48 : (List Int) → Option (List Int) := fun l0 => m48 60 l0
theorem K48 : FnOk Try.prog 48 (F48 A48) := ok48 A48 fun l0 r h => ⟨60, h⟩
def A14 : Option (Bool) := m14 A16 A18 A20 A22 A25 A26 A28 A30 A32 A34 A36 A38 A47 A48 60
theorem K14 : FnOk Try.prog 14 (F14 A14) := ok14 A16 A18 A20 A22 A25 A26 A28 A30 A32 A34 A36 A38 A47 A48 K16 K18 K20 K22 K25 K26 K28 K30 K32 K34 K36 K38 K47 K48 A14 fun r h => ⟨60, h⟩
theorem works14 : A14 = some true := by kernel_rfl
theorem K14t : FnOk Try.prog 14 (F14 (some true)) := works14 ▸ K14
end Go.Proofs.Ytbblnbolabpfmaa
