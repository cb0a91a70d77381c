/-
  The answers of the functions that the examples of the chapter reach, and that they are so; all plans.
-/
import Derived.Test.YtjcgjbdlgmbepaaQFS
import Derived.Test.YtjcgjbdlgmbepaaWM0
namespace Go.Proofs.Ytjcgjbdlgmbepaa
open Go.RowKit
set_option linter.unusedVariables false
/-- What rows answers. -/
def S76 (w : Int) : List (List Int) := ((List.range w.toNat).foldl (fun out i => out ++ out.flatMap fun r => (r.set i 1) :: (if r = [0, 0, 0] then [] else [r.set i (-1)])) [[0, 0, 0]]).drop 1
def A57 : Int → Int → Int → Option (Bool) := fun lo0 n1 hi2 => m57 60 lo0 n1 hi2
theorem K57 : FnOk Try.prog 57 (F57 A57) := ok57 A57 fun lo0 n1 hi2 r h => ⟨60, h⟩
def A22 : (List Int) → Option (Int) := fun weights0 => m22 A57 60 weights0
theorem K22 : FnOk Try.prog 22 (F22 A22) := ok22 A57 K57 A22 fun weights0 r h => ⟨60, h⟩
def A55 : (List Int) → Option (List Int) := fun weights0 => m55 A77 A78 60 weights0
theorem K55 : FnOk Try.prog 55 (F55 A55) := ok55 A77 A78 ok77 ok78 A55 fun weights0 r h => ⟨60, h⟩
def A17 : (List Int) → Option (List Int × Int) := fun weights0 => m17 A22 A55 60 weights0
theorem K17 : FnOk Try.prog 17 (F17 A17) := ok17 A22 A55 K22 K55 A17 fun weights0 r h => ⟨60, h⟩
def A19 : (List Int) → Option (Int × Int) := fun weights0 => m19 A17 60 weights0
theorem K19 : FnOk Try.prog 19 (F19 A19) := ok19 A17 K17 A19 fun weights0 r h => ⟨60, h⟩
def A21 : (List Int) → (List Int) → Option (Bool) := fun a0 b1 => m21 60 a0 b1
theorem K21 : FnOk Try.prog 21 (F21 A21) := ok21 A21 fun a0 b1 r h => ⟨60, h⟩
def A26 : Int → Option (List Int × Int) := fun load0 => m26 A57 60 load0
theorem K26 : FnOk Try.prog 26 (F26 A26) := ok26 A57 K57 A26 fun load0 r h => ⟨60, h⟩
def A24 : Int → Option (Int × Int) := fun load0 => m24 A26 60 load0
theorem K24 : FnOk Try.prog 24 (F24 A24) := ok24 A26 K26 A24 fun load0 r h => ⟨60, h⟩
def A60 : (Option (List Int)) → Option (Option (List Int)) := fun s0 => m60 60 s0
theorem K60 : FnOk Try.prog 60 (F60 A60) := ok60 A60 fun s0 r h => ⟨60, h⟩
def A61 : (List Int) → Option (List Int) := fun s0 => m61 60 s0
theorem K61 : FnOk Try.prog 61 (F61 A61) := ok61 A61 fun s0 r h => ⟨60, h⟩
def A59cF : Nat → (List Int) → Int → Int → Int → (List Int) → Option (Option (List Int) × List Int)
  | 0 => fun _ _ _ _ _ => none
  | k + 1 => fun laying0 left1 rest2 use3 p4 => m59c (A59cF k) A60 A61 60 laying0 left1 rest2 use3 p4
theorem K59cF : ∀ k, FnOk Try.prog 59 (F59c (A59cF k))
  | 0 => by intro args Of x hx; simp only [F59c, A59cF] at hx; split at hx <;> cases hx
  | k + 1 => ok59c (A59cF k) A60 A61 (K59cF k) K60 K61 _ (fun laying0 left1 rest2 use3 p4 r h => ⟨60, h⟩)
def A59c : (List Int) → Int → Int → Int → (List Int) → Option (Option (List Int) × List Int) := A59cF 60
theorem K59c : FnOk Try.prog 59 (F59c A59c) := K59cF 60
def A27 : (List Int) → Int → Option (List Int × Int) := fun weights0 load1 => m27 A22 A59c 60 weights0 load1
theorem K27 : FnOk Try.prog 27 (F27 A27) := ok27 A22 A59c K22 K59c A27 fun weights0 load1 r h => ⟨60, h⟩
def A65 : Int → Option (Bool) := fun n0 => m65 A57 60 n0
theorem K65 : FnOk Try.prog 65 (F65 A65) := ok65 A57 K57 A65 fun n0 r h => ⟨60, h⟩
def A80c65 : (List Int) → Option (Int) := fun s0 => m80c65 A65 60 s0
theorem K80c65 : FnOk Try.prog 80 (F80c65 A80c65) := ok80c65 A65 K65 A80c65 fun s0 r h => ⟨60, h⟩
def A64c65 : (List Int) → Option (Bool) := fun s0 => m64c65 A80c65 60 s0
theorem K64c65 : FnOk Try.prog 64 (F64c65 A64c65) := ok64c65 A80c65 K80c65 A64c65 fun s0 r h => ⟨60, h⟩
def A29 : (List Int) → (List Int) → Int → Option (Int) := fun weights0 laying1 load2 => m29 A22 A64c65 60 weights0 laying1 load2
theorem K29 : FnOk Try.prog 29 (F29 A29) := ok29 A22 A64c65 K22 K64c65 A29 fun weights0 laying1 load2 r h => ⟨60, h⟩
def A85 : (List Int) → Int → Option (Int) := fun s0 v1 => m85 60 s0 v1
theorem K85 : FnOk Try.prog 85 (F85 A85) := ok85 A85 fun s0 v1 r h => ⟨60, h⟩
def A82 : (List Int) → Int → Option (Bool) := fun s0 v1 => m82 A85 60 s0 v1
theorem K82 : FnOk Try.prog 82 (F82 A82) := ok82 A85 K85 A82 fun s0 v1 r h => ⟨60, h⟩
def A68 : Int → (List (List Int)) → Option (Int) := fun stone0 lists1 => m68 A82 60 stone0 lists1
theorem K68 : FnOk Try.prog 68 (F68 A68) := ok68 A82 K82 A68 fun stone0 lists1 r h => ⟨60, h⟩
def A35 : Int → (List (List Int × List Int × Unit)) → Option (Int) := fun stones0 plan1 => m35 A57 A68 60 stones0 plan1
theorem K35 : FnOk Try.prog 35 (F35 A35) := ok35 A57 A68 K57 K68 A35 fun stones0 plan1 r h => ⟨60, h⟩
def A66 : (List (List Int × List Int × Unit)) → Int → Int → Option (List Int) := fun plan0 odd1 way2 => m66 A68 60 plan0 odd1 way2
theorem K66 : FnOk Try.prog 66 (F66 A66) := ok66 A68 K68 A66 fun plan0 odd1 way2 r h => ⟨60, h⟩
def A33 : Int → (List (List Int × List Int × Unit)) → Int → Int → Option (List Int × Int) := fun stones0 plan1 odd2 way3 => m33 A35 A57 A66 60 stones0 plan1 odd2 way3
theorem K33 : FnOk Try.prog 33 (F33 A33) := ok33 A35 A57 A66 K35 K57 K66 A33 fun stones0 plan1 odd2 way3 r h => ⟨60, h⟩
def A70 : Int → Option (List Int) := fun n0 => m70 60 n0
theorem K70 : FnOk Try.prog 70 (F70 A70) := ok70 A70 fun n0 r h => ⟨60, h⟩
def A71 : (List Int) → (List Int) → Option (Bool) := fun s10 s21 => m71 60 s10 s21
theorem K71 : FnOk Try.prog 71 (F71 A71) := ok71 A71 fun s10 s21 r h => ⟨60, h⟩
def A37 : Int → (List (List Int × List Int × Unit)) → Option (List Int × List Int × Int) := fun stones0 plan1 => m37 A35 A66 A70 A71 60 stones0 plan1
theorem K37 : FnOk Try.prog 37 (F37 A37) := ok37 A35 A66 A70 A71 K35 K66 K70 K71 A37 fun stones0 plan1 r h => ⟨60, h⟩
def A74 : Int → Option (Bool) := fun n0 => m74 A57 60 n0
theorem K74 : FnOk Try.prog 74 (F74 A74) := ok74 A57 K57 A74 fun n0 r h => ⟨60, h⟩
def A80c74 : (List Int) → Option (Int) := fun s0 => m80c74 A74 60 s0
theorem K80c74 : FnOk Try.prog 80 (F80c74 A80c74) := ok80c74 A74 K74 A80c74 fun s0 r h => ⟨60, h⟩
def A64c74 : (List Int) → Option (Bool) := fun s0 => m64c74 A80c74 60 s0
theorem K64c74 : FnOk Try.prog 64 (F64c74 A64c74) := ok64c74 A80c74 K80c74 A64c74 fun s0 r h => ⟨60, h⟩
def A39 : Int → (List (List Int × List Int × Unit)) → (List Int) → Option (List (List Int) × Int) := fun stones0 plan1 shown2 => m39 A35 A64c74 A66 A70 A71 60 stones0 plan1 shown2
theorem K39 : FnOk Try.prog 39 (F39 A39) := ok39 A35 A64c74 A66 A70 A71 K35 K64c74 K66 K70 K71 A39 fun stones0 plan1 shown2 r h => ⟨60, h⟩
def A75F : Nat → (List (List Int)) → Int → (List Int) → (List Int) → Int → Option (List (List Int) × Bool)
  | 0 => fun _ _ _ _ _ => none
  | k + 1 => fun l0 stones1 sums2 used3 weighings4 => m75 A57 (A75F k) A82 60 l0 stones1 sums2 used3 weighings4
theorem K75F : ∀ k, FnOk Try.prog 75 (F75 (A75F k))
  | 0 => by intro args Of x hx; simp only [F75, A75F] at hx; split at hx <;> cases hx
  | k + 1 => ok75 A57 (A75F k) A82 K57 (K75F k) K82 _ (fun l0 stones1 sums2 used3 weighings4 r h => ⟨60, h⟩)
def A75 : (List (List Int)) → Int → (List Int) → (List Int) → Int → Option (List (List Int) × Bool) := A75F 60
theorem K75 : FnOk Try.prog 75 (F75 A75) := K75F 60
def A76 : Int → Option (List (List Int)) := fun weighings0 => (m76 (S76 weighings0) 60 weighings0).map fun _ => S76 weighings0
theorem K76 : FnOk Try.prog 76 (F76 A76) := ok76 A76 fun weighings0 r h => by
    simp only [A76, Option.map_eq_some_iff] at h
    obtain ⟨u, h, rfl⟩ := h
    exact ⟨60, h⟩
def A41b : Int → Int → Option (List (List Int × List Int × Unit) × Int) := fun stones0 weighings1 => if weighings1 = 0 then m41w0 A57 A75 A76 60 stones0 else if weighings1 = 1 then m41w1 A57 A75 A76 60 stones0 else if weighings1 = 2 then m41w2 A57 A75 A76 60 stones0 else if weighings1 = 3 then m41w3 A57 A75 A76 60 stones0 else m41 A57 A75 A76 60 stones0 weighings1
theorem K41b : FnOk Try.prog 41 (F41 A41b) := ok41 A57 A75 A76 K57 K75 K76 A41b fun stones0 weighings1 r h => by
    simp only [A41b] at h
    split at h
    · rename_i e; subst e; exact .inr (hs41w0 A57 A75 A76 K57 K75 K76 60 stones0 r h)
    split at h
    · rename_i e; subst e; exact .inr (hs41w1 A57 A75 A76 K57 K75 K76 60 stones0 r h)
    split at h
    · rename_i e; subst e; exact .inr (hs41w2 A57 A75 A76 K57 K75 K76 60 stones0 r h)
    split at h
    · rename_i e; subst e; exact .inr (hs41w3 A57 A75 A76 K57 K75 K76 60 stones0 r h)
    exact .inl ⟨60, h⟩
theorem v41 : A41b 13 3 = some ([], 14) := by kernel_rfl
def A41 : Int → Int → Option (List (List Int × List Int × Unit) × Int) := fun s w => cond (s == 13 && w == 3) (some ([], 14)) (A41b s w)
theorem K41 : FnOk Try.prog 41 (F41 A41) := by
  have e : A41 = A41b := by
    funext s w
    simp only [A41]
    cases e : (s == 13 && w == 3) with
    | false => rfl
    | true =>
      simp only [Bool.and_eq_true, beq_iff_eq] at e
      obtain ⟨rfl, rfl⟩ := e
      exact v41.symm
  rw [e]; exact K41b
def A51 : (List Int) → Option (List Int) := fun l0 => m51 60 l0
theorem K51 : FnOk Try.prog 51 (F51 A51) := ok51 A51 fun l0 r h => ⟨60, h⟩
def A54 : Option (List (List Int × List Int × Unit)) := m54 A51 60
theorem K54 : FnOk Try.prog 54 (F54 A54) := ok54 A51 K51 A54 fun r h => ⟨60, h⟩
def A16 : Option (Bool) := m16 A17 A19 A21 A24 A26 A27 A29 A33 A37 A39 A41 A51 A54 60
theorem K16 : FnOk Try.prog 16 (F16 A16) := ok16 A17 A19 A21 A24 A26 A27 A29 A33 A37 A39 A41 A51 A54 K17 K19 K21 K24 K26 K27 K29 K33 K37 K39 K41 K51 K54 A16 fun r h => ⟨60, h⟩
theorem works16 : A16 = some true := by kernel_rfl
theorem K16t : FnOk Try.prog 16 (F16 (some true)) := works16 ▸ K16
/-- All plans. -/
def T41 : List (List (List Int × List Int × Unit) × Int) := [
  (([] : List (List Int × List Int × Unit)), 14),
  (([] : List (List Int × List Int × Unit)), 14),
  (([] : List (List Int × List Int × Unit)), 14),
  (([] : List (List Int × List Int × Unit)), 14),
  (([] : List (List Int × List Int × Unit)), 14),
  (([] : List (List Int × List Int × Unit)), 14),
  (([] : List (List Int × List Int × Unit)), 14),
  (([] : List (List Int × List Int × Unit)), 14),
  (([] : List (List Int × List Int × Unit)), 14),
  (([] : List (List Int × List Int × Unit)), 14),
  (([(([0] : List Int), (([2] : List Int), ())), (([0] : List Int), (([1] : List Int), ()))] : List (List Int × List Int × Unit)), 0),
  (([(([0] : List Int), (([2] : List Int), ())), (([0] : List Int), (([1] : List Int), ())), (([0] : List Int), (([1] : List Int), ()))] : List (List Int × List Int × Unit)), 0),
  (([] : List (List Int × List Int × Unit)), 14),
  (([] : List (List Int × List Int × Unit)), 14),
  (([] : List (List Int × List Int × Unit)), 14),
  (([(([0] : List Int), (([3] : List Int), ())), (([0] : List Int), (([2] : List Int), ())), (([0] : List Int), (([1] : List Int), ()))] : List (List Int × List Int × Unit)), 0),
  (([] : List (List Int × List Int × Unit)), 14),
  (([] : List (List Int × List Int × Unit)), 14),
  (([] : List (List Int × List Int × Unit)), 14),
  (([(([0, 1] : List Int), (([2, 4] : List Int), ())), (([0, 1] : List Int), (([2, 3] : List Int), ())), (([1] : List Int), (([0] : List Int), ()))] : List (List Int × List Int × Unit)), 0),
  (([] : List (List Int × List Int × Unit)), 14),
  (([] : List (List Int × List Int × Unit)), 14),
  (([] : List (List Int × List Int × Unit)), 14),
  (([(([0, 3] : List Int), (([2, 5] : List Int), ())), (([2, 3] : List Int), (([0, 4] : List Int), ())), (([0] : List Int), (([1] : List Int), ()))] : List (List Int × List Int × Unit)), 0),
  (([] : List (List Int × List Int × Unit)), 14),
  (([] : List (List Int × List Int × Unit)), 14),
  (([] : List (List Int × List Int × Unit)), 14),
  (([(([0, 2] : List Int), (([4, 6] : List Int), ())), (([0, 1] : List Int), (([4, 5] : List Int), ())), (([1, 2] : List Int), (([0, 3] : List Int), ()))] : List (List Int × List Int × Unit)), 0),
  (([] : List (List Int × List Int × Unit)), 14),
  (([] : List (List Int × List Int × Unit)), 14),
  (([] : List (List Int × List Int × Unit)), 14),
  (([(([0, 1, 2] : List Int), (([4, 5, 7] : List Int), ())), (([0, 4] : List Int), (([5, 6] : List Int), ())), (([0, 2] : List Int), (([1, 3] : List Int), ()))] : List (List Int × List Int × Unit)), 0),
  (([] : List (List Int × List Int × Unit)), 14),
  (([] : List (List Int × List Int × Unit)), 14),
  (([] : List (List Int × List Int × Unit)), 14),
  (([(([0, 1, 2] : List Int), (([4, 6, 8] : List Int), ())), (([1, 2, 3] : List Int), (([0, 6, 7] : List Int), ())), (([0, 2, 3] : List Int), (([1, 4, 5] : List Int), ()))] : List (List Int × List Int × Unit)), 0),
  (([] : List (List Int × List Int × Unit)), 14),
  (([] : List (List Int × List Int × Unit)), 14),
  (([] : List (List Int × List Int × Unit)), 14),
  (([(([0, 1, 2, 4] : List Int), (([3, 6, 7, 9] : List Int), ())), (([1, 2, 6] : List Int), (([0, 7, 8] : List Int), ())), (([2, 3, 4] : List Int), (([0, 1, 5] : List Int), ()))] : List (List Int × List Int × Unit)), 0),
  (([] : List (List Int × List Int × Unit)), 14),
  (([] : List (List Int × List Int × Unit)), 14),
  (([] : List (List Int × List Int × Unit)), 14),
  (([(([0, 1, 2, 3] : List Int), (([6, 7, 8, 10] : List Int), ())), (([2, 3, 4, 5] : List Int), (([0, 1, 8, 9] : List Int), ())), (([1, 3, 5, 6] : List Int), (([0, 2, 4, 7] : List Int), ()))] : List (List Int × List Int × Unit)), 0),
  (([] : List (List Int × List Int × Unit)), 14),
  (([] : List (List Int × List Int × Unit)), 14),
  (([] : List (List Int × List Int × Unit)), 14),
  (([(([0, 1, 2, 5] : List Int), (([6, 8, 9, 11] : List Int), ())), (([1, 2, 4, 8] : List Int), (([0, 3, 9, 10] : List Int), ())), (([0, 2, 3, 4] : List Int), (([1, 5, 6, 7] : List Int), ()))] : List (List Int × List Int × Unit)), 0),
  (([] : List (List Int × List Int × Unit)), 14),
  (([] : List (List Int × List Int × Unit)), 14),
  (([] : List (List Int × List Int × Unit)), 14),
  (([] : List (List Int × List Int × Unit)), 14)]
/-- What Plan answers. -/
def P41 (s w : Int) : Option (List (List Int × List Int × Unit) × Int) := if 1 ≤ s ∧ s ≤ 13 ∧ 0 ≤ w ∧ w ≤ 3 then T41[(s.toNat - 1) * 4 + w.toNat]? else some ([], 3)
theorem p41_1_0 : A41b 1 0 = some (([] : List (List Int × List Int × Unit)), 14) := by kernel_rfl
theorem p41_2_0 : A41b 2 0 = some (([] : List (List Int × List Int × Unit)), 14) := by kernel_rfl
theorem p41_3_0 : A41b 3 0 = some (([] : List (List Int × List Int × Unit)), 14) := by kernel_rfl
theorem p41_4_0 : A41b 4 0 = some (([] : List (List Int × List Int × Unit)), 14) := by kernel_rfl
theorem p41_5_0 : A41b 5 0 = some (([] : List (List Int × List Int × Unit)), 14) := by kernel_rfl
theorem p41_6_0 : A41b 6 0 = some (([] : List (List Int × List Int × Unit)), 14) := by kernel_rfl
theorem p41_7_0 : A41b 7 0 = some (([] : List (List Int × List Int × Unit)), 14) := by kernel_rfl
theorem p41_8_0 : A41b 8 0 = some (([] : List (List Int × List Int × Unit)), 14) := by kernel_rfl
theorem p41_9_0 : A41b 9 0 = some (([] : List (List Int × List Int × Unit)), 14) := by kernel_rfl
theorem p41_10_0 : A41b 10 0 = some (([] : List (List Int × List Int × Unit)), 14) := by kernel_rfl
theorem p41_11_0 : A41b 11 0 = some (([] : List (List Int × List Int × Unit)), 14) := by kernel_rfl
theorem p41_12_0 : A41b 12 0 = some (([] : List (List Int × List Int × Unit)), 14) := by kernel_rfl
theorem p41_13_0 : A41b 13 0 = some (([] : List (List Int × List Int × Unit)), 14) := by kernel_rfl
theorem p41_1_1 : A41b 1 1 = some (([] : List (List Int × List Int × Unit)), 14) := by kernel_rfl
theorem p41_2_1 : A41b 2 1 = some (([] : List (List Int × List Int × Unit)), 14) := by kernel_rfl
theorem p41_3_1 : A41b 3 1 = some (([] : List (List Int × List Int × Unit)), 14) := by kernel_rfl
theorem p41_4_1 : A41b 4 1 = some (([] : List (List Int × List Int × Unit)), 14) := by kernel_rfl
theorem p41_5_1 : A41b 5 1 = some (([] : List (List Int × List Int × Unit)), 14) := by kernel_rfl
theorem p41_6_1 : A41b 6 1 = some (([] : List (List Int × List Int × Unit)), 14) := by kernel_rfl
theorem p41_7_1 : A41b 7 1 = some (([] : List (List Int × List Int × Unit)), 14) := by kernel_rfl
theorem p41_8_1 : A41b 8 1 = some (([] : List (List Int × List Int × Unit)), 14) := by kernel_rfl
theorem p41_9_1 : A41b 9 1 = some (([] : List (List Int × List Int × Unit)), 14) := by kernel_rfl
theorem p41_10_1 : A41b 10 1 = some (([] : List (List Int × List Int × Unit)), 14) := by kernel_rfl
theorem p41_11_1 : A41b 11 1 = some (([] : List (List Int × List Int × Unit)), 14) := by kernel_rfl
theorem p41_12_1 : A41b 12 1 = some (([] : List (List Int × List Int × Unit)), 14) := by kernel_rfl
theorem p41_13_1 : A41b 13 1 = some (([] : List (List Int × List Int × Unit)), 14) := by kernel_rfl
theorem p41_1_2 : A41b 1 2 = some (([] : List (List Int × List Int × Unit)), 14) := by kernel_rfl
theorem p41_2_2 : A41b 2 2 = some (([] : List (List Int × List Int × Unit)), 14) := by kernel_rfl
theorem p41_3_2 : A41b 3 2 = some (([(([0] : List Int), (([2] : List Int), ())), (([0] : List Int), (([1] : List Int), ()))] : List (List Int × List Int × Unit)), 0) := by kernel_rfl
theorem p41_4_2 : A41b 4 2 = some (([] : List (List Int × List Int × Unit)), 14) := by kernel_rfl
theorem p41_5_2 : A41b 5 2 = some (([] : List (List Int × List Int × Unit)), 14) := by kernel_rfl
theorem p41_6_2 : A41b 6 2 = some (([] : List (List Int × List Int × Unit)), 14) := by kernel_rfl
theorem p41_7_2 : A41b 7 2 = some (([] : List (List Int × List Int × Unit)), 14) := by kernel_rfl
theorem p41_8_2 : A41b 8 2 = some (([] : List (List Int × List Int × Unit)), 14) := by kernel_rfl
theorem p41_9_2 : A41b 9 2 = some (([] : List (List Int × List Int × Unit)), 14) := by kernel_rfl
theorem p41_10_2 : A41b 10 2 = some (([] : List (List Int × List Int × Unit)), 14) := by kernel_rfl
theorem p41_11_2 : A41b 11 2 = some (([] : List (List Int × List Int × Unit)), 14) := by kernel_rfl
theorem p41_12_2 : A41b 12 2 = some (([] : List (List Int × List Int × Unit)), 14) := by kernel_rfl
theorem p41_13_2 : A41b 13 2 = some (([] : List (List Int × List Int × Unit)), 14) := by kernel_rfl
theorem p41_1_3 : A41b 1 3 = some (([] : List (List Int × List Int × Unit)), 14) := by kernel_rfl
theorem p41_2_3 : A41b 2 3 = some (([] : List (List Int × List Int × Unit)), 14) := by kernel_rfl
theorem p41_3_3 : A41b 3 3 = some (([(([0] : List Int), (([2] : List Int), ())), (([0] : List Int), (([1] : List Int), ())), (([0] : List Int), (([1] : List Int), ()))] : List (List Int × List Int × Unit)), 0) := by kernel_rfl
theorem p41_4_3 : A41b 4 3 = some (([(([0] : List Int), (([3] : List Int), ())), (([0] : List Int), (([2] : List Int), ())), (([0] : List Int), (([1] : List Int), ()))] : List (List Int × List Int × Unit)), 0) := by kernel_rfl
theorem p41_5_3 : A41b 5 3 = some (([(([0, 1] : List Int), (([2, 4] : List Int), ())), (([0, 1] : List Int), (([2, 3] : List Int), ())), (([1] : List Int), (([0] : List Int), ()))] : List (List Int × List Int × Unit)), 0) := by kernel_rfl
theorem p41_6_3 : A41b 6 3 = some (([(([0, 3] : List Int), (([2, 5] : List Int), ())), (([2, 3] : List Int), (([0, 4] : List Int), ())), (([0] : List Int), (([1] : List Int), ()))] : List (List Int × List Int × Unit)), 0) := by kernel_rfl
theorem p41_7_3 : A41b 7 3 = some (([(([0, 2] : List Int), (([4, 6] : List Int), ())), (([0, 1] : List Int), (([4, 5] : List Int), ())), (([1, 2] : List Int), (([0, 3] : List Int), ()))] : List (List Int × List Int × Unit)), 0) := by kernel_rfl
theorem p41_8_3 : A41b 8 3 = some (([(([0, 1, 2] : List Int), (([4, 5, 7] : List Int), ())), (([0, 4] : List Int), (([5, 6] : List Int), ())), (([0, 2] : List Int), (([1, 3] : List Int), ()))] : List (List Int × List Int × Unit)), 0) := by kernel_rfl
theorem p41_9_3 : A41b 9 3 = some (([(([0, 1, 2] : List Int), (([4, 6, 8] : List Int), ())), (([1, 2, 3] : List Int), (([0, 6, 7] : List Int), ())), (([0, 2, 3] : List Int), (([1, 4, 5] : List Int), ()))] : List (List Int × List Int × Unit)), 0) := by kernel_rfl
theorem p41_10_3 : A41b 10 3 = some (([(([0, 1, 2, 4] : List Int), (([3, 6, 7, 9] : List Int), ())), (([1, 2, 6] : List Int), (([0, 7, 8] : List Int), ())), (([2, 3, 4] : List Int), (([0, 1, 5] : List Int), ()))] : List (List Int × List Int × Unit)), 0) := by kernel_rfl
theorem p41_11_3 : A41b 11 3 = some (([(([0, 1, 2, 3] : List Int), (([6, 7, 8, 10] : List Int), ())), (([2, 3, 4, 5] : List Int), (([0, 1, 8, 9] : List Int), ())), (([1, 3, 5, 6] : List Int), (([0, 2, 4, 7] : List Int), ()))] : List (List Int × List Int × Unit)), 0) := by kernel_rfl
theorem p41_12_3 : A41b 12 3 = some (([(([0, 1, 2, 5] : List Int), (([6, 8, 9, 11] : List Int), ())), (([1, 2, 4, 8] : List Int), (([0, 3, 9, 10] : List Int), ())), (([0, 2, 3, 4] : List Int), (([1, 5, 6, 7] : List Int), ()))] : List (List Int × List Int × Unit)), 0) := by kernel_rfl
theorem p41_13_3 : A41b 13 3 = some ([], 14) := v41
theorem e41 : P41 = A41b := by
  funext s w
  by_cases h : 1 ≤ s ∧ s ≤ 13
  · by_cases h2 : 0 ≤ w ∧ w ≤ 3
    · obtain ⟨ha, hb⟩ := h
      obtain ⟨hc, hd⟩ := h2
      have es : s = 1 ∨ s = 2 ∨ s = 3 ∨ s = 4 ∨ s = 5 ∨ s = 6 ∨ s = 7 ∨ s = 8 ∨ s = 9 ∨ s = 10 ∨ s = 11 ∨ s = 12 ∨ s = 13 := by omega
      have ew : w = 0 ∨ w = 1 ∨ w = 2 ∨ w = 3 := by omega
      rcases ew with rfl | rfl | rfl | rfl
      · rcases es with rfl | rfl | rfl | rfl | rfl | rfl | rfl | rfl | rfl | rfl | rfl | rfl | rfl
        · exact (show P41 1 0 = some (([] : List (List Int × List Int × Unit)), 14) from rfl).trans p41_1_0.symm
        · exact (show P41 2 0 = some (([] : List (List Int × List Int × Unit)), 14) from rfl).trans p41_2_0.symm
        · exact (show P41 3 0 = some (([] : List (List Int × List Int × Unit)), 14) from rfl).trans p41_3_0.symm
        · exact (show P41 4 0 = some (([] : List (List Int × List Int × Unit)), 14) from rfl).trans p41_4_0.symm
        · exact (show P41 5 0 = some (([] : List (List Int × List Int × Unit)), 14) from rfl).trans p41_5_0.symm
        · exact (show P41 6 0 = some (([] : List (List Int × List Int × Unit)), 14) from rfl).trans p41_6_0.symm
        · exact (show P41 7 0 = some (([] : List (List Int × List Int × Unit)), 14) from rfl).trans p41_7_0.symm
        · exact (show P41 8 0 = some (([] : List (List Int × List Int × Unit)), 14) from rfl).trans p41_8_0.symm
        · exact (show P41 9 0 = some (([] : List (List Int × List Int × Unit)), 14) from rfl).trans p41_9_0.symm
        · exact (show P41 10 0 = some (([] : List (List Int × List Int × Unit)), 14) from rfl).trans p41_10_0.symm
        · exact (show P41 11 0 = some (([] : List (List Int × List Int × Unit)), 14) from rfl).trans p41_11_0.symm
        · exact (show P41 12 0 = some (([] : List (List Int × List Int × Unit)), 14) from rfl).trans p41_12_0.symm
        · exact (show P41 13 0 = some (([] : List (List Int × List Int × Unit)), 14) from rfl).trans p41_13_0.symm
      · rcases es with rfl | rfl | rfl | rfl | rfl | rfl | rfl | rfl | rfl | rfl | rfl | rfl | rfl
        · exact (show P41 1 1 = some (([] : List (List Int × List Int × Unit)), 14) from rfl).trans p41_1_1.symm
        · exact (show P41 2 1 = some (([] : List (List Int × List Int × Unit)), 14) from rfl).trans p41_2_1.symm
        · exact (show P41 3 1 = some (([] : List (List Int × List Int × Unit)), 14) from rfl).trans p41_3_1.symm
        · exact (show P41 4 1 = some (([] : List (List Int × List Int × Unit)), 14) from rfl).trans p41_4_1.symm
        · exact (show P41 5 1 = some (([] : List (List Int × List Int × Unit)), 14) from rfl).trans p41_5_1.symm
        · exact (show P41 6 1 = some (([] : List (List Int × List Int × Unit)), 14) from rfl).trans p41_6_1.symm
        · exact (show P41 7 1 = some (([] : List (List Int × List Int × Unit)), 14) from rfl).trans p41_7_1.symm
        · exact (show P41 8 1 = some (([] : List (List Int × List Int × Unit)), 14) from rfl).trans p41_8_1.symm
        · exact (show P41 9 1 = some (([] : List (List Int × List Int × Unit)), 14) from rfl).trans p41_9_1.symm
        · exact (show P41 10 1 = some (([] : List (List Int × List Int × Unit)), 14) from rfl).trans p41_10_1.symm
        · exact (show P41 11 1 = some (([] : List (List Int × List Int × Unit)), 14) from rfl).trans p41_11_1.symm
        · exact (show P41 12 1 = some (([] : List (List Int × List Int × Unit)), 14) from rfl).trans p41_12_1.symm
        · exact (show P41 13 1 = some (([] : List (List Int × List Int × Unit)), 14) from rfl).trans p41_13_1.symm
      · rcases es with rfl | rfl | rfl | rfl | rfl | rfl | rfl | rfl | rfl | rfl | rfl | rfl | rfl
        · exact (show P41 1 2 = some (([] : List (List Int × List Int × Unit)), 14) from rfl).trans p41_1_2.symm
        · exact (show P41 2 2 = some (([] : List (List Int × List Int × Unit)), 14) from rfl).trans p41_2_2.symm
        · exact (show P41 3 2 = some (([(([0] : List Int), (([2] : List Int), ())), (([0] : List Int), (([1] : List Int), ()))] : List (List Int × List Int × Unit)), 0) from rfl).trans p41_3_2.symm
        · exact (show P41 4 2 = some (([] : List (List Int × List Int × Unit)), 14) from rfl).trans p41_4_2.symm
        · exact (show P41 5 2 = some (([] : List (List Int × List Int × Unit)), 14) from rfl).trans p41_5_2.symm
        · exact (show P41 6 2 = some (([] : List (List Int × List Int × Unit)), 14) from rfl).trans p41_6_2.symm
        · exact (show P41 7 2 = some (([] : List (List Int × List Int × Unit)), 14) from rfl).trans p41_7_2.symm
        · exact (show P41 8 2 = some (([] : List (List Int × List Int × Unit)), 14) from rfl).trans p41_8_2.symm
        · exact (show P41 9 2 = some (([] : List (List Int × List Int × Unit)), 14) from rfl).trans p41_9_2.symm
        · exact (show P41 10 2 = some (([] : List (List Int × List Int × Unit)), 14) from rfl).trans p41_10_2.symm
        · exact (show P41 11 2 = some (([] : List (List Int × List Int × Unit)), 14) from rfl).trans p41_11_2.symm
        · exact (show P41 12 2 = some (([] : List (List Int × List Int × Unit)), 14) from rfl).trans p41_12_2.symm
        · exact (show P41 13 2 = some (([] : List (List Int × List Int × Unit)), 14) from rfl).trans p41_13_2.symm
      · rcases es with rfl | rfl | rfl | rfl | rfl | rfl | rfl | rfl | rfl | rfl | rfl | rfl | rfl
        · exact (show P41 1 3 = some (([] : List (List Int × List Int × Unit)), 14) from rfl).trans p41_1_3.symm
        · exact (show P41 2 3 = some (([] : List (List Int × List Int × Unit)), 14) from rfl).trans p41_2_3.symm
        · exact (show P41 3 3 = some (([(([0] : List Int), (([2] : List Int), ())), (([0] : List Int), (([1] : List Int), ())), (([0] : List Int), (([1] : List Int), ()))] : List (List Int × List Int × Unit)), 0) from rfl).trans p41_3_3.symm
        · exact (show P41 4 3 = some (([(([0] : List Int), (([3] : List Int), ())), (([0] : List Int), (([2] : List Int), ())), (([0] : List Int), (([1] : List Int), ()))] : List (List Int × List Int × Unit)), 0) from rfl).trans p41_4_3.symm
        · exact (show P41 5 3 = some (([(([0, 1] : List Int), (([2, 4] : List Int), ())), (([0, 1] : List Int), (([2, 3] : List Int), ())), (([1] : List Int), (([0] : List Int), ()))] : List (List Int × List Int × Unit)), 0) from rfl).trans p41_5_3.symm
        · exact (show P41 6 3 = some (([(([0, 3] : List Int), (([2, 5] : List Int), ())), (([2, 3] : List Int), (([0, 4] : List Int), ())), (([0] : List Int), (([1] : List Int), ()))] : List (List Int × List Int × Unit)), 0) from rfl).trans p41_6_3.symm
        · exact (show P41 7 3 = some (([(([0, 2] : List Int), (([4, 6] : List Int), ())), (([0, 1] : List Int), (([4, 5] : List Int), ())), (([1, 2] : List Int), (([0, 3] : List Int), ()))] : List (List Int × List Int × Unit)), 0) from rfl).trans p41_7_3.symm
        · exact (show P41 8 3 = some (([(([0, 1, 2] : List Int), (([4, 5, 7] : List Int), ())), (([0, 4] : List Int), (([5, 6] : List Int), ())), (([0, 2] : List Int), (([1, 3] : List Int), ()))] : List (List Int × List Int × Unit)), 0) from rfl).trans p41_8_3.symm
        · exact (show P41 9 3 = some (([(([0, 1, 2] : List Int), (([4, 6, 8] : List Int), ())), (([1, 2, 3] : List Int), (([0, 6, 7] : List Int), ())), (([0, 2, 3] : List Int), (([1, 4, 5] : List Int), ()))] : List (List Int × List Int × Unit)), 0) from rfl).trans p41_9_3.symm
        · exact (show P41 10 3 = some (([(([0, 1, 2, 4] : List Int), (([3, 6, 7, 9] : List Int), ())), (([1, 2, 6] : List Int), (([0, 7, 8] : List Int), ())), (([2, 3, 4] : List Int), (([0, 1, 5] : List Int), ()))] : List (List Int × List Int × Unit)), 0) from rfl).trans p41_10_3.symm
        · exact (show P41 11 3 = some (([(([0, 1, 2, 3] : List Int), (([6, 7, 8, 10] : List Int), ())), (([2, 3, 4, 5] : List Int), (([0, 1, 8, 9] : List Int), ())), (([1, 3, 5, 6] : List Int), (([0, 2, 4, 7] : List Int), ()))] : List (List Int × List Int × Unit)), 0) from rfl).trans p41_11_3.symm
        · exact (show P41 12 3 = some (([(([0, 1, 2, 5] : List Int), (([6, 8, 9, 11] : List Int), ())), (([1, 2, 4, 8] : List Int), (([0, 3, 9, 10] : List Int), ())), (([0, 2, 3, 4] : List Int), (([1, 5, 6, 7] : List Int), ()))] : List (List Int × List Int × Unit)), 0) from rfl).trans p41_12_3.symm
        · exact (show P41 13 3 = some (([] : List (List Int × List Int × Unit)), 14) from rfl).trans p41_13_3.symm
    · have e1 : P41 s w = some ([], 3) := by rw [P41, if_neg (fun hh => h2 hh.2.2)]
      have e2 : A57 1 s 13 = some true := by simp [A57, m57, h.1, h.2]
      have e3 : A57 0 w 3 = some false := by
        simp only [A57, m57]
        by_cases hw : 0 ≤ w
        · have : ¬ w ≤ 3 := fun hh => h2 ⟨hw, hh⟩
          simp [hw, this]
        · simp [hw]
      have n0 : ¬ w = 0 := fun hh => h2 (by omega)
      have n1 : ¬ w = 1 := fun hh => h2 (by omega)
      have n2 : ¬ w = 2 := fun hh => h2 (by omega)
      have n3 : ¬ w = 3 := fun hh => h2 (by omega)
      rw [e1, A41b, if_neg n0, if_neg n1, if_neg n2, if_neg n3]
      simp [m41, e2, e3]
  · have e1 : P41 s w = some ([], 3) := by rw [P41, if_neg (fun hh => h ⟨hh.1, hh.2.1⟩)]
    have e2 : A57 1 s 13 = some false := by
      simp only [A57, m57]
      by_cases hw : 1 ≤ s
      · have : ¬ s ≤ 13 := fun hh => h ⟨hw, hh⟩
        simp [hw, this]
      · simp [hw]
    rw [e1, A41b]
    split
    · simp [m41w0, e2]
    · split
      · simp [m41w1, e2]
      · split
        · simp [m41w2, e2]
        · split
          · simp [m41w3, e2]
          · simp [m41, e2]
theorem K41t : FnOk Try.prog 41 (F41 P41) := e41 ▸ K41b
end Go.Proofs.Ytjcgjbdlgmbepaa
