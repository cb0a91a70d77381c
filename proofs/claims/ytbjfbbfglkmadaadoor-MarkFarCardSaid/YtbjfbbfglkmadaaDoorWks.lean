/-
 The examples of the chapter are right.
-/
import Derived.Test.YtbjfbbfglkmadaaDoorWC0
namespace Go.Proofs.YtbjfbbfglkmadaaDoor
open Go.RowKit
set_option linter.unusedVariables false
def w15_16 : (Int × List (List Int) × Unit) → Option (Int × Int) := fun x0 => cond (decide (x0 = vC)) (some (3, 0)) (none)
theorem v15_16_0 : A16 vC = some (3, 0) := by kernel_rfl
theorem s15_16 {x0 r} (h : w15_16 x0 = some r) : A16 x0 = some r := by
 simp only [w15_16] at h
 cases e0 : decide (x0 = vC) with
 | true =>
  rw [e0] at h
  obtain rfl := of_decide_eq_true e0
  rw [← oij h]; exact v15_16_0
 | false =>
  rw [e0] at h
  cases h
theorem u15_16 : FnOk Tryd.prog 16 (F16 w15_16) := by
 intro args Of x hx
 refine K16 args Of x ?_
 simp only [F16] at hx ⊢
 split at hx
 ·exact s15_16 hx
 ·cases hx
def w15_18 : (Int × List (List Int) × Unit) → (List Int) → Option (Int × Int) := fun x0 x1 => cond (decide (x0 = vC ∧ x1 = [0, 1])) (some (8, 0)) (none)
theorem v15_18_0 : A18 vC [0, 1] = some (8, 0) := by kernel_rfl
theorem s15_18 {x0 x1 r} (h : w15_18 x0 x1 = some r) : A18 x0 x1 = some r := by
 simp only [w15_18] at h
 cases e0 : decide (x0 = vC ∧ x1 = [0, 1]) with
 | true =>
  rw [e0] at h
  obtain ⟨rfl, rfl⟩ := of_decide_eq_true e0
  rw [← oij h]; exact v15_18_0
 | false =>
  rw [e0] at h
  cases h
theorem u15_18 : FnOk Tryd.prog 18 (F18 w15_18) := by
 intro args Of x hx
 refine K18 args Of x ?_
 simp only [F18] at hx ⊢
 split at hx
 ·exact s15_18 hx
 ·cases hx
def w15_20 : (Int × List (List Int) × Unit) → (List Int) → (List Int) → Option (Int) := fun x0 x1 x2 => cond (decide (x0 = vC ∧ x1 = [0, 1] ∧ x2 = [0, 1, 1])) (some 0) (cond (decide (x0 = vC ∧ x1 = [0, 1] ∧ x2 = [0, 1, 2])) (some 13) (none))
theorem v15_20_0 : A20 vC [0, 1] [0, 1, 1] = some 0 := by kernel_rfl
theorem v15_20_1 : A20 vC [0, 1] [0, 1, 2] = some 13 := by kernel_rfl
theorem s15_20 {x0 x1 x2 r} (h : w15_20 x0 x1 x2 = some r) : A20 x0 x1 x2 = some r := by
 simp only [w15_20] at h
 cases e0 : decide (x0 = vC ∧ x1 = [0, 1] ∧ x2 = [0, 1, 1]) with
 | true =>
  rw [e0] at h
  obtain ⟨rfl, rfl, rfl⟩ := of_decide_eq_true e0
  rw [← oij h]; exact v15_20_0
 | false =>
  rw [e0] at h
  cases e1 : decide (x0 = vC ∧ x1 = [0, 1] ∧ x2 = [0, 1, 2]) with
  | true =>
   rw [e1] at h
   obtain ⟨rfl, rfl, rfl⟩ := of_decide_eq_true e1
   rw [← oij h]; exact v15_20_1
  | false =>
   rw [e1] at h
   cases h
theorem u15_20 : FnOk Tryd.prog 20 (F20 w15_20) := by
 intro args Of x hx
 refine K20 args Of x ?_
 simp only [F20] at hx ⊢
 split at hx
 ·exact s15_20 hx
 ·cases hx
def w15_24 : (Int × List (List Int) × Unit) → (List Int) → Option (List Int × Int) := fun x0 x1 => cond (decide (x0 = vC ∧ x1 = [0, 1, 2])) (some ([0, 1, 2], 0)) (none)
theorem v15_24_0 : A24 vC [0, 1, 2] = some ([0, 1, 2], 0) := by kernel_rfl
theorem s15_24 {x0 x1 r} (h : w15_24 x0 x1 = some r) : A24 x0 x1 = some r := by
 simp only [w15_24] at h
 cases e0 : decide (x0 = vC ∧ x1 = [0, 1, 2]) with
 | true =>
  rw [e0] at h
  obtain ⟨rfl, rfl⟩ := of_decide_eq_true e0
  rw [← oij h]; exact v15_24_0
 | false =>
  rw [e0] at h
  cases h
theorem u15_24 : FnOk Tryd.prog 24 (F24 w15_24) := by
 intro args Of x hx
 refine K24 args Of x ?_
 simp only [F24] at hx ⊢
 split at hx
 ·exact s15_24 hx
 ·cases hx
def w15_26 : (Int × List (List Int) × Unit) → (List Int) → Int → Option (List (List Int) × Int) := fun x0 x1 x2 => cond (decide (x0 = vD ∧ x1 = [0, 1] ∧ x2 = 2)) (some ([[0, 3], [1]], 0)) (none)
theorem v15_26_0 : A26 vD [0, 1] 2 = some ([[0, 3], [1]], 0) := by kernel_rfl
theorem s15_26 {x0 x1 x2 r} (h : w15_26 x0 x1 x2 = some r) : A26 x0 x1 x2 = some r := by
 simp only [w15_26] at h
 cases e0 : decide (x0 = vD ∧ x1 = [0, 1] ∧ x2 = 2) with
 | true =>
  rw [e0] at h
  obtain ⟨rfl, rfl, rfl⟩ := of_decide_eq_true e0
  rw [← oij h]; exact v15_26_0
 | false =>
  rw [e0] at h
  cases h
theorem u15_26 : FnOk Tryd.prog 26 (F26 w15_26) := by
 intro args Of x hx
 refine K26 args Of x ?_
 simp only [F26] at hx ⊢
 split at hx
 ·exact s15_26 hx
 ·cases hx
def w15_28 : (Int × List (List Int) × Unit) → (List Int) → Int → Option (List Int × Int) := fun x0 x1 x2 => cond (decide (x0 = vC ∧ x1 = [0, 1, 1] ∧ x2 = 2)) (some ([0, 1], 0)) (cond (decide (x0 = vD ∧ x1 = [0, 1] ∧ x2 = 2)) (some ([], 0)) (none))
theorem v15_28_0 : A28 vC [0, 1, 1] 2 = some ([0, 1], 0) := by kernel_rfl
theorem v15_28_1 : A28 vD [0, 1] 2 = some ([], 0) := by kernel_rfl
theorem s15_28 {x0 x1 x2 r} (h : w15_28 x0 x1 x2 = some r) : A28 x0 x1 x2 = some r := by
 simp only [w15_28] at h
 cases e0 : decide (x0 = vC ∧ x1 = [0, 1, 1] ∧ x2 = 2) with
 | true =>
  rw [e0] at h
  obtain ⟨rfl, rfl, rfl⟩ := of_decide_eq_true e0
  rw [← oij h]; exact v15_28_0
 | false =>
  rw [e0] at h
  cases e1 : decide (x0 = vD ∧ x1 = [0, 1] ∧ x2 = 2) with
  | true =>
   rw [e1] at h
   obtain ⟨rfl, rfl, rfl⟩ := of_decide_eq_true e1
   rw [← oij h]; exact v15_28_1
  | false =>
   rw [e1] at h
   cases h
theorem u15_28 : FnOk Tryd.prog 28 (F28 w15_28) := by
 intro args Of x hx
 refine K28 args Of x ?_
 simp only [F28] at hx ⊢
 split at hx
 ·exact s15_28 hx
 ·cases hx
def w15_30 : (Int × List (List Int) × Unit) → (List Int) → Option (List Int × Int) := fun x0 x1 => cond (decide (x0 = vC ∧ x1 = [0, 1, 1])) (some ([1], 0)) (none)
theorem v15_30_0 : A30 vC [0, 1, 1] = some ([1], 0) := by kernel_rfl
theorem s15_30 {x0 x1 r} (h : w15_30 x0 x1 = some r) : A30 x0 x1 = some r := by
 simp only [w15_30] at h
 cases e0 : decide (x0 = vC ∧ x1 = [0, 1, 1]) with
 | true =>
  rw [e0] at h
  obtain ⟨rfl, rfl⟩ := of_decide_eq_true e0
  rw [← oij h]; exact v15_30_0
 | false =>
  rw [e0] at h
  cases h
theorem u15_30 : FnOk Tryd.prog 30 (F30 w15_30) := by
 intro args Of x hx
 refine K30 args Of x ?_
 simp only [F30] at hx ⊢
 split at hx
 ·exact s15_30 hx
 ·cases hx
def w15_32 : (List Int) → (List Int) → Option (Bool) := fun x0 x1 => cond (decide (x0 = [0, 1, 2] ∧ x1 = [0, 1, 2])) (some true) (cond (decide (x0 = [0, 1] ∧ x1 = [0, 1])) (some true) (cond (decide (x0 = [1] ∧ x1 = [1])) (some true) (cond (decide (x0 = [0, 3] ∧ x1 = [0, 3])) (some true) (none))))
theorem v15_32_0 : A32 [0, 1, 2] [0, 1, 2] = some true := by kernel_rfl
theorem v15_32_1 : A32 [0, 1] [0, 1] = some true := by kernel_rfl
theorem v15_32_2 : A32 [1] [1] = some true := by kernel_rfl
theorem v15_32_3 : A32 [0, 3] [0, 3] = some true := by kernel_rfl
theorem s15_32 {x0 x1 r} (h : w15_32 x0 x1 = some r) : A32 x0 x1 = some r := by
 simp only [w15_32] at h
 cases e0 : decide (x0 = [0, 1, 2] ∧ x1 = [0, 1, 2]) with
 | true =>
  rw [e0] at h
  obtain ⟨rfl, rfl⟩ := of_decide_eq_true e0
  rw [← oij h]; exact v15_32_0
 | false =>
  rw [e0] at h
  cases e1 : decide (x0 = [0, 1] ∧ x1 = [0, 1]) with
  | true =>
   rw [e1] at h
   obtain ⟨rfl, rfl⟩ := of_decide_eq_true e1
   rw [← oij h]; exact v15_32_1
  | false =>
   rw [e1] at h
   cases e2 : decide (x0 = [1] ∧ x1 = [1]) with
   | true =>
    rw [e2] at h
    obtain ⟨rfl, rfl⟩ := of_decide_eq_true e2
    rw [← oij h]; exact v15_32_2
   | false =>
    rw [e2] at h
    cases e3 : decide (x0 = [0, 3] ∧ x1 = [0, 3]) with
    | true =>
     rw [e3] at h
     obtain ⟨rfl, rfl⟩ := of_decide_eq_true e3
     rw [← oij h]; exact v15_32_3
    | false =>
     rw [e3] at h
     cases h
theorem u15_32 : FnOk Tryd.prog 32 (F32 w15_32) := by
 intro args Of x hx
 refine K32 args Of x ?_
 simp only [F32] at hx ⊢
 split at hx
 ·exact s15_32 hx
 ·cases hx
def w15_33 : (List (List Int)) → (List (List Int)) → Option (Bool) := fun x0 x1 => cond (decide (x0 = [[0, 3], [1]] ∧ x1 = [[0, 3], [1]])) (some true) (none)
theorem v15_33_0 : A33 [[0, 3], [1]] [[0, 3], [1]] = some true := by kernel_rfl
theorem s15_33 {x0 x1 r} (h : w15_33 x0 x1 = some r) : A33 x0 x1 = some r := by
 simp only [w15_33] at h
 cases e0 : decide (x0 = [[0, 3], [1]] ∧ x1 = [[0, 3], [1]]) with
 | true =>
  rw [e0] at h
  obtain ⟨rfl, rfl⟩ := of_decide_eq_true e0
  rw [← oij h]; exact v15_33_0
 | false =>
  rw [e0] at h
  cases h
theorem u15_33 : FnOk Tryd.prog 33 (F33 w15_33) := by
 intro args Of x hx
 refine K33 args Of x ?_
 simp only [F33] at hx ⊢
 split at hx
 ·exact s15_33 hx
 ·cases hx
def w15_34 : (Int × List (List Int) × Unit) → Int → Option (List Int × Int × Int) := fun x0 x1 => cond (decide (x0 = vC ∧ x1 = 2)) (some ([], 0, 5)) (cond (decide (x0 = vD ∧ x1 = 2)) (some ([0, 3], 1, 0)) (none))
theorem v15_34_0 : A34 vC 2 = some ([], 0, 5) := by kernel_rfl
theorem v15_34_1 : A34 vD 2 = some ([0, 3], 1, 0) := by kernel_rfl
theorem s15_34 {x0 x1 r} (h : w15_34 x0 x1 = some r) : A34 x0 x1 = some r := by
 simp only [w15_34] at h
 cases e0 : decide (x0 = vC ∧ x1 = 2) with
 | true =>
  rw [e0] at h
  obtain ⟨rfl, rfl⟩ := of_decide_eq_true e0
  rw [← oij h]; exact v15_34_0
 | false =>
  rw [e0] at h
  cases e1 : decide (x0 = vD ∧ x1 = 2) with
  | true =>
   rw [e1] at h
   obtain ⟨rfl, rfl⟩ := of_decide_eq_true e1
   rw [← oij h]; exact v15_34_1
  | false =>
   rw [e1] at h
   cases h
theorem u15_34 : FnOk Tryd.prog 34 (F34 w15_34) := by
 intro args Of x hx
 refine K34 args Of x ?_
 simp only [F34] at hx ⊢
 split at hx
 ·exact s15_34 hx
 ·cases hx
def w15_36 : (Int × List (List Int) × Unit) → Option ((List Int × List (List Int) × Unit) × Int) := fun x0 => cond (decide (x0 = vC)) (some (([], [], ()), 14)) (cond (decide (x0 = vD)) (some (([0, 0], [[0], [1, 2]], ()), 0)) (none))
theorem v15_36_0 : A36 vC = some (([], [], ()), 14) := by kernel_rfl
theorem v15_36_1 : A36 vD = some (([0, 0], [[0], [1, 2]], ()), 0) := by kernel_rfl
theorem s15_36 {x0 r} (h : w15_36 x0 = some r) : A36 x0 = some r := by
 simp only [w15_36] at h
 cases e0 : decide (x0 = vC) with
 | true =>
  rw [e0] at h
  obtain rfl := of_decide_eq_true e0
  rw [← oij h]; exact v15_36_0
 | false =>
  rw [e0] at h
  cases e1 : decide (x0 = vD) with
  | true =>
   rw [e1] at h
   obtain rfl := of_decide_eq_true e1
   rw [← oij h]; exact v15_36_1
  | false =>
   rw [e1] at h
   cases h
theorem u15_36 : FnOk Tryd.prog 36 (F36 w15_36) := by
 intro args Of x hx
 refine K36 args Of x ?_
 simp only [F36] at hx ⊢
 split at hx
 ·exact s15_36 hx
 ·cases hx
def w15_38 : (Int × List (List Int) × Unit) → (List Int × List (List Int) × Unit) → Option (Int) := fun x0 x1 => cond (decide (x0 = vD ∧ x1 = ([0, 1], [[1], [0, 3]], ()))) (some 0) (cond (decide (x0 = vD ∧ x1 = ([0, 0], [[0], [1, 2]], ()))) (some 0) (none))
theorem v15_38_0 : A38 vD ([0, 1], [[1], [0, 3]], ()) = some 0 := by kernel_rfl
theorem v15_38_1 : A38 vD ([0, 0], [[0], [1, 2]], ()) = some 0 := by kernel_rfl
theorem s15_38 {x0 x1 r} (h : w15_38 x0 x1 = some r) : A38 x0 x1 = some r := by
 simp only [w15_38] at h
 cases e0 : decide (x0 = vD ∧ x1 = ([0, 1], [[1], [0, 3]], ())) with
 | true =>
  rw [e0] at h
  obtain ⟨rfl, rfl⟩ := of_decide_eq_true e0
  rw [← oij h]; exact v15_38_0
 | false =>
  rw [e0] at h
  cases e1 : decide (x0 = vD ∧ x1 = ([0, 0], [[0], [1, 2]], ())) with
  | true =>
   rw [e1] at h
   obtain ⟨rfl, rfl⟩ := of_decide_eq_true e1
   rw [← oij h]; exact v15_38_1
  | false =>
   rw [e1] at h
   cases h
theorem u15_38 : FnOk Tryd.prog 38 (F38 w15_38) := by
 intro args Of x hx
 refine K38 args Of x ?_
 simp only [F38] at hx ⊢
 split at hx
 ·exact s15_38 hx
 ·cases hx
def w15_49 : Option (Int × List (List Int) × Unit) := some vD
theorem v15_49_0 : A49  = some vD := by kernel_rfl
theorem s15_49 {r} (h : w15_49 = some r) : A49 = some r := v15_49_0.trans h
theorem u15_49 : FnOk Tryd.prog 49 (F49 w15_49) := by
 intro args Of x hx
 refine K49 args Of x ?_
 simp only [F49] at hx ⊢
 split at hx
 ·exact s15_49 hx
 ·cases hx
def w15_50 : (List Int) → Option (List Int) := fun x0 => cond (decide (x0 = [0, 1])) (some [0, 1]) (cond (decide (x0 = [0, 1, 2])) (some [0, 1, 2]) (cond (decide (x0 = [0, 1, 1])) (some [0, 1, 1]) (cond (decide (x0 = [1])) (some [1]) (cond (decide (x0 = [0, 3])) (some [0, 3]) (none)))))
theorem v15_50_0 : A50 [0, 1] = some [0, 1] := by kernel_rfl
theorem v15_50_1 : A50 [0, 1, 2] = some [0, 1, 2] := by kernel_rfl
theorem v15_50_2 : A50 [0, 1, 1] = some [0, 1, 1] := by kernel_rfl
theorem v15_50_3 : A50 [1] = some [1] := by kernel_rfl
theorem v15_50_4 : A50 [0, 3] = some [0, 3] := by kernel_rfl
theorem s15_50 {x0 r} (h : w15_50 x0 = some r) : A50 x0 = some r := by
 simp only [w15_50] at h
 cases e0 : decide (x0 = [0, 1]) with
 | true =>
  rw [e0] at h
  obtain rfl := of_decide_eq_true e0
  rw [← oij h]; exact v15_50_0
 | false =>
  rw [e0] at h
  cases e1 : decide (x0 = [0, 1, 2]) with
  | true =>
   rw [e1] at h
   obtain rfl := of_decide_eq_true e1
   rw [← oij h]; exact v15_50_1
  | false =>
   rw [e1] at h
   cases e2 : decide (x0 = [0, 1, 1]) with
   | true =>
    rw [e2] at h
    obtain rfl := of_decide_eq_true e2
    rw [← oij h]; exact v15_50_2
   | false =>
    rw [e2] at h
    cases e3 : decide (x0 = [1]) with
    | true =>
     rw [e3] at h
     obtain rfl := of_decide_eq_true e3
     rw [← oij h]; exact v15_50_3
    | false =>
     rw [e3] at h
     cases e4 : decide (x0 = [0, 3]) with
     | true =>
      rw [e4] at h
      obtain rfl := of_decide_eq_true e4
      rw [← oij h]; exact v15_50_4
     | false =>
      rw [e4] at h
      cases h
theorem u15_50 : FnOk Tryd.prog 50 (F50 w15_50) := by
 intro args Of x hx
 refine K50 args Of x ?_
 simp only [F50] at hx ⊢
 split at hx
 ·exact s15_50 hx
 ·cases hx
def w15_51 : Option (Int × List (List Int) × Unit) := some vC
theorem v15_51_0 : A51  = some vC := by kernel_rfl
theorem s15_51 {r} (h : w15_51 = some r) : A51 = some r := v15_51_0.trans h
theorem u15_51 : FnOk Tryd.prog 51 (F51 w15_51) := by
 intro args Of x hx
 refine K51 args Of x ?_
 simp only [F51] at hx ⊢
 split at hx
 ·exact s15_51 hx
 ·cases hx
def E15 (a16 : (Int × List (List Int) × Unit) → Option (Int × Int)) (a18 : (Int × List (List Int) × Unit) → (List Int) → Option (Int × Int)) (a20 : (Int × List (List Int) × Unit) → (List Int) → (List Int) → Option (Int)) (a24 : (Int × List (List Int) × Unit) → (List Int) → Option (List Int × Int)) (a26 : (Int × List (List Int) × Unit) → (List Int) → Int → Option (List (List Int) × Int)) (a28 : (Int × List (List Int) × Unit) → (List Int) → Int → Option (List Int × Int)) (a30 : (Int × List (List Int) × Unit) → (List Int) → Option (List Int × Int)) (a32 : (List Int) → (List Int) → Option (Bool)) (a33 : (List (List Int)) → (List (List Int)) → Option (Bool)) (a34 : (Int × List (List Int) × Unit) → Int → Option (List Int × Int × Int)) (a36 : (Int × List (List Int) × Unit) → Option ((List Int × List (List Int) × Unit) × Int)) (a38 : (Int × List (List Int) × Unit) → (List Int × List (List Int) × Unit) → Option (Int)) (a49 : Option (Int × List (List Int) × Unit)) (a50 : (List Int) → Option (List Int)) (a51 : Option (Int × List (List Int) × Unit)) : Env := mkE TI TY [(16, F16 a16), (18, F18 a18), (20, F20 a20), (24, F24 a24), (26, F26 a26), (28, F28 a28), (30, F30 a30), (32, F32 a32), (33, F33 a33), (34, F34 a34), (36, F36 a36), (38, F38 a38), (49, F49 a49), (50, F50 a50), (51, F51 a51)] nrc nfz
noncomputable def c15 : Code := bodyOf Tryd.f15
def lv15 : Nat → Option Norm := norms []
def en15 : End := ⟨[], ⟨[217], [], [], []⟩⟩
def dec15 (l : List TV) (o : List (Nat × TO)) : Option (Bool) := match l, o with | [.dv (.bool) x0], [] => some (x0) | _, _ => none
theorem k15 : callF (E15 w15_16 w15_18 w15_20 w15_24 w15_26 w15_28 w15_30 w15_32 w15_33 w15_34 w15_36 w15_38 w15_49 w15_50 w15_51) lv15 60 en15 c15 (resOf Tryd.f15) 217 [] [] dec15 = some true := by kernel_rfl
/-- The examples are right. -/
theorem K15t : FnOk Tryd.prog 15 (F15 (some true)) := by
 intro args Of x hx
 simp only [F15] at hx
 split at hx
 ·obtain rfl := oij hx
  refine lifted (L := [(16, F16 w15_16), (18, F18 w15_18), (20, F20 w15_20), (24, F24 w15_24), (26, F26 w15_26), (28, F28 w15_28), (30, F30 w15_30), (32, F32 w15_32), (33, F33 w15_33), (34, F34 w15_34), (36, F36 w15_36), (38, F38 w15_38), (49, F49 w15_49), (50, F50 w15_50), (51, F51 w15_51)]) (rc := nrc) (fz := nfz) (fn := Tryd.f15) (by kernel_rfl) (by kernel_rfl) (by kernel_rfl) (by kernel_rfl) rfl ?_ k15 ?_
  ·intro p hp; simp only [List.mem_cons, List.not_mem_nil, or_false] at hp; rcases hp with rfl | rfl | rfl | rfl | rfl | rfl | rfl | rfl | rfl | rfl | rfl | rfl | rfl | rfl | rfl
   ·exact u15_16
   ·exact u15_18
   ·exact u15_20
   ·exact u15_24
   ·exact u15_26
   ·exact u15_28
   ·exact u15_30
   ·exact u15_32
   ·exact u15_33
   ·exact u15_34
   ·exact u15_36
   ·exact u15_38
   ·exact u15_49
   ·exact u15_50
   ·exact u15_51
  ·intro l o hd
   simp only [dec15] at hd
   split at hd
   ·obtain rfl := oij hd; exact ⟨rfl, rfl⟩
   ·cases hd
 ·cases hx
end Go.Proofs.YtbjfbbfglkmadaaDoor
