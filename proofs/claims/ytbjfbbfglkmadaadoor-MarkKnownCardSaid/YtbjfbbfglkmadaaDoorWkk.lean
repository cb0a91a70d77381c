/-
  The examples of the chapter are right.
-/
import Derived.Test.YtbjfbbfglkmadaaDoorWks
namespace Go.Proofs.YtbjfbbfglkmadaaDoor
open Go.RowKit
set_option linter.unusedVariables false
def w13_15 : Option (Bool) := some true
theorem v13_15_0 : (some true)  = some true := by kernel_rfl
theorem s13_15 {r} (h : w13_15 = some r) : (some true) = some r := v13_15_0.trans h
theorem u13_15 : FnOk Tryd.prog 15 (F15 w13_15) := by
  intro args Of x hx
  refine K15t args Of x ?_
  simp only [F15] at hx ⊢
  split at hx
  · exact s13_15 hx
  · cases hx
def w13_16 : (Int × List (List Int) × Unit) → Option (Int × Int) := fun x0 => cond (decide (x0 = vD)) (some (1, 0)) (none)
theorem v13_16_0 : A16 vD = some (1, 0) := by kernel_rfl
theorem s13_16 {x0 r} (h : w13_16 x0 = some r) : A16 x0 = some r := by
  simp only [w13_16] at h
  cases e0 : decide (x0 = vD) with
  | true =>
    rw [e0] at h
    obtain rfl := of_decide_eq_true e0
    rw [← Option.some.inj h]; exact v13_16_0
  | false =>
    rw [e0] at h
    cases h
theorem u13_16 : FnOk Tryd.prog 16 (F16 w13_16) := by
  intro args Of x hx
  refine K16 args Of x ?_
  simp only [F16] at hx ⊢
  split at hx
  · exact s13_16 hx
  · cases hx
def w13_18 : (Int × List (List Int) × Unit) → (List Int) → Option (Int × Int) := fun x0 x1 => cond (decide (x0 = vD ∧ x1 = [0, 3])) (some (4, 0)) (cond (decide (x0 = vD ∧ x1 = [0, 1])) (some (2, 0)) (none))
theorem v13_18_0 : A18 vD [0, 3] = some (4, 0) := by kernel_rfl
theorem v13_18_1 : A18 vD [0, 1] = some (2, 0) := by kernel_rfl
theorem s13_18 {x0 x1 r} (h : w13_18 x0 x1 = some r) : A18 x0 x1 = some r := by
  simp only [w13_18] at h
  cases e0 : decide (x0 = vD ∧ x1 = [0, 3]) with
  | true =>
    rw [e0] at h
    obtain ⟨rfl, rfl⟩ := of_decide_eq_true e0
    rw [← Option.some.inj h]; exact v13_18_0
  | false =>
    rw [e0] at h
    cases e1 : decide (x0 = vD ∧ x1 = [0, 1]) with
    | true =>
      rw [e1] at h
      obtain ⟨rfl, rfl⟩ := of_decide_eq_true e1
      rw [← Option.some.inj h]; exact v13_18_1
    | false =>
      rw [e1] at h
      cases h
theorem u13_18 : FnOk Tryd.prog 18 (F18 w13_18) := by
  intro args Of x hx
  refine K18 args Of x ?_
  simp only [F18] at hx ⊢
  split at hx
  · exact s13_18 hx
  · cases hx
def w13_24 : (Int × List (List Int) × Unit) → (List Int) → Option (List Int × Int) := fun x0 x1 => cond (decide (x0 = vD ∧ x1 = [0, 1])) (some ([1], 0)) (none)
theorem v13_24_0 : A24 vD [0, 1] = some ([1], 0) := by kernel_rfl
theorem s13_24 {x0 x1 r} (h : w13_24 x0 x1 = some r) : A24 x0 x1 = some r := by
  simp only [w13_24] at h
  cases e0 : decide (x0 = vD ∧ x1 = [0, 1]) with
  | true =>
    rw [e0] at h
    obtain ⟨rfl, rfl⟩ := of_decide_eq_true e0
    rw [← Option.some.inj h]; exact v13_24_0
  | false =>
    rw [e0] at h
    cases h
theorem u13_24 : FnOk Tryd.prog 24 (F24 w13_24) := by
  intro args Of x hx
  refine K24 args Of x ?_
  simp only [F24] at hx ⊢
  split at hx
  · exact s13_24 hx
  · cases hx
def w13_28 : (Int × List (List Int) × Unit) → (List Int) → Int → Option (List Int × Int) := fun x0 x1 x2 => cond (decide (x0 = vD ∧ x1 = [0, 1] ∧ x2 = 1)) (some ([1], 0)) (cond (decide (x0 = vC ∧ x1 = [0, 1, 2] ∧ x2 = 2)) (some ([], 14)) (none))
theorem v13_28_0 : A28 vD [0, 1] 1 = some ([1], 0) := by kernel_rfl
theorem v13_28_1 : A28 vC [0, 1, 2] 2 = some ([], 14) := by kernel_rfl
theorem s13_28 {x0 x1 x2 r} (h : w13_28 x0 x1 x2 = some r) : A28 x0 x1 x2 = some r := by
  simp only [w13_28] at h
  cases e0 : decide (x0 = vD ∧ x1 = [0, 1] ∧ x2 = 1) with
  | true =>
    rw [e0] at h
    obtain ⟨rfl, rfl, rfl⟩ := of_decide_eq_true e0
    rw [← Option.some.inj h]; exact v13_28_0
  | false =>
    rw [e0] at h
    cases e1 : decide (x0 = vC ∧ x1 = [0, 1, 2] ∧ x2 = 2) with
    | true =>
      rw [e1] at h
      obtain ⟨rfl, rfl, rfl⟩ := of_decide_eq_true e1
      rw [← Option.some.inj h]; exact v13_28_1
    | false =>
      rw [e1] at h
      cases h
theorem u13_28 : FnOk Tryd.prog 28 (F28 w13_28) := by
  intro args Of x hx
  refine K28 args Of x ?_
  simp only [F28] at hx ⊢
  split at hx
  · exact s13_28 hx
  · cases hx
def w13_22 : (Int × List (List Int) × Unit) → Option (Int) := fun x0 => cond (decide (x0 = (2, [], ()))) (some 1) (none)
theorem v13_22_0 : A22 (2, [], ()) = some 1 := by kernel_rfl
theorem s13_22 {x0 r} (h : w13_22 x0 = some r) : A22 x0 = some r := by
  simp only [w13_22] at h
  cases e0 : decide (x0 = (2, [], ())) with
  | true =>
    rw [e0] at h
    obtain rfl := of_decide_eq_true e0
    rw [← Option.some.inj h]; exact v13_22_0
  | false =>
    rw [e0] at h
    cases h
theorem u13_22 : FnOk Tryd.prog 22 (F22 w13_22) := by
  intro args Of x hx
  refine K22 args Of x ?_
  simp only [F22] at hx ⊢
  split at hx
  · exact s13_22 hx
  · cases hx
def w13_32 : (List Int) → (List Int) → Option (Bool) := fun x0 x1 => cond (decide (x0 = [1] ∧ x1 = [1])) (some true) (none)
theorem v13_32_0 : A32 [1] [1] = some true := by kernel_rfl
theorem s13_32 {x0 x1 r} (h : w13_32 x0 x1 = some r) : A32 x0 x1 = some r := by
  simp only [w13_32] at h
  cases e0 : decide (x0 = [1] ∧ x1 = [1]) with
  | true =>
    rw [e0] at h
    obtain ⟨rfl, rfl⟩ := of_decide_eq_true e0
    rw [← Option.some.inj h]; exact v13_32_0
  | false =>
    rw [e0] at h
    cases h
theorem u13_32 : FnOk Tryd.prog 32 (F32 w13_32) := by
  intro args Of x hx
  refine K32 args Of x ?_
  simp only [F32] at hx ⊢
  split at hx
  · exact s13_32 hx
  · cases hx
def w13_49 : Option (Int × List (List Int) × Unit) := some vD
theorem v13_49_0 : A49  = some vD := by kernel_rfl
theorem s13_49 {r} (h : w13_49 = some r) : A49 = some r := v13_49_0.trans h
theorem u13_49 : FnOk Tryd.prog 49 (F49 w13_49) := by
  intro args Of x hx
  refine K49 args Of x ?_
  simp only [F49] at hx ⊢
  split at hx
  · exact s13_49 hx
  · cases hx
def w13_50 : (List Int) → Option (List Int) := fun x0 => cond (decide (x0 = [0, 3])) (some [0, 3]) (cond (decide (x0 = [0, 1])) (some [0, 1]) (cond (decide (x0 = [0, 1, 2])) (some [0, 1, 2]) (cond (decide (x0 = [1])) (some [1]) (none))))
theorem v13_50_0 : A50 [0, 3] = some [0, 3] := by kernel_rfl
theorem v13_50_1 : A50 [0, 1] = some [0, 1] := by kernel_rfl
theorem v13_50_2 : A50 [0, 1, 2] = some [0, 1, 2] := by kernel_rfl
theorem v13_50_3 : A50 [1] = some [1] := by kernel_rfl
theorem s13_50 {x0 r} (h : w13_50 x0 = some r) : A50 x0 = some r := by
  simp only [w13_50] at h
  cases e0 : decide (x0 = [0, 3]) with
  | true =>
    rw [e0] at h
    obtain rfl := of_decide_eq_true e0
    rw [← Option.some.inj h]; exact v13_50_0
  | false =>
    rw [e0] at h
    cases e1 : decide (x0 = [0, 1]) with
    | true =>
      rw [e1] at h
      obtain rfl := of_decide_eq_true e1
      rw [← Option.some.inj h]; exact v13_50_1
    | false =>
      rw [e1] at h
      cases e2 : decide (x0 = [0, 1, 2]) with
      | true =>
        rw [e2] at h
        obtain rfl := of_decide_eq_true e2
        rw [← Option.some.inj h]; exact v13_50_2
      | false =>
        rw [e2] at h
        cases e3 : decide (x0 = [1]) with
        | true =>
          rw [e3] at h
          obtain rfl := of_decide_eq_true e3
          rw [← Option.some.inj h]; exact v13_50_3
        | false =>
          rw [e3] at h
          cases h
theorem u13_50 : FnOk Tryd.prog 50 (F50 w13_50) := by
  intro args Of x hx
  refine K50 args Of x ?_
  simp only [F50] at hx ⊢
  split at hx
  · exact s13_50 hx
  · cases hx
def w13_51 : Option (Int × List (List Int) × Unit) := some vC
theorem v13_51_0 : A51  = some vC := by kernel_rfl
theorem s13_51 {r} (h : w13_51 = some r) : A51 = some r := v13_51_0.trans h
theorem u13_51 : FnOk Tryd.prog 51 (F51 w13_51) := by
  intro args Of x hx
  refine K51 args Of x ?_
  simp only [F51] at hx ⊢
  split at hx
  · exact s13_51 hx
  · cases hx
def E13 (a15 : Option (Bool)) (a16 : (Int × List (List Int) × Unit) → Option (Int × Int)) (a18 : (Int × List (List Int) × Unit) → (List Int) → Option (Int × Int)) (a22 : (Int × List (List Int) × Unit) → Option (Int)) (a24 : (Int × List (List Int) × Unit) → (List Int) → Option (List Int × Int)) (a28 : (Int × List (List Int) × Unit) → (List Int) → Int → Option (List Int × Int)) (a32 : (List Int) → (List Int) → Option (Bool)) (a49 : Option (Int × List (List Int) × Unit)) (a50 : (List Int) → Option (List Int)) (a51 : Option (Int × List (List Int) × Unit)) : Env := mkE TI TY [(15, F15 a15), (16, F16 a16), (18, F18 a18), (22, F22 a22), (24, F24 a24), (28, F28 a28), (32, F32 a32), (49, F49 a49), (50, F50 a50), (51, F51 a51)] nrc nfz
noncomputable def c13 : Code := bodyOf Tryd.f13
def lv13 : Nat → Option Norm := norms []
def en13 : End := ⟨[], ⟨[107], [], [], []⟩⟩
def dec13 (l : List TV) (o : List (Nat × TO)) : Option (Bool) := match l, o with | [.dv (.bool) x0], [] => some (x0) | _, _ => none
theorem k13 : callF (E13 w13_15 w13_16 w13_18 w13_22 w13_24 w13_28 w13_32 w13_49 w13_50 w13_51) lv13 60 en13 c13 (resOf Tryd.f13) 107 [] [] dec13 = some true := by kernel_rfl
/-- The examples are right. -/
theorem K13t : FnOk Tryd.prog 13 (F13 (some true)) := by
  intro args Of x hx
  simp only [F13] at hx
  split at hx
  · obtain rfl := Option.some.inj hx
    refine lifted (L := [(15, F15 w13_15), (16, F16 w13_16), (18, F18 w13_18), (22, F22 w13_22), (24, F24 w13_24), (28, F28 w13_28), (32, F32 w13_32), (49, F49 w13_49), (50, F50 w13_50), (51, F51 w13_51)]) (rc := nrc) (fz := nfz) (fn := Tryd.f13) (by kernel_rfl) (by kernel_rfl) (by kernel_rfl) (by kernel_rfl) rfl ?_ k13 ?_
    · intro p hp; simp only [List.mem_cons, List.not_mem_nil, or_false] at hp; rcases hp with rfl | rfl | rfl | rfl | rfl | rfl | rfl | rfl | rfl | rfl
      · exact u13_15
      · exact u13_16
      · exact u13_18
      · exact u13_22
      · exact u13_24
      · exact u13_28
      · exact u13_32
      · exact u13_49
      · exact u13_50
      · exact u13_51
    · intro l o hd
      simp only [dec13] at hd
      split at hd
      · obtain rfl := Option.some.inj hd; exact ⟨rfl, rfl⟩
      · cases hd
  · cases hx
end Go.Proofs.YtbjfbbfglkmadaaDoor
