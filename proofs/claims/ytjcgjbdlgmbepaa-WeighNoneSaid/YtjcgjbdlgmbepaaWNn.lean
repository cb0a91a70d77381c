/-
  The law WeighNone returns true and turns nothing that was there.
-/
import Derived.Test.YtjcgjbdlgmbepaaP0
import Derived.Test.YtjcgjbdlgmbepaaWC0
import Derived.Test.YtjcgjbdlgmbepaaWNM
import Derived.Test.YtjcgjbdlgmbepaaRows
import Derived.Test.YtjcgjbdlgmbepaaEN
import Derived.WalkKit
import Derived.ProofKit
import Derived.OpenShut
import Derived.ChangeOld
import Derived.Below
namespace Go.Proofs.Ytjcgjbdlgmbepaa.weighNone
open Go.RowKit Go.ChangeShapes Go.WideShapes Go.ChangeAt
set_option linter.unusedVariables false
def A52c : (List Int) → (List (List Int × List Int × Unit)) → Option (List (List Int × List Int × Unit)) := fun l0 p1 => m52c 60 l0 p1
theorem K52c : FnOk Try.prog 52 (F52c A52c) := ok52c A52c fun l0 p1 r h => ⟨60, h⟩
def A44c52F : Nat → Int → (List Int) → (List (List Int × List Int × Unit)) → Option (List (List Int × List Int × Unit))
  | 0 => fun _ _ _ => none
  | k + 1 => fun n0 l1 p2 => m44c52 (A44c52F k) A51 A52c 60 n0 l1 p2
theorem K44c52F : ∀ k, FnOk Try.prog 44 (F44c52 (A44c52F k))
  | 0 => by intro args Of x hx; simp only [F44c52, A44c52F] at hx; split at hx <;> cases hx
  | k + 1 => ok44c52 (A44c52F k) A51 A52c (K44c52F k) K51 K52c _ (fun n0 l1 p2 r h => ⟨60, h⟩)
def A44c52 : Int → (List Int) → (List (List Int × List Int × Unit)) → Option (List (List Int × List Int × Unit)) := A44c52F 60
theorem K44c52 : FnOk Try.prog 44 (F44c52 A44c52) := K44c52F 60
def A49 : Int → (List (List Int × List Int × Unit)) → Int → Int → Option (List Int) := fun n0 plan1 odd2 way3 => m49 60 n0 plan1 odd2 way3
theorem K49 : FnOk Try.prog 49 (F49 A49) := ok49 A49 fun n0 plan1 odd2 way3 r h => ⟨60, h⟩
def M13 (s : Int) : Option Bool := m13 (some true) P41 A44c52 A49 A51 60 s
theorem m13_0 : M13 0 = some true := by kernel_rfl
theorem m13_1 : M13 1 = some true := by kernel_rfl
theorem m13_2 : M13 2 = some true := by kernel_rfl
theorem m13_3 : M13 3 = some true := by kernel_rfl
/-- All weighings of five stones. -/
def W5 : List (List Int × List Int × Unit) := [(([3, 4] : List Int), (([0, 1] : List Int), ())), (([2, 4] : List Int), (([0, 1] : List Int), ())), (([2, 3] : List Int), (([0, 1] : List Int), ())), (([3, 4] : List Int), (([0, 2] : List Int), ())), (([4] : List Int), (([0] : List Int), ())), (([3] : List Int), (([0] : List Int), ())), (([2, 4] : List Int), (([0, 3] : List Int), ())), (([2] : List Int), (([0] : List Int), ())), (([2, 3] : List Int), (([0, 4] : List Int), ())), (([1, 4] : List Int), (([0, 2] : List Int), ())), (([1, 3] : List Int), (([0, 2] : List Int), ())), (([1, 4] : List Int), (([0, 3] : List Int), ())), (([1] : List Int), (([0] : List Int), ())), (([1, 3] : List Int), (([0, 4] : List Int), ())), (([1, 2] : List Int), (([0, 3] : List Int), ())), (([1, 2] : List Int), (([0, 4] : List Int), ())), (([3, 4] : List Int), (([1, 2] : List Int), ())), (([4] : List Int), (([1] : List Int), ())), (([3] : List Int), (([1] : List Int), ())), (([2, 4] : List Int), (([1, 3] : List Int), ())), (([2] : List Int), (([1] : List Int), ())), (([2, 3] : List Int), (([1, 4] : List Int), ())), (([4] : List Int), (([2] : List Int), ())), (([3] : List Int), (([2] : List Int), ())), (([4] : List Int), (([3] : List Int), ())), (([3] : List Int), (([4] : List Int), ())), (([2] : List Int), (([3] : List Int), ())), (([2] : List Int), (([4] : List Int), ())), (([1, 4] : List Int), (([2, 3] : List Int), ())), (([1] : List Int), (([2] : List Int), ())), (([1, 3] : List Int), (([2, 4] : List Int), ())), (([1] : List Int), (([3] : List Int), ())), (([1] : List Int), (([4] : List Int), ())), (([1, 2] : List Int), (([3, 4] : List Int), ())), (([0, 4] : List Int), (([1, 2] : List Int), ())), (([0, 3] : List Int), (([1, 2] : List Int), ())), (([0, 4] : List Int), (([1, 3] : List Int), ())), (([0] : List Int), (([1] : List Int), ())), (([0, 3] : List Int), (([1, 4] : List Int), ())), (([0, 2] : List Int), (([1, 3] : List Int), ())), (([0, 2] : List Int), (([1, 4] : List Int), ())), (([0, 4] : List Int), (([2, 3] : List Int), ())), (([0] : List Int), (([2] : List Int), ())), (([0, 3] : List Int), (([2, 4] : List Int), ())), (([0] : List Int), (([3] : List Int), ())), (([0] : List Int), (([4] : List Int), ())), (([0, 2] : List Int), (([3, 4] : List Int), ())), (([0, 1] : List Int), (([2, 3] : List Int), ())), (([0, 1] : List Int), (([2, 4] : List Int), ())), (([0, 1] : List Int), (([3, 4] : List Int), ()))]
theorem w5 : A44c52 5 [] [] = some W5 := by kernel_rfl
theorem ch_0 (rec : Bool → Int → Option Bool) : l13b (some true) P41 A44c52 A49 A51 60 4 W5 0 rec 60 false 0 = rec false 1 := by kernel_rfl
theorem ch_1 (rec : Bool → Int → Option Bool) : l13b (some true) P41 A44c52 A49 A51 60 4 W5 1 rec 60 false 0 = rec false 2 := by kernel_rfl
theorem ch_2 (rec : Bool → Int → Option Bool) : l13b (some true) P41 A44c52 A49 A51 60 4 W5 2 rec 60 false 0 = rec false 3 := by kernel_rfl
theorem ch_3 (rec : Bool → Int → Option Bool) : l13b (some true) P41 A44c52 A49 A51 60 4 W5 3 rec 60 false 0 = rec false 4 := by kernel_rfl
theorem ch_4 (rec : Bool → Int → Option Bool) : l13b (some true) P41 A44c52 A49 A51 60 4 W5 4 rec 60 false 0 = rec false 5 := by kernel_rfl
theorem ch_5 (rec : Bool → Int → Option Bool) : l13b (some true) P41 A44c52 A49 A51 60 4 W5 5 rec 60 false 0 = rec false 6 := by kernel_rfl
theorem ch_6 (rec : Bool → Int → Option Bool) : l13b (some true) P41 A44c52 A49 A51 60 4 W5 6 rec 60 false 0 = rec false 7 := by kernel_rfl
theorem ch_7 (rec : Bool → Int → Option Bool) : l13b (some true) P41 A44c52 A49 A51 60 4 W5 7 rec 60 false 0 = rec false 8 := by kernel_rfl
theorem ch_8 (rec : Bool → Int → Option Bool) : l13b (some true) P41 A44c52 A49 A51 60 4 W5 8 rec 60 false 0 = rec false 9 := by kernel_rfl
theorem ch_9 (rec : Bool → Int → Option Bool) : l13b (some true) P41 A44c52 A49 A51 60 4 W5 9 rec 60 false 0 = rec false 10 := by kernel_rfl
theorem ch_10 (rec : Bool → Int → Option Bool) : l13b (some true) P41 A44c52 A49 A51 60 4 W5 10 rec 60 false 0 = rec false 11 := by kernel_rfl
theorem ch_11 (rec : Bool → Int → Option Bool) : l13b (some true) P41 A44c52 A49 A51 60 4 W5 11 rec 60 false 0 = rec false 12 := by kernel_rfl
theorem ch_12 (rec : Bool → Int → Option Bool) : l13b (some true) P41 A44c52 A49 A51 60 4 W5 12 rec 60 false 0 = rec false 13 := by kernel_rfl
theorem ch_13 (rec : Bool → Int → Option Bool) : l13b (some true) P41 A44c52 A49 A51 60 4 W5 13 rec 60 false 0 = rec false 14 := by kernel_rfl
theorem ch_14 (rec : Bool → Int → Option Bool) : l13b (some true) P41 A44c52 A49 A51 60 4 W5 14 rec 60 false 0 = rec false 15 := by kernel_rfl
theorem ch_15 (rec : Bool → Int → Option Bool) : l13b (some true) P41 A44c52 A49 A51 60 4 W5 15 rec 60 false 0 = rec false 16 := by kernel_rfl
theorem ch_16 (rec : Bool → Int → Option Bool) : l13b (some true) P41 A44c52 A49 A51 60 4 W5 16 rec 60 false 0 = rec false 17 := by kernel_rfl
theorem ch_17 (rec : Bool → Int → Option Bool) : l13b (some true) P41 A44c52 A49 A51 60 4 W5 17 rec 60 false 0 = rec false 18 := by kernel_rfl
theorem ch_18 (rec : Bool → Int → Option Bool) : l13b (some true) P41 A44c52 A49 A51 60 4 W5 18 rec 60 false 0 = rec false 19 := by kernel_rfl
theorem ch_19 (rec : Bool → Int → Option Bool) : l13b (some true) P41 A44c52 A49 A51 60 4 W5 19 rec 60 false 0 = rec false 20 := by kernel_rfl
theorem ch_20 (rec : Bool → Int → Option Bool) : l13b (some true) P41 A44c52 A49 A51 60 4 W5 20 rec 60 false 0 = rec false 21 := by kernel_rfl
theorem ch_21 (rec : Bool → Int → Option Bool) : l13b (some true) P41 A44c52 A49 A51 60 4 W5 21 rec 60 false 0 = rec false 22 := by kernel_rfl
theorem ch_22 (rec : Bool → Int → Option Bool) : l13b (some true) P41 A44c52 A49 A51 60 4 W5 22 rec 60 false 0 = rec false 23 := by kernel_rfl
theorem ch_23 (rec : Bool → Int → Option Bool) : l13b (some true) P41 A44c52 A49 A51 60 4 W5 23 rec 60 false 0 = rec false 24 := by kernel_rfl
theorem ch_24 (rec : Bool → Int → Option Bool) : l13b (some true) P41 A44c52 A49 A51 60 4 W5 24 rec 60 false 0 = rec false 25 := by kernel_rfl
theorem ch_25 (rec : Bool → Int → Option Bool) : l13b (some true) P41 A44c52 A49 A51 60 4 W5 25 rec 60 false 0 = rec false 26 := by kernel_rfl
theorem ch_26 (rec : Bool → Int → Option Bool) : l13b (some true) P41 A44c52 A49 A51 60 4 W5 26 rec 60 false 0 = rec false 27 := by kernel_rfl
theorem ch_27 (rec : Bool → Int → Option Bool) : l13b (some true) P41 A44c52 A49 A51 60 4 W5 27 rec 60 false 0 = rec false 28 := by kernel_rfl
theorem ch_28 (rec : Bool → Int → Option Bool) : l13b (some true) P41 A44c52 A49 A51 60 4 W5 28 rec 60 false 0 = rec false 29 := by kernel_rfl
theorem ch_29 (rec : Bool → Int → Option Bool) : l13b (some true) P41 A44c52 A49 A51 60 4 W5 29 rec 60 false 0 = rec false 30 := by kernel_rfl
theorem ch_30 (rec : Bool → Int → Option Bool) : l13b (some true) P41 A44c52 A49 A51 60 4 W5 30 rec 60 false 0 = rec false 31 := by kernel_rfl
theorem ch_31 (rec : Bool → Int → Option Bool) : l13b (some true) P41 A44c52 A49 A51 60 4 W5 31 rec 60 false 0 = rec false 32 := by kernel_rfl
theorem ch_32 (rec : Bool → Int → Option Bool) : l13b (some true) P41 A44c52 A49 A51 60 4 W5 32 rec 60 false 0 = rec false 33 := by kernel_rfl
theorem ch_33 (rec : Bool → Int → Option Bool) : l13b (some true) P41 A44c52 A49 A51 60 4 W5 33 rec 60 false 0 = rec false 34 := by kernel_rfl
theorem ch_34 (rec : Bool → Int → Option Bool) : l13b (some true) P41 A44c52 A49 A51 60 4 W5 34 rec 60 false 0 = rec false 35 := by kernel_rfl
theorem ch_35 (rec : Bool → Int → Option Bool) : l13b (some true) P41 A44c52 A49 A51 60 4 W5 35 rec 60 false 0 = rec false 36 := by kernel_rfl
theorem ch_36 (rec : Bool → Int → Option Bool) : l13b (some true) P41 A44c52 A49 A51 60 4 W5 36 rec 60 false 0 = rec false 37 := by kernel_rfl
theorem ch_37 (rec : Bool → Int → Option Bool) : l13b (some true) P41 A44c52 A49 A51 60 4 W5 37 rec 60 false 0 = rec false 38 := by kernel_rfl
theorem ch_38 (rec : Bool → Int → Option Bool) : l13b (some true) P41 A44c52 A49 A51 60 4 W5 38 rec 60 false 0 = rec false 39 := by kernel_rfl
theorem ch_39 (rec : Bool → Int → Option Bool) : l13b (some true) P41 A44c52 A49 A51 60 4 W5 39 rec 60 false 0 = rec false 40 := by kernel_rfl
theorem ch_40 (rec : Bool → Int → Option Bool) : l13b (some true) P41 A44c52 A49 A51 60 4 W5 40 rec 60 false 0 = rec false 41 := by kernel_rfl
theorem ch_41 (rec : Bool → Int → Option Bool) : l13b (some true) P41 A44c52 A49 A51 60 4 W5 41 rec 60 false 0 = rec false 42 := by kernel_rfl
theorem ch_42 (rec : Bool → Int → Option Bool) : l13b (some true) P41 A44c52 A49 A51 60 4 W5 42 rec 60 false 0 = rec false 43 := by kernel_rfl
theorem ch_43 (rec : Bool → Int → Option Bool) : l13b (some true) P41 A44c52 A49 A51 60 4 W5 43 rec 60 false 0 = rec false 44 := by kernel_rfl
theorem ch_44 (rec : Bool → Int → Option Bool) : l13b (some true) P41 A44c52 A49 A51 60 4 W5 44 rec 60 false 0 = rec false 45 := by kernel_rfl
theorem ch_45 (rec : Bool → Int → Option Bool) : l13b (some true) P41 A44c52 A49 A51 60 4 W5 45 rec 60 false 0 = rec false 46 := by kernel_rfl
theorem ch_46 (rec : Bool → Int → Option Bool) : l13b (some true) P41 A44c52 A49 A51 60 4 W5 46 rec 60 false 0 = rec false 47 := by kernel_rfl
theorem ch_47 (rec : Bool → Int → Option Bool) : l13b (some true) P41 A44c52 A49 A51 60 4 W5 47 rec 60 false 0 = rec false 48 := by kernel_rfl
theorem ch_48 (rec : Bool → Int → Option Bool) : l13b (some true) P41 A44c52 A49 A51 60 4 W5 48 rec 60 false 0 = rec false 49 := by kernel_rfl
theorem ch_49 (rec : Bool → Int → Option Bool) : l13b (some true) P41 A44c52 A49 A51 60 4 W5 49 rec 60 false 0 = rec false 50 := by kernel_rfl
theorem ch_all (t : Nat) (h : t < 50) (rec : Bool → Int → Option Bool) : l13b (some true) P41 A44c52 A49 A51 60 4 W5 (t : Int) rec 60 false 0 = rec false ((t + 1 : Nat) : Int) := by
  match t, h with
  | 0, _ => exact ch_0 rec
  | 1, _ => exact ch_1 rec
  | 2, _ => exact ch_2 rec
  | 3, _ => exact ch_3 rec
  | 4, _ => exact ch_4 rec
  | 5, _ => exact ch_5 rec
  | 6, _ => exact ch_6 rec
  | 7, _ => exact ch_7 rec
  | 8, _ => exact ch_8 rec
  | 9, _ => exact ch_9 rec
  | 10, _ => exact ch_10 rec
  | 11, _ => exact ch_11 rec
  | 12, _ => exact ch_12 rec
  | 13, _ => exact ch_13 rec
  | 14, _ => exact ch_14 rec
  | 15, _ => exact ch_15 rec
  | 16, _ => exact ch_16 rec
  | 17, _ => exact ch_17 rec
  | 18, _ => exact ch_18 rec
  | 19, _ => exact ch_19 rec
  | 20, _ => exact ch_20 rec
  | 21, _ => exact ch_21 rec
  | 22, _ => exact ch_22 rec
  | 23, _ => exact ch_23 rec
  | 24, _ => exact ch_24 rec
  | 25, _ => exact ch_25 rec
  | 26, _ => exact ch_26 rec
  | 27, _ => exact ch_27 rec
  | 28, _ => exact ch_28 rec
  | 29, _ => exact ch_29 rec
  | 30, _ => exact ch_30 rec
  | 31, _ => exact ch_31 rec
  | 32, _ => exact ch_32 rec
  | 33, _ => exact ch_33 rec
  | 34, _ => exact ch_34 rec
  | 35, _ => exact ch_35 rec
  | 36, _ => exact ch_36 rec
  | 37, _ => exact ch_37 rec
  | 38, _ => exact ch_38 rec
  | 39, _ => exact ch_39 rec
  | 40, _ => exact ch_40 rec
  | 41, _ => exact ch_41 rec
  | 42, _ => exact ch_42 rec
  | 43, _ => exact ch_43 rec
  | 44, _ => exact ch_44 rec
  | 45, _ => exact ch_45 rec
  | 46, _ => exact ch_46 rec
  | 47, _ => exact ch_47 rec
  | 48, _ => exact ch_48 rec
  | 49, _ => exact ch_49 rec
  | k + 50, h => exact absurd h (by omega)
theorem m13_4 : M13 4 = some true := by
  have e1 : w64 ((1 : Int) + (Int.tmod (w64 4) (5 : Int))) = 5 := by kernel_rfl
  have e2 : P41 5 2 = some ([], 14) := by kernel_rfl
  rw [M13, m13, e1, w5, Option.bind_some]
  exact rangeInd W5 ([], ([], ())) (fun n (_ : Unit) t => l13a (some true) P41 A44c52 A49 A51 60 4 W5 n false t) (fun xs _ => some true)
    (fun n _ t x rest ht hx ih => by
      simp only [l13a, ixA ht, ixB ht, cond_true, chk_true]
      rw [ch_all t ht]
      exact ih ())
    (fun n _ => by
      simp only [l13a, ixE, cond_false, e1, e2, Option.bind_some]
      rfl) 60 () (by decide)
theorem red (s : Int) (h0 : 0 ≤ s) (h1 : s ≤ 255) : M13 s = M13 (Int.tmod s 5) := by
  have e1 : w64 s = s := w64_eq (by omega) (by omega)
  have e2 : Int.tmod s 5 = s % 5 := Int.tmod_eq_emod_of_nonneg h0
  have e3 : w64 (Int.tmod s 5) = Int.tmod s 5 := by rw [e2]; exact w64_eq (by omega) (by omega)
  have e4 : Int.tmod (Int.tmod s 5) 5 = Int.tmod s 5 := by rw [e2, Int.tmod_eq_emod_of_nonneg (by omega)]; omega
  have key : ∀ x y : Int, Int.tmod (w64 x) 5 = Int.tmod (w64 y) 5 → M13 x = M13 y := by
    intro x y h
    have hd : ∀ n r1 t29 told5 t35 t44 r2 rec tw t50 o, l13d (some true) P41 A44c52 A49 A51 60 x r1 t29 told5 t35 t44 r2 rec n tw t50 o = l13d (some true) P41 A44c52 A49 A51 60 y r1 t29 told5 t35 t44 r2 rec n tw t50 o := by
      intro n
      induction n with
      | zero => intros; rfl
      | succ n ih => intros; simp only [l13d, h, ih]
    have hc : ∀ n r1 t29 told5 t35 rec tw t44 o, l13c (some true) P41 A44c52 A49 A51 60 x r1 t29 told5 t35 rec n tw t44 o = l13c (some true) P41 A44c52 A49 A51 60 y r1 t29 told5 t35 rec n tw t44 o := by
      intro n
      induction n with
      | zero => intros; rfl
      | succ n ih => intros; simp only [l13c, h, ih, hd]
    have hb : ∀ n r1 t29 rec told5 t35, l13b (some true) P41 A44c52 A49 A51 60 x r1 t29 rec n told5 t35 = l13b (some true) P41 A44c52 A49 A51 60 y r1 t29 rec n told5 t35 := by
      intro n
      induction n with
      | zero => intros; rfl
      | succ n ih => intros; simp only [l13b, h, ih, hc]
    have ha : ∀ n r1 told5 t29, l13a (some true) P41 A44c52 A49 A51 60 x r1 n told5 t29 = l13a (some true) P41 A44c52 A49 A51 60 y r1 n told5 t29 := by
      intro n
      induction n with
      | zero => intros; rfl
      | succ n ih => intros; simp only [l13a, h, ih, hb]
    simp only [M13, m13, h, ha]
  exact key s (Int.tmod s 5) (by rw [e1, e3, e4])
theorem law (s : Int) (h0 : 0 ≤ s) (h1 : s ≤ 255) : M13 s = some true := by
  rw [red s h0 h1, Int.tmod_eq_emod_of_nonneg h0]
  have : s % 5 = 0 ∨ s % 5 = 1 ∨ s % 5 = 2 ∨ s % 5 = 3 ∨ s % 5 = 4 := by omega
  rcases this with e | e | e | e | e <;> rw [e]
  · exact m13_0
  · exact m13_1
  · exact m13_2
  · exact m13_3
  · exact m13_4
theorem wf_u8 {x : Int} (h : DT.wf (.int .u8) x) : 0 ≤ x ∧ x ≤ 255 := bounds_u8 h
theorem K (y0 : Int) (h : DT.wf (.int .u8) y0) : FnOk Try.prog 13 (F13 fun s => if s = y0 then some true else none) := by
  have hb := wf_u8 h
  refine ok13 (some true) P41 A44c52 A49 A51 K16t K41t K44c52 K49 K51 _ fun s r hr => ⟨60, ?_⟩
  split at hr
  · rename_i e
    rw [← hr, e]; exact law _ hb.1 hb.2
  · cases hr

set_option maxRecDepth 100000 in
theorem walk (w : World) (vs : List Value) (h : ArgsOk w [.int .u8] vs) : Calls Try.prog 13 vs.toArray w fun e w' => e = .returned (.bool true) ∧ Below w.heap.size w w' := by
  obtain ⟨v0, vs0, y0, rfl, w0, h0, k0⟩ := ArgsOk.cons h
  obtain rfl := ArgsOk.nil k0
  exact walkAll (K y0 w0) (xs := [.dv (.int .u8) y0]) (r := true) (if_pos rfl) rfl (HoldsAll.cons h0 HoldsAll.nil)

set_option maxRecDepth 100000 in
theorem lifted (os : Os) (started : os.Started) (H : Type) (enc : TypeId × Value → H) :
    ReturnsInHanded {} Try.checked os 13 .any (Rows.weighNoneSpec.pre6 enc Try.prog Try.f13 Rows.weighNoneRow.domain false) (Rows.weighNoneSpec.post enc Try.prog Try.f13 false true false false) :=
  lawShell (fn := Try.f13) (s := Rows.weighNoneSpec) (tb := 4) [.int .u8] Try.func13 (by kernel_rfl) (by kernel_rfl) (by kernel_rfl) Try.underlying4 (by kernel_rfl) os started H enc Rows.weighNoneRow.domain
    (fun ds hl => by
      match ds, hl with
      | [d0], _ => rfl)
    (ChangeSpec.witness6 (enc := enc) (C := Try.checked) false ⟨#[], #[.int .u8 0], []⟩ 8 (by kernel_rfl) (by kernel_rfl) (by kernel_rfl) (by kernel_rfl)) walk

theorem over : Rows.weighNoneRow.holds Try.pinned (OpenSpec.ofChange Rows.weighNoneSpec) :=
  OpenClaim.holds_of_wide 13 Try.f13 rfl rfl rfl rfl rfl rfl rfl ⟨rfl, rfl, rfl, rfl, rfl⟩ rfl rfl rfl rfl rfl (by kernel_rfl) Try.func13 (by kernel_rfl)
    (of_decide_eq_true (by kernel_rfl)) (by unfold Func.isWrapper; first | (rw [if_pos (by decide +kernel)]; kernel_rfl) | (rw [if_neg (by decide +kernel)]; exact ⟨rfl, rfl⟩))
    (fun os started H enc _ => lifted os started H enc)

/-- THE STATEMENT. -/
theorem proved : Rows.WeighNoneSaid := over

end Go.Proofs.Ytjcgjbdlgmbepaa.weighNone
