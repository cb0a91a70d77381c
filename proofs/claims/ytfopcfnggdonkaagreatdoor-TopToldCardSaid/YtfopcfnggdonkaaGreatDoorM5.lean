/-
 Lean coalitions, the smallest one, the nearest customers: what the program computes.
-/
import Derived.Test.YtfopcfnggdonkaaGreatDoorM4
namespace Go.Proofs.YtfopcfnggdonkaaGreatDoor
open Go.Proofs.Tryz
open Go.RowKit
set_option linter.unusedVariables false
theorem asZ {α : Type} {b : List α} {t : Nat} {d : α} (h : t < b.length) : b.drop t = b.getD t d :: b.drop (t + 1) := by
 rw [List.drop_eq_getElem_cons h, List.getD_eq_getElem?_getD, List.getElem?_eq_getElem h]; rfl
def DK (c : Cd) (s : Int) : Option (Int × Int × List (List Int) × Unit) := some (s, c)
theorem ap6 : aF prog 40 (LU DK) := aBK DK fun c s r h => ⟨0, by rw [<- h]; rfl⟩
def AA (s : Option (List Int)) : Option (Option (List Int)) := match s with
 | none => some none
 | some l => if 0 < l.length /\ l.length <= 1000 then some (some l) else none
theorem ap8 : aF prog 43 (yP AA) := aiK AA fun s r h => ⟨0, by
 cases s with
 | none => rw [<- h]; rfl
 | some l =>
  simp only [AA] at h
  split at h
  ·rename_i hl
   rw [<- h, UN]
   simp only [Option.isNone_some, cond_false, Option.getD_some, List.nil_append]
   rw [wJ (ET (by omega) (by decide)), wJ (by simp only [Bool.and_true, decide_eq_true_eq]; exact hl.1)]
  ·cases h⟩
def zA (c : Cd) (w : List Int) : Int := cond (decide (lI c = 0)) (wE c w) (lI c)
theorem adA {c : Cd} {w : List Int} (h : zA c w = 0) : lI c = 0 /\ wE c w = 0 := by
 unfold zA at h
 cases e : decide (lI c = 0) with
 | false => rw [e, cond_false] at h; exact absurd h (of_decide_eq_false e)
 | true => rw [e, cond_true] at h; exact ⟨of_decide_eq_true e, h⟩
theorem aB' {c : Cd} {w x : List Int} {k : Nat} (h : zA c w = 0) (hx : NQ c.2.1.length k x) : OL c x w = true := by
 obtain ⟨h1, h2⟩ := adA h
 have hn := (BJ h1).2.1
 have := afW hx
 simp only [OL, Bool.and_eq_true, decide_eq_true_eq]
 refine ⟨⟨⟨h1, ?_⟩, by omega⟩, h2⟩
 simp only [OM, List.all_eq_true, decide_eq_true_eq]
 exact fun i hi => hx.2.2.2 i hi
end Go.Proofs.YtfopcfnggdonkaaGreatDoor
