import Derived.Test.YtbjfbbfglkmadaaDoorQFI
import Derived.Test.YtbjfbbfglkmadaaDoorQXs
import Derived.Test.YtbjfbbfglkmadaaDoorShelf
namespace Go.Proofs.YtbjfbbfglkmadaaDoor
open Go.RowKit
set_option linter.unusedVariables false

/-- Put into a sorted list; sorted. -/
def sins (x : Int) : List Int → List Int
 | [] => [x]
 | y :: r => cond (decide (x ≤ y)) (x :: y :: r) (y :: sins x r)
def srt : List Int → List Int
 | [] => []
 | x :: r => sins x (srt r)

theorem sins_perm (x : Int) : ∀ l, (sins x l).Perm (x :: l)
 | [] => .refl _
 | y :: r => by
  simp only [sins]
  cases decide (x ≤ y) with
  | true => exact .refl _
  | false => exact ((sins_perm x r).cons y).trans (.swap x y r)

theorem srt_perm : ∀ l, (srt l).Perm l
 | [] => .refl _
 | x :: r => (sins_perm x (srt r)).trans ((srt_perm r).cons x)

theorem sins_sorted (x : Int) : ∀ {l}, l.Pairwise (fun a b => decide (a ≤ b) = true) → (sins x l).Pairwise (fun a b => decide (a ≤ b) = true)
 | [], _ => by simp [sins]
 | y :: r, h => by
  obtain ⟨h1, h2⟩ := List.pairwise_cons.1 h
  simp only [sins]
  cases e : decide (x ≤ y) with
  | true =>
   refine List.pairwise_cons.2 ⟨fun z hz => ?_, h⟩
   rcases List.mem_cons.1 hz with rfl | hz
   ·exact e
   ·have := h1 z hz
    simp only [dtq] at *; omega
  | false =>
   refine List.pairwise_cons.2 ⟨fun z hz => ?_, sins_sorted x h2⟩
   rcases List.mem_cons.1 ((sins_perm x r).mem_iff.1 hz) with rfl | hz
   ·simp only [decide_eq_false_iff_not, dtq] at *; omega
   ·exact h1 z hz

theorem srt_sorted : ∀ l, (srt l).Pairwise (fun a b => decide (a ≤ b) = true)
 | [] => .nil
 | x :: r => sins_sorted x (srt_sorted r)

theorem srt_eq (l : List Int) : (l.mergeSort fun x y => decide (x ≤ y)) = srt l :=
 List.Perm.eq_of_pairwise (le := fun a b => decide (a ≤ b) = true) (fun a b _ _ h1 h2 => by simp only [dtq] at h1 h2; omega)
  (List.pairwise_mergeSort (fun a b c h1 h2 => by simp only [dtq] at *; omega) (fun a b => by simp only [Bool.or_eq_true, dtq]; omega) l) (srt_sorted l) ((List.mergeSort_perm l _).trans (srt_perm l).symm)

def A74 (l : List Int) : Option (List Int) := if l.length < 4611686018427387904 then some (srt l) else none

theorem enters74 (xs : Array Value) (w : World) : (callFunc 74 xs).run Tryd.prog w = .ok (.enter 74 xs) w := enters_of Tryd.func74 (by kernel_rfl) rfl xs w

theorem ok74 : FnOk Tryd.prog 74 (F74c A74) := by
 intro args Of x hx
 simp only [F74c] at hx
 split at hx
 ·rename_i p0
  simp only [A74] at hx
  split at hx
  ·rename_i hl
   obtain rfl := oij hx
   rw [← srt_eq]
   exact sort_ok (by simp) enters74 (fun blk off cap w h1 h2 => Tryd.slices_Sort_int blk off cap p0 w h1 h2 hl) (fun p cap w => Tryd.slices_Sort_int_none p cap w) _
  ·cases hx
 ·cases hx

end Go.Proofs.YtbjfbbfglkmadaaDoor
