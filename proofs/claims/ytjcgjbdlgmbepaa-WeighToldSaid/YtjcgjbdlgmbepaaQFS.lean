import Derived.Test.YtjcgjbdlgmbepaaQFI
import Derived.Test.YtjcgjbdlgmbepaaQX
import Derived.Test.YtjcgjbdlgmbepaaShelf
namespace Go.Proofs.Ytjcgjbdlgmbepaa
open Go.RowKit
set_option linter.unusedVariables false

/-- Put into a sorted list; sorted. -/
def ins (x : Int) : List Int → List Int
  | [] => [x]
  | y :: r => cond (decide (x ≤ y)) (x :: y :: r) (y :: ins x r)
def srt : List Int → List Int
  | [] => []
  | x :: r => ins x (srt r)

theorem ins_perm (x : Int) : ∀ l, (ins x l).Perm (x :: l)
  | [] => .refl _
  | y :: r => by
    simp only [ins]
    cases decide (x ≤ y) with
    | true => exact .refl _
    | false => exact ((ins_perm x r).cons y).trans (.swap x y r)

theorem srt_perm : ∀ l, (srt l).Perm l
  | [] => .refl _
  | x :: r => (ins_perm x (srt r)).trans ((srt_perm r).cons x)

theorem ins_sorted (x : Int) : ∀ {l}, l.Pairwise (fun a b => decide (a ≤ b) = true) → (ins x l).Pairwise (fun a b => decide (a ≤ b) = true)
  | [], _ => by simp [ins]
  | y :: r, h => by
    obtain ⟨h1, h2⟩ := List.pairwise_cons.1 h
    simp only [ins]
    cases e : decide (x ≤ y) with
    | true =>
      refine List.pairwise_cons.2 ⟨fun z hz => ?_, h⟩
      rcases List.mem_cons.1 hz with rfl | hz
      · exact e
      · have := h1 z hz
        simp only [decide_eq_true_eq] at *; omega
    | false =>
      refine List.pairwise_cons.2 ⟨fun z hz => ?_, ins_sorted x h2⟩
      rcases List.mem_cons.1 ((ins_perm x r).mem_iff.1 hz) with rfl | hz
      · simp only [decide_eq_false_iff_not, decide_eq_true_eq] at *; omega
      · exact h1 z hz

theorem srt_sorted : ∀ l, (srt l).Pairwise (fun a b => decide (a ≤ b) = true)
  | [] => .nil
  | x :: r => ins_sorted x (srt_sorted r)

theorem srt_eq (l : List Int) : (l.mergeSort fun x y => decide (x ≤ y)) = srt l :=
  List.Perm.eq_of_pairwise (le := fun a b => decide (a ≤ b) = true) (fun a b _ _ h1 h2 => by simp only [decide_eq_true_eq] at h1 h2; omega)
    (List.pairwise_mergeSort (fun a b c h1 h2 => by simp only [decide_eq_true_eq] at *; omega) (fun a b => by simp only [Bool.or_eq_true, decide_eq_true_eq]; omega) l) (srt_sorted l) ((List.mergeSort_perm l _).trans (srt_perm l).symm)

def A77 (l : List Int) : Option (List Int) := if l.length < 4611686018427387904 then some (srt l) else none
def A78 (l : List Int) : Option (List Int) := match l with
  | [] => none
  | l => some (Go.Lib.compact l)

theorem enters77 (xs : Array Value) (w : World) : (callFunc 77 xs).run Try.prog w = .ok (.enter 77 xs) w := enters_of Try.func77 (by kernel_rfl) rfl xs w
theorem enters78 (xs : Array Value) (w : World) : (callFunc 78 xs).run Try.prog w = .ok (.enter 78 xs) w := enters_of Try.func78 (by kernel_rfl) rfl xs w

theorem ok77 : FnOk Try.prog 77 (F77c A77) := by
  intro args Of x hx
  simp only [F77c] at hx
  split at hx
  · rename_i p0
    simp only [A77] at hx
    split at hx
    · rename_i hl
      obtain rfl := Option.some.inj hx
      rw [← srt_eq]
      exact sort_ok (by simp) enters77 (fun blk off cap w h1 h2 => Try.slices_Sort_int blk off cap p0 w h1 h2 hl) (fun p cap w => Try.slices_Sort_int_none p cap w) _
    · cases hx
  · cases hx

theorem compact_le (l : List Int) : (Go.Lib.compact l).length ≤ l.length := by
  simp only [Go.Lib.compact, Go.Lib.compactUpTo, List.length_map]
  exact Nat.le_trans (List.length_filter_le _ _) (by simp)

theorem ok78 : FnOk Try.prog 78 (F78c A78) := by
  intro args Of x hx
  simp only [F78c] at hx
  split at hx
  · rename_i p0
    simp only [A78] at hx
    split at hx
    · cases hx
    · rename_i hne
      obtain rfl := Option.some.inj hx
      exact compact_ok (compact_le p0) hne enters78 fun blk off cap w h1 h2 h3 => Try.slices_Compact_int blk off cap p0 w h1 h2 h3
  · cases hx

end Go.Proofs.Ytjcgjbdlgmbepaa
