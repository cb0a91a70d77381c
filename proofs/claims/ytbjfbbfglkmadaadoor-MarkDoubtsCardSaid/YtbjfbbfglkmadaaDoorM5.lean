/-
  Lean coalitions, the smallest one, the nearest customers: what the program computes.
-/
import Derived.Test.YtbjfbbfglkmadaaDoorM4
namespace Go.Proofs.YtbjfbbfglkmadaaDoor
open Go.RowKit
set_option linter.unusedVariables false

theorem drop_cons' {α : Type} {b : List α} {t : Nat} {d : α} (h : t < b.length) : b.drop t = b.getD t d :: b.drop (t + 1) := by
  rw [List.drop_eq_getElem_cons h, List.getD_eq_getElem?_getD, List.getElem?_eq_getElem h]; rfl
def B67 (c : Cd) (s : Int) : Option (Int × Int × List (List Int) × Unit) := some (s, c)
theorem KB67 : FnOk Tryd.prog 67 (F67 B67) := ok67 B67 fun c s r h => ⟨0, by rw [← h]; rfl⟩
def B68 (s : Option (List Int)) : Option (List Int) := match s with
  | none => some []
  | some l => if l.length ≤ 1000 then some l else none
theorem KB68 : FnOk Tryd.prog 68 (F68 B68) := ok68 B68 fun s r h => ⟨0, by
  cases s with
  | none => rw [← h]; rfl
  | some l =>
    simp only [B68] at h
    split at h
    · rename_i hl
      rw [← h, m68]
      simp only [Option.isNone_some, cond_false, Option.getD_some, List.nil_append]
      rw [chk_of (small_of (by omega) (by decide))]
    · cases h⟩
theorem gs_len (N : Nat) : ∀ (m k i : Nat), N - i = m → (gs N k i).length + 1 ≤ 2 ^ m
  | m, 0, i, _ => by simp only [gs, List.length_nil]; exact Nat.one_le_two_pow
  | 0, k + 1, i, h => by
    rw [gs, h]; simp
  | m + 1, k + 1, i, h => by
    have e : gs N (k + 1) i = ([(i : Int)] :: (gs N k (i + 1)).map fun x => (i : Int) :: x) ++ gs N (k + 1) (i + 1) := by
      rw [gs, gs, h, List.range'_succ, List.flatMap_cons, show N - (i + 1) = m by omega]
    have h1 := gs_len N m k (i + 1) (by omega)
    have h2 := gs_len N m (k + 1) (i + 1) (by omega)
    rw [e, List.length_append, List.length_cons, List.length_map, Nat.pow_succ]; omega
theorem co_len {N k : Nat} (h : N ≤ 10) : (co N k).length ≤ 1024 := by
  have h1 := gs_len N N k 0 (by omega)
  have : 2 ^ N ≤ 2 ^ 10 := Nat.pow_le_pow_right (by decide) h
  unfold co; omega
def cwE (c : Cd) (w : List Int) : Int := cond (decide (cdE c = 0)) (wE c w) (cdE c)
theorem cwE_ok {c : Cd} {w : List Int} (h : cwE c w = 0) : cdE c = 0 ∧ wE c w = 0 := by
  unfold cwE at h
  cases e : decide (cdE c = 0) with
  | false => rw [e, cond_false] at h; exact absurd h (of_decide_eq_false e)
  | true => rw [e, cond_true] at h; exact ⟨of_decide_eq_true e, h⟩
theorem B66_of {c : Cd} {w : List Int} (h : smB c = true ∧ w.length ≤ 1000) : B66 c w = some (cwE c w) := if_pos h
end Go.Proofs.YtbjfbbfglkmadaaDoor
