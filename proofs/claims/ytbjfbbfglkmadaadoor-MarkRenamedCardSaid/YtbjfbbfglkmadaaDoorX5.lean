/-
  Words that are far apart: there is no doubt, and whoever is nearest is guilty.
-/
import Derived.Test.YtbjfbbfglkmadaaDoorX4
namespace Go.Proofs.YtbjfbbfglkmadaaDoor
open Go.RowKit
set_option linter.unusedVariables false

abbrev agr (a b : List Int) (k : Nat) : Bool := decide (a.getD k 0 = b.getD k 0)
def ag (n : Nat) (a b : List Int) : Nat := (List.range' 0 n).countP (agr a b)
theorem ag_comm (n : Nat) (a b : List Int) : ag n a b = ag n b a := by
  unfold ag
  congr 1; funext k
  exact decide_eq_decide.2 eq_comm
theorem apF_ag (b : List Int) : ∀ (xs : List Int) (t : Nat) (n : Int), apF b t xs n + (((List.range' 0 xs.length).countP fun k => decide (xs.getD k 0 = b.getD (t + k) 0) : Nat) : Int) = n + xs.length
  | [], t, n => by simp [apF]
  | x :: xs, t, n => by
    have ih := apF_ag b xs (t + 1) (cond (x != b.getD t 0) (n + 1) n)
    have e : (List.range' 1 xs.length).countP (fun k => decide ((x :: xs).getD k 0 = b.getD (t + k) 0)) = (List.range' 0 xs.length).countP fun k => decide (xs.getD k 0 = b.getD (t + 1 + k) 0) := by
      rw [List.range'_eq_map_range, List.range'_eq_map_range, List.countP_map, List.countP_map]
      congr 1; funext k
      simp only [Function.comp, Nat.zero_add]
      exact decide_eq_decide.2 (by rw [Nat.add_comm 1 k, List.getD_cons_succ, show t + (k + 1) = t + 1 + k by omega])
    rw [apF, List.length_cons, List.range'_succ, List.countP_cons, e]
    have e0 : ((x :: xs).getD 0 0 = b.getD (t + 0) 0) ↔ x = b.getD t 0 := Iff.rfl
    rw [bneDec] at ih ⊢
    by_cases h : x = b.getD t 0
    · rw [decide_eq_true h] at ih ⊢
      simp only [Bool.not_true, cond_false] at ih ⊢
      rw [if_pos (decide_eq_true (e0.2 h))]
      omega
    · rw [decide_eq_false h] at ih ⊢
      simp only [Bool.not_false, cond_true] at ih ⊢
      rw [if_neg (by rw [decide_eq_true_eq]; exact fun q => h (e0.1 q))]
      omega
theorem ap_ag {a b : List Int} {n : Nat} (h : a.length = n) : ap a b + (ag n a b : Int) = n := by
  have := apF_ag b a 0 0
  rw [h] at this
  simp only [Nat.zero_add, Int.zero_add] at this
  unfold ap ag
  exact this
abbrev wd (c : Cd) (i : Nat) : List Int := c.2.1.getD i []
theorem minF_lb : ∀ {l : List Int} {a x : Int}, x ∈ l → minF a l ≤ x
  | y :: r, a, x, h => by
    show minF (imin a y) r ≤ x
    rcases List.mem_cons.1 h with rfl | h
    · have := minF_le r (imin a x)
      have h2 : imin a x ≤ x := by unfold imin; split <;> omega
      omega
    · exact minF_lb h
theorem minF_in : ∀ (l : List Int) (a : Int), minF a l = a ∨ minF a l ∈ l
  | [], a => .inl rfl
  | y :: r, a => by
    have h2 : imin a y = a ∨ imin a y = y := by unfold imin; split <;> simp
    show minF (imin a y) r = a ∨ minF (imin a y) r ∈ y :: r
    rcases minF_in r (imin a y) with h | h
    · rw [h]
      rcases h2 with h2 | h2
      · exact .inl h2
      · rw [h2]; exact .inr (by simp)
    · exact .inr (List.mem_cons_of_mem _ h)
end Go.Proofs.YtbjfbbfglkmadaaDoor
