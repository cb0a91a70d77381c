/-
  The smallest coalition, lean coalitions and the guilty, told by what they have.
-/
import Derived.Test.YtbjfbbfglkmadaaDoorM10
namespace Go.Proofs.YtbjfbbfglkmadaaDoor
open Go.RowKit
set_option linter.unusedVariables false

theorem isCo_ne {N k : Nat} {x : List Int} (h : isCo N k x) : 0 < x.length := by
  have := h.1
  cases x with
  | nil => exact absurd rfl this
  | cons _ _ => simp
theorem mE_of {n : Int} : ∀ {l : List Int} {last : Int}, (∀ x ∈ l, 0 ≤ x ∧ x ≤ n ∧ last < x) → l.Pairwise (· < ·) → mE n last l = 0
  | [], _, _, _ => rfl
  | x :: r, last, h, hp => by
    obtain ⟨h1, h2⟩ := List.pairwise_cons.1 hp
    have hx := h x (by simp)
    rw [mE, decide_eq_true (show 0 ≤ x ∧ x ≤ n from ⟨hx.1, hx.2.1⟩), decide_eq_false (show ¬ x ≤ last by omega), cond_true, cond_false]
    exact mE_of (fun y hy => ⟨(h y (by simp [hy])).1, (h y (by simp [hy])).2.1, h1 y hy⟩) h2
theorem coE_of {c : Cd} {k : Nat} {x : List Int} (h : isCo c.2.1.length k x) : coE c x = 0 := by
  have h0 : 0 < x.length := by
    have := h.1
    cases x with
    | nil => exact absurd rfl this
    | cons _ _ => simp
  rw [coE, decide_eq_false (by omega), cond_false]
  exact mE_of (fun i hi => by have := h.2.2.2 i hi; omega) h.2.2.1
theorem bs_le {N s : Nat} : (bs N s).length ≤ N := by
  have := rise_len (lo := 0) (N := N) (bs_rise N s) fun e he => by have := bs_mem.1 he; omega
  omega
end Go.Proofs.YtbjfbbfglkmadaaDoor
