/-
 How a doubt is verified.
-/
import Derived.Test.YtbjfbbfglkmadaaDoorM7
namespace Go.Proofs.YtbjfbbfglkmadaaDoor
open Go.RowKit
set_option linter.unusedVariables false

def cm (ls : List (List Int)) : Bool := (ls.getD 0 []).any fun x => ls.all fun l => decide (x ∈ l)
theorem cnt_le : ∀ {l : List Int} (k : Int), l.Pairwise (· < ·) → l.count k ≤ 1
 | [], k, _ => by simp
 | x :: r, k, h => by
  obtain ⟨h1, h2⟩ := List.pairwise_cons.1 h
  rw [List.count_cons]
  by_cases e : x = k
  ·have : r.count k = 0 := List.count_eq_zero.2 fun hk => by have := h1 k hk; omega
   rw [this]; split <;> omega
  ·have := cnt_le (l := r) k h2
   rw [if_neg (by simpa using e)]; exact this
theorem cnt_all (k : Int) : ∀ {ls : List (List Int)}, (∀ l ∈ ls, l.Pairwise (· < ·)) → ls.flatten.count k ≤ ls.length ∧ (ls.flatten.count k = ls.length ↔ ∀ l ∈ ls, k ∈ l)
 | [], _ => by simp
 | x :: r, h => by
  obtain ⟨i1, i2⟩ := cnt_all k (ls := r) fun l hl => h l (by simp [hl])
  have hx := cnt_le k (h x (by simp))
  rw [List.flatten_cons, List.count_append, List.length_cons]
  refine ⟨by omega, ?_⟩
  constructor
  ·intro e l hl
   rcases List.mem_cons.1 hl with rfl | hl
   ·exact List.count_pos_iff.1 (by omega)
   ·exact i2.1 (by omega) l hl
  ·intro hall
   have h1 : 0 < x.count k := List.count_pos_iff.2 (hall x (by simp))
   have h2 := i2.2 fun l hl => hall l (by simp [hl])
   omega
end Go.Proofs.YtbjfbbfglkmadaaDoor
