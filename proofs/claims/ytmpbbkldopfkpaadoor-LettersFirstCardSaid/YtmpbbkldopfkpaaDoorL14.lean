/-
 Which letters always come before others: by all logs that mean the same.
-/
import Derived.Test.YtmpbbkldopfkpaaDoorL13
import Derived.Test.YtmpbbkldopfkpaaDoorL9
namespace Go.Proofs.YtmpbbkldopfkpaaDoor
open Go.RowKit
set_option linter.unusedVariables false

theorem part_eqv {D : UInt8 → UInt8 → Bool} (hB : Bnd D) : ∀ l : List (UInt8 × Bool), (l.Pairwise fun p q => p.2 = true → D p.1 q.1 = true → q.2 = true) → Eqv D (l.map (·.1)) (((l.filter fun p => !p.2).map (·.1)) ++ ((l.filter fun p => p.2).map (·.1)))
 | [], _ => Eqv.refl _
 | (x, false) :: r, h => by
  have ih := part_eqv hB r (List.pairwise_cons.1 h).2
  simpa using ih.cons x
 | (x, true) :: r, h => by
  obtain ⟨h1, h2⟩ := List.pairwise_cons.1 h
  have ih := part_eqv hB r h2
  have hA : ∀ z ∈ (r.filter fun p => !p.2).map (·.1), z ≠ x ∧ D z x = false := fun z hz => by
   obtain ⟨q, hq, rfl⟩ := List.mem_map.1 hz
   obtain ⟨hq1, hq2⟩ := List.mem_filter.1 hq
   have hf : D x q.1 = false := by
    cases hD : D x q.1 with
    | false => rfl
    | true =>
     have := h1 q hq1 rfl hD
     rw [this] at hq2; cases hq2
   exact ⟨fun e => by (rw [e, hB.refl] at hf; cases hf), by rw [hB.symm]; exact hf⟩
  have := (ih.cons x).trans (tk_eqv hB (tk_of _ ((r.filter fun p => p.2).map (·.1)) hA))
  simpa using this
theorem take_range (s : Wd) {k : Nat} (hk : k ≤ s.length) : s.take k = (List.range k).map fun p => s.getD p 0 := by
 apply List.ext_getElem
 ·rw [List.length_take, List.length_map, List.length_range]; omega
 ·intro p h1 h2
  rw [List.length_take] at h1
  rw [List.getElem_take, List.getElem_map, List.getElem_range, List.getD_eq_getElem?_getD, List.getElem?_eq_getElem (by omega)]; rfl
end Go.Proofs.YtmpbbkldopfkpaaDoor
