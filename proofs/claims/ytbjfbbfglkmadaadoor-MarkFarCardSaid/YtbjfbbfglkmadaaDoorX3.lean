/-
 All words of a size, one after another.
-/
import Derived.Test.YtbjfbbfglkmadaaDoorX1
namespace Go.Proofs.YtbjfbbfglkmadaaDoor
open Go.RowKit
set_option linter.unusedVariables false

def wds (M n : Nat) : List (List Int) := match n with
 | 0 => [[]]
 | n + 1 => (wds M n).flatMap fun r => (List.range' 0 M).map fun (m : Nat) => (m : Int) :: r
theorem wds_mem {M : Nat} : ∀ {n : Nat} {w : List Int}, w ∈ wds M n ↔ w.length = n ∧ ∀ m ∈ w, 0 ≤ m ∧ m < (M : Int)
 | 0, w => by
  rw [wds, List.mem_singleton]
  exact ⟨fun h => by rw [h]; simp, fun h => List.eq_nil_of_length_eq_zero h.1⟩
 | n + 1, w => by
  rw [wds]
  simp only [List.mem_flatMap, List.mem_map, List.mem_range'_1]
  constructor
  ·rintro ⟨r, hr, m, hm, rfl⟩
   obtain ⟨h1, h2⟩ := wds_mem.1 hr
   refine ⟨by simp [h1], fun x hx => ?_⟩
   rcases List.mem_cons.1 hx with rfl | hx
   ·omega
   ·exact h2 x hx
  ·rintro ⟨h1, h2⟩
   cases w with
   | nil => simp at h1
   | cons x r =>
    have hx := h2 x (by simp)
    exact ⟨r, wds_mem.2 ⟨by simpa using h1, fun y hy => h2 y (by simp [hy])⟩, x.toNat, by omega, by rw [show ((x.toNat : Nat) : Int) = x by omega]⟩
end Go.Proofs.YtbjfbbfglkmadaaDoor
