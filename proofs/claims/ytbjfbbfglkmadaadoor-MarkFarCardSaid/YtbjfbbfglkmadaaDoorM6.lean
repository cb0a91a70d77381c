/-
 Who is framed: what the program computes.
-/
import Derived.Test.YtbjfbbfglkmadaaDoorM5
namespace Go.Proofs.YtbjfbbfglkmadaaDoor
open Go.RowKit
set_option linter.unusedVariables false

def B93 (s : List Int) (v : Int) : Option Int := if s.length ≤ 1000 then some (fx (fun x => v == x) 0 s) else none
theorem KB93 : FnOk Tryd.prog 93 (F93 B93) := ok93 B93 fun s v r h => ⟨1001, by
 simp only [B93] at h
 split at h
 ·rename_i hl
  rw [← h, m93]
  exact rangeIx s 0 (fun n (_ : Unit) t => l93a 1001 s v n t) (fun _ _ _ => True) (fun t xs _ => some (fx (fun x => v == x) t xs))
   (fun n _ t x rest ht hx _ ih => by
    simp only [l93a, ixA ht, ixB ht, cond_true, chk_true, Int.toNat_natCast, ixW ht (by omega), hx, ih () trivial, fx]
    cases (v == x) <;> rfl)
   (fun n _ _ => by simp only [l93a, ixE, cond_false]; rfl) 1001 () (by omega) trivial
 ·cases h⟩
def B75 (s : List Int) (v : Int) : Option Bool := if s.length ≤ 1000 then some (decide (v ∈ s)) else none
theorem any_mem (s : List Int) (v : Int) : (s.any fun x => v == x) = decide (v ∈ s) := by
 rw [Bool.eq_iff_iff, List.any_eq_true, dtq]
 constructor
 ·rintro ⟨x, hx, h⟩; rw [eq_of_beq h]; exact hx
 ·exact fun h => ⟨v, h, beq_self_eq_true v⟩
theorem KB75 : FnOk Tryd.prog 75 (F75 B75) := ok75 B93 KB93 B75 fun s v r h => ⟨0, by
 simp only [B75] at h
 split at h
 ·rename_i hl
  rw [← h, m75, B93, if_pos hl, Option.bind_some, fx_ge _ s 0 (by omega), any_mem]
 ·cases h⟩
end Go.Proofs.YtbjfbbfglkmadaaDoor
