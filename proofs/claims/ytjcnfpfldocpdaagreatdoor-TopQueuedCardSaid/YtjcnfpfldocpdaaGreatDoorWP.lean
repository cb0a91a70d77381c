/-
 Timetables of artists who bring one order each: what the program reckons. Timetables of ones: what is told.
-/
import Derived.Test.YtjcnfpfldocpdaaGreatDoorWG
import Derived.Test.YtjcnfpfldocpdaaGreatDoorLBM
namespace Go.Proofs.YtjcnfpfldocpdaaGreatDoor
open Go.RowKit
set_option linter.unusedVariables false
open Go.RowKit

def plan1 : List (Int × List Int × Unit) := [(1, [0], ())]
def plan2 : List (Int × List Int × Unit) := [(1, [-1, 0], ()), (1, [0, -1], ())]
def plan3 : List (Int × List Int × Unit) := [(1, [-1, -1, 0], ()), (1, [-1, 0, -1], ()), (1, [0, -1, -1], ())]
def plan4 : List (Int × List Int × Unit) := [(1, [-1, -1, -1, 0], ()), (1, [-1, -1, 0, -1], ()), (1, [-1, 0, -1, -1], ()), (1, [0, -1, -1, -1], ())]
def plan5 : List (Int × List Int × Unit) := [(1, [-1, -1, -1, -1, 0], ()), (1, [-1, -1, -1, 0, -1], ()), (1, [-1, -1, 0, -1, -1], ()), (1, [-1, 0, -1, -1, -1], ()), (1, [0, -1, -1, -1, -1], ())]
def plan6 : List (Int × List Int × Unit) := [(1, [-1, -1, -1, -1, -1, 0], ()), (1, [-1, -1, -1, -1, 0, -1], ()), (1, [-1, -1, -1, 0, -1, -1], ()), (1, [-1, -1, 0, -1, -1, -1], ()), (1, [-1, 0, -1, -1, -1, -1], ()), (1, [0, -1, -1, -1, -1, -1], ())]
def B20 (w : List (List Int)) (s : Int) : Option (Int × Int) := 
 if w = [[1]] ∧ s = 1 then some (1, 0) else
 if w = [[1], [1]] ∧ s = 1 then some (2, 0) else
 if w = [[1], [1], [1]] ∧ s = 1 then some (3, 0) else
 if w = [[1], [1], [1], [1]] ∧ s = 1 then some (4, 0) else
 if w = [[1], [1], [1], [1], [1]] ∧ s = 1 then some (5, 0) else
 if w = [[1], [1], [1], [1], [1], [1]] ∧ s = 1 then some (6, 0) else none
def B31 (w : List (List Int)) : Option (List Int × List Int) := 
 if w = [[1]] then some ([1], [1]) else
 if w = [[1], [1]] then some ([1, 1], [2]) else
 if w = [[1], [1], [1]] then some ([1, 1, 1], [3]) else
 if w = [[1], [1], [1], [1]] then some ([1, 1, 1, 1], [4]) else
 if w = [[1], [1], [1], [1], [1]] then some ([1, 1, 1, 1, 1], [5]) else
 if w = [[1], [1], [1], [1], [1], [1]] then some ([1, 1, 1, 1, 1, 1], [6]) else none
def B49 (v : List Int) (n : Int) : Option (List Int) := 
 if v = [-1] ∧ n = 2 then some [-1, -1] else
 if v = [-1] ∧ n = 4 then some [-1, -1, -1, -1] else
 if v = [-1] ∧ n = 6 then some [-1, -1, -1, -1, -1, -1] else
 if v = [-1] ∧ n = 8 then some [-1, -1, -1, -1, -1, -1, -1, -1] else
 if v = [-1] ∧ n = 10 then some [-1, -1, -1, -1, -1, -1, -1, -1, -1, -1] else
 if v = [-1] ∧ n = 12 then some [-1, -1, -1, -1, -1, -1, -1, -1, -1, -1, -1, -1] else none
def B7 (w : List (List Int)) (s : Int) (p : List (Int × List Int × Unit)) : Option (Int × Int) := 
 if w = [[1]] ∧ s = 1 ∧ p = plan1 then some (1, 0) else
 if w = [[1], [1]] ∧ s = 1 ∧ p = plan2 then some (2, 0) else
 if w = [[1], [1], [1]] ∧ s = 1 ∧ p = plan3 then some (3, 0) else
 if w = [[1], [1], [1], [1]] ∧ s = 1 ∧ p = plan4 then some (4, 0) else
 if w = [[1], [1], [1], [1], [1]] ∧ s = 1 ∧ p = plan5 then some (5, 0) else
 if w = [[1], [1], [1], [1], [1], [1]] ∧ s = 1 ∧ p = plan6 then some (6, 0) else none
def B8 (w : List (List Int)) (s : Int) : Option (List Int × List Int × Int) := 
 if w = [[1]] ∧ s = 1 then some ([0], [0], 0) else
 if w = [[1], [1]] ∧ s = 1 then some ([], [0], 0) else
 if w = [[1], [1], [1]] ∧ s = 1 then some ([], [0], 0) else
 if w = [[1], [1], [1], [1]] ∧ s = 1 then some ([], [0], 0) else
 if w = [[1], [1], [1], [1], [1]] ∧ s = 1 then some ([], [0], 0) else
 if w = [[1], [1], [1], [1], [1], [1]] ∧ s = 1 then some ([], [0], 0) else none
def B21 (w : List (List Int)) (s n : Int) : Option (List (List Int)) := m21 B31 60 w s n
def B50 : Nat → Int → List Bool → List (List Int) → List Int → Option (Bool × List Bool × List (List Int) × List Int)
 | 0, _, _, _, _ => none
 | k + 1, i, p, q, r => fZ i fun i => fL fB p fun p => fL (fL fZ) q fun q => fL fZ r fun r => m50c (B50 k) 60 i p q r
def B22 (s : List (List Int)) : Option (List Int) := fL (fL fZ) s fun s => m22 B49 (B50 20) 60 s
def B6 (w : List (List Int)) (s : Int) : Option (List (Int × List Int × Unit) × Int) := m6 B20 B21 B22 60 w s
open Go.RowKit

theorem e20_1 : G20.ans [.dv (.sl (.sl (.int .i64))) [[1]], .dv (.int .i64) 1] [] = some ([.dv (.int .i64) 1, .dv (.int .i64) 0], []) := by kernel_rfl
theorem e49_1 : G49.ans [.dv (.sl (.int .i64)) [-1], .dv (.int .i64) 2] [] = some ([.row 1500], [(1500, .row (.int .i64) [-1, -1])]) := by kernel_rfl
theorem e31_1 : G31.ans [.dv (.sl (.sl (.int .i64))) [[1]]] [] = some ([.row 1500, .row 1501], [(1500, .row (.int .i64) [1]), (1501, .row (.int .i64) [1])]) := by kernel_rfl
theorem e7_1 : G7.ans [.dv (.sl (.sl (.int .i64))) [[1]], .dv (.int .i64) 1, .dv (.sl (.pair (.int .i64) (.pair (.sl (.int .i64)) (.unit)))) plan1] [] = some ([.dv (.int .i64) 1, .dv (.int .i64) 0], []) := by kernel_rfl
theorem e8_1 : G8.ans [.dv (.sl (.sl (.int .i64))) [[1]], .dv (.int .i64) 1] [] = some ([.dv (.sl (.int .i64)) [0], .dv (.sl (.int .i64)) [0], .dv (.int .i64) 0], []) := by kernel_rfl
theorem e20_2 : G20.ans [.dv (.sl (.sl (.int .i64))) [[1], [1]], .dv (.int .i64) 1] [] = some ([.dv (.int .i64) 2, .dv (.int .i64) 0], []) := by kernel_rfl
theorem e49_2 : G49.ans [.dv (.sl (.int .i64)) [-1], .dv (.int .i64) 4] [] = some ([.row 1500], [(1500, .row (.int .i64) [-1, -1, -1, -1])]) := by kernel_rfl
theorem e31_2 : G31.ans [.dv (.sl (.sl (.int .i64))) [[1], [1]]] [] = some ([.row 1500, .row 1501], [(1500, .row (.int .i64) [1, 1]), (1501, .row (.int .i64) [2])]) := by kernel_rfl
theorem e7_2 : G7.ans [.dv (.sl (.sl (.int .i64))) [[1], [1]], .dv (.int .i64) 1, .dv (.sl (.pair (.int .i64) (.pair (.sl (.int .i64)) (.unit)))) plan2] [] = some ([.dv (.int .i64) 2, .dv (.int .i64) 0], []) := by kernel_rfl
theorem e8_2 : G8.ans [.dv (.sl (.sl (.int .i64))) [[1], [1]], .dv (.int .i64) 1] [] = some ([.dv (.sl (.int .i64)) [], .dv (.sl (.int .i64)) [0], .dv (.int .i64) 0], []) := by kernel_rfl
theorem e20_3 : G20.ans [.dv (.sl (.sl (.int .i64))) [[1], [1], [1]], .dv (.int .i64) 1] [] = some ([.dv (.int .i64) 3, .dv (.int .i64) 0], []) := by kernel_rfl
theorem e49_3 : G49.ans [.dv (.sl (.int .i64)) [-1], .dv (.int .i64) 6] [] = some ([.row 1500], [(1500, .row (.int .i64) [-1, -1, -1, -1, -1, -1])]) := by kernel_rfl
theorem e31_3 : G31.ans [.dv (.sl (.sl (.int .i64))) [[1], [1], [1]]] [] = some ([.row 1500, .row 1501], [(1500, .row (.int .i64) [1, 1, 1]), (1501, .row (.int .i64) [3])]) := by kernel_rfl
theorem e7_3 : G7.ans [.dv (.sl (.sl (.int .i64))) [[1], [1], [1]], .dv (.int .i64) 1, .dv (.sl (.pair (.int .i64) (.pair (.sl (.int .i64)) (.unit)))) plan3] [] = some ([.dv (.int .i64) 3, .dv (.int .i64) 0], []) := by kernel_rfl
theorem e8_3 : G8.ans [.dv (.sl (.sl (.int .i64))) [[1], [1], [1]], .dv (.int .i64) 1] [] = some ([.dv (.sl (.int .i64)) [], .dv (.sl (.int .i64)) [0], .dv (.int .i64) 0], []) := by kernel_rfl
theorem e20_4 : G20.ans [.dv (.sl (.sl (.int .i64))) [[1], [1], [1], [1]], .dv (.int .i64) 1] [] = some ([.dv (.int .i64) 4, .dv (.int .i64) 0], []) := by kernel_rfl
theorem e49_4 : G49.ans [.dv (.sl (.int .i64)) [-1], .dv (.int .i64) 8] [] = some ([.row 1500], [(1500, .row (.int .i64) [-1, -1, -1, -1, -1, -1, -1, -1])]) := by kernel_rfl
theorem e31_4 : G31.ans [.dv (.sl (.sl (.int .i64))) [[1], [1], [1], [1]]] [] = some ([.row 1500, .row 1501], [(1500, .row (.int .i64) [1, 1, 1, 1]), (1501, .row (.int .i64) [4])]) := by kernel_rfl
theorem e7_4 : G7.ans [.dv (.sl (.sl (.int .i64))) [[1], [1], [1], [1]], .dv (.int .i64) 1, .dv (.sl (.pair (.int .i64) (.pair (.sl (.int .i64)) (.unit)))) plan4] [] = some ([.dv (.int .i64) 4, .dv (.int .i64) 0], []) := by kernel_rfl
theorem e8_4 : G8.ans [.dv (.sl (.sl (.int .i64))) [[1], [1], [1], [1]], .dv (.int .i64) 1] [] = some ([.dv (.sl (.int .i64)) [], .dv (.sl (.int .i64)) [0], .dv (.int .i64) 0], []) := by kernel_rfl
theorem e20_5 : G20.ans [.dv (.sl (.sl (.int .i64))) [[1], [1], [1], [1], [1]], .dv (.int .i64) 1] [] = some ([.dv (.int .i64) 5, .dv (.int .i64) 0], []) := by kernel_rfl
theorem e49_5 : G49.ans [.dv (.sl (.int .i64)) [-1], .dv (.int .i64) 10] [] = some ([.row 1500], [(1500, .row (.int .i64) [-1, -1, -1, -1, -1, -1, -1, -1, -1, -1])]) := by kernel_rfl
theorem e31_5 : G31.ans [.dv (.sl (.sl (.int .i64))) [[1], [1], [1], [1], [1]]] [] = some ([.row 1500, .row 1501], [(1500, .row (.int .i64) [1, 1, 1, 1, 1]), (1501, .row (.int .i64) [5])]) := by kernel_rfl
theorem e7_5 : G7.ans [.dv (.sl (.sl (.int .i64))) [[1], [1], [1], [1], [1]], .dv (.int .i64) 1, .dv (.sl (.pair (.int .i64) (.pair (.sl (.int .i64)) (.unit)))) plan5] [] = some ([.dv (.int .i64) 5, .dv (.int .i64) 0], []) := by kernel_rfl
theorem e8_5 : G8.ans [.dv (.sl (.sl (.int .i64))) [[1], [1], [1], [1], [1]], .dv (.int .i64) 1] [] = some ([.dv (.sl (.int .i64)) [], .dv (.sl (.int .i64)) [0], .dv (.int .i64) 0], []) := by kernel_rfl
theorem e20_6 : G20.ans [.dv (.sl (.sl (.int .i64))) [[1], [1], [1], [1], [1], [1]], .dv (.int .i64) 1] [] = some ([.dv (.int .i64) 6, .dv (.int .i64) 0], []) := by kernel_rfl
theorem e49_6 : G49.ans [.dv (.sl (.int .i64)) [-1], .dv (.int .i64) 12] [] = some ([.row 1500], [(1500, .row (.int .i64) [-1, -1, -1, -1, -1, -1, -1, -1, -1, -1, -1, -1])]) := by kernel_rfl
theorem e31_6 : G31.ans [.dv (.sl (.sl (.int .i64))) [[1], [1], [1], [1], [1], [1]]] [] = some ([.row 1500, .row 1501], [(1500, .row (.int .i64) [1, 1, 1, 1, 1, 1]), (1501, .row (.int .i64) [6])]) := by kernel_rfl
theorem e7_6 : G7.ans [.dv (.sl (.sl (.int .i64))) [[1], [1], [1], [1], [1], [1]], .dv (.int .i64) 1, .dv (.sl (.pair (.int .i64) (.pair (.sl (.int .i64)) (.unit)))) plan6] [] = some ([.dv (.int .i64) 6, .dv (.int .i64) 0], []) := by kernel_rfl
theorem e8_6 : G8.ans [.dv (.sl (.sl (.int .i64))) [[1], [1], [1], [1], [1], [1]], .dv (.int .i64) 1] [] = some ([.dv (.sl (.int .i64)) [], .dv (.sl (.int .i64)) [0], .dv (.int .i64) 0], []) := by kernel_rfl
theorem KB20 : FnOk Tryz.prog 20 (F20 B20) := fun args o x h => by
 simp only [F20] at h
 split at h
 ·simp only [B20] at h
  split at h
  ·rename_i e; obtain ⟨rfl, rfl⟩ := e; obtain rfl := Option.some.inj h; exact H20 _ [] _ e20_1
  split at h
  ·rename_i e; obtain ⟨rfl, rfl⟩ := e; obtain rfl := Option.some.inj h; exact H20 _ [] _ e20_2
  split at h
  ·rename_i e; obtain ⟨rfl, rfl⟩ := e; obtain rfl := Option.some.inj h; exact H20 _ [] _ e20_3
  split at h
  ·rename_i e; obtain ⟨rfl, rfl⟩ := e; obtain rfl := Option.some.inj h; exact H20 _ [] _ e20_4
  split at h
  ·rename_i e; obtain ⟨rfl, rfl⟩ := e; obtain rfl := Option.some.inj h; exact H20 _ [] _ e20_5
  split at h
  ·rename_i e; obtain ⟨rfl, rfl⟩ := e; obtain rfl := Option.some.inj h; exact H20 _ [] _ e20_6
  ·cases h
 ·cases h
theorem KB31 : FnOk Tryz.prog 31 (F31 B31) := fun args o x h => by
 simp only [F31] at h
 split at h
 ·simp only [B31] at h
  split at h
  ·rename_i e; subst e; obtain rfl := Option.some.inj h; exact H31 _ [] _ e31_1
  split at h
  ·rename_i e; subst e; obtain rfl := Option.some.inj h; exact H31 _ [] _ e31_2
  split at h
  ·rename_i e; subst e; obtain rfl := Option.some.inj h; exact H31 _ [] _ e31_3
  split at h
  ·rename_i e; subst e; obtain rfl := Option.some.inj h; exact H31 _ [] _ e31_4
  split at h
  ·rename_i e; subst e; obtain rfl := Option.some.inj h; exact H31 _ [] _ e31_5
  split at h
  ·rename_i e; subst e; obtain rfl := Option.some.inj h; exact H31 _ [] _ e31_6
  ·cases h
 ·cases h
theorem KB49 : FnOk Tryz.prog 49 (F49 B49) := fun args o x h => by
 simp only [F49] at h
 split at h
 ·simp only [B49] at h
  split at h
  ·rename_i e; obtain ⟨rfl, rfl⟩ := e; obtain rfl := Option.some.inj h; exact H49 _ [] _ e49_1
  split at h
  ·rename_i e; obtain ⟨rfl, rfl⟩ := e; obtain rfl := Option.some.inj h; exact H49 _ [] _ e49_2
  split at h
  ·rename_i e; obtain ⟨rfl, rfl⟩ := e; obtain rfl := Option.some.inj h; exact H49 _ [] _ e49_3
  split at h
  ·rename_i e; obtain ⟨rfl, rfl⟩ := e; obtain rfl := Option.some.inj h; exact H49 _ [] _ e49_4
  split at h
  ·rename_i e; obtain ⟨rfl, rfl⟩ := e; obtain rfl := Option.some.inj h; exact H49 _ [] _ e49_5
  split at h
  ·rename_i e; obtain ⟨rfl, rfl⟩ := e; obtain rfl := Option.some.inj h; exact H49 _ [] _ e49_6
  ·cases h
 ·cases h
theorem KB7 : FnOk Tryz.prog 7 (F7 B7) := fun args o x h => by
 simp only [F7] at h
 split at h
 ·simp only [B7] at h
  split at h
  ·rename_i e; obtain ⟨rfl, rfl, rfl⟩ := e; obtain rfl := Option.some.inj h; exact H7 _ [] _ e7_1
  split at h
  ·rename_i e; obtain ⟨rfl, rfl, rfl⟩ := e; obtain rfl := Option.some.inj h; exact H7 _ [] _ e7_2
  split at h
  ·rename_i e; obtain ⟨rfl, rfl, rfl⟩ := e; obtain rfl := Option.some.inj h; exact H7 _ [] _ e7_3
  split at h
  ·rename_i e; obtain ⟨rfl, rfl, rfl⟩ := e; obtain rfl := Option.some.inj h; exact H7 _ [] _ e7_4
  split at h
  ·rename_i e; obtain ⟨rfl, rfl, rfl⟩ := e; obtain rfl := Option.some.inj h; exact H7 _ [] _ e7_5
  split at h
  ·rename_i e; obtain ⟨rfl, rfl, rfl⟩ := e; obtain rfl := Option.some.inj h; exact H7 _ [] _ e7_6
  ·cases h
 ·cases h
theorem KB8 : FnOk Tryz.prog 8 (F8 B8) := fun args o x h => by
 simp only [F8] at h
 split at h
 ·simp only [B8] at h
  split at h
  ·rename_i e; obtain ⟨rfl, rfl⟩ := e; obtain rfl := Option.some.inj h; exact H8 _ [] _ e8_1
  split at h
  ·rename_i e; obtain ⟨rfl, rfl⟩ := e; obtain rfl := Option.some.inj h; exact H8 _ [] _ e8_2
  split at h
  ·rename_i e; obtain ⟨rfl, rfl⟩ := e; obtain rfl := Option.some.inj h; exact H8 _ [] _ e8_3
  split at h
  ·rename_i e; obtain ⟨rfl, rfl⟩ := e; obtain rfl := Option.some.inj h; exact H8 _ [] _ e8_4
  split at h
  ·rename_i e; obtain ⟨rfl, rfl⟩ := e; obtain rfl := Option.some.inj h; exact H8 _ [] _ e8_5
  split at h
  ·rename_i e; obtain ⟨rfl, rfl⟩ := e; obtain rfl := Option.some.inj h; exact H8 _ [] _ e8_6
  ·cases h
 ·cases h
theorem KB21 : FnOk Tryz.prog 21 (F21 B21) := ok21 B31 KB31 B21 fun w s n r h => ⟨60, h⟩
theorem KB50 : ∀ k, FnOk Tryz.prog 50 (F50c (B50 k))
 | 0 => fun args o x h => by
  simp only [F50c] at h
  split at h <;> cases h
 | k + 1 => ok50c (B50 k) (KB50 k) (B50 (k + 1)) fun i p q r x h => ⟨60, by
  rw [B50, fZ_eq, fL_eq fB_eq, fL_eq (fL_eq fZ_eq), fL_eq fZ_eq] at h; exact h⟩
theorem KB22 : FnOk Tryz.prog 22 (F22 B22) := ok22 B49 (B50 20) KB49 (KB50 20) B22 fun s x h => ⟨60, by
  rw [B22, fL_eq (fL_eq fZ_eq)] at h; exact h⟩
theorem KB6 : FnOk Tryz.prog 6 (F6 B6) := ok6 B20 B21 B22 KB20 KB21 KB22 B6 fun w s r h => ⟨60, h⟩
end Go.Proofs.YtjcnfpfldocpdaaGreatDoor
