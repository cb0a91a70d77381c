/-
 Lists, and what turned answers.
-/
import Derived.Test.YtoflclmkfajomaaDoorMP
import Derived.Test.YtoflclmkfajomaaDoorLKM
namespace Go.Proofs.YtoflclmkfajomaaDoor.Sr
open Go.RowKit
set_option linter.unusedVariables false

theorem getD_at {α : Type} {l : List α} {i : Nat} {d : α} (h : i < l.length) : l.getD i d = l[i] := by
 rw [List.getD_eq_getElem?_getD, List.getElem?_eq_getElem h]; rfl
theorem getD_mem {α : Type} {l : List α} {i : Nat} {d : α} (h : i < l.length) : l.getD i d ∈ l := by
 rw [getD_at h]; exact List.getElem_mem _
theorem take_succ' {α : Type} {l : List α} {t : Nat} {d x : α} (h : t < l.length) (hx : l.getD t d = x) : l.take (t + 1) = l.take t ++ [x] := by
 rw [List.take_add_one, List.getElem?_eq_getElem h, ← hx, getD_at h]; rfl
theorem rangeE (s n : Nat) : List.range' s (n + 1) = List.range' s n ++ [s + n] := by rw [List.range'_concat]; simp
def allI (k : Nat) : List Int := (List.range' 0 k).map fun i => ((i : Nat) : Int)
theorem tmod_emod {a b : Int} (ha : 0 ≤ a) : Int.tmod a b = a % b := Int.tmod_eq_emod_of_nonneg ha
theorem rm_perm {l out : List Int} {i : Nat} (hi : i < l.length) : (out ++ [l.getD i 0] ++ (l.take i ++ l.drop (i + 1))).Perm (out ++ l) := by
 rw [List.append_assoc]
 refine List.Perm.append_left out ?_
 have e : l = l.take i ++ l.getD i 0 :: l.drop (i + 1) := by
  rw [getD_at hi, ← List.drop_eq_getElem_cons hi, List.take_append_drop]
 conv => rhs; rw [e]
 show (l.getD i 0 :: (l.take i ++ l.drop (i + 1))).Perm _
 exact List.perm_middle.symm
theorem l6b_ok {q base : List Int} (hq : True ∧ ∀ x ∈ q, 0 ≤ x ∧ x ≤ 255) (hbase : base.length ≤ 100) : ∀ (m fuel k : Nat) (left out : List Int), left.length = m → m < fuel → k + m ≤ 200 → (out ++ left).Perm base →
  ∃ p, l11b 60 q fuel (k : Int) left out = some p ∧ p.Perm base
 | 0, fuel + 1, k, left, out, hl, _, _, hp => by
  obtain rfl := List.eq_nil_of_length_eq_zero hl
  rw [List.append_nil] at hp
  exact ⟨out, rfl, hp⟩
 | m + 1, fuel + 1, k, left, out, hl, hf, hkm, hp => by
  have hlen : out.length + left.length ≤ 100 := by have := hp.length_eq; rw [List.length_append] at this; omega
  have key : ∀ i, i < left.length → ∃ p, l11b 60 q fuel ((k : Int) + 1) (left.take i ++ left.drop (i + 1)) (out ++ [left.getD i 0]) = some p ∧ p.Perm base := fun i hi => by
   have := l6b_ok hq hbase m fuel (k + 1) (left.take i ++ left.drop (i + 1)) (out ++ [left.getD i 0]) (by rw [List.length_append, List.length_take, List.length_drop]; omega) (by omega) (by omega) ((rm_perm hi).trans hp)
   rwa [show ((k + 1 : Nat) : Int) = (k : Int) + 1 by omega] at this
  rw [l11b, decide_eq_true (show (left.length : Int) > 0 by omega), cond_true]
  by_cases hk : k < q.length
  ·have hx := hq.2 _ (getD_mem (d := 0) hk)
   have hpos : (0 : Int) < (left.length : Int) := by omega
   obtain ⟨i, hi, eI⟩ : ∃ i : Nat, i < left.length ∧ Int.tmod (w64 (q.getD k 0)) (left.length : Int) = (i : Int) := by
    refine ⟨(q.getD k 0 % (left.length : Int)).toNat, ?_, ?_⟩
    ·have := Int.emod_lt_of_pos (q.getD k 0) hpos; omega
    ·rw [w64_small (by omega), tmod_emod hx.1]
     have := Int.emod_nonneg (q.getD k 0) (show (left.length : Int) ≠ 0 by omega); omega
   have hw : w64 ((i : Int) + 1) = (i : Int) + 1 := w64_small (by omega)
   simp only [ixA hk, ixB hk, cond_true, chk_true, Int.toNat_natCast, eI, hw, show ((i : Int) + 1).toNat = i + 1 by omega, List.drop_zero, List.nil_append, List.take_length]
   rw [chk_dec (by omega), chk_dec (by omega), chk_of (small_of (by omega) (by decide)), chk_dec (by omega), chk_of (small_of (by rw [List.length_take]; omega) (by decide)), chk_dec (by omega), chk_of (small_of (by rw [List.length_take, List.length_drop]; omega) (by decide)), w64_small (x := (k : Int) + 1) (by omega)]
   exact key i hi
  ·have h0 := key 0 (by omega)
   rw [decide_eq_false (show ¬ (k : Int) < (q.length : Int) by omega), cond_false]
   simp only [List.drop_zero, List.nil_append, List.take_length, List.take_zero, List.length_nil] at h0 ⊢
   rw [chk_dec (by omega), chk_of (small_of (by omega) (by decide)), chk_dec (by omega), chk_of (small_of (by omega) (by decide)), chk_dec (by omega), chk_of (small_of (by rw [List.length_drop]; omega) (by decide)), w64_small (x := (k : Int) + 1) (by omega)]
   exact h0
def B11 (n : Int) (q : List Int) : Option (List Int) := m11 60 n q
theorem KB11 : FnOk Tryd.prog 11 (F11 B11) := ok11 B11 fun n q r h => ⟨60, h⟩
theorem B6_ok {n : Nat} {q : List Int} (hn : n ≤ 6) (hq : True ∧ ∀ x ∈ q, 0 ≤ x ∧ x ≤ 255) : ∃ p, B11 n q = some p ∧ p.Perm (allI n) := by
 rw [B11, m11]
 refine countP' 0 (n : Int) (by omega) (fun n' z t => l11a 60 (n : Int) q n' t z) (fun t z => z = allI t.toNat) (fun r => ∃ p, r = some p ∧ p.Perm (allI n)) (fun n' z t a b hI ih => ?_) (fun n' z hI => ?_) 60 [] (by omega) rfl
 ·subst hI
  obtain ⟨k, rfl⟩ : ∃ q : Nat, t = q := ⟨t.toNat, by omega⟩
  have hk : k < n := by omega
  have e := ih _ rfl
  rw [show ((k : Int) + 1).toNat = k + 1 by omega, allI, rangeE, List.map_append, Nat.zero_add, List.map_cons, List.map_nil] at e
  simp only [l11a, ixA hk, cond_true, Int.toNat_natCast]
  rw [chk_of (small_of (by rw [allI, List.length_map, List.length_range']; omega) (by decide)), w64_small (x := (k : Int) + 1) (by omega)]
  exact e
 ·subst hI
  simp only [l11a, ixE, cond_false, Int.toNat_natCast]
  have hl : (allI n).length = n := by simp [allI]
  exact l6b_ok hq (by omega) n 60 0 (allI n) [] hl (by omega) (by omega) (.refl _)
end Go.Proofs.YtoflclmkfajomaaDoor.Sr
