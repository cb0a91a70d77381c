/-
  What Makes and Copies answer.
-/
import Derived.Test.YtbjfbbfglkmadaaDoorMP
namespace Go.Proofs.YtbjfbbfglkmadaaDoor
open Go.RowKit
set_option linter.unusedVariables false

def maE (c : Cd) (l w : List Int) : Int := cond (decide (cdE c = 0)) (cond (decide (coE c l = 0)) (cond (decide (wE c w = 0)) (cond (mk c l w) 0 13) (wE c w)) (coE c l)) (cdE c)
def B20 (c : Cd) (l w : List Int) : Option Int := if smB c = true ∧ l.length ≤ 1000 ∧ w.length ≤ 1000 then some (maE c l w) else none
theorem KB20 : FnOk Tryd.prog 20 (F20 B20) := ok20 B22 B55 B58 B59 KB22 KB55 KB58 KB59 B20 fun c l w r h => ⟨0, by
  simp only [B20] at h
  split at h
  · rename_i hs
    obtain ⟨h1, h2, h3⟩ := hs
    rw [← h, m20, B22, if_pos h1, Option.bind_some]
    simp only [beqDec, maE]
    cases e : decide (cdE c = 0) with
    | false => rfl
    | true =>
      have hc := of_decide_eq_true e
      obtain ⟨_, hn, _⟩ := cdE_ok hc
      have e55 : B55 c l = some (coE c l) := if_pos ⟨h2, by omega⟩
      simp only [cond_true, e55, Option.bind_some]
      cases e2 : decide (coE c l = 0) with
      | false => rfl
      | true =>
        have e58 : B58 c w = some (wE c w) := if_pos ⟨hn.1, h3⟩
        simp only [cond_true, e58, Option.bind_some]
        cases e3 : decide (wE c w = 0) with
        | false => rfl
        | true =>
          have e59 : B59 c l w = some (mk c l w) := if_pos (okC_of hc (of_decide_eq_true e2) (of_decide_eq_true e3) h2)
          simp only [cond_true, e59, Option.bind_some]
          cases mk c l w with
          | false => rfl
          | true => simp only [Bool.not_true, cond_false, cond_true, of_decide_eq_true e3]
  · cases h⟩
def pcN (n : Nat) : Nat := ((List.range 4).filter fun j => n.testBit j).length
theorem count_eq : ∀ n, n < 16 → ([0, 1, 1, 2, 1, 2, 2, 3, 1, 2, 2, 3, 2, 3, 3, 4] : List Int).getD n 0 = (pcN n : Int) := by decide
theorem pcN_le (n : Nat) : pcN n ≤ 4 := by
  unfold pcN
  exact Nat.le_trans (List.length_filter_le _ _) (by simp)
def cpK (c : Cd) (l : List Int) (k : Nat) : Int := imax 1 (pcN (mkN c l k))
theorem cpK_le (c : Cd) (l : List Int) (k : Nat) : 1 ≤ cpK c l k ∧ cpK c l k ≤ 4 := by
  have := pcN_le (mkN c l k)
  unfold cpK imax
  split <;> omega
def prF (f : Nat → Int) (t n : Nat) (s : Int) : Int := (List.range' t n).foldl (fun a k => a * f k) s
theorem prF_zero (f : Nat → Int) (t : Nat) (s : Int) : prF f t 0 s = s := rfl
theorem prF_succ (f : Nat → Int) (t n : Nat) (s : Int) : prF f t (n + 1) s = prF f (t + 1) n (s * f t) := by
  unfold prF; rw [List.range'_succ, List.foldl_cons]
def cpN (c : Cd) (l : List Int) : Int := prF (cpK c l) 0 8 1
def B18 (c : Cd) (l : List Int) : Option (Int × Int) := if smB c = true ∧ l.length ≤ 1000 then some (cond (decide (cdE c = 0)) (cond (decide (coE c l = 0)) (cpN c l, 0) (0, coE c l)) (0, cdE c)) else none
theorem mkN_small {c : Cd} {l : List Int} (hc : cdE c = 0) (hl : ∀ i ∈ l, 0 ≤ i ∧ i < (c.2.1.length : Int)) (k : Nat) : mkN c l k < 16 := by
  obtain ⟨hm, _, _, hlen, hb⟩ := cdE_ok hc
  have w16 : ∀ w ∈ c.2.1, wBit w k < 16 := fun w hw => by
    unfold wBit
    split
    · rename_i hk
      have := hb w hw (w.getD k 0) (getD_mem hk)
      exact (Nat.pow_lt_pow_right (by decide) (show (w.getD k 0).toNat < 4 by omega) : 2 ^ (w.getD k 0).toNat < 2 ^ 4)
    · decide
  have : ∀ (l : List Int) (a : Nat), a < 16 → (∀ i ∈ l, 0 ≤ i ∧ i < (c.2.1.length : Int)) → l.foldl (fun a i => a ||| ofN [c.2.1.getD i.toNat []] k) a < 16 := by
    intro l
    induction l with
    | nil => intro a h _; exact h
    | cons x r ih =>
      intro a h hl
      rw [List.foldl_cons]
      refine ih _ ?_ fun i hi => hl i (by simp [hi])
      have hx := hl x (by simp)
      rw [ofN_one]
      exact Nat.or_lt_two_pow (n := 4) h (w16 _ (getD_mem (by omega)))
  exact this l 0 (by decide) hl
theorem pow4 (t : Nat) (h : t ≤ 8) : (4 : Int) ^ t ≤ 65536 := by
  have : ∀ t, t ≤ 8 → (4 : Int) ^ t ≤ 65536 := by decide
  exact this t h
theorem KB18 : FnOk Tryd.prog 18 (F18 B18) := ok18 B22 B55 B56 KB22 KB55 KB56 B18 fun c l r h => ⟨1001, by
  simp only [B18] at h
  split at h
  · rename_i hs
    obtain ⟨h1, h2⟩ := hs
    rw [← h, m18, B22, if_pos h1, Option.bind_some]
    simp only [beqDec, bneDec]
    cases e : decide (cdE c = 0) with
    | false => rfl
    | true =>
      have hc := of_decide_eq_true e
      obtain ⟨_, hn, _⟩ := cdE_ok hc
      have e55 : B55 c l = some (coE c l) := if_pos ⟨h2, by omega⟩
      simp only [cond_true, e55, Option.bind_some]
      cases e2 : decide (coE c l = 0) with
      | false => rfl
      | true =>
        have hin : ∀ i ∈ l, 0 ≤ i ∧ i < (c.2.1.length : Int) := fun i hi => by have := (coE_ok (of_decide_eq_true e2)).2.1 i hi; omega
        have e56 : B56 c l = some (arr (mkN c l)) := if_pos ⟨h2, by omega, List.all_eq_true.2 (okW_code hc), by simp only [okCo, List.all_eq_true, decide_eq_true_eq]; exact hin⟩
        simp only [Bool.not_true, cond_false, cond_true, e56, Option.bind_some]
        refine (countUp 0 8 (by decide) (fun n s t => l18a B22 B55 B56 1001 n s (arr (mkN c l)) t) (fun t s => 1 ≤ s ∧ s ≤ 4 ^ t.toNat) (fun t s => some (prF (cpK c l) t.toNat (8 - t.toNat) s, 0))
          (fun n s t h0 ht hI ih => ?_) (fun n s hI => by simp only [l18a, show decide ((8 : Int) < 8) = false from rfl, cond_false]; rfl) 1001 1 (by decide) ⟨Int.le_refl _, Int.le_refl _⟩).trans rfl
        obtain ⟨k, rfl⟩ : ∃ j : Nat, t = j := ⟨t.toNat, by omega⟩
        have hk8 : k < 8 := by omega
        have h16 := mkN_small hc hin k
        obtain ⟨c1, c2⟩ := cpK_le c l k
        have hp := pow4 k (by omega)
        rw [Int.toNat_natCast] at hI
        have hmul : s * cpK c l k ≤ 4 ^ k * 4 := Int.mul_le_mul hI.2 c2 (by omega) (by omega)
        have hmul1 : 1 * 1 ≤ s * cpK c l k := Int.mul_le_mul hI.1 c1 (by omega) (by omega)
        simp only [l18a, decide_eq_true ht, cond_true, chk_dec (show 0 ≤ (k : Int) ∧ (k : Int) < 8 from ⟨h0, ht⟩), Int.toNat_natCast, arr_get _ hk8, count_eq _ h16]
        rw [chk_dec (by omega), show imax 1 (pcN (mkN c l k) : Int) = cpK c l k from rfl, w64_small (by omega), w64_small (x := (k : Int) + 1) (by omega), ih _ ⟨by omega, by
          rw [show ((k : Int) + 1).toNat = k + 1 by omega, Int.pow_succ]; exact hmul⟩]
        rw [show ((k : Int) + 1).toNat = k + 1 by omega, show 8 - k = (8 - (k + 1)) + 1 by omega, prF_succ]
  · cases h⟩
end Go.Proofs.YtbjfbbfglkmadaaDoor
