/-
  Orders are checked; lists are compared.
-/
import Derived.Test.YtbblnbolabpfmaaP0
import Derived.Test.YtbblnbolabpfmaaWC0
import Derived.Test.YtbblnbolabpfmaaRFM
namespace Go.Proofs.Ytbblnbolabpfmaa
open Go.RowKit
set_option linter.unusedVariables false

abbrev Od := Int × Int × Unit
abbrev d3 : Od := (0, (0, ()))

/-! ### between -/
def B49 (lo n hi : Int) : Option Bool := some (decide (lo ≤ n ∧ n ≤ hi))
theorem KB49 : FnOk Try.prog 49 (F49 B49) := ok49 B49 fun lo n hi r h => ⟨0, by
  rw [← h]; simp only [m49, B49]
  by_cases a : lo ≤ n <;> simp [a]⟩
def B51 (n lo hi : Int) : Option Bool := some (decide (lo ≤ n ∧ n ≤ hi))
theorem KB71 : FnOk Try.prog 71 (F71 B51) := ok71 B51 fun n lo hi r h => ⟨0, by
  rw [← h]; simp only [m71, B51]
  by_cases a : lo ≤ n <;> simp [a]⟩
theorem KB51 : FnOk Try.prog 51 (F51 B51) := ok51 B51 KB71 B51 fun n lo hi r h => ⟨0, by
  rw [← h]; simp only [m51, B51, Option.bind_some]⟩

/-! ### the first one -/
def fx {α : Type} (p : α → Bool) : Int → List α → Int
  | _, [] => -1
  | t, x :: xs => cond (p x) t (fx p (t + 1) xs)
theorem fx_ge {α : Type} (p : α → Bool) : ∀ (xs : List α) (t : Int), 0 ≤ t → decide (fx p t xs ≥ 0) = xs.any p
  | [], t, h => rfl
  | x :: xs, t, h => by
    rw [fx, List.any_cons]
    cases e : p x with
    | true => simp [h]
    | false => rw [cond_false, fx_ge p xs (t + 1) (by omega)]; simp

/-- A day, or a fine, that is none. -/
def badO (o : Od) : Bool := !(decide (1 ≤ o.1 ∧ o.1 ≤ 30)) || !(decide (0 ≤ o.2.1 ∧ o.2.1 ≤ 10000))
def B59 (o : Od) : Option Bool := some (badO o)
theorem KB59 : FnOk Try.prog 59 (F59 B59) := ok59 B49 KB49 B59 fun o r h => ⟨0, by
  rw [← h]; simp only [m59, B59, B49, Option.bind_some, badO]
  cases decide (1 ≤ o.1 ∧ o.1 ≤ 30) <;> rfl⟩
def B65c59 (l : List Od) : Option Int := if l.length ≤ 1000 then some (fx badO 0 l) else none
theorem KB65c59 : FnOk Try.prog 65 (F65c59 B65c59) := ok65c59 B59 KB59 B65c59 fun s r h => ⟨1001, by
  simp only [B65c59] at h
  split at h
  · rename_i hl
    rw [← h, m65c59]
    exact rangeIx s d3 (fun n (_ : Unit) t => l65c59a B59 1001 s n t) (fun _ _ _ => True) (fun t xs _ => some (fx badO t xs))
      (fun n _ t x rest ht hx _ ih => by
        simp only [l65c59a, ixA ht, ixB ht, cond_true, chk_true, Int.toNat_natCast, ixW ht (by omega), hx, ih () trivial, fx, B59, Option.bind_some]
        cases badO x <;> rfl)
      (fun n _ _ => by simp only [l65c59a, ixE, cond_false]; rfl) 1001 () (by omega) trivial
  · cases h⟩
def B58c59 (l : List Od) : Option Bool := if l.length ≤ 1000 then some (l.any badO) else none
theorem KB58c59 : FnOk Try.prog 58 (F58c59 B58c59) := ok58c59 B65c59 KB65c59 B58c59 fun s r h => ⟨0, by
  simp only [B58c59] at h
  split at h
  · rename_i hl
    rw [← h, m58c59, B65c59, if_pos hl, Option.bind_some, fx_ge _ s 0 (by omega)]
  · cases h⟩

/-- The error of orders. -/
def ckO (l : List Od) : Int := cond (decide (l.length = 0)) 1 (cond (decide (12 < l.length)) 2 (cond (l.any badO) 4 0))
def B23 (l : List Od) : Option Int := if l.length ≤ 1000 then some (ckO l) else none
theorem KB23 : FnOk Try.prog 23 (F23 B23) := ok23 B58c59 KB58c59 B23 fun l r h => ⟨0, by
  simp only [B23] at h
  split at h
  · rename_i hl
    rw [← h, m23, B58c59, if_pos hl, Option.bind_some, ckO]
    have e1 : (((l.length : Int)) == 0) = decide (l.length = 0) := by
      by_cases q : l.length = 0
      · simp [q]
      · have : ((l.length : Int) == 0) = false := by simp; intro e; exact q (by simp [e])
        rw [this]; simp [q]
    have e2 : decide ((l.length : Int) > 12) = decide (12 < l.length) := by
      by_cases q : 12 < l.length
      · rw [decide_eq_true q]; exact decide_eq_true (by omega)
      · rw [decide_eq_false q]; exact decide_eq_false (by omega)
    rw [e1, e2]
    cases decide (l.length = 0) <;> cases decide (12 < l.length) <;> cases l.any badO <;> rfl
  · cases h⟩

def ckR : List Od → Int
  | [] => 0
  | o :: r => cond (badO o) 4 (ckR r)
theorem ckR_any : ∀ l, ckR l = cond (l.any badO) 4 0
  | [] => rfl
  | o :: r => by rw [ckR, List.any_cons]; cases badO o with
    | true => rfl
    | false => rw [cond_false, Bool.false_or]; exact ckR_any r
theorem KB24 : FnOk Try.prog 24 (F24 B23) := ok24 B51 KB51 B23 fun l r h => ⟨1001, by
  simp only [B23] at h
  split at h
  · rename_i hl
    have main : l24a B51 1001 l 1001 0 = some (ckR l) := rangeIx l d3 (fun n (_ : Unit) t => l24a B51 1001 l n t) (fun _ _ _ => True) (fun t xs _ => some (ckR xs))
      (fun n _ t x rest ht hx _ ih => by
        simp only [l24a, ixA ht, ixB ht, cond_true, chk_true, Int.toNat_natCast, ixW ht (by omega), hx, ih () trivial, ckR, B51, Option.bind_some, badO]
        cases decide (1 ≤ x.1 ∧ x.1 ≤ 30) <;> cases decide (0 ≤ x.2.1 ∧ x.2.1 ≤ 10000) <;> rfl)
      (fun n _ _ => by simp only [l24a, ixE, cond_false]; rfl) 1001 () (by omega) trivial
    rw [← h, m24, main, ckR_any, ckO]
    have e1 : (((l.length : Int)) == 0) = decide (l.length = 0) := by
      by_cases q : l.length = 0
      · simp [q]
      · have : ((l.length : Int) == 0) = false := by simp; intro e; exact q (by simp [e])
        rw [this]; simp [q]
    have e2 : decide ((l.length : Int) > 12) = decide (12 < l.length) := by
      by_cases q : 12 < l.length
      · rw [decide_eq_true q]; exact decide_eq_true (by omega)
      · rw [decide_eq_false q]; exact decide_eq_false (by omega)
    rw [e1, e2]
    cases decide (l.length = 0) <;> cases decide (12 < l.length) <;> cases l.any badO <;> rfl
  · cases h⟩

/-- Orders that pass. -/
structure OkO (l : List Od) : Prop where
  pos : 0 < l.length
  len : l.length ≤ 12
  all : ∀ o ∈ l, (1 ≤ o.1 ∧ o.1 ≤ 30) ∧ 0 ≤ o.2.1 ∧ o.2.1 ≤ 10000

theorem ckO_ok {l : List Od} (h : ckO l = 0) : OkO l := by
  unfold ckO at h
  cases e1 : decide (l.length = 0) with
  | true => rw [e1] at h; cases h
  | false =>
    cases e2 : decide (12 < l.length) with
    | true => rw [e1, e2] at h; cases h
    | false =>
      cases e3 : l.any badO with
      | true => rw [e1, e2, e3] at h; cases h
      | false =>
        have e1 := of_decide_eq_false e1
        have e2 := of_decide_eq_false e2
        refine ⟨by omega, by omega, fun o ho => ?_⟩
        have := List.any_eq_false.1 e3 o ho
        simp only [badO, Bool.or_eq_true, Bool.not_eq_true', decide_eq_false_iff_not, not_or, Classical.not_not] at this
        exact ⟨this.1, this.2.1, this.2.2⟩

/-! ### the same orders -/
def B15 (l : List Od) : Option (List Od) := if l.length ≤ 1000 then some l else none
theorem KB15 : FnOk Try.prog 15 (F15 B15) := ok15 B15 fun l r h => ⟨1001, by
  simp only [B15] at h
  split at h
  · rename_i hl
    rw [← h, m15]
    have := rangeIx l d3 (fun n (out : List Od) t => l15a 1001 l n t out) (fun t xs out => out = l.take t) (fun t xs out => some (out ++ xs))
      (fun n out t x rest ht hx ho ih => by
        subst ho
        have hs : small ((l.take t).length + 1) 16 = true := small_of (by rw [List.length_take]; omega) (by decide)
        have e : l.take t ++ [x] = l.take (t + 1) := by
          rw [List.take_add_one, ← hx]; simp [List.getD, ht]
        simp only [l15a, ixA ht, ixB ht, cond_true, chk_true, Int.toNat_natCast, ixW ht (by omega), hx, hs, e]
        rw [ih _ rfl, ← e]; simp)
      (fun n out ho => by simp only [l15a, ixE, cond_false]; simp) 1001 [] (by omega) (by simp)
    simpa using this
  · cases h⟩

/-! ### equal lists -/
def B22 (a b : List Int) : Option Bool := if a.length ≤ 1000 then some (decide (a = b)) else none
def eqL : List Int → List Int → Bool
  | [], _ => true
  | x :: r, l => cond (x != l.getD 0 0) false (eqL r (l.drop 1))
theorem eqL_ok : ∀ a b : List Int, a.length = b.length → eqL a b = decide (a = b)
  | [], b, h => by
    have : b = [] := List.eq_nil_of_length_eq_zero (by simpa using h.symm)
    subst this; rfl
  | x :: r, [], h => by simp at h
  | x :: r, y :: s, h => by
    simp only [eqL, List.getD_cons_zero, List.drop_succ_cons, List.drop_zero]
    by_cases e : x = y
    · subst e
      simp only [bne_self_eq_false, cond_false]
      rw [eqL_ok r s (by simpa using h)]; simp
    · have : (x != y) = true := by simpa using e
      rw [this, cond_true]; simp [e]
theorem KB22 : FnOk Try.prog 22 (F22 B22) := ok22 B22 fun a b r h => ⟨1001, by
  simp only [B22] at h
  split at h
  · rename_i hl
    rw [← h, m22]
    by_cases e : a.length = b.length
    · have : ((a.length : Int) != (b.length : Int)) = false := by simp [e]
      rw [this, cond_false]
      rw [← eqL_ok a b e]
      exact rangeIx a 0 (fun n (_ : Unit) t => l22a 1001 a b n t) (fun _ _ _ => True) (fun t xs _ => some (eqL xs (b.drop t)))
        (fun n _ t x rest ht hx _ ih => by
          have hd : (b.drop t).getD 0 0 = b.getD t 0 := by simp [List.getD]
          simp only [l22a, ixA ht, ixB ht, ixB (e ▸ ht : t < b.length), cond_true, chk_true, Int.toNat_natCast, ixW ht (by omega), hx, ih () trivial, eqL, hd, List.drop_drop]
          cases x != b.getD t 0 <;> rfl)
        (fun n _ _ => by simp only [l22a, ixE, cond_false]; rfl) 1001 () (by omega) trivial
    · have : ((a.length : Int) != (b.length : Int)) = true := by simp; omega
      rw [this, cond_true]
      have : a ≠ b := fun q => e (q ▸ rfl)
      simp [this]
  · cases h⟩

end Go.Proofs.Ytbblnbolabpfmaa
