/-
  Lean coalitions, the smallest one, the nearest customers: what the program computes.
-/
import Derived.Test.YtbjfbbfglkmadaaDoorM4
namespace Go.Proofs.YtbjfbbfglkmadaaDoor
open Go.RowKit
set_option linter.unusedVariables false

def B32 (a b : List Int) : Option Bool := if a.length ≤ 10000 then some (decide (a = b)) else none
theorem eqL_cons {α : Type} [DecidableEq α] (x y : α) (a b : List α) : decide (x :: a = y :: b) = (decide (x = y) && decide (a = b)) := by
  by_cases h : x = y <;> by_cases h2 : a = b <;> simp [h, h2]
theorem drop_cons' {α : Type} {b : List α} {t : Nat} {d : α} (h : t < b.length) : b.drop t = b.getD t d :: b.drop (t + 1) := by
  rw [List.drop_eq_getElem_cons h, List.getD_eq_getElem?_getD, List.getElem?_eq_getElem h]; rfl
theorem KB32 : FnOk Tryd.prog 32 (F32 B32) := ok32 B32 fun a b r h => ⟨10001, by
  simp only [B32] at h
  split at h
  · rename_i hl
    rw [← h, m32, lenNe]
    cases e : decide (a.length = b.length) with
    | false =>
      have := of_decide_eq_false e
      rw [decide_eq_false (show ¬ a = b from fun q => this (by rw [q]))]; rfl
    | true =>
      have hab := of_decide_eq_true e
      rw [Bool.not_true, cond_false]
      refine (rangeIx a 0 (fun n (_ : Unit) t => l32a 10001 a b n t) (fun _ _ _ => True) (fun t xs _ => some (decide (xs = b.drop t))) (fun n _ t x rest ht hx _ ih => ?_)
        (fun n _ _ => by simp only [l32a, ixE, cond_false]; rw [hab, List.drop_length]; rfl) 10001 () (by omega) trivial).trans (by rw [List.drop_zero])
      have htb : t < b.length := by omega
      simp only [l32a, ixA ht, ixB ht, ixB htb, cond_true, chk_true, Int.toNat_natCast, ixW ht (by omega), hx, ih () trivial, bneDec]
      rw [drop_cons' (d := 0) htb, eqL_cons]
      cases decide (x = b.getD t 0) <;> rfl
  · cases h⟩
def B67 (c : Cd) (s : Int) : Option (Int × Int × List (List Int) × Unit) := some (s, c)
theorem KB67 : FnOk Tryd.prog 67 (F67 B67) := ok67 B67 fun c s r h => ⟨0, by rw [← h]; rfl⟩
def B68 (s : Option (List Int)) : Option (List Int) := match s with
  | none => some []
  | some l => if l.length ≤ 1000 then some l else none
theorem KB68 : FnOk Tryd.prog 68 (F68 B68) := ok68 B68 fun s r h => ⟨0, by
  cases s with
  | none => rw [← h]; rfl
  | some l =>
    simp only [B68] at h
    split at h
    · rename_i hl
      rw [← h, m68]
      simp only [Option.isNone_some, cond_false, Option.getD_some, List.nil_append]
      rw [chk_of (small_of (by omega) (by decide))]
    · cases h⟩
def cwE (c : Cd) (w : List Int) : Int := cond (decide (cdE c = 0)) (wE c w) (cdE c)
theorem cwE_ok {c : Cd} {w : List Int} (h : cwE c w = 0) : cdE c = 0 ∧ wE c w = 0 := by
  unfold cwE at h
  cases e : decide (cdE c = 0) with
  | false => rw [e, cond_false] at h; exact absurd h (of_decide_eq_false e)
  | true => rw [e, cond_true] at h; exact ⟨of_decide_eq_true e, h⟩
theorem okC_co {c : Cd} {w x : List Int} {k : Nat} (h : cwE c w = 0) (hx : isCo c.2.1.length k x) : okC c x w = true := by
  obtain ⟨h1, h2⟩ := cwE_ok h
  have hn := (cdE_ok h1).2.1
  have := isCo_len hx
  simp only [okC, Bool.and_eq_true, decide_eq_true_eq]
  refine ⟨⟨⟨h1, ?_⟩, by omega⟩, h2⟩
  simp only [okCo, List.all_eq_true, decide_eq_true_eq]
  exact fun i hi => hx.2.2.2 i hi
end Go.Proofs.YtbjfbbfglkmadaaDoor
