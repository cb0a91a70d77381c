/-
 Plans: fines, whether one is a best one, and the one that is returned.
-/
import Derived.Test.YtjcnfpfldocpdaaGreatDoorPO
namespace Go.Proofs.YtjcnfpfldocpdaaGreatDoor
open Go.RowKit
set_option linter.unusedVariables false

def fnR (l : List Od) : List Int → List Int → Int → Int × Int
 | _, [], n => (n, 0)
 | pre, x :: r, n => cond (!decide (1 ≤ x ∧ x ≤ 42)) (0, 4) (cond (pre.contains x) (0, 6) (fnR l (pre ++ [x]) r (cond (decide (x > (l.getD pre.length d3).1)) (n + fnl l pre.length) n)))
def finP (l : List Od) (plan : List Int) : Int × Int := if ckO l = 0 then (if plan.length = l.length then fnR l [] plan 0 else (0, 3)) else (0, ckO l)
def B9 (l : List Od) (plan : List Int) : Option (Int × Int) := if l.length ≤ 1000 then some (finP l plan) else none
theorem len_bne {a b : Nat} (h : ¬ a = b) : ((a : Int) != (b : Int)) = true := by simp; omega
theorem len_beq {a b : Nat} (h : a = b) : ((a : Int) != (b : Int)) = false := by simp [h]
theorem take_of {α : Type} {l pre rest : List α} {x : α} (h : l = pre ++ x :: rest) : l.take pre.length = pre := by rw [h]; simp
theorem take_of1 {α : Type} {l pre rest : List α} {x : α} (h : l = pre ++ x :: rest) : l.take (pre.length + 1) = pre ++ [x] := by
 rw [h, show pre ++ x :: rest = (pre ++ [x]) ++ rest by simp, show pre.length + 1 = (pre ++ [x]).length by simp]
 exact List.take_left
theorem KB9 : FnOk Tryz.prog 9 (F9 B9) := ok9 B33 B34 B35 KB33 KB34 KB35 B9 fun l plan r h => ⟨1001, by
 simp only [B9] at h
 split at h
 ·rename_i hl
  rw [← h, m9, B33, if_pos hl, Option.bind_some, finP]
  by_cases hc : ckO l = 0
  ·rw [if_pos hc, bne_F hc, cond_false]
   have h6 := okO_of hc
   have hlen := h6.len
   by_cases he : plan.length = l.length
   ·rw [if_pos he, len_beq he, cond_false]
    exact rangeIx plan 0 (fun n (s : Int) t => l9a B33 B34 B35 1001 l plan n s t) (fun t xs s => ∃ pre, plan = pre ++ xs ∧ pre.length = t ∧ 0 ≤ s ∧ s ≤ 10000 * (t : Int)) (fun t xs s => some (fnR l (plan.take t) xs s))
     (fun n s t x rest ht hx hI ih => by
      obtain ⟨pre, e1, e2, h0, h1⟩ := hI
      have htk : plan.take t = pre := by rw [← e2]; exact take_of e1
      have htk2 : plan.take (t + 1) = pre ++ [x] := by rw [← e2]; exact take_of1 e1
      have hb : B35 pre x = some (pre.contains x) := if_pos (by omega)
      have hft := h6.fn (show t < l.length by omega)
      have hle : decide (0 ≤ (t : Int) ∧ (t : Int) ≤ (plan.length : Int)) = true := decide_eq_true (by omega)
      have hf : (l.getD t ((0 : Int), ((0 : Int), ()))).2.1 = fnl l t := rfl
      have hq : ∀ s', s' = (cond (decide (x > (l.getD t d3).1)) (s + fnl l t) s) → l9a B33 B34 B35 1001 l plan n s' ((t + 1 : Nat) : Int) = some (fnR l (pre ++ [x]) rest (cond (decide (x > (l.getD t d3).1)) (s + fnl l t) s)) := fun s' hs' => by
       have hsb : 0 ≤ s' ∧ s' ≤ 10000 * ((t + 1 : Nat) : Int) := by
        subst hs'
        cases decide (x > (l.getD t d3).1) <;> simp <;> omega
       rw [ih s' ⟨pre ++ [x], by rw [e1]; simp, by simp [e2], hsb.1, hsb.2⟩, htk2, hs']
      simp only [l9a, ixA ht, ixB ht, cond_true, chk_true, Int.toNat_natCast, ixW ht (by omega), hx, B34, Option.bind_some, hle, htk, hb, ixB (show t < l.length by omega), hf, fnR, e2]
      by_cases q1 : 1 ≤ x ∧ x ≤ 42
      ·simp only [decide_eq_true q1, Bool.not_true, cond_false]
       cases pre.contains x with
       | true => rfl
       | false =>
        simp only [cond_false]
        by_cases q2 : x > (l.getD t d3).1
        ·simp only [decide_eq_true q2, cond_true] at hq ⊢
         rw [w64_small (by omega)]
         exact hq _ rfl
        ·simp only [decide_eq_false q2, cond_false] at hq ⊢
         exact hq _ rfl
      ·simp only [decide_eq_false q1, Bool.not_false, cond_true])
     (fun n s hI => by simp only [l9a, ixE, cond_false]; rfl) 1001 0 (by omega) ⟨[], rfl, rfl, by omega, by omega⟩
   ·rw [if_neg he, len_bne he, cond_true]
  ·rw [if_neg hc, bne_T hc, cond_true]
 ·cases h⟩
def verP (l : List Od) (plan : List Int) : Int := cond ((finP l plan).2 == 0) (cond (decide ((finP l plan).1 > leastO l)) 14 (finP l plan).2) (finP l plan).2
def B11 (l : List Od) (plan : List Int) : Option Int := if l.length ≤ 1000 then some (verP l plan) else none
theorem finP_ck {l : List Od} {plan : List Int} (h : (finP l plan).2 = 0) : ckO l = 0 := by
 unfold finP at h
 split at h
 ·rename_i hc; exact hc
 ·exact h
theorem KB11 : FnOk Tryz.prog 11 (F11 B11) := ok11 B36 B9 KB36 KB9 B11 fun l plan r h => ⟨0, by
 simp only [B11] at h
 split at h
 ·rename_i hl
  rw [← h, m11, B9, if_pos hl, Option.bind_some, verP]
  by_cases hz : (finP l plan).2 = 0
  ·rw [beq_T hz, cond_true, cond_true, B53_ok (okO_of (finP_ck hz)), Option.bind_some]
   cases decide ((finP l plan).1 > leastO l) <;> rfl
  ·rw [beq_F hz]; rfl
 ·cases h⟩
def pos : List Int → Nat → Int → Int
 | [], _, _ => 0
 | i :: r, t, j => if i = j then ((t + 1 : Nat) : Int) else pos r (t + 1) j
theorem fnR_ok {l : List Od} : ∀ (xs pre : List Int) (n : Int), (pre ++ xs).Nodup → (∀ x ∈ xs, 1 ≤ x ∧ x ≤ 42) → n = ws (fnl l) (fun i => decide ((pre ++ xs).getD i 0 > (l.getD i d3).1)) pre.length → fnR l pre xs n = (ws (fnl l) (fun i => decide ((pre ++ xs).getD i 0 > (l.getD i d3).1)) (pre ++ xs).length, 0)
 | [], pre, n, _, _, e => by simp only [List.append_nil] at e ⊢; rw [fnR, e]
 | x :: r, pre, n, hn, hr, e => by
  have hx := hr x (by simp)
  have hc : pre.contains x = false := by
   cases q : pre.contains x with
   | false => rfl
   | true => exact absurd rfl ((List.nodup_append.1 hn).2.2 x (List.contains_iff_mem.1 q) x (by simp))
  rw [fnR, decide_eq_true hx, hc]
  simp only [Bool.not_true, cond_false]
  have ea : pre ++ x :: r = (pre ++ [x]) ++ r := by simp
  rw [ea] at hn e ⊢
  have hg : ((pre ++ [x]) ++ r).getD pre.length 0 = x := by rw [← ea]; simp [List.getD]
  refine fnR_ok r (pre ++ [x]) _ hn (fun y hy => hr y (List.mem_cons_of_mem _ hy)) ?_
  rw [List.length_append, List.length_singleton, ws, hg, ← e]
  cases decide (x > (l.getD pre.length d3).1) <;> simp
end Go.Proofs.YtjcnfpfldocpdaaGreatDoor
