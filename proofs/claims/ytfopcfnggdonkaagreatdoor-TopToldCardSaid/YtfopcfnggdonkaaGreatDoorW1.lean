/-
 What the functions on plans answer, as plain functions.
-/
import Derived.Test.YtfopcfnggdonkaaGreatDoorM7
import Derived.Test.YtfopcfnggdonkaaGreatDoorTWM
namespace Go.Proofs.YtfopcfnggdonkaaGreatDoor
open Go.Proofs.Tryz
open Go.RowKit
set_option linter.unusedVariables false
abbrev Wg := List Int × List Int × Unit
def pR (lo n hi : Int) : Option Bool := some (decide (lo <= n /\ n <= hi))
theorem XO : aF prog 32 (yN pR) := ok32 pR fun lo n hi r h => ⟨0, by
 rw [<- h]; simp only [m32, pR]
 by_cases a : lo <= n <;> simp [a]⟩
theorem auN (a b : List Int) (L : Nat -> Int -> Option Bool) (hl : a.length = b.length)
  (h0 : ∀ n (t : Nat), t < a.length -> a.length <= 1000 -> L (n + 1) t = cond (a.getD t 0 != b.getD t 0) (some false) (L n ((t + 1 : Nat) : Int))) (he : ∀ n, L (n + 1) a.length = some true) (h : a.length <= 1000) (n : Nat) (hn : a.length < n) : L n 0 = some (decide (a = b)) := by
 have := wZ a 0 (fun n (_ : Unit) t => L n t) (fun _ _ _ => True) (fun t xs _ => some (decide (xs = b.drop t)))
  (fun n s t x rest ht hx _ ih => by
   have hb : t < b.length := by omega
   have e : b.drop t = b.getD t 0 :: b.drop (t + 1) := by
    rw [List.drop_eq_getElem_cons hb, List.getD_eq_getElem?_getD, List.getElem?_eq_getElem hb]; rfl
   show L (n + 1) t = _
   rw [h0 n t ht h, hx, ih () trivial, e]
   by_cases q : x = b.getD t 0
   ·simp [q]
   ·have e1 : (x != b.getD t 0) = true := by rw [bne_iff_ne]; exact q
    have e2 : decide (x :: rest = b.getD t 0 :: b.drop (t + 1)) = false := decide_eq_false fun h => q (List.cons.inj h).1
    rw [e1, e2]; rfl)
  (fun n s _ => by rw [he]; simp [hl]) n () hn trivial
 simpa using this
def xG (a b : List Int) : Option Bool := if a.length <= 1000 then some (decide (a = b)) else none
theorem Xh {a b : List Int} (h : ¬ a.length = b.length) : ((a.length : Int) != (b.length : Int)) = true /\ decide (a = b) = false :=
 ⟨by simp only [bne_iff_ne, ne_eq]; omega, decide_eq_false fun e => h (by rw [e])⟩
theorem aeN {a b : List Int} (h : a.length = b.length) : ((a.length : Int) != (b.length : Int)) = false := by simp [h]
theorem ab3 : aF prog 38 (H7 xG) := aBI xG fun a b r h => ⟨1001, by
 simp only [xG] at h
 split at h
 ·rename_i hl
  rw [<- h, Hz]
  by_cases e : a.length = b.length
  ·rw [aeN e, cond_false]
   exact auN a b (l38a 1001 a b) e (fun n t ht hl => by simp only [l38a, mM ht, lZ ht, lZ (e ▸ ht : t < b.length), cond_true, kV, Int.toNat_natCast, nV ht (by omega)]) (fun n => by simp only [l38a, nM, cond_false]) hl 1001 (by omega)
  ·rw [(Xh e).1, (Xh e).2]; rfl
 ·cases h⟩
def KY (pan : List Int) (s : Int) : Option Bool := if pan.length <= 1000 then some (pan.contains s) else none
theorem aqK : aF prog 41 (yO KY) := by
 have e : KY = xE := by
  funext l v
  simp only [KY, xE, List.contains_eq_mem]
 rw [e]; exact ab4
def cnt (s : Int) (ls : List (List Int)) : Int := ((ls.filter fun l => l.contains s).length : Int)
def qI (s : Int) (ls : List (List Int)) : Option Int := if ls.length <= 1000 /\ ∀ l ∈ ls, l.length <= 1000 then some (cnt s ls) else none
theorem ab5 : aF prog 67 (H9 qI) := aBU KY aqK qI fun s ls r h => ⟨1001, by
 simp only [qI] at h
 split at h
 ·rename_i hl
  obtain ⟨hl, hm⟩ := hl
  rw [<- h, Ie]
  have main := U2 ls [] (fun n (c : Int) t => F7 KY 1001 s ls n c t) (fun xs c => (∀ l ∈ xs, l.length <= 1000) /\ 0 <= c /\ c + xs.length <= 1000) (fun xs c => some (c + cnt s xs))
   (fun n c t x rest ht hx hI ih => by
    obtain ⟨h1, h2, h3⟩ := hI
    simp only [List.length_cons] at h3
    simp only [F7, mM ht, lZ ht, cond_true, kV, Int.toNat_natCast, nV ht (by omega), hx, KY, if_pos (h1 x (List.mem_cons_self ..)), Option.bind_some]
    have hr : ∀ l ∈ rest, l.length <= 1000 := fun l hl => h1 l (List.mem_cons_of_mem _ hl)
    have hw : aB (c + 1) = c + 1 := oH (by omega)
    rw [hw]
    by_cases e : x.contains s = true
    ·rw [e, cond_true, ih (c + 1) ⟨hr, by omega, by omega⟩]
     simp only [cnt, List.filter_cons, e, if_true, List.length_cons]; congr 1; omega
    ·have e' : x.contains s = false := by simpa using e
     rw [e', cond_false, ih c ⟨hr, by omega, by omega⟩]
     simp only [cnt, List.filter_cons, e', Bool.false_eq_true, if_false])
   (fun n c _ => by simp only [F7, nM, cond_false, cnt]; simp) 1001 0 (by omega) ⟨hm, by omega, by omega⟩
  rw [main]; simp
 ·cases h⟩
end Go.Proofs.YtfopcfnggdonkaaGreatDoor
