/-
 CheckPlan and Shows of both, as plain functions.
-/
import Derived.Test.YtfopcfnggdonkaaGreatDoorW1
namespace Go.Proofs.YtfopcfnggdonkaaGreatDoor
open Go.Proofs.Tryz
open Go.RowKit
set_option linter.unusedVariables false
def oP (st : Int) (other : List Int) : Int -> List Int -> Int
 | _, [] => 0
 | last, x :: xs => if ¬ (0 <= x /\ x <= st - 1) then 5 else if x <= last then 7 else if other.contains x then 6 else oP st other x xs
theorem Yk {st : Int} {o : List Int} {last x : Int} {xs : List Int} (h : ¬ (0 <= x /\ x <= st - 1)) : oP st o last (x :: xs) = 5 := if_pos h
theorem Yl {st : Int} {o : List Int} {last x : Int} {xs : List Int} (h : 0 <= x /\ x <= st - 1) (h2 : x <= last) : oP st o last (x :: xs) = 7 := (if_neg (not_not_intro h)).trans (if_pos h2)
theorem aiX {st : Int} {o : List Int} {last x : Int} {xs : List Int} (h : 0 <= x /\ x <= st - 1) (h2 : ¬ x <= last) (h3 : o.contains x = true) : oP st o last (x :: xs) = 6 := (if_neg (not_not_intro h)).trans ((if_neg h2).trans (if_pos h3))
theorem Ym {st : Int} {o : List Int} {last x : Int} {xs : List Int} (h : 0 <= x /\ x <= st - 1) (h2 : ¬ x <= last) (h3 : o.contains x = false) : oP st o last (x :: xs) = oP st o x xs := (if_neg (not_not_intro h)).trans ((if_neg h2).trans (if_neg (by rw [h3]; exact Bool.false_ne_true)))
def J4 (a b : Int) : Int := cond (a == 0) b a
def zL (a : Int) (k : Option Int) : Option Int := cond (a == 0) k (some a)
theorem aCH {a : Int} {k : Option Int} (h : (a == 0) = false) : zL a k = some a := by unfold zL; rw [h]; rfl
def zX (st : Int) (w : Wg) : Int := cond (w.1.length == 0) 1 (cond (w.2.1.length == 0) 1 (cond (w.1.length != w.2.1.length) 9 (J4 (oP st [] (-1) w.1) (oP st w.1 (-1) w.2.1))))
def KL (st : Int) : List Wg -> Int
 | [] => 0
 | w :: ws => J4 (zX st w) (KL st ws)
theorem aHJ {st : Int} {x : Wg} {k : Option Int} {m : Int} (hk : k = some m) : cond ((x.1.length : Int) == 0) (some 1) (cond ((x.2.1.length : Int) == 0) (some 1) (cond ((x.1.length : Int) != (x.2.1.length : Int)) (some 9) (zL (oP st [] (-1) x.1) (zL (oP st x.1 (-1) x.2.1) k)))) = some (J4 (zX st x) m) := by
 subst hk
 have e1 : ((x.1.length : Int) == 0) = (x.1.length == 0) := by cases x.1 <;> simp <;> omega
 have e2 : ((x.2.1.length : Int) == 0) = (x.2.1.length == 0) := by cases x.2.1 <;> simp <;> omega
 have e3 : ((x.1.length : Int) != (x.2.1.length : Int)) = (x.1.length != x.2.1.length) := by
  by_cases c : x.1.length = x.2.1.length
  ·rw [aeN c]; simp [c]
  ·rw [(Xh c).1]; simp [c]
 rw [e1, e2, e3, zX]
 cases x.1.length == 0
 ·cases x.2.1.length == 0
  ·cases x.1.length != x.2.1.length
   ·simp only [cond_false]
    cases h : oP st [] (-1) x.1 == 0
    ·rw [aCH h]; simp only [J4, h, cond_false]
    ·simp only [zL, J4, h, cond_true]
     cases h2 : oP st x.1 (-1) x.2.1 == 0
     ·rfl
     ·rfl
   ·rfl
  ·rfl
 ·rfl
def qE (st : Int) (p : List Wg) : Int := if ¬ (1 <= st /\ st <= 13) then 3 else if p.length > 3 then 2 else KL st p
def fair (p : List Wg) : Prop := p.length <= 1000 /\ ∀ w ∈ p, w.1.length <= 1000 /\ w.2.1.length <= 1000
instance (p : List Wg) : Decidable (fair p) := inferInstanceAs (Decidable (_ /\ _))
theorem TG {α : Type} {l : List α} {d x : α} {t : Nat} (ht : t < l.length) (hx : l.getD t d = x) : x ∈ l := by
 rw [List.getD_eq_getElem?_getD, List.getElem?_eq_getElem ht] at hx
 simp only [Option.getD_some] at hx
 exact hx ▸ List.getElem_mem ht
def uV (st : Int) (p : List Wg) : Option Int := if fair p then some (qE st p) else none
theorem asD {s : Int} {a b : List Int} (hb : b.contains s = true) : (cnt s [a, b] == 2) = a.contains s := by
 simp only [cnt, List.filter_cons, hb, if_true, List.filter_nil]
 cases h : a.contains s <;> simp
theorem Eb {α : Type} {a b d : α} : ([a, b].getD 0 d = a) /\ ([a, b].getD 1 d = b) := ⟨rfl, rfl⟩
theorem Np : aF prog 31 (DN uV) := aBC pR qI XO ab5 uV fun st p r h => ⟨1001, by
 simp only [uV] at h
 split at h
 ·rename_i hl
  obtain ⟨hl, hm⟩ := hl
  rw [<- h, Ht, qE]
  simp only [pR, Option.bind_some]
  by_cases hs : 1 <= st /\ st <= 13
  ·rw [decide_eq_true hs, Bool.not_true, cond_false, if_neg (not_not_intro hs)]
   have hst : aB (st - 1) = st - 1 := oH (by omega)
   by_cases hp : p.length > 3
   ·rw [decide_eq_true (show (p.length : Int) > 3 by omega), cond_true, if_pos hp]
   ·rw [decide_eq_false (show ¬ (p.length : Int) > 3 by omega), cond_false, if_neg hp]
    -- a pan
    have aCM : ∀ (t22 : Nat) (x : Wg), x.1.length <= 1000 -> p.getD t22 ([], ([], ())) = x -> ∀ (rec : Int -> Option Int) (last : Int), wQ pR qI 1001 st p (t22 : Int) 0 rec 1001 last 0 = zL (oP st [] last x.1) (rec 1) := by
     intro t22 x hxl hx rec last
     exact Yq x.1 0 (fun n (s : Int) t => wQ pR qI 1001 st p (t22 : Int) 0 rec n s t) (fun xs s => zL (oP st [] s xs) (rec 1))
      (fun n s t y rest ht hy ih => by
       simp only [wQ, Int.toNat_natCast, hx, Int.toNat_zero, Eb, mM ht, lZ ht, cond_true, kV, nV ht (by omega), hy, ih, pR, Option.bind_some, hst]
       by_cases e : 0 <= y /\ y <= st - 1
       ·rw [decide_eq_true e, Bool.not_true, cond_false]
        by_cases e3 : y <= s
        ·rw [decide_eq_true e3, cond_true, Yl e e3]; rfl
        ·rw [decide_eq_false e3, cond_false, Ym e e3 rfl]; rfl
       ·rw [decide_eq_false e, Bool.not_false, cond_true, Yk e]; rfl)
      (fun n s => by simp only [wQ, Int.toNat_natCast, hx, Int.toNat_zero, Eb, nM, cond_false, oP]; rfl) 1001 last (by omega)
    have aCN : ∀ (t22 : Nat) (x : Wg), x.1.length <= 1000 -> x.2.1.length <= 1000 -> p.getD t22 ([], ([], ())) = x -> ∀ (rec : Int -> Option Int) (last : Int), wQ pR qI 1001 st p (t22 : Int) 1 rec 1001 last 0 = zL (oP st x.1 last x.2.1) (rec 2) := by
     intro t22 x hxl aJ9 hx rec last
     exact Yq x.2.1 0 (fun n (s : Int) t => wQ pR qI 1001 st p (t22 : Int) 1 rec n s t) (fun xs s => zL (oP st x.1 s xs) (rec 2))
      (fun n s t y rest ht hy ih => by
       have hc : x.2.1.contains y = true := by rw [List.contains_iff_mem]; exact TG ht hy
       have hf : qI y [x.1, x.2.1] = some (cnt y [x.1, x.2.1]) := if_pos ⟨by simp, by intro l hl; simp at hl; rcases hl with rfl | rfl <;> assumption⟩
       simp only [wQ, Int.toNat_natCast, hx, show (1 : Int).toNat = 1 from rfl, Eb, mM ht, lZ ht, cond_true, kV, nV ht (by omega), hy, ih, pR, Option.bind_some, hst, hf, asD hc]
       by_cases e : 0 <= y /\ y <= st - 1
       ·rw [decide_eq_true e, Bool.not_true, cond_false]
        by_cases e3 : y <= s
        ·rw [decide_eq_true e3, cond_true, Yl e e3]; rfl
        ·rw [decide_eq_false e3, cond_false]
         cases hq : x.1.contains y
         ·rw [Ym e e3 hq]; rfl
         ·rw [aiX e e3 hq]; rfl
       ·rw [decide_eq_false e, Bool.not_false, cond_true, Yk e]; rfl)
      (fun n s => by simp only [wQ, Int.toNat_natCast, hx, show (1 : Int).toNat = 1 from rfl, Eb, nM, cond_false, oP]; rfl) 1001 last (by omega)
    exact Yq p ([], ([], ())) (fun n (_ : Unit) t => l31a pR qI 1001 st p n t) (fun xs _ => some (KL st xs))
     (fun n _ t x rest ht hx ih => by
      have hxm := hm x (TG ht hx)
      have hb : ∀ rec : Int -> Option Int, l31b pR qI 1001 st p (t : Int) rec 1001 0 = zL (oP st [] (-1) x.1) (zL (oP st x.1 (-1) x.2.1) (rec (aB ((t : Int) + 1)))) := by
       intro rec
       show l31b pR qI 1001 st p (t : Int) rec (1000 + 1) 0 = _
       rw [l31b, show decide ((0 : Int) < 2) = true from rfl, cond_true, show decide (0 <= (0 : Int) /\ (0 : Int) < 2) = true from rfl, kV, aCM t x hxm.1 hx]
       congr 1
       show l31b pR qI 1001 st p (t : Int) rec (999 + 1) 1 = _
       rw [l31b, show decide ((1 : Int) < 2) = true from rfl, cond_true, show decide (0 <= (1 : Int) /\ (1 : Int) < 2) = true from rfl, kV, aCN t x hxm.1 hxm.2 hx]
       congr 1
      simp only [l31a, mM ht, lZ ht, cond_true, kV, Int.toNat_natCast, hx, hb, nV ht (by omega), ih (), KL, zX]
      exact aHJ rfl)
     (fun n _ => by simp only [l31a, nM, cond_false]; rfl) 1001 () (by omega)
  ·rw [decide_eq_false hs, Bool.not_false, cond_true, if_pos hs]
 ·cases h⟩
end Go.Proofs.YtfopcfnggdonkaaGreatDoor
