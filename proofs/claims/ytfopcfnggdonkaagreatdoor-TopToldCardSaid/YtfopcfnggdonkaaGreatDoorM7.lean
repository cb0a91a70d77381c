/-
 Who is guilty, who is nearest: what the program computes.
-/
import Derived.Test.YtfopcfnggdonkaaGreatDoorM6
namespace Go.Proofs.YtfopcfnggdonkaaGreatDoor
open Go.Proofs.Tryz
open Go.RowKit
set_option linter.unusedVariables false
def KR (c : Cd) (w : List Int) : Option Int := if DC c = true /\ w.length <= 1000 then some (cond (decide (lI c = 0)) (wE c w) (lI c)) else none
theorem ap9 : aF prog 44 (QF KR) := aBM qN EY Nr ab6 KR fun c w r h => ⟨0, by
 simp only [KR] at h
 split at h
 ·rename_i hs
  rw [<- h, Wh, qN, if_pos hs.1, Option.bind_some, ZW]
  cases e : decide (lI c = 0) with
  | false => rfl
  | true =>
   obtain ⟨_, hn, _⟩ := BJ (of_decide_eq_true e)
   rw [Bool.not_true, cond_false, EY, if_pos ⟨hn.1, hs.2⟩]; rfl
 ·cases h⟩
theorem amJ {c : Cd} {w : List Int} (h : DC c = true /\ w.length <= 1000) : KR c w = some (zA c w) := if_pos h
def tX (w : List Int) (m : Int) : Nat -> List (List Int) -> List Int
 | _, [] => []
 | t, x :: r => cond (decide (ap x w = m)) ((t : Int) :: tX w m (t + 1) r) (tX w m (t + 1) r)
theorem OA : ∀ (l : List Int) (a : Int), jU a l <= a
 | [], a => Int.le_refl _
 | x :: r, a => by
  have := OA r (gI a x)
  have h2 : gI a x <= a := by unfold gI; split <;> omega
  show jU (gI a x) r <= a
  omega
theorem az4 : ∀ {l : List Int} {a : Int}, (∀ x ∈ l, x <= a) -> l ≠ [] -> ∃ x ∈ l, jU a l = x \/ jU a l < x
 | [], _, _, h => absurd rfl h
 | x :: r, a, hl, _ => ⟨x, by simp, by
  have := OA r (gI a x)
  have h1 := hl x (by simp)
  have h2 : gI a x = x := by unfold gI; split <;> omega
  show jU (gI a x) r = x \/ jU (gI a x) r < x
  omega⟩
theorem az3 {a b : Int} : ∀ {l : List Int}, (∀ x ∈ l, x <= a /\ x <= b) -> l ≠ [] -> jU a l = jU b l
 | [], _, h => absurd rfl h
 | x :: r, hl, _ => by
  have := hl x (by simp)
  have e : gI a x = gI b x := by unfold gI; split <;> split <;> omega
  show jU (gI a x) r = jU (gI b x) r
  rw [e]
abbrev UU (c : Cd) (w : List Int) : Int := jU 8 (c.2.1.map fun x => ap x w)
def UW (c : Cd) (w : List Int) : List Int × Int := cond (decide (zA c w = 0)) (tX w (UU c w) 0 c.2.1, 0) ([], zA c w)
def lK (c : Cd) (w : List Int) : Option (List Int × Int) := if DC c = true /\ w.length <= 1000 then some (UW c w) else none
theorem Ob (a b : List Int) : 0 <= ap a b /\ ap a b <= a.length := by
 have := Oa b a 0 0
 unfold ap; omega
theorem aiC (w : List Int) (m : Int) : ∀ (l : List (List Int)) (t : Nat), (tX w m t l).length <= l.length
 | [], t => Nat.le_refl _
 | x :: r, t => by
  have := aiC w m r (t + 1)
  rw [tX]
  cases decide (ap x w = m) <;> simp <;> omega
theorem ap4 : aF prog 18 (QD lK) := aA8 qH xC KR QR ab1 ap9 lK fun c w r h => ⟨11, by
 simp only [lK] at h
 split at h
 ·rename_i hs
  rw [<- h, m18, amJ hs, Option.bind_some, UW, ZW]
  cases e : decide (zA c w = 0) with
  | false => rfl
  | true =>
   have h0 := of_decide_eq_true e
   obtain ⟨hc, hw⟩ := adA h0
   obtain ⟨_, hn, hz, hlen, _⟩ := BJ hc
   have hwl := (Zo hw hc).1
   simp only [Bool.not_true, cond_false, cond_true]
   rw [qH, if_pos hn.1, Option.bind_some, oH (by omega)]
   have hle : ∀ x ∈ c.2.1.map (fun x => ap x w), x <= (sz c : Int) := fun y hy => by
    obtain ⟨x, hx, rfl⟩ := List.mem_map.1 hy
    have := (Ob x w).2
    rw [hlen x hx] at this; exact this
   have hne : c.2.1.map (fun x => ap x w) ≠ [] := fun h => by
    have := congrArg List.length h
    simp only [List.length_map, List.length_nil] at this; omega
   have hmin : jU ((sz c : Int) + 1) (c.2.1.map fun x => ap x w) = UU c w := az3 (fun x hx => by have := hle x hx; omega) hne
   have hlt : UU c w < (sz c : Int) + 1 := by
    obtain ⟨x, hx, h⟩ := az4 (a := 8) (fun x hx => by have := hle x hx; omega) hne
    have := hle x hx
    show jU 8 _ < _
    omega
   refine (wZ c.2.1 [] (fun n (s : Int × List Int) t => BZ qH xC KR 11 c w n s.1 t s.2) (fun t rest s => (∀ x ∈ rest, x.length = sz c) /\ s.2.length <= t) (fun t xs s => some (cond (decide (jU s.1 (xs.map fun x => ap x w) < s.1)) (tX w (jU s.1 (xs.map fun x => ap x w)) t xs) (s.2 ++ tX w (jU s.1 (xs.map fun x => ap x w)) t xs), 0)) (fun n s t x rest ht hx hI ih => ?_)
    (fun n s _ => ?_) 11 ((sz c : Int) + 1, []) (by omega) ⟨hlen, Nat.le_refl _⟩).trans ?_
   ·obtain ⟨m, o⟩ := s
    obtain ⟨hr, ho⟩ := hI
    simp only at ho
    have hxl := hr x (by simp)
    have hr' : ∀ y ∈ rest, y.length = sz c := fun y hy => hr y (by simp [hy])
    have e53 : xC x w = some (ap x w) := if_pos ⟨by omega, by omega⟩
    simp only [BZ, mM ht, lZ ht, cond_true, kV, Int.toNat_natCast, hx, nV ht (by omega), e53, Option.bind_some, beq_self_eq_true, List.map_cons]
    have hm1 : jU m (ap x w :: rest.map fun x => ap x w) = jU (gI m (ap x w)) (rest.map fun x => ap x w) := rfl
    rw [hm1]
    have i1 := ih (ap x w, [(t : Int)]) ⟨hr', by simp⟩
    have i2 := ih (m, o ++ [(t : Int)]) ⟨hr', by simp; omega⟩
    have i3 := ih (m, o) ⟨hr', by simp only; omega⟩
    simp only at i1 i2 i3
    rcases Int.lt_trichotomy (ap x w) m with hlt | heq | hgt
    ·have hi : gI m (ap x w) = ap x w := by unfold gI; split <;> omega
     rw [decide_eq_true hlt, cond_true, i1, hi]
     have hle := OA (rest.map fun x => ap x w) (ap x w)
     generalize jU (ap x w) (rest.map fun x => ap x w) = q at *
     rw [decide_eq_true (show q < m by omega), cond_true, tX]
     by_cases h : ap x w = q
     ·rw [decide_eq_true h, decide_eq_false (show ¬ q < ap x w by omega)]; rfl
     ·rw [decide_eq_false h, decide_eq_true (show q < ap x w by omega)]; rfl
    ·have hi : gI m (ap x w) = m := by unfold gI; split <;> omega
     rw [decide_eq_false (show ¬ ap x w < m by omega), cond_false, Oj, decide_eq_true heq, cond_true, wJ (ET (by omega) (by decide)), i2, hi]
     have hle := OA (rest.map fun x => ap x w) m
     generalize jU m (rest.map fun x => ap x w) = q at *
     rw [tX]
     by_cases h : ap x w = q
     ·rw [decide_eq_true h, decide_eq_false (show ¬ q < m by omega)]; simp
     ·rw [decide_eq_false h, decide_eq_true (show q < m by omega)]; rfl
    ·have hi : gI m (ap x w) = m := by unfold gI; split <;> omega
     rw [decide_eq_false (show ¬ ap x w < m by omega), cond_false, Oj, decide_eq_false (show ¬ ap x w = m by omega), cond_false, i3, hi]
     have hle := OA (rest.map fun x => ap x w) m
     generalize jU m (rest.map fun x => ap x w) = q at *
     rw [tX, decide_eq_false (show ¬ ap x w = q by omega), cond_false]
   ·obtain ⟨m, o⟩ := s
    simp only [BZ, nM, cond_false, List.map_nil, jU, List.foldl_nil, tX, List.append_nil]
    rw [decide_eq_false (Int.lt_irrefl _), cond_false]
   ·simp only
    rw [hmin, decide_eq_true hlt, cond_true]
 ·cases h⟩
end Go.Proofs.YtfopcfnggdonkaaGreatDoor
