/-
 What plans show, by both.
-/
import Derived.Test.YtfopcfnggdonkaaGreatDoorW2
namespace Go.Proofs.YtfopcfnggdonkaaGreatDoor
open Go.Proofs.Tryz
open Go.RowKit
set_option linter.unusedVariables false
def ind (b : Bool) : Int := cond b 1 0
theorem ac3 (s : Int) (l : List Int) : cnt s [l] = ind (l.contains s) := by
 simp only [cnt, List.filter_cons, List.filter_nil, ind]
 cases h : l.contains s <;> simp
def O3 (odd way : Int) (w : Wg) : Int := way * (ind (w.2.1.contains odd) - ind (w.1.contains odd))
def O0 (odd way : Int) (w : Wg) : Int := cond (w.2.1.contains odd) way (cond (w.1.contains odd) (-way) 0)
theorem aDN {odd way : Int} {w : Wg} (h : ∀ x ∈ w.2.1, w.1.contains x = false) : O3 odd way w = O0 odd way w := by
 unfold O3 O0
 cases h2 : w.2.1.contains odd with
 | true =>
  rw [h odd (by rw [List.contains_iff_mem] at h2; exact h2)]; simp [ind]
 | false => cases h1 : w.1.contains odd <;> simp [ind]
theorem take_set {α : Type} {l : List α} {t : Nat} {v : α} (h : t < l.length) : (l.set t v).take (t + 1) = l.take t ++ [v] := by
 rw [List.take_add_one, List.take_set_of_le (Nat.le_refl t), List.getElem?_set_self h]; rfl
theorem az6 {n eb : Nat} (h : n * eb <= 140737488355328) (hb : 0 < eb) : wU (n : Int) (n : Int) eb = true := by
 have : n <= n * eb := Nat.le_mul_of_pos_right n hb
 have h2 : ((n : Int) * (eb : Int)) <= 140737488355328 := by rw [<- Int.natCast_mul]; omega
 unfold wU
 rw [decide_eq_true (show 0 <= (n : Int) /\ (n : Int) <= (n : Int) by omega), decide_eq_true h2, decide_eq_true (show (n : Int) <= 140737488355328 by omega)]; rfl
def uX (p : List Wg) (odd way : Int) : Option (List Int) := if fair p /\ -1 <= way /\ way <= 1 then some (p.map (O3 odd way)) else none
theorem Nq : aF prog 33 (DR uX) := aBD qI ab5 uX fun p odd way r h => ⟨1001, by
 simp only [uX] at h
 split at h
 ·rename_i hl
  obtain ⟨⟨hl, hm⟩, hw0, hw1⟩ := hl
  rw [<- h, Hu, az6 (by omega) (by omega), kV]
  have main := wZ p ([], ([], ())) (fun n (o : List Int) t => l33a qI 1001 p odd way n t o) (fun _ _ o => o.length = p.length) (fun t xs o => some (o.take t ++ xs.map (O3 odd way)))
   (fun n o t x rest ht hx hI ih => by
    have hxm := hm x (TG ht hx)
    have f1 : qI odd [x.2.1] = some (ind (x.2.1.contains odd)) := by rw [qI, if_pos ⟨by simp, by intro l hl; simp at hl; subst hl; exact hxm.2⟩, ac3]
    have f2 : qI odd [x.1] = some (ind (x.1.contains odd)) := by rw [qI, if_pos ⟨by simp, by intro l hl; simp at hl; subst hl; exact hxm.1⟩, ac3]
    have hi : ∀ b, 0 <= ind b /\ ind b <= 1 := by intro b; cases b <;> simp [ind]
    have b1 := hi (x.2.1.contains odd)
    have b2 := hi (x.1.contains odd)
    have e1 : aB (ind (x.2.1.contains odd) - ind (x.1.contains odd)) = ind (x.2.1.contains odd) - ind (x.1.contains odd) := oH (by omega)
    have e2 : aB (way * (ind (x.2.1.contains odd) - ind (x.1.contains odd))) = O3 odd way x := by
     refine oH ?_
     have hw : way = -1 \/ way = 0 \/ way = 1 := by omega
     rcases hw with rfl | rfl | rfl <;> omega
    have hto : t < o.length := by rw [hI]; exact ht
    simp only [l33a, mM ht, lZ ht, cond_true, kV, Int.toNat_natCast, nV ht (by omega), hx, f1, f2, Option.bind_some, e1, e2, lZ hto]
    rw [ih _ (by rw [List.length_set]; exact hI), take_set hto]
    simp)
   (fun n o hI => by
    simp only [l33a, nM, cond_false]
    rw [<- hI, List.take_length]; simp) 1001 (List.replicate ((p.length : Int).toNat) 0) (by omega) (by simp)
  simpa using main
 ·cases h⟩
theorem aiY {st : Int} {o : List Int} : ∀ {xs : List Int} {last : Int}, oP st o last xs = 0 -> ∀ x ∈ xs, o.contains x = false
 | [], _, _, x, hx => by cases hx
 | y :: ys, last, h, x, hx => by
  by_cases a : 0 <= y /\ y <= st - 1
  ·by_cases b : y <= last
   ·rw [Yl a b] at h; omega
   ·cases c : o.contains y with
    | true => rw [aiX a b c] at h; omega
    | false =>
     rw [Ym a b c] at h
     rcases List.mem_cons.1 hx with rfl | hx'
     ·exact c
     ·exact aiY h x hx'
  ·rw [Yk a] at h; omega
theorem aiR {a b : Int} (h : J4 a b = 0) : a = 0 /\ b = 0 := by
 unfold J4 at h
 cases e : a == 0 with
 | true => rw [e] at h; exact ⟨by simpa using e, h⟩
 | false =>
  rw [e] at h
  simp only [cond_false] at h
  rw [h] at e; cases e
theorem aHF {st : Int} {w : Wg} (h : zX st w = 0) : w.1.length ≠ 0 /\ w.1.length = w.2.1.length /\ oP st [] (-1) w.1 = 0 /\ oP st w.1 (-1) w.2.1 = 0 := by
 unfold zX at h
 cases e1 : w.1.length == 0 with
 | true => rw [e1] at h; simp at h
 | false =>
  cases e2 : w.2.1.length == 0 with
  | true => rw [e1, e2] at h; simp at h
  | false =>
   cases e3 : w.1.length != w.2.1.length with
   | true => rw [e1, e2, e3] at h; simp at h
   | false =>
    rw [e1, e2, e3] at h
    simp only [cond_false] at h
    exact ⟨by simpa using e1, by simpa using e3, aiR h⟩
theorem amA {st : Int} : ∀ {p : List Wg}, KL st p = 0 -> ∀ w ∈ p, zX st w = 0
 | [], _, w, hw => by cases hw
 | v :: vs, h, w, hw => by
  obtain ⟨a, b⟩ := aiR h
  rcases List.mem_cons.1 hw with rfl | hw'
  ·exact a
  ·exact amA b w hw'
theorem GU {st : Int} {p : List Wg} (h : qE st p = 0) : (1 <= st /\ st <= 13) /\ p.length <= 3 /\ ∀ w ∈ p, zX st w = 0 := by
 unfold qE at h
 split at h
 ·omega
 ·rename_i a
  split at h
  ·omega
  ·exact ⟨by omega, by omega, amA h⟩
theorem ak7 {st odd way : Int} {p : List Wg} (h : qE st p = 0) : p.map (O3 odd way) = p.map (O0 odd way) :=
 List.map_congr_left fun w hw => aDN (aiY (aHF ((GU h).2.2 w hw)).2.2.2)
def Za (st : Int) (p : List Wg) (odd way : Int) : List Int × Int :=
 cond (qE st p == 0) (cond (decide (0 <= odd /\ odd <= st - 1)) (cond (decide (-1 <= way /\ way <= 1)) (p.map (O0 odd way), 0) ([], 3)) ([], 5)) ([], qE st p)
def lV (st : Int) (p : List Wg) (odd way : Int) : Option (List Int × Int) := if fair p then some (Za st p odd way) else none
theorem apZ : aF prog 14 (P5 lV) := aAY uV pR uX Np XO Nq lV fun st p odd way r h => ⟨0, by
 simp only [lV] at h
 split at h
 ·rename_i hf
  rw [<- h, m14, uV, if_pos hf, Option.bind_some, Za]
  cases e : qE st p == 0 with
  | false => simp only [bne, e, Bool.not_false, cond_true, cond_false]
  | true =>
   have e0 : qE st p = 0 := by simpa using e
   have hst := (GU e0).1
   simp only [bne, e, Bool.not_true, cond_true, cond_false, pR, Option.bind_some, oH (show -4611686018427387904 <= st - 1 /\ st - 1 <= 4611686018427387904 by omega)]
   by_cases a : 0 <= odd /\ odd <= st - 1
   ·by_cases b : -1 <= way /\ way <= 1
    ·rw [decide_eq_true a, decide_eq_true b, uX, if_pos ⟨hf, b⟩, ak7 e0]; rfl
    ·rw [decide_eq_true a, decide_eq_false b]; rfl
   ·rw [decide_eq_false a]; rfl
 ·cases h⟩
end Go.Proofs.YtfopcfnggdonkaaGreatDoor
