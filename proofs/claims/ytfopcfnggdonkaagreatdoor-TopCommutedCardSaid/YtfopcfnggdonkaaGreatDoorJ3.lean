/-
 What the laws without the reference need.
-/
import Derived.Test.YtfopcfnggdonkaaGreatDoorJ2
namespace Go.Proofs.YtfopcfnggdonkaaGreatDoor
open Go.Proofs.Tryz
open Go.RowKit
set_option linter.unusedVariables false
def okS (p : dG) (l : List Int) : Bool := decide (ck p = 0) && decide (l.length <= 1000) && !l.any (lW (p.2.1.length : Int))
theorem ag6 {p : dG} {l : List Int} : okS p l = true ↔ oW p /\ l.length <= 1000 /\ AQ p l := by
 simp only [okS, Bool.and_eq_true, decide_eq_true_eq, Bool.not_eq_true', Ji]
 constructor
 ·rintro ⟨⟨h1, h2⟩, h3⟩; exact ⟨h1, h2, (XG (by have := h1.i6; omega)).1 h3⟩
 ·rintro ⟨h1, h2, h3⟩; exact ⟨⟨h1, h2⟩, (XG (by have := h1.i6; omega)).2 h3⟩
def MM (p : dG) (l : List Int) : Option Int := if okS p l then some (y7 p l : Int) else none
theorem afK {p : dG} (h : oW p) : 2 <= p.1.toNat /\ p.1.toNat <= 7 /\ p.1 = (p.1.toNat : Int) := by have := h.n2; have := h.n7; omega
theorem aoM : aC prog 27 (F27 MM) := aAK zY yL aaC aoT MM fun p l r h => ⟨1001, by
 simp only [MM] at h
 split at h
 ·rename_i hf
  obtain ⟨hp, hl, hs⟩ := ag6.1 hf
  obtain ⟨n2, n7, _⟩ := afK hp
  rw [<- h, Di]
  have main := Fq l 0 (fun n (s : Nat) t => l27a zY yL 1001 p l n (s : Int) t) (fun xs s => AQ p xs /\ 0 < s /\ s < 2 ^ p.1.toNat) (fun xs s => some ((xs.foldl (fun s i => mX (p.2.1.getD i.toNat []) s) s : Nat) : Int))
   (fun n s t x rest ht hx hI ih => by
    have hx1 := hI.1 x (List.mem_cons_self ..)
    have hk := hp.at hx1
    obtain ⟨a, b⟩ := OY hk hI.2.2
    simp only [l27a, XO, rP ht, rQ ht, cond_true, kX, Int.toNat_natCast, qM ht (by omega), hx, hp.yL hx1, Option.bind_some, aBX hk ⟨n2, n7⟩ hI.2.1 hI.2.2]
    rw [ih _ ⟨fun y hy => hI.1 y (by simp [hy]), Nat.lt_of_lt_of_le hI.2.1 b, a⟩, List.foldl_cons])
   (fun n s _ => by simp only [l27a, XO, qL, cond_false]; rfl) 1001 1 (by omega) ⟨hs, by decide, Nat.one_lt_two_pow (by omega)⟩
  rw [show ((1 : Nat) : Int) = 1 from rfl] at main
  rw [y7]
  exact main
 ·cases h⟩
def ZY (p : dG) (l : List Int) : List Int × Int := if sH p l 12 = 0 then (qI (y7 p l), 0) else ([], sH p l 12)
def yH (p : dG) (l : List Int) : Option (List Int × Int) := if yZ p = true /\ l.length <= 1000 then some (ZY p l) else none
theorem auD {p : dG} {l : List Int} (hf : yZ p = true /\ l.length <= 1000) (f : Option (List Int × Int)) (h : oW p -> AQ p l -> f = some (qI (y7 p l), 0)) :
  ((yI p l 12).bind fun r1 => cond (r1 != 0) (some ([], r1)) f) = some (ZY p l) := by
 rw [yI, if_pos hf, Option.bind_some, ZY]
 by_cases e : sH p l 12 = 0
 ·obtain ⟨a, b, c⟩ := Gs.1 e
  have : (sH p l 12 != 0) = false := by rw [bne_eq_false_iff_eq]; exact e
  rw [this, cond_false, if_pos e]; exact h a c
 ·have : (sH p l 12 != 0) = true := by rw [bne_iff_ne]; exact e
  rw [this, cond_true, if_neg e]
theorem atW {p : dG} (h : oW p) {l : List Int} (hl : AQ p l) : 0 <= (y7 p l : Int) /\ (y7 p l : Int) < 256 := by
 have := (adF h hl).2
 have := ahL (afK h).2.1
 omega
theorem aoJ : aC prog 12 (MZ yH) := azZ yI MM EP aaB aoM aaD yH fun p l r h => ⟨0, by
 simp only [yH] at h
 split at h
 ·rename_i hf
  rw [<- h, m12]
  refine auD hf _ fun a c => ?_
  rw [MM, if_pos (ag6.2 ⟨a, hf.2, c⟩), Option.bind_some, EP, if_pos (atW a c)]; rfl
 ·cases h⟩
def J8 (p : dG) : List Int -> List Bool -> Int -> Int
 | i :: l, b :: ch, c => J8 p l ch (cond b ((p.2.1.getD i.toNat []).getD c.toNat 0) c)
 | _, _, c => c
def Jl (p : dG) (l : List Int) (ch : List Bool) : Int × Int := if sH p l 12 = 0 then (if ch.length = l.length then (J8 p l ch 0, 0) else (0, 3)) else (0, sH p l 12)
def B11 (p : dG) (l : List Int) (ch : List Bool) : Option (Int × Int) := if yZ p = true /\ l.length <= 1000 then some (Jl p l ch) else none
theorem drop_at {α : Type} {l : List α} {t : Nat} {d : α} (h : t < l.length) : l.drop t = l.getD t d :: l.drop (t + 1) := by
 rw [List.drop_eq_getElem_cons h, List.getD_eq_getElem?_getD, List.getElem?_eq_getElem h]; rfl
theorem axN {n : Nat} {l : List Int} (h : lN n l) {c : Int} (hc : 0 <= c /\ c < (n : Int)) {α : Type} (f : Int -> Option α) :
  (zC (kd l) (fun h3 => (some h3).bind fun r5 => f r5) fun g4 => zC g4 (fun h6 => (uI h6 c).bind fun r8 => f r8) fun g7 => none) = f (l.getD c.toNat 0) := by
 rw [kd]
 by_cases e : mx l = mn l
 ·have e' : (mx l == mn l) = true := by rw [beq_iff_eq]; exact e
  rw [e', cond_true]
  show f (l.getD 0 0) = _
  rw [ac2 e c.toNat (by rw [h.1]; omega)]
 ·have e' : (mx l == mn l) = false := by rw [beq_eq_false_iff_ne]; exact e
  rw [e', cond_false]
  show ((uI l c).bind fun r8 => f r8) = _
  rw [uI, if_pos ⟨hc.1, by rw [h.1]; exact hc.2⟩]; rfl
theorem aoI : aC prog 11 (F11 B11) := azX uI yI zY (fun o _ => some o) aaA aaB aaC aaE B11 fun p l ch r h => ⟨1001, by
 simp only [B11] at h
 split at h
 ·rename_i hf
  rw [<- h, m11, yI, if_pos hf, Option.bind_some, Jl]
  by_cases e : sH p l 12 = 0
  ·obtain ⟨hp, b, hs⟩ := Gs.1 e
   have e' : (sH p l 12 != 0) = false := by rw [bne_eq_false_iff_eq]; exact e
   rw [e', cond_false, if_pos e]
   by_cases e2 : ch.length = l.length
   ·have e2' : ((ch.length : Int) != (l.length : Int)) = false := by rw [bne_eq_false_iff_eq]; omega
    rw [e2', cond_false, if_pos e2]
    have main := yA l 0 (fun n (c : Int) t => D6 uI yI zY (fun o _ => some o) 1001 p l ch n c t) (fun t xs c => AQ p xs /\ 0 <= c /\ c < (p.1.toNat : Int)) (fun t xs c => some (J8 p xs (ch.drop t) c, 0))
     (fun n c t x rest ht hx hI ih => by
      have hx1 := hI.1 x (List.mem_cons_self ..)
      have hk := hp.at hx1
      have hc := hI.2
      have hke := hk.at (c := c.toNat) (by omega)
      have hr : AQ p rest := fun y hy => hI.1 y (by simp [hy])
      simp only [D6, XK, rP ht, rQ ht, rQ (show t < ch.length by omega), cond_true, kX, Int.toNat_natCast, qM ht (by omega), hx, hp.yL hx1, Option.bind_some]
      rw [drop_at (d := false) (show t < ch.length by omega), J8]
      cases ch.getD t false with
      | true =>
       rw [cond_true, cond_true]
       refine (axN hk hc fun r5 => D6 uI yI zY (fun o _ => some o) 1001 p l ch n r5 ((t + 1 : Nat) : Int)).trans ?_
       exact ih _ ⟨hr, hke⟩
      | false => rw [cond_false, cond_false, ih _ ⟨hr, hc⟩])
     (fun n c _ => by simp only [D6, XK, qL, cond_false]; cases ch.drop l.length <;> rfl) 1001 0 (by omega) ⟨hs, by omega, by have := hp.n2; omega⟩
    rw [main, List.drop_zero]
   ·have e2' : ((ch.length : Int) != (l.length : Int)) = true := by rw [bne_iff_ne]; omega
    rw [e2', cond_true, if_neg e2]
  ·have e' : (sH p l 12 != 0) = true := by rw [bne_iff_ne]; exact e
   rw [e', cond_true, if_neg e]
 ·cases h⟩
end Go.Proofs.YtfopcfnggdonkaaGreatDoor
