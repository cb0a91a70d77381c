/-
 Left of both, and the law WeighTwins, as plain functions.
-/
import Derived.Test.YtfopcfnggdonkaaGreatDoorW4
namespace Go.Proofs.YtfopcfnggdonkaaGreatDoor
open Go.Proofs.Tryz
open Go.RowKit
set_option linter.unusedVariables false
def y7 (n : Int) : Bool := !(decide (-1 <= n /\ n <= 1))
theorem aqB : aF prog 46 (LW fun n => some (y7 n)) := aBP pR XO _ fun n r h => ⟨0, by rw [<- h, Wl]; rfl⟩
def NS (q : Int -> Bool) : Int -> List Int -> Int
 | _, [] => -1
 | t, x :: xs => cond (q x) t (NS q (t + 1) xs)
theorem afZ (q : Int -> Bool) : ∀ (xs : List Int) (t : Int), 0 <= t -> decide (NS q t xs >= 0) = xs.any q
 | [], t, h => rfl
 | x :: xs, t, h => by
  rw [NS, List.any_cons]
  cases q x with
  | true => simp [h]
  | false => rw [cond_false, afZ q xs (t + 1) (by omega), Bool.false_or]
def PN (xs : List Int) : Option Int := if xs.length <= 1000 then some (NS y7 0 xs) else none
theorem aqH : aF prog 78 (L9 PN) := aB3 _ aqB PN fun xs r h => ⟨1001, by
 simp only [PN] at h
 split at h
 ·rename_i hl
  rw [<- h, Ik]
  exact wZ xs 0 (fun n (_ : Unit) t => JR (fun n => some (y7 n)) 1001 xs n t) (fun _ _ _ => True) (fun t xs _ => some (NS y7 t xs))
   (fun n _ t x rest ht hx _ ih => by
    simp only [JR, mM ht, lZ ht, cond_true, kV, Int.toNat_natCast, nV ht (by omega), hx, ih () trivial, NS, Option.bind_some]
    cases y7 x <;> rfl)
   (fun n _ _ => by simp only [JR, nM, cond_false]; rfl) 1001 () (by omega) trivial
 ·cases h⟩
def KT (xs : List Int) : Option Bool := if xs.length <= 1000 then some (xs.any y7) else none
theorem ap' : aF prog 45 (QH KT) := aBO PN aqH KT fun xs r h => ⟨0, by
 simp only [KT] at h
 split at h
 ·rename_i hl
  rw [<- h, Wj, PN, if_pos hl, Option.bind_some, afZ y7 xs 0 (by omega)]
 ·cases h⟩
def Uz (st : Int) (p : List Wg) (sh : List Int) : List (List Int) := (cs st).filter fun c => decide (kD p c = sh)
def Va (st : Int) (p : List Wg) (sh : List Int) : List (List Int) × Int := cond (qE st p == 0) (cond (sh.length != p.length) ([], 9) (cond (sh.any y7) ([], 9) (Uz st p sh, 0))) ([], qE st p)
def lW (st : Int) (p : List Wg) (sh : List Int) : Option (List (List Int) × Int) := if fair p /\ sh.length <= 1000 then some (Va st p sh) else none
theorem ayH (a b : Nat) : ((a : Int) != (b : Int)) = (a != b) := by
 by_cases c : a = b
 ·simp [c]
 ·rw [show ((a : Int) != (b : Int)) = true by rw [bne_iff_ne]; omega, show (a != b) = true by rw [bne_iff_ne]; exact c]
theorem ap5 : aF prog 19 (QE lW) := aA9 uV uX (fun n => some (qU n)) xG KT Np Nq ab2 ab3 ap' lW fun st p sh r h => ⟨1001, by
 simp only [lW] at h
 split at h
 ·rename_i hf
  obtain ⟨hf, hsh⟩ := hf
  rw [<- h, m19, uV, if_pos hf, Option.bind_some, Va]
  cases e : qE st p == 0 with
  | false => simp only [bne, e, Bool.not_false, cond_true, cond_false]
  | true =>
   have e0 : qE st p = 0 := by simpa using e
   have hst := (GU e0).1
   have hp := (GU e0).2.1
   have hlen : (cs st).length <= 27 := by rw [SH]; omega
   simp only [bne, e, Bool.not_true, cond_true, cond_false]
   have lb := ayH sh.length p.length
   simp only [bne] at lb
   rw [lb]
   cases (!(sh.length == p.length)) with
   | true => rfl
   | false =>
    rw [cond_false, cond_false, KT, if_pos hsh, Option.bind_some]
    cases sh.any y7 with
    | true => rfl
    | false =>
     rw [cond_false, cond_false]
     have main := U2 (cs st) [0, 0] (fun n (o : List (List Int)) t => F5 uV uX (fun n => some (qU n)) xG KT 1001 st p sh n t o) (fun xs o => o.length + xs.length <= 27 /\ ∀ c ∈ xs, c ∈ cs st)
      (fun xs o => some (o ++ xs.filter (fun c => decide (kD p c = sh)), 0))
      (fun n o t x rest ht hx hI ih => by
       obtain ⟨h1, h2⟩ := hI
       simp only [List.length_cons] at h1
       have FW : x = qU t := by rw [<- hx]; exact Oz st ht
       have hxm : x ∈ cs st := h2 x (List.mem_cons_self ..)
       have hs : small (o.length + 1) 16 = true := ET (by omega) (by omega)
       have h2' : ∀ c ∈ rest, c ∈ cs st := fun c hc => h2 c (List.mem_cons_of_mem _ hc)
       simp only [F5, PE hst, mM ht, cond_true, Option.bind_some, <- FW, Lp hf e0 hxm, xG, if_pos (show (kD p x).length <= 1000 by rw [KA]; omega), hs, kV, nV ht (by omega)]
       by_cases q : kD p x = sh
       ·rw [decide_eq_true q, cond_true, ih (o ++ [x]) ⟨by simp; omega, h2'⟩, List.filter_cons, if_pos (decide_eq_true q)]; simp
       ·rw [decide_eq_false q, cond_false, ih o ⟨by omega, h2'⟩, List.filter_cons, if_neg (by rw [decide_eq_false q]; exact Bool.false_ne_true)])
      (fun n o _ => by simp only [F5, PE hst, nM, cond_false, List.filter_nil, List.append_nil]) 1001 [] (by omega) ⟨by simpa using hlen, fun c hc => hc⟩
     simpa [Uz] using main
 ·cases h⟩
end Go.Proofs.YtfopcfnggdonkaaGreatDoor
