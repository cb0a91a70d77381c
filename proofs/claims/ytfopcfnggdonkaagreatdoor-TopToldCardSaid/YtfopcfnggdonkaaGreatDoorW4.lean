/-
 Twins and Left of both, as plain functions.
-/
import Derived.Test.YtfopcfnggdonkaaGreatDoorW3
namespace Go.Proofs.YtfopcfnggdonkaaGreatDoor
open Go.Proofs.Tryz
open Go.RowKit
set_option linter.unusedVariables false
def qU (n : Int) : List Int := cond (n == 0) [0, 0] [aB (Int.tdiv (aB (n - 1)) 2), aB (1 - (aB ((Int.tmod (aB (n - 1)) 2) * 2)))]
theorem ab2 : aF prog 37 (H6 fun n => some (qU n)) := aBH _ fun n r h => ⟨0, by
 rw [<- h, Vy, qU]; cases n == 0 <;> rfl⟩
def cs (st : Int) : List (List Int) := (List.range (2 * st.toNat + 1)).map fun n => qU (n : Nat)
theorem SH (st : Int) : (cs st).length = 2 * st.toNat + 1 := by simp [cs]
theorem Oz (st : Int) {t : Nat} (h : t < (cs st).length) : (cs st).getD t [0, 0] = qU t := by
 rw [List.getD_eq_getElem?_getD, List.getElem?_eq_getElem h]
 simp [cs]
theorem asJ : ∀ st ∈ (List.range 14).map (fun (n : Nat) => (n : Int)), ∀ c ∈ cs st, -1 <= c.getD 1 0 /\ c.getD 1 0 <= 1 := by decide +kernel
theorem aDZ {st : Int} (h : 1 <= st /\ st <= 13) : st ∈ (List.range 14).map (fun (n : Nat) => (n : Int)) := by
 simp only [List.mem_map, List.mem_range]; exact ⟨st.toNat, by omega, by omega⟩
theorem PE {st : Int} (h : 1 <= st /\ st <= 13) : aB (aB (2 * st) + 1) = ((cs st).length : Int) := by
 rw [SH, oH (x := 2 * st) (by omega), oH (by omega)]; omega
def kD (p : List Wg) (c : List Int) : List Int := p.map (O0 (c.getD 0 0) (c.getD 1 0))
theorem Lp {st : Int} {p : List Wg} (hf : fair p) (h0 : qE st p = 0) {c : List Int} (hc : c ∈ cs st) : uX p (c.getD 0 0) (c.getD 1 0) = some (kD p c) := by
 rw [uX, if_pos ⟨hf, asJ st (aDZ (GU h0).1) c hc⟩, ak7 h0]; rfl
theorem KA (p : List Wg) (c : List Int) : (kD p c).length = p.length := by simp [kD]
def DF (f : List Int -> List Int) : List (List Int) -> List Int × List Int × Int
 | [] => ([0, 0], [0, 0], 14)
 | x :: xs => match xs.find? (fun y => decide (f x = f y)) with
  | some y => (x, y, 0)
  | none => DF f xs
def Zk (st : Int) (p : List Wg) : List Int × List Int × Int := cond (qE st p == 0) (DF (kD p) (cs st)) ([0, 0], [0, 0], qE st p)
def l7 (st : Int) (p : List Wg) : Option (List Int × List Int × Int) := if fair p then some (Zk st p) else none
def D6 (f : List Int -> List Int) (x : List Int) (k : Option (List Int × List Int × Int)) (l : List (List Int)) : Option (List Int × List Int × Int) := match l.find? (fun y => decide (f x = f y)) with
 | some y => some (x, y, 0)
 | none => k
theorem au1 {f : List Int -> List Int} {x y : List Int} {k : Option (List Int × List Int × Int)} {l : List (List Int)} (h : f x = f y) : D6 f x k (y :: l) = some (x, y, 0) := by simp [D6, h]
theorem au2 {f : List Int -> List Int} {x y : List Int} {k : Option (List Int × List Int × Int)} {l : List (List Int)} (h : ¬ f x = f y) : D6 f x k (y :: l) = D6 f x k l := by simp [D6, h]
theorem au3 {f : List Int -> List Int} {x : List Int} {l : List (List Int)} : D6 f x (some (DF f l)) l = some (DF f (x :: l)) := by
 simp only [D6, DF]
 split <;> rfl
theorem ap2 : aF prog 16 (P7 l7) := ok16 uV uX (fun n => some (qU n)) xG Np Nq ab2 ab3 l7 fun st p r h => ⟨1001, by
 simp only [l7] at h
 split at h
 ·rename_i hf
  rw [<- h, m16, uV, if_pos hf, Option.bind_some, Zk]
  cases e : qE st p == 0 with
  | false => simp only [bne, e, Bool.not_false, cond_true, cond_false]
  | true =>
   have e0 : qE st p = 0 := by simpa using e
   have hst := (GU e0).1
   have hp := (GU e0).2.1
   have hlen : (cs st).length <= 27 := by rw [SH]; omega
   simp only [bne, e, Bool.not_true, cond_true, cond_false]
   have inner : ∀ (i : Nat) (rest : List (List Int)) (rec : Int -> Option (List Int × List Int × Int)), i < (cs st).length -> (cs st).drop (i + 1) = rest -> qU i ∈ cs st -> BV uV uX (fun n => some (qU n)) xG 1001 st p (i : Int) rec 1001 0 = D6 (kD p) (qU i) (rec ((i + 1 : Nat) : Int)) rest := by
    intro i rest rec hi hr hmi
    have main := akO (cs st) [0, 0] (fun n (_ : Unit) t => BV uV uX (fun n => some (qU n)) xG 1001 st p (i : Int) rec n t) (fun t xs _ => D6 (kD p) (qU i) (rec ((i + 1 : Nat) : Int)) (xs.drop (i + 1 - t)))
     (fun n _ t x rest' ht hx hd _ ih => by
      have FW : x = qU t := by rw [<- hx]; exact Oz st ht
      have hxm : x ∈ cs st := TG ht hx
      simp only [BV, PE hst, mM ht, cond_true, Option.bind_some, nV ht (by omega), ih ()]
      by_cases c : t > i
      ·rw [decide_eq_true (show (t : Int) > i by omega), cond_true, Lp hf e0 hmi, Option.bind_some, <- FW, Lp hf e0 hxm, Option.bind_some, xG, if_pos (by rw [KA]; omega), Option.bind_some,
        show i + 1 - t = 0 by omega, show i + 1 - (t + 1) = 0 by omega, List.drop_zero, List.drop_zero]
       by_cases q : kD p (qU i) = kD p x
       ·rw [decide_eq_true q, cond_true, au1 q]
       ·rw [decide_eq_false q, cond_false, au2 q]
      ·rw [decide_eq_false (show ¬ (t : Int) > i by omega), cond_false, show i + 1 - t = (i + 1 - (t + 1)) + 1 by omega, List.drop_succ_cons])
     (fun n _ => by
      simp only [BV, PE hst, nM, cond_false, List.drop_nil, nV hi (by omega)]
      rfl) 1001 () 0 (by omega) (by omega)
    have main' : BV uV uX (fun n => some (qU n)) xG 1001 st p (i : Int) rec 1001 0 = _ := main
    rw [main']
    simp only [List.drop_zero, Nat.sub_zero, hr]
   have outer := akO (cs st) [0, 0] (fun n (_ : Unit) t => JK uV uX (fun n => some (qU n)) xG 1001 st p n t) (fun t xs _ => some (DF (kD p) xs))
    (fun n _ t x rest ht hx hd hr ih => by
     have FW : x = qU t := by rw [<- hx]; exact Oz st ht
     have hxm : x ∈ cs st := TG ht hx
     simp only [JK, PE hst, mM ht, cond_true]
     rw [inner t rest _ ht hr (FW ▸ hxm), ih (), au3, FW])
    (fun n _ => by simp only [JK, PE hst, nM, cond_false]; rfl) 1001 () 0 (by omega) (by omega)
   exact outer
 ·cases h⟩
end Go.Proofs.YtfopcfnggdonkaaGreatDoor
