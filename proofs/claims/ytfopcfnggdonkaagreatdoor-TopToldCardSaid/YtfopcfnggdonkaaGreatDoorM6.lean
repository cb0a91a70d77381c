/-
 Who is framed: what the program computes.
-/
import Derived.Test.YtfopcfnggdonkaaGreatDoorM5
namespace Go.Proofs.YtfopcfnggdonkaaGreatDoor
open Go.Proofs.Tryz
open Go.RowKit
set_option linter.unusedVariables false
def PK (s : List Int) (v : Int) : Option Int := if s.length <= 1000 then some (fx (fun x => v == x) 0 s) else none
theorem aqE : aF prog 74 (L6 PK) := aiL PK fun s v r h => ⟨1001, by
 simp only [PK] at h
 split at h
 ·rename_i hl
  rw [<- h, UO]
  exact wZ s 0 (fun n (_ : Unit) t => JL 1001 s v n t) (fun _ _ _ => True) (fun t xs _ => some (fx (fun x => v == x) t xs))
   (fun n _ t x rest ht hx _ ih => by
    simp only [JL, mM ht, lZ ht, cond_true, kV, Int.toNat_natCast, nV ht (by omega), hx, ih () trivial, fx]
    cases (v == x) <;> rfl)
   (fun n _ _ => by simp only [JL, nM, cond_false]; rfl) 1001 () (by omega) trivial
 ·cases h⟩
def xE (s : List Int) (v : Int) : Option Bool := if s.length <= 1000 then some (decide (v ∈ s)) else none
theorem aqS (s : List Int) (v : Int) : (s.any fun x => v == x) = decide (v ∈ s) := by
 rw [Bool.eq_iff_iff, List.any_eq_true, decide_eq_true_eq]
 constructor
 ·rintro ⟨x, hx, h⟩; rw [eq_of_beq h]; exact hx
 ·exact fun h => ⟨v, h, beq_self_eq_true v⟩
theorem ab4 : aF prog 41 (yO xE) := aiJ PK aqE xE fun s v r h => ⟨0, by
 simp only [xE] at h
 split at h
 ·rename_i hl
  rw [<- h, Ia, PK, if_pos hl, Option.bind_some, Dz _ s 0 (by omega), aqS]
 ·cases h⟩
def fi (c : Cd) (l : List Int) : Nat -> List (List Int) -> Option Int
 | _, [] => none
 | k, w :: r => cond (!decide ((k : Int) ∈ l) && mk c l w) (some (k : Int)) (fi c l (k + 1) r)
def FQ (c : Cd) (b : Option (List Int) × Int) (l : List Int) : Option (List Int) × Int :=
 cond (b.1.isSome && decide ((b.1.getD []).length <= l.length)) b (match fi c l 0 c.2.1 with
  | some i => (some l, i)
  | none => b)
def I8 (b : Option (List Int) × Int) : List Int × Int × Int := match b.1 with
 | some l => (l, b.2, 0)
 | none => ([], 0, 5)
def TE (c : Cd) (s : Int) : Option (List Int) × Int := (co c.2.1.length s.toNat).foldl (FQ c) (none, 0)
def l9 (c : Cd) (s : Int) : Option (List Int × Int × Int) := if DC c = true then some (cond (decide (lI c = 0)) (cond (decide (1 <= s /\ s <= 10)) (I8 (TE c s)) ([], 0, 4)) ([], 0, lI c)) else none
theorem al8 {c : Cd} (h : lI c = 0) {w : List Int} (hw : w ∈ c.2.1) : wE c w = 0 := by
 obtain ⟨hm, _, _, hlen, hb⟩ := BJ h
 rw [wE, decide_eq_true (hlen w hw), cond_true]
 have : w.any (qC c.1) = false := List.any_eq_false.2 fun m hmm => by
  have := hb w hw m hmm
  simp only [qC, Bool.not_eq_true, Bool.not_eq_false', decide_eq_true_eq]
  rw [oH (by omega)]; omega
 rw [this]; rfl
theorem aCA {c : Cd} (h : lI c = 0) {w x : List Int} (hw : w ∈ c.2.1) {k : Nat} (hx : NQ c.2.1.length k x) : OL c x w = true :=
 aB' (by rw [zA, decide_eq_true h, cond_true]; exact al8 h hw) hx
theorem ap3 : aF prog 17 (P9 l9) := aA4 qN uJ DK xE zZ AA Nr Ns ap6 ab4 ap7 ap8 l9 fun c z r h => ⟨1001, by
 simp only [l9] at h
 split at h
 ·rename_i hs
  obtain ⟨h1, h2⟩ := Zd hs
  rw [<- h, m17, qN, if_pos hs, Option.bind_some, ZW]
  cases e : decide (lI c = 0) with
  | false => rfl
  | true =>
   have h0 := of_decide_eq_true e
   have hn := (BJ h0).2.1
   simp only [Bool.not_true, cond_false, cond_true, uJ, Option.bind_some]
   cases e2 : decide (1 <= z /\ z <= 10) with
   | false => rfl
   | true =>
    have hz := of_decide_eq_true e2
    simp only [Bool.not_true, cond_false, cond_true, DK, Option.bind_some]
    rw [pW (by omega), avF]
    have key : ∀ (l : List (List Int)) (b : Option (List Int)) (q : Int), (∀ x ∈ l, NQ c.2.1.length z.toNat x) -> xW qN uJ DK xE zZ AA 1001 c (lI c) (z, c) l b q = some (I8 (l.foldl (FQ c) (b, q))) := by
     intro l
     induction l with
     | nil => intro b q _; cases b <;> rfl
     | cons x r ih =>
      intro b q hl
      have hx := hl x (by simp)
      have hxl := afW hx
      have hpos : 0 < x.length := by
       have := hx.1
       cases x with
       | nil => exact absurd rfl this
       | cons _ _ => simp
      have hr := fun b q => ih b q fun y hy => hl y (by simp [hy])
      have inner : BX qN uJ DK xE zZ AA 1001 c b q x (fun y0 y1 => xW qN uJ DK xE zZ AA 1001 c (lI c) (z, c) r y0 y1) 1001 0 = some (I8 (r.foldl (FQ c) (match fi c x 0 c.2.1 with | some i => (some x, i) | none => (b, q)))) := by
       refine (wZ c.2.1 [] (fun n (_ : Unit) t => BX qN uJ DK xE zZ AA 1001 c b q x (fun y0 y1 => xW qN uJ DK xE zZ AA 1001 c (lI c) (z, c) r y0 y1) n t) (fun _ _ _ => True)
        (fun t xs _ => some (I8 (r.foldl (FQ c) (match fi c x t xs with | some i => (some x, i) | none => (b, q))))) (fun n _ t w rest ht hw _ Ui => ?_) (fun n _ _ => ?_) 1001 () (by omega) trivial)
       ·have hwm : w ∈ c.2.1 := hw ▸ getD_mem ht
        have e75 : xE x (t : Int) = some (decide ((t : Int) ∈ x)) := if_pos (by omega)
        have e59 : zZ c x w = some (mk c x w) := if_pos (aCA h0 hwm hx)
        simp only [BX, mM ht, lZ ht, cond_true, kV, Int.toNat_natCast, hw, nV ht (by omega), Ui () trivial, e75, Option.bind_some, fi]
        cases decide ((t : Int) ∈ x) with
        | true => rfl
        | false =>
         simp only [Bool.not_false, cond_true, e59, Option.bind_some, Bool.true_and]
         cases mk c x w with
         | false => rfl
         | true =>
          simp only [cond_true]
          rw [wJ (by simp only [Bool.and_true, decide_eq_true_eq]; exact hpos)]
          simp only [AA, if_pos (show 0 < x.length /\ x.length <= 1000 from ⟨hpos, by omega⟩), Option.bind_some]
          rw [hr]
       ·simp only [BX, nM, cond_false, fi]
        exact hr b q
      rw [List.foldl_cons]
      cases b with
      | none =>
       rw [xW]
       exact inner
      | some y =>
       rw [xW]
       simp only [Option.isNone_some, Bool.not_false, cond_true, Option.getD_some]
       rw [show decide ((x.length : Int) >= (y.length : Int)) = decide (y.length <= x.length) from decide_eq_decide.2 (by omega)]
       show _ = some (I8 (r.foldl (FQ c) (cond (true && decide (y.length <= x.length)) (some y, q) _)))
       rw [Bool.true_and]
       cases decide (y.length <= x.length) with
       | true => exact hr (some y) q
       | false => exact inner
    exact (key _ none 0 fun x hx => Ox.1 hx).trans rfl
 ·cases h⟩
end Go.Proofs.YtfopcfnggdonkaaGreatDoor
