/-
 Distances, coalitions, copies: what the program computes.
-/
import Derived.Test.YtfopcfnggdonkaaGreatDoorM1
namespace Go.Proofs.YtfopcfnggdonkaaGreatDoor
open Go.Proofs.Tryz
open Go.RowKit
set_option linter.unusedVariables false
def yY (b : List Int) : Nat -> List Int -> Int -> Int
 | _, [], n => n
 | t, x :: xs, n => yY b (t + 1) xs (cond (x != b.getD t 0) (n + 1) n)
theorem Oa (b : List Int) : ∀ (xs : List Int) (t : Nat) (n : Int), n <= yY b t xs n /\ yY b t xs n <= n + xs.length
 | [], t, n => by simp [yY]
 | x :: xs, t, n => by
  have ih := Oa b xs (t + 1) (cond (x != b.getD t 0) (n + 1) n)
  simp only [yY, List.length_cons]
  cases e : (x != b.getD t 0) <;> rw [e] at ih <;> simp only [cond_true, cond_false] at ih ⊢ <;> omega
def ap (a b : List Int) : Int := yY b 0 a 0
def xC (a b : List Int) : Option Int := if a.length <= 1000 /\ a.length <= b.length then some (ap a b) else none
theorem ab1 : aF prog 36 (H5 xC) := aBG xC fun a b r h => ⟨1001, by
 simp only [xC] at h
 split at h
 ·rename_i hl
  rw [<- h, Hy]
  exact wZ a 0 (fun n s t => F6 1001 a b n s t) (fun t _ s => 0 <= s /\ s <= t) (fun t xs s => some (yY b t xs s))
   (fun n s t x rest ht hx hI ih => by
    have e := ih (cond (x != b.getD t 0) (s + 1) s)
    simp only [F6, mM ht, lZ ht, lZ (show t < b.length by omega), cond_true, kV, Int.toNat_natCast, nV ht (by omega), hx, yY]
    rw [bne_comm (a := b.getD t 0)]
    cases hb : (x != b.getD t 0) with
    | true => rw [hb] at e; rw [cond_true, oH (by omega)]; exact e (by simp only [cond_true]; omega)
    | false => rw [hb] at e; exact e (by simp only [cond_false]; omega))
   (fun n s hI => by simp only [F6, nM, cond_false]; rfl) 1001 0 (by omega) ⟨Int.le_refl _, Int.le_refl _⟩
 ·cases h⟩
def FO (a : List Int) (l : List (List Int)) : List Int := l.map (ap a)
def BN (ws : List (List Int)) (t : Nat) (rest : List (List Int)) : List Int := (rest.zipIdx t).flatMap fun p => FO p.1 (ws.take p.2)
theorem aeE (ws : List (List Int)) (t : Nat) (x : List Int) (r : List (List Int)) : BN ws t (x :: r) = FO x (ws.take t) ++ BN ws (t + 1) r := by
 simp [BN, List.zipIdx_cons]
def jU (n : Int) (l : List Int) : Int := l.foldl gI n
theorem BJ {c : Cd} (h : lI c = 0) : (2 <= c.1 /\ c.1 <= 4) /\ (0 < c.2.1.length /\ c.2.1.length <= 10) /\ (1 <= sz c /\ sz c <= 8) /\ (∀ w ∈ c.2.1, w.length = sz c) /\ ∀ w ∈ c.2.1, ∀ m ∈ w, 0 <= m /\ m < c.1 := by
 unfold lI at h
 cases e1 : decide (2 <= c.1 /\ c.1 <= 4) with
 | false => rw [e1] at h; cases h
 | true =>
  rw [e1, cond_true] at h
  cases e2 : decide (c.2.1.length = 0) with
  | true => rw [e2] at h; cases h
  | false =>
   rw [e2, cond_false] at h
   cases e3 : decide (10 < c.2.1.length) with
   | true => rw [e3] at h; cases h
   | false =>
    rw [e3, cond_false] at h
    cases e4 : decide (1 <= sz c /\ sz c <= 8) with
    | false => rw [e4] at h; cases h
    | true =>
     rw [e4, cond_true] at h
     cases e5 : c.2.1.any fun w => !decide (w.length = sz c) with
     | true => rw [e5] at h; cases h
     | false =>
      rw [e5, cond_false] at h
      cases e6 : c.2.1.any fun w => w.any (qC c.1) with
      | true => rw [e6] at h; cases h
      | false =>
       have a1 := of_decide_eq_true e1
       have a2 := of_decide_eq_false e2
       have a3 := of_decide_eq_false e3
       refine ⟨a1, ⟨by omega, by omega⟩, of_decide_eq_true e4, fun w hw => ?_, fun w hw m hm => ?_⟩
       ·simpa using List.any_eq_false.1 e5 w hw
       ·have := List.any_eq_false.1 e6 w hw
        simp only [Bool.not_eq_true] at this
        have h2 := List.any_eq_false.1 this m hm
        simp only [qC, Bool.not_eq_true, Bool.not_eq_false', decide_eq_true_eq] at h2
        rw [oH (by omega)] at h2
        omega
def lC (c : Cd) : Option (Int × Int) := if DC c = true then some (cond (decide (lI c = 0)) (cond (decide (c.2.1.length = 1)) (0, 14) (jU (sz c) (BN c.2.1 0 c.2.1), 0)) (0, lI c)) else none
theorem ZW (a b : Int) : (a != b) = !decide (a = b) := by
 by_cases h : a = b <;> simp [h]
theorem Oj (a b : Int) : (a == b) = decide (a = b) := by
 by_cases h : a = b <;> simp [h]
theorem ayE (n : Nat) : ((n : Int) == 1) = decide (n = 1) := by
 rw [Oj]; exact decide_eq_decide.2 (by omega)
theorem abZ : aF prog 15 (HY lC) := aA1 qN qH xC Nr QR ab1 lC fun c r h => ⟨1001, by
 simp only [lC] at h
 split at h
 ·rename_i hs
  obtain ⟨h1, h2⟩ := Zd hs
  rw [<- h, m15, qN, if_pos hs, Option.bind_some, ZW]
  cases e : decide (lI c = 0) with
  | false => rfl
  | true =>
   obtain ⟨_, hn, hz, hw, _⟩ := BJ (of_decide_eq_true e)
   simp only [Bool.not_true, cond_false, cond_true, ayE]
   cases decide (c.2.1.length = 1) with
   | true => rfl
   | false =>
    rw [cond_false, qH, if_pos hn.1, Option.bind_some]
    refine (wZ c.2.1 [] (fun n s t => EG qN qH xC 1001 c n s t) (fun t rest _ => rest = c.2.1.drop t) (fun t xs s => some (jU s (BN c.2.1 t xs), 0)) (fun n s t x rest ht hx hI ih => ?_)
     (fun n s hI => by simp only [EG, nM, cond_false]; rfl) 1001 (sz c : Int) (by omega) rfl).trans rfl
    have hxw : x ∈ c.2.1 := by rw [<- hx, List.getD_eq_getElem?_getD, List.getElem?_eq_getElem ht]; exact List.getElem_mem _
    have htk : (c.2.1.take t).length = t := by simp; omega
    have hrest : rest = c.2.1.drop (t + 1) := by
     have := congrArg List.tail hI
     rwa [List.tail_cons, List.tail_drop] at this
    simp only [EG, mM ht, lZ ht, cond_true, kV, aeE, jU, List.foldl_append]
    rw [pW (by omega)]
    refine (U2 (c.2.1.take t) [] (fun n' s k => JJ qN qH xC 1001 c (t : Int) (fun y0 y1 => EG qN qH xC 1001 c n y0 y1) n' s k) (fun ys _ => ∀ y ∈ ys, y.length = sz c)
     (fun ys s => EG qN qH xC 1001 c n ((FO x ys).foldl gI s) ((t + 1 : Nat) : Int)) (fun n' s k y ys hk hy hI' ih' => ?_) (fun n' s _ => ?_) 1001 s (by omega) (fun y hy => hw y (List.mem_of_mem_take hy))).trans
     (ih _ hrest)
    ·have hkc : k < c.2.1.length := by omega
     have e53 : xC x y = some (ap x y) := if_pos ⟨h2 x hxw, by rw [hI' y (by simp), hw x hxw]; exact Nat.le_refl _⟩
     simp only [JJ, Int.toNat_natCast, mM hk, lZ hk, cond_true, kV, hx, hy, e53, Option.bind_some, nV hk (by omega), ih' _ (fun y' hy' => hI' y' (by simp [hy'])), FO, List.map_cons, List.foldl_cons]
    ·simp only [JJ, Int.toNat_natCast, nM, cond_false, FO, List.map_nil, List.foldl_nil, nV ht (by omega)]
 ·cases h⟩
theorem Zo {c : Cd} {w : List Int} (h : wE c w = 0) (hc : lI c = 0) : w.length = sz c /\ ∀ m ∈ w, 0 <= m /\ m < c.1 := by
 obtain ⟨hm, _⟩ := BJ hc
 unfold wE at h
 cases e : decide (w.length = sz c) with
 | false => rw [e] at h; cases h
 | true =>
  rw [e, cond_true] at h
  cases e6 : w.any (qC c.1) with
  | true => rw [e6] at h; cases h
  | false =>
   refine ⟨of_decide_eq_true e, fun m hmm => ?_⟩
   have h2 := List.any_eq_false.1 e6 m hmm
   simp only [qC, Bool.not_eq_true, Bool.not_eq_false', decide_eq_true_eq] at h2
   rw [oH (by omega)] at h2
   omega
def arr (f : Nat -> Nat) : List Int := (List.range 8).map fun k => ((f k : Nat) : Int)
theorem MO (f : Nat -> Nat) : (arr f).length = 8 := by simp [arr]
theorem DV (f : Nat -> Nat) {t : Nat} (h : t < 8) : (arr f).getD t 0 = f t := by simp [arr, h]
theorem DU {f g : Nat -> Nat} (h : ∀ k, k < 8 -> f k = g k) : arr f = arr g := by
 unfold arr
 exact List.map_congr_left fun k hk => by rw [h k (List.mem_range.1 hk)]
theorem Oh (f : Nat -> Nat) {t x : Nat} (h : t < 8) : (arr f).set t ((x : Nat) : Int) = arr fun k => if k = t then x else f k := by
 apply List.ext_getElem
 ·simp [arr]
 ·intro i h1 h2
  simp only [MO] at h2
  simp only [List.getElem_set, arr, List.getElem_map, List.getElem_range]
  by_cases e : t = i
  ·simp [e]
  ·rw [if_neg e, if_neg (fun q => e q.symm)]
def xB (w : List Int) (k : Nat) : Nat := if k < w.length then 2 ^ (w.getD k 0).toNat else 0
def lQ (ws : List (List Int)) (k : Nat) : Nat := ws.foldl (fun a w => a ||| xB w k) 0
def okW (w : List Int) : Bool := decide (w.length <= 8) && w.all fun m => decide (0 <= m /\ m < 8)
theorem aiO {w : List Int} (h : okW w = true) : w.length <= 8 /\ ∀ m ∈ w, 0 <= m /\ m < 8 := by simpa [okW] using h
theorem al7 {w : List Int} (h : okW w = true) (k : Nat) : xB w k < 256 := by
 unfold xB
 split
 ·rename_i hk
  have := (aiO h).2 (w.getD k 0) (by rw [List.getD_eq_getElem?_getD, List.getElem?_eq_getElem hk]; exact List.getElem_mem _)
  exact (Nat.pow_lt_pow_right (by decide) (show (w.getD k 0).toNat < 8 by omega) : 2 ^ (w.getD k 0).toNat < 2 ^ 8)
 ·decide
theorem U1 {α : Type} (g : α -> Nat) : ∀ (l : List α) (a : Nat), a < 256 -> (∀ x ∈ l, g x < 256) -> l.foldl (fun a x => a ||| g x) a < 256
 | [], a, h, _ => h
 | x :: r, a, h, hl => by
  rw [List.foldl_cons]
  exact U1 g r _ (Nat.or_lt_two_pow (n := 8) h (hl x (by simp))) fun y hy => hl y (by simp [hy])
theorem aiQ {α : Type} (g : α -> Nat) (j : Nat) : ∀ (l : List α) (a : Nat), (l.foldl (fun a x => a ||| g x) a).testBit j = (a.testBit j || l.any fun x => (g x).testBit j)
 | [], a => by simp
 | x :: r, a => by rw [List.foldl_cons, aiQ g j r, Nat.testBit_or, List.any_cons, Bool.or_assoc]
def AB (ws : List (List Int)) : Option (List Int) := if ws.length <= 1000 /\ ws.all okW = true then some (arr (lQ ws)) else none
theorem ab7 : aF prog 77 (IB AB) := aB1 AB fun ws r h => ⟨1001, by
 simp only [AB] at h
 split at h
 ·rename_i hl
  have hok : ∀ w ∈ ws, okW w = true := List.all_eq_true.1 hl.2
  rw [<- h, Ii]
  refine Yr ws [] (fun n s t => F9 1001 ws n t s) (fun t rest s => s = [arr (lQ (ws.take t))]) (fun r => r = some (arr (lQ ws))) (fun n s t x rest ht hx hd hI ih => ?_) (fun n s hI => ?_) 1001 _ (by omega) rfl
  ·subst hI
   have hxw : x ∈ ws := by rw [<- hx, List.getD_eq_getElem?_getD, List.getElem?_eq_getElem ht]; exact List.getElem_mem _
   obtain ⟨hx8, hxm⟩ := aiO (hok x hxw)
   have hlt : ∀ k, lQ (ws.take t) k < 256 := fun k => U1 _ _ _ (by decide) fun w hw => al7 (hok w (List.mem_of_mem_take hw)) k
   simp only [F9, mM ht, lZ ht, cond_true, kV]
   refine Yr x 0 (fun n' s k => JP 1001 ws (t : Int) (fun y0 y1 => F9 1001 ws n y0 y1) n' k s) (fun k ys s => s = [arr fun q => if q < k then lQ (ws.take t) q ||| xB x q else lQ (ws.take t) q]) (fun r => r = some (arr (lQ ws)))
    (fun n' s k y ys hk hy hd' hI' ih' => ?_) (fun n' s hI' => ?_) 1001 _ (by omega) (by congr 1)
   ·subst hI'
    have hk8 : k < 8 := by omega
    have hyb := hxm y (by rw [<- hy, List.getD_eq_getElem?_getD, List.getElem?_eq_getElem hk]; exact List.getElem_mem _)
    have hyn : y = ((y.toNat : Nat) : Int) := by omega
    have hb1 : ((1 : Int) * 2 ^ min (Int.toNat y) 8) = (2 ^ min (Int.toNat y) 8) := Int.one_mul _
    have hone : IntKind.wrap .u8 (1 * 2 ^ min (Int.toNat y) 8) = ((2 ^ y.toNat : Nat) : Int) := by
     have := aCF (c := y.toNat) (by omega)
     rwa [<- hyn] at this
    have hgx : (if k < k then lQ (ws.take t) k ||| xB x k else lQ (ws.take t) k) = lQ (ws.take t) k := if_neg (Nat.lt_irrefl k)
    simp only [JP, Int.toNat_natCast, hx, mM hk, lZ hk, cond_true, kV, hy, List.getD_cons_zero, MO, DV _ hk8, hgx, hone, nV hk (by omega)]
    rw [pW (show 0 <= (k : Int) /\ (k : Int) < 8 by omega), pW hyb.1, pW (show 0 <= (k : Int) /\ (k : Int) < 8 by omega), wJ (by simp [hk8]),
     acO (hlt k) (Nat.pow_lt_pow_right (by decide) (show y.toNat < 8 by omega) : 2 ^ y.toNat < 2 ^ 8)]
    refine ih' _ ?_
    rw [List.set_cons_zero, Oh _ hk8]
    congr 1
    refine DU fun q hq => ?_
    by_cases e1 : q = k
    ·subst e1
     rw [if_pos rfl, if_pos (Nat.lt_succ_self q), xB, if_pos hk, hy]
    ·rw [if_neg e1]
     by_cases e2 : q < k
     ·rw [if_pos e2, if_pos (by omega)]
     ·rw [if_neg e2, if_neg (by omega)]
   ·subst hI'
    simp only [JP, Int.toNat_natCast, hx, nM, cond_false, nV ht (by omega)]
    refine ih _ ?_
    congr 1
    refine DU fun q hq => ?_
    have htk : ws.take (t + 1) = ws.take t ++ [x] := by
     rw [List.take_add_one, List.getElem?_eq_getElem ht]
     rw [List.getD_eq_getElem?_getD, List.getElem?_eq_getElem ht] at hx
     simp only [Option.getD_some] at hx
     rw [hx]; rfl
    have e : lQ (ws.take (t + 1)) q = lQ (ws.take t) q ||| xB x q := by
     rw [htk]; unfold lQ; rw [List.foldl_append]; rfl
    rw [e]
    by_cases e : q < x.length
    ·rw [if_pos e]
    ·rw [if_neg e, xB, if_neg e, Nat.or_zero]
  ·subst hI
   simp only [F9, nM, cond_false, List.take_length]; rfl
 ·cases h⟩
def pY (c : Cd) (l : List Int) (k : Nat) : Nat := l.foldl (fun a i => a ||| lQ [c.2.1.getD i.toNat []] k) 0
def OM (c : Cd) (l : List Int) : Bool := l.all fun i => decide (0 <= i /\ i < (c.2.1.length : Int))
theorem aiN {c : Cd} {l : List Int} (h : OM c l = true) : ∀ i ∈ l, 0 <= i /\ i < (c.2.1.length : Int) := by simpa [OM] using h
def PM (c : Cd) (l : List Int) : Option (List Int) := if l.length <= 1000 /\ c.2.1.length <= 1000 /\ c.2.1.all okW = true /\ OM c l = true then some (arr (pY c l)) else none
theorem Iz {ws : List (List Int)} (h : ∀ w ∈ ws, okW w = true) (k : Nat) : lQ ws k < 256 := U1 _ _ _ (by decide) fun w hw => al7 (h w hw) k
theorem getD_mem {α : Type} {l : List α} {i : Nat} {d : α} (h : i < l.length) : l.getD i d ∈ l := by
 rw [List.getD_eq_getElem?_getD, List.getElem?_eq_getElem h]; exact List.getElem_mem _
theorem take_succ' {α : Type} {l : List α} {t : Nat} {d x : α} (h : t < l.length) (hx : l.getD t d = x) : l.take (t + 1) = l.take t ++ [x] := by
 rw [List.take_add_one, List.getElem?_eq_getElem h]
 rw [List.getD_eq_getElem?_getD, List.getElem?_eq_getElem h] at hx
 simp only [Option.getD_some] at hx
 rw [hx]; rfl
theorem aqF : aF prog 75 (QL PM) := aBZ AB ab7 PM fun c l r h => ⟨1001, by
 simp only [PM] at h
 split at h
 ·rename_i hl
  obtain ⟨hl1, hl2, hl3, hl4⟩ := hl
  have hok : ∀ w ∈ c.2.1, okW w = true := List.all_eq_true.1 hl3
  have hin := aiN hl4
  rw [<- h, Ig]
  refine Yr l 0 (fun n s t => F8 AB 1001 c l n t s) (fun t rest s => s = [arr (pY c (l.take t))]) (fun r => r = some (arr (pY c l))) (fun n s t x rest ht hx hd hI ih => ?_) (fun n s hI => ?_) 1001 _ (by omega) rfl
  ·subst hI
   have hxl := hin x (hx ▸ getD_mem ht)
   have hwo : okW (c.2.1.getD x.toNat []) = true := hok _ (getD_mem (by omega))
   have hlt : ∀ k, pY c (l.take t) k < 256 := fun k => U1 _ _ _ (by decide) fun i hi => by
    have := hin i (List.mem_of_mem_take hi)
    exact Iz (fun w hw => by rw [List.mem_singleton.1 hw]; exact hok _ (getD_mem (by omega))) k
   have Pm : AB [c.2.1.getD x.toNat []] = some (arr (lQ [c.2.1.getD x.toNat []])) := if_pos ⟨by simp, by simp only [List.all_cons, List.all_nil, Bool.and_true]; exact hwo⟩
   have hlt2 : ∀ k, lQ [c.2.1.getD x.toNat []] k < 256 := Iz fun w hw => by rw [List.mem_singleton.1 hw]; exact hwo
   simp only [F8, mM ht, lZ ht, cond_true, kV, Int.toNat_natCast, hx]
   rw [pW hxl, Pm, Option.bind_some]
   have key : pY c (l.take (t + 1)) = fun k => pY c (l.take t) k ||| lQ [c.2.1.getD x.toNat []] k := by
    funext k; rw [take_succ' ht hx]; unfold pY; rw [List.foldl_append]; rfl
   refine ac5 0 8 (by decide) (fun n' s k => JM AB 1001 c l (t : Int) (arr (lQ [c.2.1.getD x.toNat []])) (fun y0 y1 => F8 AB 1001 c l n y0 y1) n' k s)
    (fun k s => s = [arr fun q => if (q : Int) < k then pY c (l.take t) q ||| lQ [c.2.1.getD x.toNat []] q else pY c (l.take t) q]) (fun r => r = some (arr (pY c l)))
    (fun n' s k hk0 hk hI' ih' => ?_) (fun n' s hI' => ?_) 1001 _ (by decide) (congrArg (fun z => [z]) (DU fun q hq => by rw [if_neg (by omega)]))
   ·subst hI'
    obtain ⟨k, rfl⟩ : ∃ j : Nat, k = j := ⟨k.toNat, by omega⟩
    have hk8 : k < 8 := by omega
    have hgx : (if (k : Int) < (k : Int) then pY c (l.take t) k ||| lQ [c.2.1.getD x.toNat []] k else pY c (l.take t) k) = pY c (l.take t) k := if_neg (Int.lt_irrefl _)
    simp only [JM, Int.toNat_natCast, List.getD_cons_zero, MO, DV _ hk8, hgx]
    rw [decide_eq_true hk, cond_true, pW ⟨hk0, hk⟩, pW ⟨hk0, hk⟩, pW ⟨hk0, hk⟩, wJ (by simp [hk8]), acO (hlt k) (hlt2 k), oH (by omega)]
    refine ih' _ ?_
    rw [List.set_cons_zero, Oh _ hk8]
    congr 1
    refine DU fun q hq => ?_
    by_cases e1 : q = k
    ·subst e1
     rw [if_pos rfl, if_pos (by omega)]
    ·rw [if_neg e1]
     by_cases e2 : q < k
     ·rw [if_pos (by omega), if_pos (by omega)]
     ·rw [if_neg (by omega), if_neg (by omega)]
   ·subst hI'
    simp only [JM, show decide ((8 : Int) < 8) = false from rfl, cond_false, nV ht (by omega)]
    refine ih _ ?_
    congr 1
    rw [key]
    exact DU fun q hq => if_pos (by omega)
  ·subst hI
   simp only [F8, nM, cond_false, List.take_length]; rfl
 ·cases h⟩
def okA (a : List Int) : Bool := decide (a.length = 8) && a.all fun m => decide (0 <= m /\ m < 256)
theorem Je {a : List Int} (h : okA a = true) : a.length = 8 /\ ∀ m ∈ a, 0 <= m /\ m < 256 := by simpa [okA] using h
theorem aiM {f : Nat -> Nat} (h : ∀ k, f k < 256) : okA (arr f) = true := by
 refine Bool.and_eq_true_iff.2 ⟨decide_eq_true (MO f), List.all_eq_true.2 fun m hm => decide_eq_true ?_⟩
 obtain ⟨k, _, rfl⟩ := List.mem_map.1 hm
 have := h k; omega
theorem acH {a : List Int} (h : okA a = true) : a = arr fun k => (a.getD k 0).toNat := by
 obtain ⟨h1, h2⟩ := Je h
 apply List.ext_getElem
 ·rw [h1, MO]
 ·intro i h3 h4
  simp only [arr, List.getElem_map, List.getElem_range, List.getD_eq_getElem?_getD, List.getElem?_eq_getElem h3, Option.getD_some]
  have := h2 a[i] (List.getElem_mem _); omega
def KX (a b : List Int) : Option (List Int) := if okA a = true /\ okA b = true then some (arr fun k => (a.getD k 0).toNat &&& (b.getD k 0).toNat) else none
theorem aqG : aF prog 76 (QM KX) := aB0 KX fun a b r h => ⟨1001, by
 simp only [KX] at h
 split at h
 ·rename_i hl
  have ea := acH hl.1
  have eb := acH hl.2
  have la : ∀ k, k < 8 -> (a.getD k 0).toNat < 256 := fun k hk => by
   obtain ⟨h1, h2⟩ := Je hl.1
   have := h2 (a.getD k 0) (getD_mem (by omega)); omega
  have lb : ∀ k, k < 8 -> (b.getD k 0).toNat < 256 := fun k hk => by
   obtain ⟨h1, h2⟩ := Je hl.2
   have := h2 (b.getD k 0) (getD_mem (by omega)); omega
  rw [<- h, Ih]
  generalize hfa : (fun k => (a.getD k 0).toNat) = fa at ea
  have la' : ∀ k, k < 8 -> fa k < 256 := fun k hk => by rw [<- hfa]; exact la k hk
  have hres : (arr fun k => (a.getD k 0).toNat &&& (b.getD k 0).toNat) = arr fun k => fa k &&& (b.getD k 0).toNat := by rw [<- hfa]
  rw [hres, ea]
  refine ac5 0 8 (by decide) (fun n' s k => JO 1001 b n' k s) (fun k s => s = [arr fun q => if (q : Int) < k then fa q &&& (b.getD q 0).toNat else fa q]) (fun r => r = some (arr fun k => fa k &&& (b.getD k 0).toNat))
   (fun n' s k hk0 hk hI' ih' => ?_) (fun n' s hI' => ?_) 1001 _ (by decide) (congrArg (fun z => [z]) (DU fun q hq => by rw [if_neg (by omega)]))
  ·subst hI'
   obtain ⟨k, rfl⟩ : ∃ j : Nat, k = j := ⟨k.toNat, by omega⟩
   have hk8 : k < 8 := by omega
   have hgx : (if (k : Int) < (k : Int) then fa k &&& (b.getD k 0).toNat else fa k) = fa k := if_neg (Int.lt_irrefl _)
   have hbk : b.getD k 0 = (((b.getD k 0).toNat : Nat) : Int) := by
    obtain ⟨h1, h2⟩ := Je hl.2
    have := h2 (b.getD k 0) (getD_mem (by omega)); omega
   have hand : IW .u8 ((fa k : Nat) : Int) (b.getD k 0) = ((fa k &&& (b.getD k 0).toNat : Nat) : Int) := by
    have := aq2 (la' k hk8) (lb k hk8)
    rwa [<- hbk] at this
   simp only [JO, Int.toNat_natCast, List.getD_cons_zero, MO, DV _ hk8, hgx, hand]
   rw [decide_eq_true hk, cond_true, pW ⟨hk0, hk⟩, pW ⟨hk0, hk⟩, pW ⟨hk0, hk⟩, wJ (by simp [hk8]), oH (by omega)]
   refine ih' _ ?_
   rw [List.set_cons_zero, Oh _ hk8]
   congr 1
   refine DU fun q hq => ?_
   by_cases e1 : q = k
   ·subst e1
    rw [if_pos rfl, if_pos (by omega)]
   ·rw [if_neg e1]
    by_cases e2 : q < k
    ·rw [if_pos (by omega), if_pos (by omega)]
    ·rw [if_neg (by omega), if_neg (by omega)]
  ·subst hI'
   simp only [JO, show decide ((8 : Int) < 8) = false from rfl, cond_false, List.getD_cons_zero]
   exact congrArg some (DU fun q hq => if_pos (by omega))
 ·cases h⟩
def mk (c : Cd) (l w : List Int) : Bool := (List.range w.length).all fun k => l.any fun i => decide ((c.2.1.getD i.toNat []).getD k 0 = w.getD k 0)
theorem aq4 (f g : Nat -> Nat) : DT.beq (.arr 8 (.int .u8)) (arr f) (arr g) = (List.range 8).all fun k => decide (f k = g k) := by
 simp only [DT.beq]
 rw [Bool.eq_iff_iff, List.all_eq_true, List.all_eq_true]
 constructor <;> intro h k hk
 ·have := h k hk
  have e1 := DV f (List.mem_range.1 hk)
  have e2 := DV g (List.mem_range.1 hk)
  have : decide ((arr f).getD k 0 = (arr g).getD k 0) = true := this
  rw [e1, e2] at this
  have := of_decide_eq_true this
  exact decide_eq_true (by omega)
 ·have := of_decide_eq_true (h k hk)
  show decide ((arr f).getD k 0 = (arr g).getD k 0) = true
  rw [DV f (List.mem_range.1 hk), DV g (List.mem_range.1 hk), this]
  exact decide_eq_true rfl
theorem aqR {a j : Nat} : (a &&& 2 ^ j = 2 ^ j) ↔ a.testBit j = true := by
 constructor
 ·intro h
  have := congrArg (fun z => z.testBit j) h
  simpa [Nat.testBit_and, Nat.testBit_two_pow_self] using this
 ·intro h
  apply Nat.eq_of_testBit_eq
  intro i
  rw [Nat.testBit_and, Nat.testBit_two_pow]
  by_cases e : j = i
  ·subst e; simp [h]
  ·simp [e]
theorem arE {m j : Nat} : (2 ^ m).testBit j = decide (m = j) := Nat.testBit_two_pow
theorem Yf (w : List Int) (k : Nat) : lQ [w] k = xB w k := by
 show 0 ||| xB w k = _
 rw [Nat.zero_or]
theorem az5 {c : Cd} {l : List Int} {k j : Nat} (hk : ∀ w ∈ c.2.1, k < w.length) (hm : ∀ w ∈ c.2.1, ∀ m ∈ w, 0 <= m) (hl : ∀ i ∈ l, 0 <= i /\ i < (c.2.1.length : Int)) : (pY c l k).testBit j = l.any fun i => decide ((c.2.1.getD i.toNat []).getD k 0 = (j : Int)) := by
 unfold pY
 rw [aiQ, Nat.zero_testBit, Bool.false_or, Bool.eq_iff_iff, List.any_eq_true, List.any_eq_true]
 refine exists_congr fun i => and_congr_right fun hi => ?_
 have hi' := hl i hi
 have hw : c.2.1.getD i.toNat [] ∈ c.2.1 := getD_mem (by omega)
 have hkw := hk _ hw
 have h0 := hm _ hw ((c.2.1.getD i.toNat []).getD k 0) (getD_mem hkw)
 rw [Yf, xB, if_pos hkw, arE, decide_eq_true_eq, decide_eq_true_eq]
 omega
def OL (c : Cd) (l w : List Int) : Bool := decide (lI c = 0) && OM c l && decide (l.length <= 1000) && decide (wE c w = 0)
theorem aB9 {c : Cd} {l w : List Int} (h : OL c l w = true) : lI c = 0 /\ OM c l = true /\ l.length <= 1000 /\ wE c w = 0 := by
 simp only [OL, Bool.and_eq_true, decide_eq_true_eq] at h; exact ⟨h.1.1.1, h.1.1.2, h.1.2, h.2⟩
theorem aCB {c : Cd} (h : lI c = 0) : ∀ w ∈ c.2.1, okW w = true := fun w hw => by
 obtain ⟨hm, _, hz, hl, hb⟩ := BJ h
 simp only [okW, Bool.and_eq_true, decide_eq_true_eq, List.all_eq_true]
 exact ⟨by rw [hl w hw]; exact hz.2, fun m hmm => by have := hb w hw m hmm; omega⟩
theorem aCC {c : Cd} {w : List Int} (hc : lI c = 0) (h : wE c w = 0) : okW w = true := by
 obtain ⟨hm, _, hz, _⟩ := BJ hc
 obtain ⟨h1, h2⟩ := Zo h hc
 simp only [okW, Bool.and_eq_true, decide_eq_true_eq, List.all_eq_true]
 exact ⟨by rw [h1]; exact hz.2, fun m hmm => by have := h2 m hmm; omega⟩
def zZ (c : Cd) (l w : List Int) : Option Bool := if OL c l w = true then some (mk c l w) else none
theorem ap7 : aF prog 42 (LV zZ) := aBL PM KX AB aqF aqG ab7 zZ fun c l w r h => ⟨0, by
 simp only [zZ] at h
 split at h
 ·rename_i ho
  obtain ⟨hc, hL, hl, hw⟩ := aB9 ho
  obtain ⟨hm, hn, hz, hlen, hb⟩ := BJ hc
  obtain ⟨w1, w2⟩ := Zo hw hc
  have hin := aiN hL
  have hoc := aCB hc
  have how := aCC hc hw
  have e56 : PM c l = some (arr (pY c l)) := if_pos ⟨hl, by omega, List.all_eq_true.2 hoc, hL⟩
  have Pm : AB [w] = some (arr (lQ [w])) := if_pos ⟨by simp, by simpa using how⟩
  have l1 : ∀ k, pY c l k < 256 := fun k => U1 _ _ _ (by decide) fun i hi => by
   have := hin i hi
   exact Iz (fun w hw => by rw [List.mem_singleton.1 hw]; exact hoc _ (getD_mem (by omega))) k
  have l2 : ∀ k, lQ [w] k < 256 := Iz fun w' hw' => by rw [List.mem_singleton.1 hw']; exact how
  have e84 : KX (arr (pY c l)) (arr (lQ [w])) = some (arr fun k => pY c l k &&& lQ [w] k) := by
   rw [KX, if_pos ⟨aiM l1, aiM l2⟩]
   exact congrArg some (DU fun k hk => by rw [DV _ hk, DV _ hk, Int.toNat_natCast, Int.toNat_natCast])
  rw [<- h, We, e56, Option.bind_some, Pm, Option.bind_some, e84, Option.bind_some, Option.bind_some, aq4]
  refine congrArg some ?_
  rw [mk, Bool.eq_iff_iff, List.all_eq_true, List.all_eq_true]
  have one : ∀ k, k < w.length -> ((pY c l k &&& lQ [w] k = lQ [w] k) ↔ (l.any fun i => decide ((c.2.1.getD i.toNat []).getD k 0 = w.getD k 0)) = true) := fun k hk => by
   have h0 := w2 (w.getD k 0) (getD_mem hk)
   rw [Yf, xB, if_pos hk, aqR, az5 (fun w' hw' => by rw [hlen w' hw']; omega) (fun w' hw' m hm' => (hb w' hw' m hm').1) hin]
   rw [show (((w.getD k 0).toNat : Nat) : Int) = w.getD k 0 by omega]
  constructor <;> intro hk k hkr
  ·have hkw := List.mem_range.1 hkr
   exact (one k hkw).1 (of_decide_eq_true (hk k (List.mem_range.2 (by omega))))
  ·by_cases hkw : k < w.length
   ·exact decide_eq_true ((one k hkw).2 (hk k (List.mem_range.2 hkw)))
   ·refine decide_eq_true ?_
    rw [Yf, xB, if_neg hkw, Nat.and_zero]
 ·cases h⟩
end Go.Proofs.YtfopcfnggdonkaaGreatDoor
