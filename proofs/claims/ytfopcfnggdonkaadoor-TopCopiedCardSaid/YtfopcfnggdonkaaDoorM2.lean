/-
 Copies: how many a coalition can make.
-/
import Derived.Test.YtfopcfnggdonkaaDoorM1
namespace Go.Proofs.YtfopcfnggdonkaaDoor
open Go.RowKit
set_option linter.unusedVariables false

theorem cdE_ok {c : Cd} (h : cdE c = 0) : (2 ≤ c.1 ∧ c.1 ≤ 4) ∧ (0 < c.2.1.length ∧ c.2.1.length ≤ 10) ∧ (1 ≤ sz c ∧ sz c ≤ 8) ∧ (∀ w ∈ c.2.1, w.length = sz c) ∧ ∀ w ∈ c.2.1, ∀ m ∈ w, 0 ≤ m ∧ m < c.1 := by
 unfold cdE at h
 cases e1 : decide (2 ≤ c.1 ∧ c.1 ≤ 4) with
 | false => rw [e1] at h; cases h
 | true =>
  rw [e1, cond_true] at h
  cases e2 : decide (c.2.1.length = 0) with
  | true => rw [e2] at h; cases h
  | false =>
   rw [e2, cond_false] at h
   cases e3 : decide (10 < c.2.1.length) with
   | true => rw [e3] at h; cases h
   | false =>
    rw [e3, cond_false] at h
    cases e4 : decide (1 ≤ sz c ∧ sz c ≤ 8) with
    | false => rw [e4] at h; cases h
    | true =>
     rw [e4, cond_true] at h
     cases e5 : c.2.1.any fun w => !decide (w.length = sz c) with
     | true => rw [e5] at h; cases h
     | false =>
      rw [e5, cond_false] at h
      cases e6 : c.2.1.any fun w => w.any (outM c.1) with
      | true => rw [e6] at h; cases h
      | false =>
       have a1 := of_decide_eq_true e1
       have a2 := of_decide_eq_false e2
       have a3 := of_decide_eq_false e3
       refine ⟨a1, ⟨by omega, by omega⟩, of_decide_eq_true e4, fun w hw => ?_, fun w hw m hm => ?_⟩
       ·simpa using List.any_eq_false.1 e5 w hw
       ·have := List.any_eq_false.1 e6 w hw
        simp only [Bool.not_eq_true] at this
        have h2 := List.any_eq_false.1 this m hm
        simp only [outM, Bool.not_eq_true, Bool.not_eq_false', decide_eq_true_eq] at h2
        rw [w64_small (by omega)] at h2
        omega
theorem bneDec (a b : Int) : (a != b) = !decide (a = b) := by
 by_cases h : a = b <;> simp [h]
theorem beqDec (a b : Int) : (a == b) = decide (a = b) := by
 by_cases h : a = b <;> simp [h]
def mE (n : Int) : Int → List Int → Int
 | _, [] => 0
 | last, x :: r => cond (decide (0 ≤ x ∧ x ≤ n)) (cond (decide (x ≤ last)) 7 (mE n x r)) 5
def coE (c : Cd) (l : List Int) : Int := cond (decide (l.length = 0)) 1 (mE ((c.2.1.length : Int) - 1) (-1) l)
def B9 (c : Cd) (l : List Int) : Option Int := if l.length ≤ 1000 ∧ c.2.1.length ≤ 1000 then some (coE c l) else none
theorem KB9 : FnOk Tryd.prog 9 (F9 B9) := ok9 B14 KB14 B9 fun c l r h => ⟨1001, by
 simp only [B9] at h
 split at h
 ·rename_i hl
  rw [← h, m9, lenEq0, coE]
  cases decide (l.length = 0) with
  | true => rfl
  | false =>
   simp only [cond_false]
   exact rangeIx l 0 (fun n s t => l9a B14 1001 c l n s t) (fun _ _ _ => True) (fun _ xs s => some (mE ((c.2.1.length : Int) - 1) s xs))
    (fun n s t x rest ht hx _ ih => by
     simp only [l9a, ixA ht, ixB ht, cond_true, chk_true, Int.toNat_natCast, ixW ht (by omega), hx, ih x trivial, B14, Option.bind_some, mE]
     rw [w64_small (x := (c.2.1.length : Int) - 1) (by omega)]
     cases decide (0 ≤ x ∧ x ≤ (c.2.1.length : Int) - 1) with
     | false => rfl
     | true =>
      simp only [Bool.not_true, cond_false, cond_true]
      cases decide (x ≤ s) <;> rfl)
    (fun n s _ => by simp only [l9a, ixE, cond_false]; rfl) 1001 (-1) (by omega) trivial
 ·cases h⟩
theorem mE_ok {n : Int} : ∀ {l : List Int} {last : Int}, mE n last l = 0 → (∀ x ∈ l, 0 ≤ x ∧ x ≤ n ∧ last < x) ∧ l.Pairwise (· < ·)
 | [], _, _ => ⟨(fun x hx => by cases hx), .nil⟩
 | x :: r, last, h => by
  simp only [mE] at h
  cases e1 : decide (0 ≤ x ∧ x ≤ n) with
  | false => rw [e1] at h; cases h
  | true =>
   rw [e1, cond_true] at h
   cases e2 : decide (x ≤ last) with
   | true => rw [e2] at h; cases h
   | false =>
    rw [e2, cond_false] at h
    have a1 := of_decide_eq_true e1
    have a2 := of_decide_eq_false e2
    obtain ⟨b1, b2⟩ := mE_ok h
    refine ⟨fun y hy => ?_, List.pairwise_cons.2 ⟨fun y hy => (b1 y hy).2.2, b2⟩⟩
    rcases List.mem_cons.1 hy with rfl | hy
    ·omega
    ·have := b1 y hy; omega
theorem coE_ok {c : Cd} {l : List Int} (h : coE c l = 0) : l ≠ [] ∧ (∀ x ∈ l, 0 ≤ x ∧ x < c.2.1.length) ∧ l.Pairwise (· < ·) := by
 unfold coE at h
 cases e : decide (l.length = 0) with
 | true => rw [e] at h; cases h
 | false =>
  rw [e, cond_false] at h
  obtain ⟨b1, b2⟩ := mE_ok h
  have := of_decide_eq_false e
  refine ⟨fun q => this (by rw [q]; rfl), fun x hx => by have := b1 x hx; omega, b2⟩
def arr (f : Nat → Nat) : List Int := (List.range 8).map fun k => ((f k : Nat) : Int)
theorem arr_len (f : Nat → Nat) : (arr f).length = 8 := by simp [arr]
theorem arr_get (f : Nat → Nat) {t : Nat} (h : t < 8) : (arr f).getD t 0 = f t := by simp [arr, h]
theorem arr_ext {f g : Nat → Nat} (h : ∀ k, k < 8 → f k = g k) : arr f = arr g := by
 unfold arr
 exact List.map_congr_left fun k hk => by rw [h k (List.mem_range.1 hk)]
theorem arr_set (f : Nat → Nat) {t x : Nat} (h : t < 8) : (arr f).set t ((x : Nat) : Int) = arr fun k => if k = t then x else f k := by
 apply List.ext_getElem
 ·simp [arr]
 ·intro i h1 h2
  simp only [arr_len] at h2
  simp only [List.getElem_set, arr, List.getElem_map, List.getElem_range]
  by_cases e : t = i
  ·simp [e]
  ·rw [if_neg e, if_neg (fun q => e q.symm)]
def wBit (w : List Int) (k : Nat) : Nat := if k < w.length then 2 ^ (w.getD k 0).toNat else 0
def ofN (ws : List (List Int)) (k : Nat) : Nat := ws.foldl (fun a w => a ||| wBit w k) 0
def okW (w : List Int) : Bool := decide (w.length ≤ 8) && w.all fun m => decide (0 ≤ m ∧ m < 8)
theorem okW_at {w : List Int} (h : okW w = true) : w.length ≤ 8 ∧ ∀ m ∈ w, 0 ≤ m ∧ m < 8 := by simpa [okW] using h
theorem wBit_lt {w : List Int} (h : okW w = true) (k : Nat) : wBit w k < 256 := by
 unfold wBit
 split
 ·rename_i hk
  have := (okW_at h).2 (w.getD k 0) (by rw [List.getD_eq_getElem?_getD, List.getElem?_eq_getElem hk]; exact List.getElem_mem _)
  exact (Nat.pow_lt_pow_right (by decide) (show (w.getD k 0).toNat < 8 by omega) : 2 ^ (w.getD k 0).toNat < 2 ^ 8)
 ·decide
theorem orF_lt {α : Type} (g : α → Nat) : ∀ (l : List α) (a : Nat), a < 256 → (∀ x ∈ l, g x < 256) → l.foldl (fun a x => a ||| g x) a < 256
 | [], a, h, _ => h
 | x :: r, a, h, hl => by
  rw [List.foldl_cons]
  exact orF_lt g r _ (Nat.or_lt_two_pow (n := 8) h (hl x (by simp))) fun y hy => hl y (by simp [hy])
def B19 (ws : List (List Int)) : Option (List Int) := if ws.length ≤ 1000 ∧ ws.all okW = true then some (arr (ofN ws)) else none
theorem KB19 : FnOk Tryd.prog 19 (F19 B19) := ok19 B19 fun ws r h => ⟨1001, by
 simp only [B19] at h
 split at h
 ·rename_i hl
  have hok : ∀ w ∈ ws, okW w = true := List.all_eq_true.1 hl.2
  rw [← h, m19]
  refine rangeP ws [] (fun n s t => l19a 1001 ws n t s) (fun t rest s => s = [arr (ofN (ws.take t))]) (fun r => r = some (arr (ofN ws))) (fun n s t x rest ht hx hd hI ih => ?_) (fun n s hI => ?_) 1001 _ (by omega) rfl
  ·subst hI
   have hxw : x ∈ ws := by rw [← hx, List.getD_eq_getElem?_getD, List.getElem?_eq_getElem ht]; exact List.getElem_mem _
   obtain ⟨hx8, hxm⟩ := okW_at (hok x hxw)
   have hlt : ∀ k, ofN (ws.take t) k < 256 := fun k => orF_lt _ _ _ (by decide) fun w hw => wBit_lt (hok w (List.mem_of_mem_take hw)) k
   simp only [l19a, ixA ht, ixB ht, cond_true, chk_true]
   refine rangeP x 0 (fun n' s k => l19b 1001 ws (t : Int) (fun y0 y1 => l19a 1001 ws n y0 y1) n' k s) (fun k ys s => s = [arr fun q => if q < k then ofN (ws.take t) q ||| wBit x q else ofN (ws.take t) q]) (fun r => r = some (arr (ofN ws)))
    (fun n' s k y ys hk hy hd' hI' ih' => ?_) (fun n' s hI' => ?_) 1001 _ (by omega) (by congr 1)
   ·subst hI'
    have hk8 : k < 8 := by omega
    have hyb := hxm y (by rw [← hy, List.getD_eq_getElem?_getD, List.getElem?_eq_getElem hk]; exact List.getElem_mem _)
    have hyn : y = ((y.toNat : Nat) : Int) := by omega
    have hb1 : ((1 : Int) * 2 ^ min (Int.toNat y) 8) = (2 ^ min (Int.toNat y) 8) := Int.one_mul _
    have hone : IntKind.wrap .u8 (1 * 2 ^ min (Int.toNat y) 8) = ((2 ^ y.toNat : Nat) : Int) := by
     have := one_u8 (c := y.toNat) (by omega)
     rwa [← hyn] at this
    have hgx : (if k < k then ofN (ws.take t) k ||| wBit x k else ofN (ws.take t) k) = ofN (ws.take t) k := if_neg (Nat.lt_irrefl k)
    simp only [l19b, Int.toNat_natCast, hx, ixA hk, ixB hk, cond_true, chk_true, hy, List.getD_cons_zero, arr_len, arr_get _ hk8, hgx, hone, ixW hk (by omega)]
    rw [chk_dec (show 0 ≤ (k : Int) ∧ (k : Int) < 8 by omega), chk_dec hyb.1, chk_dec (show 0 ≤ (k : Int) ∧ (k : Int) < 8 by omega), chk_of (by simp [hk8]),
     bOr_u8 (hlt k) (Nat.pow_lt_pow_right (by decide) (show y.toNat < 8 by omega) : 2 ^ y.toNat < 2 ^ 8)]
    refine ih' _ ?_
    rw [List.set_cons_zero, arr_set _ hk8]
    congr 1
    refine arr_ext fun q hq => ?_
    by_cases e1 : q = k
    ·subst e1
     rw [if_pos rfl, if_pos (Nat.lt_succ_self q), wBit, if_pos hk, hy]
    ·rw [if_neg e1]
     by_cases e2 : q < k
     ·rw [if_pos e2, if_pos (by omega)]
     ·rw [if_neg e2, if_neg (by omega)]
   ·subst hI'
    simp only [l19b, Int.toNat_natCast, hx, ixE, cond_false, ixW ht (by omega)]
    refine ih _ ?_
    congr 1
    refine arr_ext fun q hq => ?_
    have htk : ws.take (t + 1) = ws.take t ++ [x] := by
     rw [List.take_add_one, List.getElem?_eq_getElem ht]
     rw [List.getD_eq_getElem?_getD, List.getElem?_eq_getElem ht] at hx
     simp only [Option.getD_some] at hx
     rw [hx]; rfl
    have e : ofN (ws.take (t + 1)) q = ofN (ws.take t) q ||| wBit x q := by
     rw [htk]; unfold ofN; rw [List.foldl_append]; rfl
    rw [e]
    by_cases e : q < x.length
    ·rw [if_pos e]
    ·rw [if_neg e, wBit, if_neg e, Nat.or_zero]
  ·subst hI
   simp only [l19a, ixE, cond_false, List.take_length]; rfl
 ·cases h⟩
def mkN (c : Cd) (l : List Int) (k : Nat) : Nat := l.foldl (fun a i => a ||| ofN [c.2.1.getD i.toNat []] k) 0
def okCo (c : Cd) (l : List Int) : Bool := l.all fun i => decide (0 ≤ i ∧ i < (c.2.1.length : Int))
theorem okCo_at {c : Cd} {l : List Int} (h : okCo c l = true) : ∀ i ∈ l, 0 ≤ i ∧ i < (c.2.1.length : Int) := by simpa [okCo] using h
def B10 (c : Cd) (l : List Int) : Option (List Int) := if l.length ≤ 1000 ∧ c.2.1.length ≤ 1000 ∧ c.2.1.all okW = true ∧ okCo c l = true then some (arr (mkN c l)) else none
theorem ofN_lt {ws : List (List Int)} (h : ∀ w ∈ ws, okW w = true) (k : Nat) : ofN ws k < 256 := orF_lt _ _ _ (by decide) fun w hw => wBit_lt (h w hw) k
theorem getD_mem {α : Type} {l : List α} {i : Nat} {d : α} (h : i < l.length) : l.getD i d ∈ l := by
 rw [List.getD_eq_getElem?_getD, List.getElem?_eq_getElem h]; exact List.getElem_mem _
theorem take_succ' {α : Type} {l : List α} {t : Nat} {d x : α} (h : t < l.length) (hx : l.getD t d = x) : l.take (t + 1) = l.take t ++ [x] := by
 rw [List.take_add_one, List.getElem?_eq_getElem h]
 rw [List.getD_eq_getElem?_getD, List.getElem?_eq_getElem h] at hx
 simp only [Option.getD_some] at hx
 rw [hx]; rfl
theorem KB10 : FnOk Tryd.prog 10 (F10 B10) := ok10 B19 KB19 B10 fun c l r h => ⟨1001, by
 simp only [B10] at h
 split at h
 ·rename_i hl
  obtain ⟨hl1, hl2, hl3, hl4⟩ := hl
  have hok : ∀ w ∈ c.2.1, okW w = true := List.all_eq_true.1 hl3
  have hin := okCo_at hl4
  rw [← h, m10]
  refine rangeP l 0 (fun n s t => l10a B19 1001 c l n t s) (fun t rest s => s = [arr (mkN c (l.take t))]) (fun r => r = some (arr (mkN c l))) (fun n s t x rest ht hx hd hI ih => ?_) (fun n s hI => ?_) 1001 _ (by omega) rfl
  ·subst hI
   have hxl := hin x (hx ▸ getD_mem ht)
   have hwo : okW (c.2.1.getD x.toNat []) = true := hok _ (getD_mem (by omega))
   have hlt : ∀ k, mkN c (l.take t) k < 256 := fun k => orF_lt _ _ _ (by decide) fun i hi => by
    have := hin i (List.mem_of_mem_take hi)
    exact ofN_lt (fun w hw => by rw [List.mem_singleton.1 hw]; exact hok _ (getD_mem (by omega))) k
   have e81 : B19 [c.2.1.getD x.toNat []] = some (arr (ofN [c.2.1.getD x.toNat []])) := if_pos ⟨by simp, by simp only [List.all_cons, List.all_nil, Bool.and_true]; exact hwo⟩
   have hlt2 : ∀ k, ofN [c.2.1.getD x.toNat []] k < 256 := ofN_lt fun w hw => by rw [List.mem_singleton.1 hw]; exact hwo
   simp only [l10a, ixA ht, ixB ht, cond_true, chk_true, Int.toNat_natCast, hx]
   rw [chk_dec hxl, e81, Option.bind_some]
   have key : mkN c (l.take (t + 1)) = fun k => mkN c (l.take t) k ||| ofN [c.2.1.getD x.toNat []] k := by
    funext k; rw [take_succ' ht hx]; unfold mkN; rw [List.foldl_append]; rfl
   refine countP' 0 8 (by decide) (fun n' s k => l10b B19 1001 c l (t : Int) (arr (ofN [c.2.1.getD x.toNat []])) (fun y0 y1 => l10a B19 1001 c l n y0 y1) n' k s)
    (fun k s => s = [arr fun q => if (q : Int) < k then mkN c (l.take t) q ||| ofN [c.2.1.getD x.toNat []] q else mkN c (l.take t) q]) (fun r => r = some (arr (mkN c l)))
    (fun n' s k hk0 hk hI' ih' => ?_) (fun n' s hI' => ?_) 1001 _ (by decide) (congrArg (fun z => [z]) (arr_ext fun q hq => by rw [if_neg (by omega)]))
   ·subst hI'
    obtain ⟨k, rfl⟩ : ∃ j : Nat, k = j := ⟨k.toNat, by omega⟩
    have hk8 : k < 8 := by omega
    have hgx : (if (k : Int) < (k : Int) then mkN c (l.take t) k ||| ofN [c.2.1.getD x.toNat []] k else mkN c (l.take t) k) = mkN c (l.take t) k := if_neg (Int.lt_irrefl _)
    simp only [l10b, Int.toNat_natCast, List.getD_cons_zero, arr_len, arr_get _ hk8, hgx]
    rw [decide_eq_true hk, cond_true, chk_dec ⟨hk0, hk⟩, chk_dec ⟨hk0, hk⟩, chk_dec ⟨hk0, hk⟩, chk_of (by simp [hk8]), bOr_u8 (hlt k) (hlt2 k), w64_small (by omega)]
    refine ih' _ ?_
    rw [List.set_cons_zero, arr_set _ hk8]
    congr 1
    refine arr_ext fun q hq => ?_
    by_cases e1 : q = k
    ·subst e1
     rw [if_pos rfl, if_pos (by omega)]
    ·rw [if_neg e1]
     by_cases e2 : q < k
     ·rw [if_pos (by omega), if_pos (by omega)]
     ·rw [if_neg (by omega), if_neg (by omega)]
   ·subst hI'
    simp only [l10b, show decide ((8 : Int) < 8) = false from rfl, cond_false, ixW ht (by omega)]
    refine ih _ ?_
    congr 1
    rw [key]
    exact arr_ext fun q hq => if_pos (by omega)
  ·subst hI
   simp only [l10a, ixE, cond_false, List.take_length]; rfl
 ·cases h⟩
theorem ofN_one (w : List Int) (k : Nat) : ofN [w] k = wBit w k := by
 show 0 ||| wBit w k = _
 rw [Nat.zero_or]
theorem okW_code {c : Cd} (h : cdE c = 0) : ∀ w ∈ c.2.1, okW w = true := fun w hw => by
 obtain ⟨hm, _, hz, hl, hb⟩ := cdE_ok h
 simp only [okW, Bool.and_eq_true, decide_eq_true_eq, List.all_eq_true]
 exact ⟨by rw [hl w hw]; exact hz.2, fun m hmm => by have := hb w hw m hmm; omega⟩
def pcN (n : Nat) : Nat := ((List.range 4).filter fun j => n.testBit j).length
theorem count_eq : ∀ n, n < 16 → ([0, 1, 1, 2, 1, 2, 2, 3, 1, 2, 2, 3, 2, 3, 3, 4] : List Int).getD n 0 = (pcN n : Int) := by decide
theorem pcN_le (n : Nat) : pcN n ≤ 4 := by
 unfold pcN
 exact Nat.le_trans (List.length_filter_le _ _) (by simp)
def cpK (c : Cd) (l : List Int) (k : Nat) : Int := imax 1 (pcN (mkN c l k))
theorem cpK_le (c : Cd) (l : List Int) (k : Nat) : 1 ≤ cpK c l k ∧ cpK c l k ≤ 4 := by
 have := pcN_le (mkN c l k)
 unfold cpK imax
 split <;> omega
def prF (f : Nat → Int) (t n : Nat) (s : Int) : Int := (List.range' t n).foldl (fun a k => a * f k) s
theorem prF_succ (f : Nat → Int) (t n : Nat) (s : Int) : prF f t (n + 1) s = prF f (t + 1) n (s * f t) := by
 unfold prF; rw [List.range'_succ, List.foldl_cons]
def cpN (c : Cd) (l : List Int) : Int := prF (cpK c l) 0 8 1
def B4 (c : Cd) (l : List Int) : Option (Int × Int) := if smB c = true ∧ l.length ≤ 1000 then some (cond (decide (cdE c = 0)) (cond (decide (coE c l = 0)) (cpN c l, 0) (0, coE c l)) (0, cdE c)) else none
theorem mkN_small {c : Cd} {l : List Int} (hc : cdE c = 0) (hl : ∀ i ∈ l, 0 ≤ i ∧ i < (c.2.1.length : Int)) (k : Nat) : mkN c l k < 16 := by
 obtain ⟨hm, _, _, hlen, hb⟩ := cdE_ok hc
 have w16 : ∀ w ∈ c.2.1, wBit w k < 16 := fun w hw => by
  unfold wBit
  split
  ·rename_i hk
   have := hb w hw (w.getD k 0) (getD_mem hk)
   exact (Nat.pow_lt_pow_right (by decide) (show (w.getD k 0).toNat < 4 by omega) : 2 ^ (w.getD k 0).toNat < 2 ^ 4)
  ·decide
 have : ∀ (l : List Int) (a : Nat), a < 16 → (∀ i ∈ l, 0 ≤ i ∧ i < (c.2.1.length : Int)) → l.foldl (fun a i => a ||| ofN [c.2.1.getD i.toNat []] k) a < 16 := by
  intro l
  induction l with
  | nil => intro a h _; exact h
  | cons x r ih =>
   intro a h hl
   rw [List.foldl_cons]
   refine ih _ ?_ fun i hi => hl i (by simp [hi])
   have hx := hl x (by simp)
   rw [ofN_one]
   exact Nat.or_lt_two_pow (n := 4) h (w16 _ (getD_mem (by omega)))
 exact this l 0 (by decide) hl
theorem pow4 (t : Nat) (h : t ≤ 8) : (4 : Int) ^ t ≤ 65536 := by
 have : ∀ t, t ≤ 8 → (4 : Int) ^ t ≤ 65536 := by decide
 exact this t h
theorem KB4 : FnOk Tryd.prog 4 (F4 B4) := ok4 B10 B8 B9 KB10 KB8 KB9 B4 fun c l r h => ⟨1001, by
 simp only [B4] at h
 split at h
 ·rename_i hs
  obtain ⟨h1, h2⟩ := hs
  rw [← h, m4, B8, if_pos h1, Option.bind_some]
  simp only [beqDec, bneDec]
  cases e : decide (cdE c = 0) with
  | false => rfl
  | true =>
   have hc := of_decide_eq_true e
   obtain ⟨_, hn, _⟩ := cdE_ok hc
   have e55 : B9 c l = some (coE c l) := if_pos ⟨h2, by omega⟩
   simp only [cond_true, e55, Option.bind_some]
   cases e2 : decide (coE c l = 0) with
   | false => rfl
   | true =>
    have hin : ∀ i ∈ l, 0 ≤ i ∧ i < (c.2.1.length : Int) := fun i hi => by have := (coE_ok (of_decide_eq_true e2)).2.1 i hi; omega
    have e56 : B10 c l = some (arr (mkN c l)) := if_pos ⟨h2, by omega, List.all_eq_true.2 (okW_code hc), by simp only [okCo, List.all_eq_true, decide_eq_true_eq]; exact hin⟩
    simp only [Bool.not_true, cond_false, cond_true, e56, Option.bind_some]
    refine (countUp 0 8 (by decide) (fun n s t => l4a B10 B8 B9 1001 n s (arr (mkN c l)) t) (fun t s => 1 ≤ s ∧ s ≤ 4 ^ t.toNat) (fun t s => some (prF (cpK c l) t.toNat (8 - t.toNat) s, 0))
     (fun n s t h0 ht hI ih => ?_) (fun n s hI => by simp only [l4a, show decide ((8 : Int) < 8) = false from rfl, cond_false]; rfl) 1001 1 (by decide) ⟨Int.le_refl _, Int.le_refl _⟩).trans rfl
    obtain ⟨k, rfl⟩ : ∃ j : Nat, t = j := ⟨t.toNat, by omega⟩
    have hk8 : k < 8 := by omega
    have h16 := mkN_small hc hin k
    obtain ⟨c1, c2⟩ := cpK_le c l k
    have hp := pow4 k (by omega)
    rw [Int.toNat_natCast] at hI
    have hmul : s * cpK c l k ≤ 4 ^ k * 4 := Int.mul_le_mul hI.2 c2 (by omega) (by omega)
    have hmul1 : 1 * 1 ≤ s * cpK c l k := Int.mul_le_mul hI.1 c1 (by omega) (by omega)
    simp only [l4a, decide_eq_true ht, cond_true, chk_dec (show 0 ≤ (k : Int) ∧ (k : Int) < 8 from ⟨h0, ht⟩), Int.toNat_natCast, arr_get _ hk8, count_eq _ h16]
    rw [chk_dec (by omega), show imax 1 (pcN (mkN c l k) : Int) = cpK c l k from rfl, w64_small (by omega), w64_small (x := (k : Int) + 1) (by omega), ih _ ⟨by omega, by
     rw [show ((k : Int) + 1).toNat = k + 1 by omega, Int.pow_succ]; exact hmul⟩]
    rw [show ((k : Int) + 1).toNat = k + 1 by omega, show 8 - k = (8 - (k + 1)) + 1 by omega, prF_succ]
 ·cases h⟩
end Go.Proofs.YtfopcfnggdonkaaDoor
