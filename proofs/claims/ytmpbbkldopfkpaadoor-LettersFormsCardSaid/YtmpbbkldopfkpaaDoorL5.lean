/-
 The reference: errors, what can be opened, first forms, rests.
-/
import Derived.Test.YtmpbbkldopfkpaaDoorL4
import Derived.Test.YtmpbbkldopfkpaaDoorQM68
import Derived.Test.YtmpbbkldopfkpaaDoorQM52
import Derived.Test.YtmpbbkldopfkpaaDoorQM67
import Derived.Test.YtmpbbkldopfkpaaDoorQM64
import Derived.Test.YtmpbbkldopfkpaaDoorQM48
import Derived.Test.YtmpbbkldopfkpaaDoorQM44
import Derived.Test.YtmpbbkldopfkpaaDoorQM54
import Derived.Test.YtmpbbkldopfkpaaDoorQM55
import Derived.Test.YtmpbbkldopfkpaaDoorQM45
import Derived.Test.YtmpbbkldopfkpaaDoorQM14
import Derived.Test.YtmpbbkldopfkpaaDoorQM12
namespace Go.Proofs.YtmpbbkldopfkpaaDoor
open Go.RowKit
set_option linter.unusedVariables false

def B68 : Int → Int → Int → Option Bool := fun n lo hi => some (decide (lo ≤ n ∧ n ≤ hi))
theorem kb68 : FnOk Tryd.prog 68 (F68 B68) := ok68 B68 fun n lo hi r h => ⟨0, by
 obtain rfl := Option.some.inj h
 unfold m68
 by_cases h : lo ≤ n <;> simp [h]⟩
theorem kb52 : FnOk Tryd.prog 52 (F52 B68) := ok52 B68 kb68 B68 fun n lo hi r h => ⟨0, by
 unfold m52; rw [h]; rfl⟩
theorem kb12 : FnOk Tryd.prog 12 (F12 fun o => some o) := ok12 _ fun o r h => ⟨0, h⟩
def B67 : Of → Int → Int → Int → Option Bool := fun o n x y => if 0 ≤ n ∧ n ≤ o.2.1.length ∧ n ≤ 1000 then some (frp (o.2.1.take n.toNat) x y) else none
theorem frp_cons (p : List Int) (r : List (List Int)) (x y : Int) : frp (p :: r) x y = (((decide (p.getD 0 0 = x) && decide (p.getD 1 0 = y)) || (decide (p.getD 0 0 = y) && decide (p.getD 1 0 = x))) || frp r x y) := rfl
theorem kb67 : FnOk Tryd.prog 67 (F67 B67) := ok67 B67 fun o n x y r h => ⟨1001, by
 unfold B67 at h
 split at h
 ·rename_i hq
  obtain ⟨h0, h1, h2⟩ := hq
  obtain rfl := Option.some.inj h
  obtain ⟨n, rfl⟩ : ∃ k : Nat, n = (k : Int) := ⟨n.toNat, by omega⟩
  unfold m67
  rw [Int.toNat_natCast]
  have hl : (o.2.1.take n).length = n := by rw [List.length_take]; omega
  have hg : ∀ t, t < n → (o.2.1.take n).getD t [0, 0] = o.2.1.getD t [0, 0] := fun t ht => by
   rw [List.getD_eq_getElem?_getD, List.getElem?_take_of_lt ht, List.getD_eq_getElem?_getD]
  refine rangeIx (o.2.1.take n) [0, 0] (fun m (_ : Unit) t => l67a 1001 o (n : Int) x y m t) (fun _ _ _ => True) (fun _ r _ => some (frp r x y)) (fun m _ t p rest h3 h4 _ ih => ?_) (fun m _ _ => ?_) 1001 () (by omega) trivial
  ·show l67a 1001 o (n : Int) x y (m + 1) (t : Int) = _
   have h5 : t < o.2.1.length := by omega
   rw [hl] at h3
   rw [hg t h3] at h4
   have ih := ih () trivial
   rw [l67a, ixA h3, cond_true, ixB h5, chk_true, chk_true, Int.toNat_natCast, h4, ixW h3 (by omega), frp_cons]
   have e : ∀ a b : Int, (a == b) = decide (a = b) := fun a b => rfl
   simp only [e]
   rw [ih]
   cases decide (p.getD 0 0 = x) <;> cases decide (p.getD 1 0 = y) <;> cases decide (p.getD 0 0 = y) <;> cases decide (p.getD 1 0 = x) <;> rfl
  ·show l67a 1001 o (n : Int) x y (m + 1) ((o.2.1.take n).length : Int) = _
   rw [l67a, hl, ixE, cond_false]; rfl
 ·cases h⟩
def B64 : Of → Option Int := fun o => some (errO o)
theorem kb64 : FnOk Tryd.prog 64 (F64 B64) := ok64 B68 B67 kb52 kb67 B64 fun o r h => ⟨20, by
 obtain rfl := Option.some.inj h
 unfold m64 errO
 show (B68 o.1 1 6).bind _ = _
 unfold B68
 rw [Option.bind_some]
 by_cases h1 : 1 ≤ o.1 ∧ o.1 ≤ 6
 ·rw [decide_eq_true h1, if_neg (by simpa using h1)]
  simp only [Bool.not_true, cond_false]
  by_cases h2 : 15 < o.2.1.length
  ·rw [decide_eq_true (by omega), if_pos h2]; rfl
  ·rw [decide_eq_false (by omega), if_neg h2, cond_false]
   refine rangeIx o.2.1 [0, 0] (fun n (_ : Unit) t => l64a B68 B67 20 o n t) (fun _ _ _ => True) (fun t r _ => some (errP o.1 (o.2.1.take t) r)) (fun n _ t x rest h3 h4 _ ih => ?_) (fun n _ _ => ?_) 20 () (by omega) trivial
   ·show l64a B68 B67 20 o (n + 1) (t : Int) = _
    have e1 : w64 (o.1 - 1) = o.1 - 1 := w64_eq (by omega) (by omega)
    rw [l64a, ixA h3, cond_true, ixB h3, chk_true, chk_true, Int.toNat_natCast, h4, e1, ixW h3 (by omega), errP]
    show (B68 (x.getD 0 0) 0 (o.1 - 1)).bind _ = _
    unfold B68
    rw [Option.bind_some]
    by_cases a1 : 0 ≤ x.getD 0 0 ∧ x.getD 0 0 ≤ o.1 - 1
    ·rw [decide_eq_true a1, Bool.not_true, cond_false, Option.bind_some]
     by_cases a2 : 0 ≤ x.getD 1 0 ∧ x.getD 1 0 ≤ o.1 - 1
     ·rw [decide_eq_true a2, Bool.not_true, cond_false, if_neg (by omega)]
      by_cases a3 : x.getD 0 0 = x.getD 1 0
      ·rw [if_pos a3, beq_iff_eq.2 a3, cond_true]
      ·rw [if_neg a3, beq_eq_false_iff_ne.2 a3, cond_false]
       unfold B67
       rw [if_pos ⟨by omega, by omega, by omega⟩, Option.bind_some, Int.toNat_natCast]
       cases a5 : frp (o.2.1.take t) (x.getD 0 0) (x.getD 1 0) with
       | true => rw [cond_true, if_pos rfl]
       | false =>
        rw [cond_false, if_neg (by simp)]
        have := ih () trivial
        rw [take_next h3 h4] at this
        exact this
     ·rw [decide_eq_false a2, if_pos (.inr a2)]; rfl
    ·rw [decide_eq_false a1, if_pos (.inl a1)]; rfl
   ·show l64a B68 B67 20 o (n + 1) (o.2.1.length : Int) = _
    rw [l64a, ixE, cond_false, List.take_length]; rfl
 ·rw [decide_eq_false h1, if_pos (by simpa using h1)]; rfl⟩
def B48 : Of → Int → Int → Option Bool := fun o x y => if o.2.1.length ≤ 1000 ∧ (97 ≤ x ∧ x ≤ 255) ∧ 97 ≤ y ∧ y ≤ 255 then some (!frp o.2.1 (x - 97) (y - 97)) else none
theorem kb48 : FnOk Tryd.prog 48 (F48 B48) := ok48 B67 kb67 B48 fun o x y r h => ⟨0, by
 unfold B48 at h
 split at h
 ·rename_i hq
  obtain ⟨h0, h1, h2⟩ := hq
  obtain rfl := Option.some.inj h
  unfold m48
  rw [wrap_u8 (by omega) (by omega), wrap_u8 (by omega) (by omega), w64_eq (by omega) (by omega), w64_eq (by omega) (by omega)]
  unfold B67
  rw [if_pos ⟨by omega, by omega, by omega⟩, Option.bind_some, Int.toNat_natCast, List.take_length]
 ·cases h⟩
theorem B48_of {o : Of} (h : errO o = 0) {x y : UInt8} (hx : isL x) (hy : isL y) : B48 o (x.toNat : Int) (y.toNat : Int) = some (Do o x y) := by
 unfold B48 Do
 unfold isL at hx hy
 have := (errO_zero h).2.1
 rw [if_pos ⟨by omega, by omega, by omega⟩]
def B44 : Of → Wd → Option Int := fun o l => some (errA o [l])
theorem kb44 : FnOk Tryd.prog 44 (F44 B44) := ok44 B64 kb64 B44 fun o l r h => ⟨20, by
 obtain rfl := Option.some.inj h
 unfold m44
 show (B64 o).bind _ = _
 unfold B64 errA
 rw [Option.bind_some]
 by_cases h0 : errO o = 0
 ·rw [h0, if_pos rfl]
  show cond false _ _ = _
  rw [cond_false, errL_one]
  have hk := (errO_zero h0).1
  unfold errL1
  by_cases hl : 14 < l.length
  ·rw [decide_eq_true (by omega), cond_true, if_pos hl]
  ·rw [decide_eq_false (by omega), cond_false, if_neg hl]
   have key := rangeIx l 0 (fun n (_ : Unit) t => l44a B64 20 o l n t) (fun _ _ _ => True) (fun _ r _ => some (if okLg o.1 r = true then (0 : Int) else 9)) (fun n _ t b rest h3 h4 _ ih => ?_) (fun n _ _ => ?_) 20 () (by omega) trivial
   ·exact key
   ·show l44a B64 20 o l (n + 1) (t : Int) = _
    have ih := ih () trivial
    have hb := b.toNat_lt
    rw [l44a, ixA h3, cond_true, ixB h3, chk_true, chk_true, Int.toNat_natCast, h4, ixW h3 (by omega)]
    by_cases h97 : (b.toNat : Int) < 97
    ·have e : okLg o.1 (b :: rest) = false := by simp only [okLg, List.all_cons, decide_eq_false (show ¬ (97 ≤ (b.toNat : Int) ∧ (b.toNat : Int) ≤ 97 + o.1 - 1) by omega), Bool.false_and]
     rw [decide_eq_true h97, cond_true, e, if_neg (by simp)]
    ·rw [decide_eq_false h97, cond_false, wrap_u8 (by omega) (by omega), w64_eq (by omega) (by omega)]
     by_cases hk2 : (b.toNat : Int) - 97 ≥ o.1
     ·have e : okLg o.1 (b :: rest) = false := by simp only [okLg, List.all_cons, decide_eq_false (show ¬ (97 ≤ (b.toNat : Int) ∧ (b.toNat : Int) ≤ 97 + o.1 - 1) by omega), Bool.false_and]
      rw [decide_eq_true hk2, cond_true, e, if_neg (by simp)]
     ·have e : okLg o.1 (b :: rest) = okLg o.1 rest := by simp only [okLg, List.all_cons, decide_eq_true (show (97 ≤ (b.toNat : Int) ∧ (b.toNat : Int) ≤ 97 + o.1 - 1) by omega), Bool.true_and]
      rw [decide_eq_false hk2, cond_false, e]
      exact ih
   ·show l44a B64 20 o l (n + 1) (l.length : Int) = _
    rw [l44a, ixE, cond_false]; rfl
 ·have : (errO o != 0) = true := by simpa using h0
  rw [this, cond_true, if_neg h0]⟩
def opI (D : UInt8 → UInt8 → Bool) (x : UInt8) : Nat → Wd → Int
 | _, [] => -1
 | t, y :: r => if y = x then (t : Int) else if D y x = true then -1 else opI D x (t + 1) r
theorem opI_tk {D : UInt8 → UInt8 → Bool} {x : UInt8} : ∀ (l : Wd) (t : Nat), (opI D x t l = -1 ∧ tk D x l = none) ∨ ∃ i : Nat, opI D x t l = ((t + i : Nat) : Int) ∧ i < l.length ∧ (l.drop i).take 1 = [x] ∧ tk D x l = some (l.take i ++ l.drop (i + 1))
 | [], t => .inl ⟨rfl, rfl⟩
 | y :: r, t => by
  simp only [opI, tk]
  by_cases h : y = x
  ·rw [if_pos h, if_pos h]
   exact .inr ⟨0, rfl, by simp, by simp [h], rfl⟩
  ·rw [if_neg h, if_neg h]
   cases hD : D y x with
   | true => exact .inl ⟨by simp, by simp⟩
   | false =>
    rw [if_neg (by simp), if_neg (by simp)]
    rcases opI_tk r (t + 1) with ⟨h1, h2⟩ | ⟨i, h1, h2, h3, h4⟩
    ·exact .inl ⟨h1, by rw [h2]; rfl⟩
    ·exact .inr ⟨i + 1, by rw [h1]; congr 1; omega, by simpa using h2, by simpa using h3, by rw [h4]; rfl⟩
def B55 : Of → Wd → Int → Option Int := fun o l k => if errO o = 0 ∧ l.length ≤ 100 ∧ (∀ b ∈ l, isL b) ∧ 97 ≤ k ∧ k ≤ 102 then some (opI (Do o) (UInt8.ofNat k.toNat) 0 l) else none
theorem kb55 : FnOk Tryd.prog 55 (F55 B55) := ok55 B48 kb48 B55 fun o l k r h => ⟨101, by
 unfold B55 at h
 split at h
 ·rename_i hq
  obtain ⟨h0, hl, hL, hk0, hk1⟩ := hq
  obtain rfl := Option.some.inj h
  obtain ⟨x, hx, rfl⟩ : ∃ x : UInt8, isL x ∧ k = (x.toNat : Int) := ⟨UInt8.ofNat k.toNat, by unfold isL; rw [UInt8.toNat_ofNat', Nat.mod_eq_of_lt (by omega)]; omega, by rw [UInt8.toNat_ofNat', Nat.mod_eq_of_lt (by omega)]; omega⟩
  rw [ofNat_toNat]
  unfold m55
  refine rangeIx l 0 (fun n (_ : Unit) t => l55a B48 101 o l (x.toNat : Int) n t) (fun _ r _ => ∀ b ∈ r, isL b) (fun t r _ => some (opI (Do o) x t r)) (fun n _ t b rest h3 h4 hI ih => ?_) (fun n _ _ => ?_) 101 () (by omega) hL
  ·show l55a B48 101 o l (x.toNat : Int) (n + 1) (t : Int) = _
   have ih := ih () fun c hc => hI c (by simp [hc])
   rw [l55a, ixA h3, cond_true, ixB h3, chk_true, chk_true, Int.toNat_natCast, h4, ixW h3 (by omega), B48_of h0 (hI b (by simp)) hx, Option.bind_some, opI]
   by_cases hb : b = x
   ·rw [if_pos hb, hb, beq_self_eq_true, cond_true]
   ·rw [if_neg hb, beq_eq_false_iff_ne.2 (fun e => hb (UInt8.toNat_inj.1 (by omega))), cond_false]
    cases Do o b x with
    | true => rw [cond_true, if_pos rfl]
    | false => rw [cond_false, if_neg (by simp)]; exact ih
  ·show l55a B48 101 o l (x.toNat : Int) (n + 1) (l.length : Int) = _
   rw [l55a, ixE, cond_false]; rfl
 ·cases h⟩
theorem B55_of {o : Of} (h : errO o = 0) {l : Wd} (hl : l.length ≤ 100) (hL : ∀ b ∈ l, isL b) {x : UInt8} (hx : isL x) : B55 o l (x.toNat : Int) = some (opI (Do o) x 0 l) := by
 unfold B55
 unfold isL at hx
 rw [if_pos ⟨h, hl, hL, by omega, by omega⟩, ofNat_toNat]
theorem abc_step {c : Nat} (h0 : 97 ≤ c) (h1 : c < 103) : ∃ x : UInt8, isL x ∧ x.toNat = c ∧ abc.drop (c - 97) = x :: abc.drop (c + 1 - 97) := by
 have : c = 97 ∨ c = 98 ∨ c = 99 ∨ c = 100 ∨ c = 101 ∨ c = 102 := by omega
 rcases this with rfl | rfl | rfl | rfl | rfl | rfl
 ·exact ⟨97, by decide, rfl, rfl⟩
 ·exact ⟨98, by decide, rfl, rfl⟩
 ·exact ⟨99, by decide, rfl, rfl⟩
 ·exact ⟨100, by decide, rfl, rfl⟩
 ·exact ⟨101, by decide, rfl, rfl⟩
 ·exact ⟨102, by decide, rfl, rfl⟩
theorem take_one {l : Wd} {i : Nat} {x : UInt8} (h : (l.drop i).take 1 = [x]) : (l.take (i + 1)).drop i = [x] := by
 rw [List.drop_take, show i + 1 - i = 1 by omega, h]
theorem l45b_pick {o : Of} (h0 : errO o = 0) (N : Nat) (rec : Wd → Wd → Option Wd) {l out : Wd} (hl : l.length ≤ 100) (hL : ∀ b ∈ l, isL b) (ho : out.length ≤ 1000) :
  ∀ (m : Nat) (c : Nat), 97 ≤ c → c ≤ 103 → 103 - c < m → l45b B55 N o rec m l out (c : Int) = match (abc.drop (c - 97)).findSome? fun x => (tk (Do o) x l).map fun l' => (x, l') with
   | some p => rec p.2 (out ++ [p.1])
   | none => rec l out
 | 0, c, _, _, h => by omega
 | m + 1, c, h1, h2, h3 => by
  by_cases hc : c = 103
  ·subst hc
   rw [l45b, decide_eq_false (by decide), cond_false]; rfl
  ·obtain ⟨x, hx, hxn, hdrop⟩ := abc_step h1 (by omega)
   rw [l45b, decide_eq_true (by omega), cond_true, hdrop, List.findSome?_cons, ← hxn, B55_of h0 hl hL hx, Option.bind_some]
   rcases opI_tk (D := Do o) (x := x) l 0 with ⟨e1, e2⟩ | ⟨i, e1, e2, e3, e4⟩
   ·rw [e1, e2, decide_eq_false (by decide), cond_false, hxn, wrap_u8 (by omega) (by omega)]
    have := l45b_pick h0 N rec hl hL ho m (c + 1) (by omega) (by omega) (by omega)
    rw [show ((c : Int) + 1) = ((c + 1 : Nat) : Int) by omega, this]; rfl
   ·rw [Nat.zero_add] at e1
    have e5 := take_one e3
    have hq : (l.take i ++ l.drop (i + 1)).length ≤ 100 := by have := tk_len e4; omega
    rw [List.length_append] at hq
    rw [e1, e4, decide_eq_true (by omega), cond_true, w64_succ (by omega), Int.toNat_natCast, Int.toNat_natCast, e5]
    rw [chk_dec (by omega), chk_dec (by simp only [List.length_cons, List.length_nil]; omega), chk_dec (by omega), chk_dec (by omega), chk_dec (by omega)]
    rfl
theorem first45 {o : Of} (h0 : errO o = 0) (N : Nat) (hN : 10 ≤ N) : ∀ (n : Nat) (l out : Wd), l.length < n → l.length ≤ 100 → (∀ b ∈ l, isL b) → out.length + l.length ≤ 500 → l45a B55 N o n l out = some (out ++ nfo o l)
 | 0, l, out, h, _, _, _ => by omega
 | n + 1, l, out, h, hl, hL, ho => by
  rw [l45a]
  cases l with
  | nil => rw [decide_eq_false (by simp), cond_false]; simp [nfo, nf]
  | cons b r =>
   rw [decide_eq_true (by simp only [List.length_cons]; omega), cond_true]
   have := l45b_pick h0 N (fun y0 y1 => l45a B55 N o n y0 y1) hl hL (out := out) (by omega) N 97 (by omega) (by omega) (by omega)
   rw [show ((97 : Nat) : Int) = 97 from rfl] at this
   rw [this]
   obtain ⟨y, l', hp⟩ := pick_any (D := Do o) (l := r) (isL_abc (hL b (by simp)))
   have e : (abc.drop (97 - 97)).findSome? (fun x => (tk (Do o) x (b :: r)).map fun l' => (x, l')) = some (y, l') := hp
   rw [e]
   obtain ⟨_, ht⟩ := pick_some hp
   have hlen := tk_len ht
   show l45a B55 N o n l' (out ++ [y]) = _
   rw [first45 h0 N hN n l' (out ++ [y]) (by omega) (by omega) (fun z hz => hL z ((tk_mem ht).2 z hz)) (by simp only [List.length_append, List.length_cons, List.length_nil] at *; omega)]
   unfold nfo
   rw [hlen]
   simp only [nf, hp, List.append_assoc, List.singleton_append]
def B45 : Of → Wd → Option Wd := fun o l => if errO o = 0 ∧ l.length ≤ 100 ∧ (∀ b ∈ l, isL b) then some (nfo o l) else none
theorem kb45 : FnOk Tryd.prog 45 (F45 B45) := ok45 B55 kb55 B45 fun o l r h => ⟨101, by
 unfold B45 at h
 split at h
 ·rename_i hq
  obtain ⟨h0, hl, hL⟩ := hq
  obtain rfl := Option.some.inj h
  unfold m45
  rw [first45 h0 101 (by omega) 101 l [] (by omega) hl hL (by simp only [List.length_nil]; omega), List.nil_append]
 ·cases h⟩
theorem B45_of {o : Of} (h0 : errO o = 0) {l : Wd} (hl : l.length ≤ 100) (hw : Ls o l) : B45 o l = some (nfo o l) := by
 unfold B45; rw [if_pos ⟨h0, hl, hw.isL h0⟩]
theorem kb14 : FnOk Tryd.prog 14 (F14 B13) := ok14 B44 B45 kb44 kb45 B13 fun o l r h => ⟨0, by
 obtain rfl := Option.some.inj h
 unfold m14
 show (B44 o l).bind _ = _
 unfold B44
 rw [Option.bind_some]
 by_cases he : errA o [l] = 0
 ·obtain ⟨h1, h2⟩ := errA_word he (l := l) (by simp)
  rw [he, if_pos rfl]
  show cond false _ _ = _
  rw [cond_false, B45_of (errA_zero he).1 (by omega) h2]; rfl
 ·have : (errA o [l] != 0) = true := by simpa using he
  rw [this, cond_true, if_neg he]⟩
def bytesI (w : Wd) : List Int := w.map fun b => (b.toNat : Int)
theorem toBytes_I (w : Wd) : toBytes (bytesI w) = w := by
 unfold toBytes bytesI
 rw [List.map_map]
 exact (List.map_congr_left fun b _ => by simp).trans (List.map_id w)
end Go.Proofs.YtmpbbkldopfkpaaDoor
