/-
 What the laws without the reference need.
-/
import Derived.Test.YtfopcfnggdonkaaGreatDoorP0
import Derived.Test.YtfopcfnggdonkaaGreatDoorLIM
namespace Go.Proofs.YtfopcfnggdonkaaGreatDoor
open Go.Proofs.Tryz
open Go.RowKit
set_option linter.unusedVariables false
abbrev dG := Int × List (List Int) × Unit
abbrev yX : dG := (0, [], ())
theorem Hf {n : Nat} (h : n < 256) : IntKind.wrap .u8 (n : Int) = n := by simp [IntKind.wrap, IntKind.bits, IntKind.signed]; omega
theorem aBB (k a b : Nat) (ha : a < 2 ^ k) (hb : b < 2 ^ k) : ((BitVec.ofInt k (a : Int)) ||| (BitVec.ofInt k (b : Int))).toNat = a ||| b := by
 rw [BitVec.ofInt_natCast, BitVec.ofInt_natCast, BitVec.toNat_or, BitVec.toNat_ofNat, BitVec.toNat_ofNat, Nat.mod_eq_of_lt ha, Nat.mod_eq_of_lt hb]
theorem ao8 (k a b : Nat) (ha : a < 2 ^ k) (hb : b < 2 ^ k) : ((BitVec.ofInt k (a : Int)) &&& (BitVec.ofInt k (b : Int))).toNat = a &&& b := by
 rw [BitVec.ofInt_natCast, BitVec.ofInt_natCast, BitVec.toNat_and, BitVec.toNat_ofNat, BitVec.toNat_ofNat, Nat.mod_eq_of_lt ha, Nat.mod_eq_of_lt hb]
theorem aaR {a b : Nat} (ha : a < 256) (hb : b < 256) : sQ .u8 (a : Int) (b : Int) = ((a ||| b : Nat) : Int) := by
 have h : a ||| b < 256 := Nat.or_lt_two_pow (n := 8) ha hb
 have e := aBB 8 a b ha hb
 show IntKind.wrap .u8 ((((BitVec.ofInt 8 (a : Int)) ||| (BitVec.ofInt 8 (b : Int))).toNat : Nat) : Int) = _
 rw [e]
 exact Hf h
theorem apK {a b : Nat} (ha : a < 256) (hb : b < 256) : yS .u8 (a : Int) (b : Int) = ((a &&& b : Nat) : Int) := by
 have h : a &&& b < 256 := Nat.and_lt_two_pow (n := 8) a hb
 have e := ao8 8 a b ha hb
 show IntKind.wrap .u8 ((((BitVec.ofInt 8 (a : Int)) &&& (BitVec.ofInt 8 (b : Int))).toNat : Nat) : Int) = _
 rw [e]
 exact Hf h
theorem ahK (c : Nat) : ((2 : Int) ^ c) = ((2 ^ c : Nat) : Int) := by simp
theorem as7 (s c : Nat) : Int.fdiv (s : Int) ((2 : Int) ^ c) = ((s / 2 ^ c : Nat) : Int) := by
 rw [ahK, Int.fdiv_eq_ediv_of_nonneg _ (Int.natCast_nonneg _), Int.natCast_ediv]
theorem apV (s c : Nat) : ((((s / 2 ^ c &&& 1 : Nat)) : Int) == 1) = s.testBit c := by
 rw [Nat.and_one_is_mod, Nat.testBit_eq_decide_div_mod_eq]
 by_cases h : s / 2 ^ c % 2 = 1
 ·simp [h]
 ·have : s / 2 ^ c % 2 = 0 := by omega
  simp [this]
theorem apX {s c : Nat} (hs : s < 256) (hc : c <= 8) : ((yS .u8 (Int.fdiv (s : Int) (2 ^ min (Int.toNat (c : Int)) 8)) 1) == 1) = s.testBit c := by
 rw [Int.toNat_natCast, Nat.min_eq_left hc, as7]
 have h := apK (a := s / 2 ^ c) (b := 1) (Nat.lt_of_le_of_lt (Nat.div_le_self _ _) hs) (by decide)
 rw [show ((1 : Nat) : Int) = 1 from rfl] at h
 rw [h]; exact apV s c
theorem ag7 {c : Nat} (hc : c < 8) : IntKind.wrap .u8 (1 * 2 ^ min (Int.toNat (c : Int)) 8) = ((2 ^ c : Nat) : Int) := by
 rw [Int.toNat_natCast, Nat.min_eq_left (by omega), Int.one_mul, ahK]
 exact Hf (Nat.pow_lt_pow_right (by decide) hc : 2 ^ c < 2 ^ 8)
def yK (lo n hi : Int) : Option Bool := some (decide (lo <= n /\ n <= hi))
theorem Iq : aC prog 58 (AL yK) := aAX yK fun lo n hi r h => ⟨0, by
 rw [<- h]; simp only [Ru, yK]
 by_cases a : lo <= n <;> simp [a]⟩
def fx (p : Int -> Bool) : Int -> List Int -> Int
 | _, [] => -1
 | t, x :: xs => cond (p x) t (fx p (t + 1) xs)
theorem Nj (p : Int -> Bool) : ∀ (xs : List Int) (t : Int), 0 <= t -> decide (fx p t xs >= 0) = xs.any p
 | [], t, h => rfl
 | x :: xs, t, h => by
  rw [fx, List.any_cons]
  cases e : p x with
  | true => simp [h]
  | false => rw [cond_false, Nj p xs (t + 1) (by omega)]; simp
def lW (n c : Int) : Bool := !decide (0 <= c /\ c <= aH (n - 1))
def JH (c : Int) (o : List dG) : Option (Bool × List dG) := some (lW (o.getD 0 yX).1 c, o)
theorem aoX : aC prog 90 (JV JH) := aA6 yK Iq JH fun c o r h => ⟨0, by
 rw [<- h]; simp only [Ry, JH, yK, Option.bind_some, lW]⟩
def MS (s : List Int) (o : List dG) : Option (Int × List dG) := if s.length <= 1000 then some (fx (lW (o.getD 0 yX).1) 0 s, o) else none
theorem aoW : aC prog 78 (JS MS) := aA4 JH aoX MS fun s o r h => ⟨1001, by
 simp only [MS] at h
 split at h
 ·rename_i hl
  rw [<- h, Ea]
  exact yA s 0 (fun n (_ : Unit) t => G8 JH 1001 s n t o) (fun _ _ _ => True) (fun t xs _ => some (fx (lW (o.getD 0 yX).1) t xs, o))
   (fun n _ t x rest ht hx _ ih => by
    simp only [G8, X3, rP ht, rQ ht, cond_true, kX, Int.toNat_natCast, qM ht (by omega), hx, ih () trivial, fx, JH, Option.bind_some]
    cases lW (o.getD 0 yX).1 x <;> rfl)
   (fun n _ _ => by simp only [G8, X3, qL, cond_false]; rfl) 1001 () (by omega) trivial
 ·cases h⟩
def JE (s : List Int) (o : List dG) : Option (Bool × List dG) := if s.length <= 1000 then some (s.any (lW (o.getD 0 yX).1), o) else none
theorem aoO : aC prog 45 (NT JE) := aAQ MS aoW JE fun s o r h => ⟨0, by
 simp only [JE] at h
 split at h
 ·rename_i hl
  rw [<- h, Ro, MS, if_pos hl, Option.bind_some, Nj _ s 0 (by omega)]
 ·cases h⟩
def JG (c : Int) (o : List dG) : Option (Bool × List dG) := some (lW ((o.getD 0 yX).2.1.length : Int) c, o)
theorem aoQ : aC prog 57 (JQ JG) := aAW yK Iq JG fun c o r h => ⟨0, by
 rw [<- h]; simp only [Rt, JG, yK, Option.bind_some, lW]⟩
def MR (s : List Int) (o : List dG) : Option (Int × List dG) := if s.length <= 1000 then some (fx (lW ((o.getD 0 yX).2.1.length : Int)) 0 s, o) else none
theorem aoV : aC prog 78 (JR MR) := aA3 JG aoQ MR fun s o r h => ⟨1001, by
 simp only [MR] at h
 split at h
 ·rename_i hl
  rw [<- h, Dz]
  exact yA s 0 (fun n (_ : Unit) t => G7 JG 1001 s n t o) (fun _ _ _ => True) (fun t xs _ => some (fx (lW ((o.getD 0 yX).2.1.length : Int)) t xs, o))
   (fun n _ t x rest ht hx _ ih => by
    simp only [G7, X0, rP ht, rQ ht, cond_true, kX, Int.toNat_natCast, qM ht (by omega), hx, ih () trivial, fx, JG, Option.bind_some]
    cases lW ((o.getD 0 yX).2.1.length : Int) x <;> rfl)
   (fun n _ _ => by simp only [G7, X0, qL, cond_false]; rfl) 1001 () (by omega) trivial
 ·cases h⟩
def MN (s : List Int) (o : List dG) : Option (Bool × List dG) := if s.length <= 1000 then some (s.any (lW ((o.getD 0 yX).2.1.length : Int)), o) else none
theorem aoN : aC prog 45 (NS MN) := aAP MR aoV MN fun s o r h => ⟨0, by
 simp only [MN] at h
 split at h
 ·rename_i hl
  rw [<- h, Rn, MR, if_pos hl, Option.bind_some, Nj _ s 0 (by omega)]
 ·cases h⟩
def FP (n : Int) (l : List Int) : Int := cond ((l.length : Int) != n) 3 (cond (l.any (lW n)) 4 0)
def DJ (n : Int) : List (List Int) -> Int
 | [] => 0
 | l :: r => cond (FP n l == 0) (DJ n r) (FP n l)
def ck (p : dG) : Int := if 2 <= p.1 /\ p.1 <= 7 then (if p.2.1.length = 0 then 1 else if p.2.1.length > 6 then 2 else DJ p.1 p.2.1) else 4
def yZ (p : dG) : Bool := decide (p.2.1.length <= 1000) && p.2.1.all fun l => decide (l.length <= 1000)
theorem atG {p : dG} (h : yZ p = true) : p.2.1.length <= 1000 /\ ∀ l ∈ p.2.1, l.length <= 1000 := by
 simpa [yZ] using h
def MO (p : dG) : Option Int := if yZ p then some (ck p) else none
theorem aqV {p : dG} (f : Option Int) (e : 2 <= p.1 /\ p.1 <= 7 -> f = some (DJ p.1 p.2.1)) :
  (cond (!decide (2 <= p.1 /\ p.1 <= 7)) (some (4 : Int)) (cond ((p.2.1.length : Int) == 0) (some 1) (cond (decide ((p.2.1.length : Int) > 6)) (some 2) f))) = some (ck p) := by
 simp only [ck]
 by_cases h1 : 2 <= p.1 /\ p.1 <= 7
 ·rw [if_pos h1, decide_eq_true h1]
  by_cases h2 : p.2.1.length = 0
  ·rw [if_pos h2]; simp [h2]
  ·rw [if_neg h2]
   have h2' : ((p.2.1.length : Int) == 0) = false := by rw [beq_eq_false_iff_ne]; omega
   rw [h2']
   by_cases h3 : p.2.1.length > 6
   ·rw [if_pos h3, decide_eq_true (by omega : (p.2.1.length : Int) > 6)]; rfl
   ·rw [if_neg h3, decide_eq_false (by omega : ¬ (p.2.1.length : Int) > 6)]; exact e h1
 ·rw [if_neg h1, decide_eq_false h1]; rfl
theorem aoP : aC prog 56 (NW MO) := aAV JE yK aoO Iq MO fun p r h => ⟨1001, by
 simp only [MO] at h
 split at h
 ·rename_i hf
  obtain ⟨hl, hm⟩ := atG hf
  rw [<- h, Du, yK, Option.bind_some]
  refine aqV _ fun h1 => ?_
  exact Fq p.2.1 [] (fun n (_ : Unit) t => GX JE yK 1001 p n t [p]) (fun xs _ => ∀ l ∈ xs, l.length <= 1000) (fun xs _ => some (DJ p.1 xs))
   (fun n _ t x rest ht hx hI ih => by
    have hx1 := hI x (List.mem_cons_self ..)
    have hr : ∀ l ∈ rest, l.length <= 1000 := fun l hl => hI l (List.mem_cons_of_mem _ hl)
    simp only [GX, XV, rP ht, rQ ht, cond_true, kX, Int.toNat_natCast, qM ht (by omega), hx, ih () hr, JE, if_pos hx1, Option.bind_some, DJ, FP, List.getD_cons_zero]
    by_cases e : (x.length : Int) = p.1
    ·have e' : ((x.length : Int) != p.1) = false := by rw [bne_eq_false_iff_eq]; exact e
     rw [e', cond_false, cond_false]
     cases x.any (lW p.1) <;> rfl
    ·have e' : ((x.length : Int) != p.1) = true := by rw [bne_iff_ne]; exact e
     rw [e']; rfl)
   (fun n _ _ => by simp only [GX, XV, qL, cond_false]; rfl) 1001 () (by omega) hm
 ·cases h⟩
def sH (p : dG) (l : List Int) (most : Int) : Int := if ck p = 0 then (if (l.length : Int) > most then 2 else cond (l.any (lW (p.2.1.length : Int))) 5 0) else ck p
def yI (p : dG) (l : List Int) (most : Int) : Option Int := if yZ p = true /\ l.length <= 1000 then some (sH p l most) else none
theorem aaB : aC prog 25 (EX yI) := aAI MN MO aoN aoP yI fun p l most r h => ⟨0, by
 simp only [yI] at h
 split at h
 ·rename_i hf
  rw [<- h, Ri, MO, if_pos hf.1, Option.bind_some, MN, if_pos hf.2, Option.bind_some, sH]
  by_cases e : ck p = 0
  ·rw [if_pos e]
   have e' : (ck p != 0) = false := by rw [bne_eq_false_iff_eq]; exact e
   rw [e', cond_false]
   by_cases e2 : (l.length : Int) > most
   ·rw [decide_eq_true e2, if_pos e2]; rfl
   ·rw [decide_eq_false e2, if_neg e2, cond_false]
    show cond (l.any (lW (p.2.1.length : Int))) _ _ = _
    cases l.any (lW (p.2.1.length : Int)) <;> rfl
  ·have e' : (ck p != 0) = true := by rw [bne_iff_ne]; exact e
   rw [e', if_neg e]; rfl
 ·cases h⟩
end Go.Proofs.YtfopcfnggdonkaaGreatDoor
