/-
 Bits; codes and their errors.
-/
import Derived.Test.YtfopcfnggdonkaaGreatDoorP0
import Derived.Test.YtfopcfnggdonkaaGreatDoorTFM
import Derived.Test.YtfopcfnggdonkaaGreatDoorTMM
namespace Go.Proofs.YtfopcfnggdonkaaGreatDoor
open Go.Proofs.Tryz
open Go.RowKit
set_option linter.unusedVariables false
abbrev Cd := Int × List (List Int) × Unit
abbrev dC : Cd := (0, [], ())
theorem wrap_u8 {n : Nat} (h : n < 256) : IntKind.wrap .u8 (n : Int) = n := by simp [IntKind.wrap, IntKind.bits, IntKind.signed]; omega
theorem aCG (k a b : Nat) (ha : a < 2 ^ k) (hb : b < 2 ^ k) : ((BitVec.ofInt k (a : Int)) ||| (BitVec.ofInt k (b : Int))).toNat = a ||| b := by
 rw [BitVec.ofInt_natCast, BitVec.ofInt_natCast, BitVec.toNat_or, BitVec.toNat_ofNat, BitVec.toNat_ofNat, Nat.mod_eq_of_lt ha, Nat.mod_eq_of_lt hb]
theorem aqQ (k a b : Nat) (ha : a < 2 ^ k) (hb : b < 2 ^ k) : ((BitVec.ofInt k (a : Int)) &&& (BitVec.ofInt k (b : Int))).toNat = a &&& b := by
 rw [BitVec.ofInt_natCast, BitVec.ofInt_natCast, BitVec.toNat_and, BitVec.toNat_ofNat, BitVec.toNat_ofNat, Nat.mod_eq_of_lt ha, Nat.mod_eq_of_lt hb]
theorem acO {a b : Nat} (ha : a < 256) (hb : b < 256) : y5 .u8 (a : Int) (b : Int) = ((a ||| b : Nat) : Int) := by
 have h : a ||| b < 256 := Nat.or_lt_two_pow (n := 8) ha hb
 have e := aCG 8 a b ha hb
 show IntKind.wrap .u8 ((((BitVec.ofInt 8 (a : Int)) ||| (BitVec.ofInt 8 (b : Int))).toNat : Nat) : Int) = _
 rw [e]
 exact wrap_u8 h
theorem aq2 {a b : Nat} (ha : a < 256) (hb : b < 256) : IW .u8 (a : Int) (b : Int) = ((a &&& b : Nat) : Int) := by
 have h : a &&& b < 256 := Nat.and_lt_two_pow (n := 8) a hb
 have e := aqQ 8 a b ha hb
 show IntKind.wrap .u8 ((((BitVec.ofInt 8 (a : Int)) &&& (BitVec.ofInt 8 (b : Int))).toNat : Nat) : Int) = _
 rw [e]
 exact wrap_u8 h
theorem aCZ (c : Nat) : ((2 : Int) ^ c) = ((2 ^ c : Nat) : Int) := by simp
theorem aCF {c : Nat} (hc : c < 8) : IntKind.wrap .u8 (1 * 2 ^ min (Int.toNat (c : Int)) 8) = ((2 ^ c : Nat) : Int) := by
 rw [Int.toNat_natCast, Nat.min_eq_left (by omega), Int.one_mul, aCZ]
 exact wrap_u8 (Nat.pow_lt_pow_right (by decide) hc : 2 ^ c < 2 ^ 8)
def uJ (lo n hi : Int) : Option Bool := some (decide (lo <= n /\ n <= hi))
theorem Ns : aF prog 39 (AU uJ) := aBJ uJ fun lo n hi r h => ⟨0, by
 rw [<- h]; simp only [Vz, uJ]
 by_cases a : lo <= n <;> simp [a]⟩
def fx {α : Type} (p : α -> Bool) : Int -> List α -> Int
 | _, [] => -1
 | t, x :: xs => cond (p x) t (fx p (t + 1) xs)
theorem Dz {α : Type} (p : α -> Bool) : ∀ (xs : List α) (t : Int), 0 <= t -> decide (fx p t xs >= 0) = xs.any p
 | [], t, h => rfl
 | x :: xs, t, h => by
  rw [fx, List.any_cons]
  cases e : p x with
  | true => simp [h]
  | false => rw [cond_false, Dz p xs (t + 1) (by omega)]; simp
def sz (c : Cd) : Nat := (c.2.1.getD 0 []).length
def qC (n m : Int) : Bool := !decide (0 <= m /\ m <= aB (n - 1))
def qH (c : Cd) : Option Int := if 0 < c.2.1.length then some (sz c : Int) else none
theorem QR : aF prog 35 (wC qH) := aBF qH fun c r h => ⟨0, by
 simp only [qH] at h
 split at h
 ·rename_i hl
  rw [<- h, Vx, pW (by omega)]; rfl
 ·cases h⟩
def KQ (m : Int) (o : List Cd) : Option (Bool × List Cd) := some (qC (o.getD 0 dC).1 m, o)
theorem apY : aF prog 100 (LK KQ) := aAL uJ Ns KQ fun c o r h => ⟨0, by
 rw [<- h]; simp only [Vg, KQ, uJ, Option.bind_some, qC]⟩
def PO (s : List Int) (o : List Cd) : Option (Int × List Cd) := if s.length <= 1000 then some (fx (qC (o.getD 0 dC).1) 0 s, o) else none
theorem aqI : aF prog 78 (L8 PO) := aB2 KQ apY PO fun s o r h => ⟨1001, by
 simp only [PO] at h
 split at h
 ·rename_i hl
  rw [<- h, Ij]
  exact wZ s 0 (fun n (_ : Unit) t => JQ KQ 1001 s n t o) (fun _ _ _ => True) (fun t xs _ => some (fx (qC (o.getD 0 dC).1) t xs, o))
   (fun n _ t x rest ht hx _ ih => by
    simp only [JQ, mM ht, lZ ht, cond_true, kV, Int.toNat_natCast, nV ht (by omega), hx, ih () trivial, fx, KQ, Option.bind_some]
    cases qC (o.getD 0 dC).1 x <;> rfl)
   (fun n _ _ => by simp only [JQ, nM, cond_false]; rfl) 1001 () (by omega) trivial
 ·cases h⟩
def PI (s : List Int) (o : List Cd) : Option (Bool × List Cd) := if s.length <= 1000 then some (s.any (qC (o.getD 0 dC).1), o) else none
theorem aqA : aF prog 45 (QG PI) := aBN PO aqI PI fun s o r h => ⟨0, by
 simp only [PI] at h
 split at h
 ·rename_i hl
  rw [<- h, Wi, PO, if_pos hl, Option.bind_some, Dz _ s 0 (by omega)]
 ·cases h⟩
def wE (c : Cd) (w : List Int) : Int := cond (decide (w.length = sz c)) (cond (w.any (qC c.1)) 4 0) 3
theorem agF (a b : Nat) : ((a : Int) != (b : Int)) = !decide (a = b) := by
 by_cases h : a = b
 ·subst h; simp
 ·have : (a : Int) ≠ b := by omega
  simp [h, this]
def EY (c : Cd) (w : List Int) : Option Int := if 0 < c.2.1.length /\ w.length <= 1000 then some (wE c w) else none
theorem ab6 : aF prog 70 (IA EY) := aBX qH PI QR aqA EY fun c w r h => ⟨0, by
 simp only [EY] at h
 split at h
 ·rename_i hl
  rw [<- h, Wv, qH, if_pos hl.1, Option.bind_some, PI, if_pos hl.2, Option.bind_some, agF, wE]
  cases decide (w.length = sz c) with
  | false => rfl
  | true =>
   show (cond (w.any (qC c.1)) (some 4) (some 0)) = _
   cases w.any (qC c.1) <;> rfl
 ·cases h⟩
def KW (w : List Int) (o : List Cd) : Option (Bool × List Cd) := if 0 < (o.getD 0 dC).2.1.length then some (!decide (w.length = sz (o.getD 0 dC)), o) else none
theorem aqD : aF prog 69 (LY KW) := aBW qH QR KW fun w o r h => ⟨0, by
 simp only [KW] at h
 split at h
 ·rename_i hl
  rw [<- h, Wu, qH, if_pos hl, Option.bind_some, agF]
 ·cases h⟩
def PQ (s : List (List Int)) (o : List Cd) : Option (Int × List Cd) := if s.length <= 1000 /\ 0 < (o.getD 0 dC).2.1.length then some (fx (fun w => !decide (w.length = sz (o.getD 0 dC))) 0 s, o) else none
theorem aqJ : aF prog 99 (MB PQ) := aB8 KW aqD PQ fun s o r h => ⟨1001, by
 simp only [PQ] at h
 split at h
 ·rename_i hl
  obtain ⟨hl, ho⟩ := hl
  rw [<- h, Ip]
  exact wZ s [] (fun n (_ : Unit) t => JS KW 1001 s n t o) (fun _ _ _ => True) (fun t xs _ => some (fx (fun w => !decide (w.length = sz (o.getD 0 dC))) t xs, o))
   (fun n _ t x rest ht hx _ ih => by
    simp only [JS, mM ht, lZ ht, cond_true, kV, Int.toNat_natCast, nV ht (by omega), hx, ih () trivial, fx, KW, if_pos ho, Option.bind_some]
    cases decide (x.length = sz (o.getD 0 dC)) <;> rfl)
   (fun n _ _ => by simp only [JS, nM, cond_false]; rfl) 1001 () (by omega) trivial
 ·cases h⟩
def KU (s : List (List Int)) (o : List Cd) : Option (Bool × List Cd) := if s.length <= 1000 /\ 0 < (o.getD 0 dC).2.1.length then some (s.any fun w => !decide (w.length = sz (o.getD 0 dC)), o) else none
theorem aqC : aF prog 68 (QK KU) := aBV PQ aqJ KU fun s o r h => ⟨0, by
 simp only [KU] at h
 split at h
 ·rename_i hl
  rw [<- h, Ws, PQ, if_pos hl, Option.bind_some, Dz _ s 0 (by omega)]
 ·cases h⟩
def lI (c : Cd) : Int := cond (decide (2 <= c.1 /\ c.1 <= 4)) (cond (decide (c.2.1.length = 0)) 1 (cond (decide (10 < c.2.1.length)) 2 (cond (decide (1 <= sz c /\ sz c <= 8))
 (cond (c.2.1.any fun w => !decide (w.length = sz c)) 3 (cond (c.2.1.any fun w => w.any (qC c.1)) 4 0)) 3))) 4
def DC (c : Cd) : Bool := decide (c.2.1.length <= 1000) && c.2.1.all fun w => decide (w.length <= 1000)
theorem Zd {c : Cd} (h : DC c = true) : c.2.1.length <= 1000 /\ ∀ w ∈ c.2.1, w.length <= 1000 := by
 simpa [DC] using h
def qN (c : Cd) : Option Int := if DC c = true then some (lI c) else none
theorem ayD (n : Nat) : ((n : Int) == 0) = decide (n = 0) := by
 by_cases h : n = 0 <;> simp [h]
theorem ayF (n k : Nat) : decide ((n : Int) > (k : Int)) = decide (k < n) := by
 by_cases h : k < n
 ·rw [decide_eq_true h]; exact decide_eq_true (by omega)
 ·rw [decide_eq_false h]; exact decide_eq_false (by omega)
theorem Nr : aF prog 34 (AQ qN) := aBE qH uJ KU EY QR Ns aqC ab6 qN fun c r h => ⟨1001, by
 simp only [qN] at h
 split at h
 ·rename_i hs
  obtain ⟨h1, h2⟩ := Zd hs
  rw [<- h, Hw]
  simp only [uJ, Option.bind_some, lI, ayD]
  cases decide (2 <= c.1 /\ c.1 <= 4) with
  | false => rfl
  | true =>
   simp only [Bool.not_true, cond_true, cond_false]
   cases e0 : decide (c.2.1.length = 0) with
   | true => rfl
   | false =>
    have h0 : 0 < c.2.1.length := by have := of_decide_eq_false e0; omega
    simp only [cond_false]
    rw [show decide ((c.2.1.length : Int) > 10) = decide (10 < c.2.1.length) from ayF _ 10]
    cases decide (10 < c.2.1.length) with
    | true => rfl
    | false =>
     simp only [cond_false, qH, if_pos h0, Option.bind_some]
     rw [show decide ((1 : Int) <= (sz c : Int) /\ (sz c : Int) <= 8) = decide (1 <= sz c /\ sz c <= 8) from decide_eq_decide.2 (by omega)]
     cases decide (1 <= sz c /\ sz c <= 8) with
     | false => rfl
     | true =>
      simp only [Bool.not_true, cond_false, cond_true, KU, List.getD_cons_zero, if_pos (show c.2.1.length <= 1000 /\ 0 < c.2.1.length from ⟨h1, h0⟩), Option.bind_some]
      cases ea : c.2.1.any fun w => !decide (w.length = sz c) with
      | true => rfl
      | false =>
       simp only [cond_false]
       have hall : ∀ w ∈ c.2.1, w.length = sz c := fun w hw => by
        have := List.any_eq_false.1 ea w hw
        simpa using this
       refine (U2 c.2.1 [] (fun n (_ : Unit) t => l34a qH uJ KU EY 1001 (false, [c]) n t) (fun xs _ => ∀ w ∈ xs, w.length = sz c /\ w.length <= 1000) (fun xs _ => some (cond (xs.any fun w => w.any (qC c.1)) 4 0)) (fun n _ t x rest ht hx hI ih => ?_)
        (fun n _ _ => by simp only [l34a, List.getD_cons_zero, nM, cond_false]; rfl) 1001 () (by omega) (fun w hw => ⟨hall w hw, h2 w hw⟩))
       obtain ⟨x1, x2⟩ := hI x (by simp)
       simp only [l34a, List.getD_cons_zero, mM ht, lZ ht, cond_true, kV, Int.toNat_natCast, nV ht (by omega), hx, ih () (fun w hw => hI w (by simp [hw])), EY, if_pos (show 0 < c.2.1.length /\ x.length <= 1000 from ⟨h0, x2⟩), Option.bind_some, wE, decide_eq_true x1, List.any_cons]
       cases x.any (qC c.1) <;> rfl
 ·cases h⟩
end Go.Proofs.YtfopcfnggdonkaaGreatDoor
