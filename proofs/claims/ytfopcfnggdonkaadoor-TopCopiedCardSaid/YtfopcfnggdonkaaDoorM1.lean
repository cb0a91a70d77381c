/-
 Bits; codes and their errors.
-/
import Derived.Test.YtfopcfnggdonkaaDoorP0
import Derived.Test.YtfopcfnggdonkaaDoorLCM
namespace Go.Proofs.YtfopcfnggdonkaaDoor
open Go.RowKit
set_option linter.unusedVariables false

abbrev dC : Cd := (0, [], ())
theorem wrap_u8 {n : Nat} (h : n < 256) : IntKind.wrap .u8 (n : Int) = n := by simp [IntKind.wrap, IntKind.bits, IntKind.signed]; omega
theorem or_bits (k a b : Nat) (ha : a < 2 ^ k) (hb : b < 2 ^ k) : ((BitVec.ofInt k (a : Int)) ||| (BitVec.ofInt k (b : Int))).toNat = a ||| b := by
 rw [BitVec.ofInt_natCast, BitVec.ofInt_natCast, BitVec.toNat_or, BitVec.toNat_ofNat, BitVec.toNat_ofNat, Nat.mod_eq_of_lt ha, Nat.mod_eq_of_lt hb]
theorem bOr_u8 {a b : Nat} (ha : a < 256) (hb : b < 256) : bOr .u8 (a : Int) (b : Int) = ((a ||| b : Nat) : Int) := by
 have h : a ||| b < 256 := Nat.or_lt_two_pow (n := 8) ha hb
 have e := or_bits 8 a b ha hb
 show IntKind.wrap .u8 ((((BitVec.ofInt 8 (a : Int)) ||| (BitVec.ofInt 8 (b : Int))).toNat : Nat) : Int) = _
 rw [e]
 exact wrap_u8 h
theorem pow_cast (c : Nat) : ((2 : Int) ^ c) = ((2 ^ c : Nat) : Int) := by simp
theorem one_u8 {c : Nat} (hc : c < 8) : IntKind.wrap .u8 (1 * 2 ^ min (Int.toNat (c : Int)) 8) = ((2 ^ c : Nat) : Int) := by
 rw [Int.toNat_natCast, Nat.min_eq_left (by omega), Int.one_mul, pow_cast]
 exact wrap_u8 (Nat.pow_lt_pow_right (by decide) hc : 2 ^ c < 2 ^ 8)
def B14 (lo n hi : Int) : Option Bool := some (decide (lo ≤ n ∧ n ≤ hi))
theorem KB14 : FnOk Tryd.prog 14 (F14 B14) := ok14 B14 fun lo n hi r h => ⟨0, by
 rw [← h]; simp only [m14, B14]
 by_cases a : lo ≤ n <;> simp [a]⟩
def fx {α : Type} (p : α → Bool) : Int → List α → Int
 | _, [] => -1
 | t, x :: xs => cond (p x) t (fx p (t + 1) xs)
theorem fx_ge {α : Type} (p : α → Bool) : ∀ (xs : List α) (t : Int), 0 ≤ t → decide (fx p t xs ≥ 0) = xs.any p
 | [], t, h => rfl
 | x :: xs, t, h => by
  rw [fx, List.any_cons]
  cases e : p x with
  | true => simp [h]
  | false => rw [cond_false, fx_ge p xs (t + 1) (by omega)]; simp
def sz (c : Cd) : Nat := (c.2.1.getD 0 []).length
def outM (n m : Int) : Bool := !decide (0 ≤ m ∧ m ≤ w64 (n - 1))
def B15 (c : Cd) : Option Int := if 0 < c.2.1.length then some (sz c : Int) else none
theorem KB15 : FnOk Tryd.prog 15 (F15 B15) := ok15 B15 fun c r h => ⟨0, by
 simp only [B15] at h
 split at h
 ·rename_i hl
  rw [← h, m15, chk_dec (by omega)]; rfl
 ·cases h⟩
def B29c (m : Int) (o : List Cd) : Option (Bool × List Cd) := some (outM (o.getD 0 dC).1 m, o)
theorem KB29c : FnOk Tryd.prog 29 (F29c B29c) := ok29c B14 KB14 B29c fun c o r h => ⟨0, by
 rw [← h]; simp only [m29c, B29c, B14, Option.bind_some, outM]⟩
def B37c29 (s : List Int) (o : List Cd) : Option (Int × List Cd) := if s.length ≤ 1000 then some (fx (outM (o.getD 0 dC).1) 0 s, o) else none
theorem KB37c29 : FnOk Tryd.prog 37 (F37c29 B37c29) := ok37c29 B29c KB29c B37c29 fun s o r h => ⟨1001, by
 simp only [B37c29] at h
 split at h
 ·rename_i hl
  rw [← h, m37c29]
  exact rangeIx s 0 (fun n (_ : Unit) t => l37c29a B29c 1001 s n t o) (fun _ _ _ => True) (fun t xs _ => some (fx (outM (o.getD 0 dC).1) t xs, o))
   (fun n _ t x rest ht hx _ ih => by
    simp only [l37c29a, ixA ht, ixB ht, cond_true, chk_true, Int.toNat_natCast, ixW ht (by omega), hx, ih () trivial, fx, B29c, Option.bind_some]
    cases outM (o.getD 0 dC).1 x <;> rfl)
   (fun n _ _ => by simp only [l37c29a, ixE, cond_false]; rfl) 1001 () (by omega) trivial
 ·cases h⟩
def B28c29 (s : List Int) (o : List Cd) : Option (Bool × List Cd) := if s.length ≤ 1000 then some (s.any (outM (o.getD 0 dC).1), o) else none
theorem KB28c29 : FnOk Tryd.prog 28 (F28c29 B28c29) := ok28c29 B37c29 KB37c29 B28c29 fun s o r h => ⟨0, by
 simp only [B28c29] at h
 split at h
 ·rename_i hl
  rw [← h, m28c29, B37c29, if_pos hl, Option.bind_some, fx_ge _ s 0 (by omega)]
 ·cases h⟩
def wE (c : Cd) (w : List Int) : Int := cond (decide (w.length = sz c)) (cond (w.any (outM c.1)) 4 0) 3
theorem lenNe (a b : Nat) : ((a : Int) != (b : Int)) = !decide (a = b) := by
 by_cases h : a = b
 ·subst h; simp
 ·have : (a : Int) ≠ b := by omega
  simp [h, this]
def B18 (c : Cd) (w : List Int) : Option Int := if 0 < c.2.1.length ∧ w.length ≤ 1000 then some (wE c w) else none
theorem KB18 : FnOk Tryd.prog 18 (F18 B18) := ok18 B15 B28c29 KB15 KB28c29 B18 fun c w r h => ⟨0, by
 simp only [B18] at h
 split at h
 ·rename_i hl
  rw [← h, m18, B15, if_pos hl.1, Option.bind_some, B28c29, if_pos hl.2, Option.bind_some, lenNe, wE]
  cases decide (w.length = sz c) with
  | false => rfl
  | true =>
   show (cond (w.any (outM c.1)) (some 4) (some 0)) = _
   cases w.any (outM c.1) <;> rfl
 ·cases h⟩
def B17c (w : List Int) (o : List Cd) : Option (Bool × List Cd) := if 0 < (o.getD 0 dC).2.1.length then some (!decide (w.length = sz (o.getD 0 dC)), o) else none
theorem KB17c : FnOk Tryd.prog 17 (F17c B17c) := ok17c B15 KB15 B17c fun w o r h => ⟨0, by
 simp only [B17c] at h
 split at h
 ·rename_i hl
  rw [← h, m17c, B15, if_pos hl, Option.bind_some, lenNe]
 ·cases h⟩
def B27c17 (s : List (List Int)) (o : List Cd) : Option (Int × List Cd) := if s.length ≤ 1000 ∧ 0 < (o.getD 0 dC).2.1.length then some (fx (fun w => !decide (w.length = sz (o.getD 0 dC))) 0 s, o) else none
theorem KB27c17 : FnOk Tryd.prog 27 (F27c17 B27c17) := ok27c17 B17c KB17c B27c17 fun s o r h => ⟨1001, by
 simp only [B27c17] at h
 split at h
 ·rename_i hl
  obtain ⟨hl, ho⟩ := hl
  rw [← h, m27c17]
  exact rangeIx s [] (fun n (_ : Unit) t => l27c17a B17c 1001 s n t o) (fun _ _ _ => True) (fun t xs _ => some (fx (fun w => !decide (w.length = sz (o.getD 0 dC))) t xs, o))
   (fun n _ t x rest ht hx _ ih => by
    simp only [l27c17a, ixA ht, ixB ht, cond_true, chk_true, Int.toNat_natCast, ixW ht (by omega), hx, ih () trivial, fx, B17c, if_pos ho, Option.bind_some]
    cases decide (x.length = sz (o.getD 0 dC)) <;> rfl)
   (fun n _ _ => by simp only [l27c17a, ixE, cond_false]; rfl) 1001 () (by omega) trivial
 ·cases h⟩
def B16c17 (s : List (List Int)) (o : List Cd) : Option (Bool × List Cd) := if s.length ≤ 1000 ∧ 0 < (o.getD 0 dC).2.1.length then some (s.any fun w => !decide (w.length = sz (o.getD 0 dC)), o) else none
theorem KB16c17 : FnOk Tryd.prog 16 (F16c17 B16c17) := ok16c17 B27c17 KB27c17 B16c17 fun s o r h => ⟨0, by
 simp only [B16c17] at h
 split at h
 ·rename_i hl
  rw [← h, m16c17, B27c17, if_pos hl, Option.bind_some, fx_ge _ s 0 (by omega)]
 ·cases h⟩
def cdE (c : Cd) : Int := cond (decide (2 ≤ c.1 ∧ c.1 ≤ 4)) (cond (decide (c.2.1.length = 0)) 1 (cond (decide (10 < c.2.1.length)) 2 (cond (decide (1 ≤ sz c ∧ sz c ≤ 8))
 (cond (c.2.1.any fun w => !decide (w.length = sz c)) 3 (cond (c.2.1.any fun w => w.any (outM c.1)) 4 0)) 3))) 4
def smB (c : Cd) : Bool := decide (c.2.1.length ≤ 1000) && c.2.1.all fun w => decide (w.length ≤ 1000)
theorem smB_at {c : Cd} (h : smB c = true) : c.2.1.length ≤ 1000 ∧ ∀ w ∈ c.2.1, w.length ≤ 1000 := by
 simpa [smB] using h
def B8 (c : Cd) : Option Int := if smB c = true then some (cdE c) else none
theorem lenEq0 (n : Nat) : ((n : Int) == 0) = decide (n = 0) := by
 by_cases h : n = 0 <;> simp [h]
theorem lenGt (n k : Nat) : decide ((n : Int) > (k : Int)) = decide (k < n) := by
 by_cases h : k < n
 ·rw [decide_eq_true h]; exact decide_eq_true (by omega)
 ·rw [decide_eq_false h]; exact decide_eq_false (by omega)
theorem KB8 : FnOk Tryd.prog 8 (F8 B8) := ok8 B14 B15 B16c17 B18 KB14 KB15 KB16c17 KB18 B8 fun c r h => ⟨1001, by
 simp only [B8] at h
 split at h
 ·rename_i hs
  obtain ⟨h1, h2⟩ := smB_at hs
  rw [← h, m8]
  simp only [B14, Option.bind_some, cdE, lenEq0]
  cases decide (2 ≤ c.1 ∧ c.1 ≤ 4) with
  | false => rfl
  | true =>
   simp only [Bool.not_true, cond_true, cond_false]
   cases e0 : decide (c.2.1.length = 0) with
   | true => rfl
   | false =>
    have h0 : 0 < c.2.1.length := by have := of_decide_eq_false e0; omega
    simp only [cond_false]
    rw [show decide ((c.2.1.length : Int) > 10) = decide (10 < c.2.1.length) from lenGt _ 10]
    cases decide (10 < c.2.1.length) with
    | true => rfl
    | false =>
     simp only [cond_false, B15, if_pos h0, Option.bind_some]
     rw [show decide ((1 : Int) ≤ (sz c : Int) ∧ (sz c : Int) ≤ 8) = decide (1 ≤ sz c ∧ sz c ≤ 8) from decide_eq_decide.2 (by omega)]
     cases decide (1 ≤ sz c ∧ sz c ≤ 8) with
     | false => rfl
     | true =>
      simp only [Bool.not_true, cond_false, cond_true, B16c17, List.getD_cons_zero, if_pos (show c.2.1.length ≤ 1000 ∧ 0 < c.2.1.length from ⟨h1, h0⟩), Option.bind_some]
      cases ea : c.2.1.any fun w => !decide (w.length = sz c) with
      | true => rfl
      | false =>
       simp only [cond_false]
       have hall : ∀ w ∈ c.2.1, w.length = sz c := fun w hw => by
        have := List.any_eq_false.1 ea w hw
        simpa using this
       refine (rangeInv c.2.1 [] (fun n (_ : Unit) t => l8a B14 B15 B16c17 B18 1001 (false, [c]) n t) (fun xs _ => ∀ w ∈ xs, w.length = sz c ∧ w.length ≤ 1000) (fun xs _ => some (cond (xs.any fun w => w.any (outM c.1)) 4 0)) (fun n _ t x rest ht hx hI ih => ?_)
        (fun n _ _ => by simp only [l8a, List.getD_cons_zero, ixE, cond_false]; rfl) 1001 () (by omega) (fun w hw => ⟨hall w hw, h2 w hw⟩))
       obtain ⟨x1, x2⟩ := hI x (by simp)
       simp only [l8a, List.getD_cons_zero, ixA ht, ixB ht, cond_true, chk_true, Int.toNat_natCast, ixW ht (by omega), hx, ih () (fun w hw => hI w (by simp [hw])), B18, if_pos (show 0 < c.2.1.length ∧ x.length ≤ 1000 from ⟨h0, x2⟩), Option.bind_some, wE, decide_eq_true x1, List.any_cons]
       cases x.any (outM c.1) <;> rfl
 ·cases h⟩
end Go.Proofs.YtfopcfnggdonkaaDoor
