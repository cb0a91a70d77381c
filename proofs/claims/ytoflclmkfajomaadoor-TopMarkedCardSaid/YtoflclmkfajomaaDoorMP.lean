/-
 Loops of mirrors, told as recursions over lists. Bits; codes and their errors. Distances, coalitions, copies: what the program computes. All coalitions, in their order. Lean coalitions, the smallest one, the nearest customers: what the program computes. Who is framed: what the program computes. Doubts: what the program finds. Doubts: which one the program finds. What the program asks of a candidate for a doubt.
-/
import Derived.Test.YtoflclmkfajomaaDoorYD
import Derived.Test.YtoflclmkfajomaaDoorLKM
namespace Go.Proofs.YtoflclmkfajomaaDoor
open Go.RowKit
set_option linter.unusedVariables false
open Go.RowKit

theorem w64_eq {n : Int} (h0 : -9223372036854775808 ≤ n) (h1 : n < 9223372036854775808) : w64 n = n := by
 simp [w64, IntKind.wrap, IntKind.bits, IntKind.signed]; omega
theorem w64_nat {n : Nat} (h1 : n < 9223372036854775808) : w64 (n : Int) = n := w64_eq (by omega) (by omega)
theorem w64_succ {t : Nat} (h : t < 4611686018427387904) : w64 ((t : Int) + 1) = ((t + 1 : Nat) : Int) := by
 rw [w64_eq (by omega) (by omega)]; omega
theorem chk_true {α : Type} (x : Option α) : chk true x = x := rfl
theorem chk_of {α : Type} {b : Bool} {x : Option α} (h : b = true) : chk b x = x := by rw [h]; rfl
theorem chk_dec {α : Type} {p : Prop} [Decidable p] {x : Option α} (h : p) : chk (decide p) x = x := by rw [decide_eq_true h]; rfl
theorem small_of {n eb : Nat} (h : n * eb ≤ 140737488355328) (hb : 0 < eb) : small n eb = true := by
 have : n ≤ n * eb := Nat.le_mul_of_pos_right n hb
 simp [small, h]; omega
theorem getD_drop {α : Type} {xs rest : List α} {t : Nat} {x d : α} (h : xs.drop t = x :: rest) : t < xs.length ∧ xs.getD t d = x ∧ xs.drop (t + 1) = rest := by
 have hl : t < xs.length := by
  have := congrArg List.length h
  simp only [List.length_drop, List.length_cons] at this; omega
 refine ⟨hl, ?_, ?_⟩
 ·have h2 := congrArg List.head? h
  rw [List.head?_drop] at h2
  rw [List.getD_eq_getElem?_getD, h2]; rfl
 ·have h2 := congrArg List.tail h
  rw [List.tail_drop] at h2; exact h2
theorem rangeIx {α σ ρ : Type} (xs : List α) (d : α) (L : Nat → σ → Int → Option ρ) (I : Nat → List α → σ → Prop) (S : Nat → List α → σ → Option ρ)
  (hs : ∀ (n : Nat) (s : σ) (t : Nat) (x : α) (rest : List α), t < xs.length → xs.getD t d = x → I t (x :: rest) s →
   (∀ s', I (t + 1) rest s' → L n s' ((t + 1 : Nat) : Int) = S (t + 1) rest s') → L (n + 1) s (t : Int) = S t (x :: rest) s)
  (he : ∀ (n : Nat) (s : σ), I xs.length [] s → L (n + 1) s (xs.length : Int) = S xs.length [] s)
  (n : Nat) (s : σ) (hn : xs.length < n) (hI : I 0 xs s) : L n s 0 = S 0 xs s := by
 have main : ∀ (k t n : Nat) (s : σ), t + k = xs.length → k < n → I t (xs.drop t) s → L n s (t : Int) = S t (xs.drop t) s := by
  intro k
  induction k with
  | zero =>
   intro t n s h1 h2 h3
   obtain ⟨m, rfl⟩ : ∃ m, n = m + 1 := ⟨n - 1, by omega⟩
   have : t = xs.length := by omega
   subst this
   rw [List.drop_length] at h3 ⊢
   exact he m s h3
  | succ k ih =>
   intro t n s h1 h2 h3
   obtain ⟨m, rfl⟩ : ∃ m, n = m + 1 := ⟨n - 1, by omega⟩
   cases hd : xs.drop t with
   | nil => have := congrArg List.length hd; simp only [List.length_drop, List.length_nil] at this; omega
   | cons x rest =>
    obtain ⟨a, b, c⟩ := getD_drop (d := d) hd
    rw [hd] at h3
    refine hs m s t x rest a b h3 fun s' hI' => ?_
    rw [← c] at hI' ⊢
    exact ih (t + 1) m s' (by omega) (by omega) hI'
 have := main xs.length 0 n s (by omega) hn (by simpa using hI)
 simpa using this
theorem rangeInv {α σ ρ : Type} (xs : List α) (d : α) (L : Nat → σ → Int → Option ρ) (I : List α → σ → Prop) (S : List α → σ → Option ρ)
  (hs : ∀ (n : Nat) (s : σ) (t : Nat) (x : α) (rest : List α), t < xs.length → xs.getD t d = x → I (x :: rest) s →
   (∀ s', I rest s' → L n s' ((t + 1 : Nat) : Int) = S rest s') → L (n + 1) s (t : Int) = S (x :: rest) s)
  (he : ∀ (n : Nat) (s : σ), I [] s → L (n + 1) s (xs.length : Int) = S [] s)
  (n : Nat) (s : σ) (hn : xs.length < n) (hI : I xs s) : L n s 0 = S xs s :=
 rangeIx xs d L (fun _ => I) (fun _ => S) (fun n s t x rest h1 h2 h3 h => hs n s t x rest h1 h2 h3 fun s' => h s') (fun n s h => he n s h) n s hn hI
theorem countUp {σ ρ : Type} (lo hi : Int) (hle : lo ≤ hi) (L : Nat → σ → Int → Option ρ) (I : Int → σ → Prop) (S : Int → σ → Option ρ)
  (hs : ∀ (n : Nat) (s : σ) (t : Int), lo ≤ t → t < hi → I t s → (∀ s', I (t + 1) s' → L n s' (t + 1) = S (t + 1) s') → L (n + 1) s t = S t s)
  (he : ∀ (n : Nat) (s : σ), I hi s → L (n + 1) s hi = S hi s)
  (n : Nat) (s : σ) (hn : (hi - lo).toNat < n) (hI : I lo s) : L n s lo = S lo s := by
 have main : ∀ (k n : Nat) (t : Int) (s : σ), lo ≤ t → t + k = hi → k < n → I t s → L n s t = S t s := by
  intro k
  induction k with
  | zero =>
   intro n t s h0 h1 h2 h3
   obtain ⟨m, rfl⟩ : ∃ m, n = m + 1 := ⟨n - 1, by omega⟩
   have : t = hi := by omega
   subst this; exact he m s h3
  | succ k ih =>
   intro n t s h0 h1 h2 h3
   obtain ⟨m, rfl⟩ : ∃ m, n = m + 1 := ⟨n - 1, by omega⟩
   exact hs m s t h0 (by omega) h3 fun s' h' => ih m (t + 1) s' (by omega) (by omega) (by omega) h'
 exact main (hi - lo).toNat n lo s (by omega) (by omega) hn hI
theorem rangeP {α σ ρ : Type} (xs : List α) (d : α) (L : Nat → σ → Int → Option ρ) (I : Nat → List α → σ → Prop) (Q : Option ρ → Prop)
  (hs : ∀ (n : Nat) (s : σ) (t : Nat) (x : α) (rest : List α), t < xs.length → xs.getD t d = x → xs.drop (t + 1) = rest → I t (x :: rest) s →
   (∀ s', I (t + 1) rest s' → Q (L n s' ((t + 1 : Nat) : Int))) → Q (L (n + 1) s (t : Int)))
  (he : ∀ (n : Nat) (s : σ), I xs.length [] s → Q (L (n + 1) s (xs.length : Int)))
  (n : Nat) (s : σ) (hn : xs.length < n) (hI : I 0 xs s) : Q (L n s 0) := by
 have main : ∀ (k t n : Nat) (s : σ), t + k = xs.length → k < n → I t (xs.drop t) s → Q (L n s (t : Int)) := by
  intro k
  induction k with
  | zero =>
   intro t n s h1 h2 h3
   obtain ⟨m, rfl⟩ : ∃ m, n = m + 1 := ⟨n - 1, by omega⟩
   have : t = xs.length := by omega
   subst this
   rw [List.drop_length] at h3
   exact he m s h3
  | succ k ih =>
   intro t n s h1 h2 h3
   obtain ⟨m, rfl⟩ : ∃ m, n = m + 1 := ⟨n - 1, by omega⟩
   cases hd : xs.drop t with
   | nil => have := congrArg List.length hd; simp only [List.length_drop, List.length_nil] at this; omega
   | cons x rest =>
    obtain ⟨a, b, c⟩ := getD_drop (d := d) hd
    rw [hd] at h3
    refine hs m s t x rest a b c h3 fun s' hI' => ?_
    rw [← c] at hI'
    exact ih (t + 1) m s' (by omega) (by omega) hI'
 have := main xs.length 0 n s (by omega) hn (by simpa using hI)
 simpa using this
theorem countP' {σ ρ : Type} (lo hi : Int) (hle : lo ≤ hi) (L : Nat → σ → Int → Option ρ) (I : Int → σ → Prop) (Q : Option ρ → Prop)
  (hs : ∀ (n : Nat) (s : σ) (t : Int), lo ≤ t → t < hi → I t s → (∀ s', I (t + 1) s' → Q (L n s' (t + 1))) → Q (L (n + 1) s t))
  (he : ∀ (n : Nat) (s : σ), I hi s → Q (L (n + 1) s hi))
  (n : Nat) (s : σ) (hn : (hi - lo).toNat < n) (hI : I lo s) : Q (L n s lo) := by
 have main : ∀ (k n : Nat) (t : Int) (s : σ), lo ≤ t → t + k = hi → k < n → I t s → Q (L n s t) := by
  intro k
  induction k with
  | zero =>
   intro n t s h0 h1 h2 h3
   obtain ⟨m, rfl⟩ : ∃ m, n = m + 1 := ⟨n - 1, by omega⟩
   have : t = hi := by omega
   subst this; exact he m s h3
  | succ k ih =>
   intro n t s h0 h1 h2 h3
   obtain ⟨m, rfl⟩ : ∃ m, n = m + 1 := ⟨n - 1, by omega⟩
   exact hs m s t h0 (by omega) h3 fun s' h' => ih m (t + 1) s' (by omega) (by omega) (by omega) h'
 exact main (hi - lo).toNat n lo s (by omega) (by omega) hn hI
theorem ixA {t n : Nat} (h : t < n) : decide ((t : Int) < (n : Int)) = true := decide_eq_true (by omega)
theorem ixB {t n : Nat} (h : t < n) : decide (0 ≤ (t : Int) ∧ (t : Int) < (n : Int)) = true := decide_eq_true (by omega)
theorem ixE (n : Nat) : decide ((n : Int) < (n : Int)) = false := decide_eq_false (by omega)
theorem ixW {t n : Nat} (h : t < n) (hn : n ≤ 4611686018427387904) : w64 ((t : Int) + 1) = ((t + 1 : Nat) : Int) := w64_succ (by omega)
theorem w64_small {x : Int} (h : -4611686018427387904 ≤ x ∧ x ≤ 4611686018427387904) : w64 x = x := w64_eq (by omega) (by omega)
open Go.RowKit

abbrev dC : Cd := (0, [], ())
theorem wrap_u8 {n : Nat} (h : n < 256) : IntKind.wrap .u8 (n : Int) = n := by simp [IntKind.wrap, IntKind.bits, IntKind.signed]; omega
theorem or_bits (k a b : Nat) (ha : a < 2 ^ k) (hb : b < 2 ^ k) : ((BitVec.ofInt k (a : Int)) ||| (BitVec.ofInt k (b : Int))).toNat = a ||| b := by
 rw [BitVec.ofInt_natCast, BitVec.ofInt_natCast, BitVec.toNat_or, BitVec.toNat_ofNat, BitVec.toNat_ofNat, Nat.mod_eq_of_lt ha, Nat.mod_eq_of_lt hb]
theorem and_bits (k a b : Nat) (ha : a < 2 ^ k) (hb : b < 2 ^ k) : ((BitVec.ofInt k (a : Int)) &&& (BitVec.ofInt k (b : Int))).toNat = a &&& b := by
 rw [BitVec.ofInt_natCast, BitVec.ofInt_natCast, BitVec.toNat_and, BitVec.toNat_ofNat, BitVec.toNat_ofNat, Nat.mod_eq_of_lt ha, Nat.mod_eq_of_lt hb]
theorem bOr_u8 {a b : Nat} (ha : a < 256) (hb : b < 256) : bOr .u8 (a : Int) (b : Int) = ((a ||| b : Nat) : Int) := by
 have h : a ||| b < 256 := Nat.or_lt_two_pow (n := 8) ha hb
 have e := or_bits 8 a b ha hb
 show IntKind.wrap .u8 ((((BitVec.ofInt 8 (a : Int)) ||| (BitVec.ofInt 8 (b : Int))).toNat : Nat) : Int) = _
 rw [e]
 exact wrap_u8 h
theorem bAnd_u8 {a b : Nat} (ha : a < 256) (hb : b < 256) : bAnd .u8 (a : Int) (b : Int) = ((a &&& b : Nat) : Int) := by
 have h : a &&& b < 256 := Nat.and_lt_two_pow (n := 8) a hb
 have e := and_bits 8 a b ha hb
 show IntKind.wrap .u8 ((((BitVec.ofInt 8 (a : Int)) &&& (BitVec.ofInt 8 (b : Int))).toNat : Nat) : Int) = _
 rw [e]
 exact wrap_u8 h
theorem pow_cast (c : Nat) : ((2 : Int) ^ c) = ((2 ^ c : Nat) : Int) := by simp
theorem fdiv_pow (s c : Nat) : Int.fdiv (s : Int) ((2 : Int) ^ c) = ((s / 2 ^ c : Nat) : Int) := by
 rw [pow_cast, Int.fdiv_eq_ediv_of_nonneg _ (Int.natCast_nonneg _), Int.natCast_ediv]
theorem bit_of (s c : Nat) : ((((s / 2 ^ c &&& 1 : Nat)) : Int) == 1) = s.testBit c := by
 rw [Nat.and_one_is_mod, Nat.testBit_eq_decide_div_mod_eq]
 by_cases h : s / 2 ^ c % 2 = 1
 ·simp [h]
 ·have : s / 2 ^ c % 2 = 0 := by omega
  simp [this]
theorem bit_u8 {s c : Nat} (hs : s < 256) (hc : c ≤ 8) : ((bAnd .u8 (Int.fdiv (s : Int) (2 ^ min (Int.toNat (c : Int)) 8)) 1) == 1) = s.testBit c := by
 rw [Int.toNat_natCast, Nat.min_eq_left hc, fdiv_pow]
 have h := bAnd_u8 (a := s / 2 ^ c) (b := 1) (Nat.lt_of_le_of_lt (Nat.div_le_self _ _) hs) (by decide)
 rw [show ((1 : Nat) : Int) = 1 from rfl] at h
 rw [h]; exact bit_of s c
theorem one_u8 {c : Nat} (hc : c < 8) : IntKind.wrap .u8 (1 * 2 ^ min (Int.toNat (c : Int)) 8) = ((2 ^ c : Nat) : Int) := by
 rw [Int.toNat_natCast, Nat.min_eq_left (by omega), Int.one_mul, pow_cast]
 exact wrap_u8 (Nat.pow_lt_pow_right (by decide) hc : 2 ^ c < 2 ^ 8)
def B28 (lo n hi : Int) : Option Bool := some (decide (lo ≤ n ∧ n ≤ hi))
theorem KB28 : FnOk Tryd.prog 28 (F28 B28) := ok28 B28 fun lo n hi r h => ⟨0, by
 rw [← h]; simp only [m28, B28]
 by_cases a : lo ≤ n <;> simp [a]⟩
def fx {α : Type} (p : α → Bool) : Int → List α → Int
 | _, [] => -1
 | t, x :: xs => cond (p x) t (fx p (t + 1) xs)
theorem fx_ge {α : Type} (p : α → Bool) : ∀ (xs : List α) (t : Int), 0 ≤ t → decide (fx p t xs ≥ 0) = xs.any p
 | [], t, h => rfl
 | x :: xs, t, h => by
  rw [fx, List.any_cons]
  cases e : p x with
  | true => simp [h]
  | false => rw [cond_false, fx_ge p xs (t + 1) (by omega)]; simp
def sz (c : Cd) : Nat := (c.2.1.getD 0 []).length
def outM (n m : Int) : Bool := !decide (0 ≤ m ∧ m ≤ w64 (n - 1))
def B23 (c : Cd) : Option Int := if 0 < c.2.1.length then some (sz c : Int) else none
theorem KB23 : FnOk Tryd.prog 23 (F23 B23) := ok23 B23 fun c r h => ⟨0, by
 simp only [B23] at h
 split at h
 ·rename_i hl
  rw [← h, m23, chk_dec (by omega)]; rfl
 ·cases h⟩
def B56c (m : Int) (o : List Cd) : Option (Bool × List Cd) := some (outM (o.getD 0 dC).1 m, o)
theorem KB56c : FnOk Tryd.prog 56 (F56c B56c) := ok56c B28 KB28 B56c fun c o r h => ⟨0, by
 rw [← h]; simp only [m56c, B56c, B28, Option.bind_some, outM]⟩
def B32c56 (s : List Int) (o : List Cd) : Option (Int × List Cd) := if s.length ≤ 1000 then some (fx (outM (o.getD 0 dC).1) 0 s, o) else none
theorem KB32c56 : FnOk Tryd.prog 32 (F32c56 B32c56) := ok32c56 B56c KB56c B32c56 fun s o r h => ⟨1001, by
 simp only [B32c56] at h
 split at h
 ·rename_i hl
  rw [← h, m32c56]
  exact rangeIx s 0 (fun n (_ : Unit) t => l32c56a B56c 1001 s n t o) (fun _ _ _ => True) (fun t xs _ => some (fx (outM (o.getD 0 dC).1) t xs, o))
   (fun n _ t x rest ht hx _ ih => by
    simp only [l32c56a, ixA ht, ixB ht, cond_true, chk_true, Int.toNat_natCast, ixW ht (by omega), hx, ih () trivial, fx, B56c, Option.bind_some]
    cases outM (o.getD 0 dC).1 x <;> rfl)
   (fun n _ _ => by simp only [l32c56a, ixE, cond_false]; rfl) 1001 () (by omega) trivial
 ·cases h⟩
def B15c56 (s : List Int) (o : List Cd) : Option (Bool × List Cd) := if s.length ≤ 1000 then some (s.any (outM (o.getD 0 dC).1), o) else none
theorem KB15c56 : FnOk Tryd.prog 15 (F15c56 B15c56) := ok15c56 B32c56 KB32c56 B15c56 fun s o r h => ⟨0, by
 simp only [B15c56] at h
 split at h
 ·rename_i hl
  rw [← h, m15c56, B32c56, if_pos hl, Option.bind_some, fx_ge _ s 0 (by omega)]
 ·cases h⟩
def wE (c : Cd) (w : List Int) : Int := cond (decide (w.length = sz c)) (cond (w.any (outM c.1)) 4 0) 3
theorem lenNe (a b : Nat) : ((a : Int) != (b : Int)) = !decide (a = b) := by
 by_cases h : a = b
 ·subst h; simp
 ·have : (a : Int) ≠ b := by omega
  simp [h, this]
def B41 (c : Cd) (w : List Int) : Option Int := if 0 < c.2.1.length ∧ w.length ≤ 1000 then some (wE c w) else none
theorem KB41 : FnOk Tryd.prog 41 (F41 B41) := ok41 B15c56 B23 KB15c56 KB23 B41 fun c w r h => ⟨0, by
 simp only [B41] at h
 split at h
 ·rename_i hl
  rw [← h, m41, B23, if_pos hl.1, Option.bind_some, B15c56, if_pos hl.2, Option.bind_some, lenNe, wE]
  cases decide (w.length = sz c) with
  | false => rfl
  | true =>
   show (cond (w.any (outM c.1)) (some 4) (some 0)) = _
   cases w.any (outM c.1) <;> rfl
 ·cases h⟩
def B40c (w : List Int) (o : List Cd) : Option (Bool × List Cd) := if 0 < (o.getD 0 dC).2.1.length then some (!decide (w.length = sz (o.getD 0 dC)), o) else none
theorem KB40c : FnOk Tryd.prog 40 (F40c B40c) := ok40c B23 KB23 B40c fun w o r h => ⟨0, by
 simp only [B40c] at h
 split at h
 ·rename_i hl
  rw [← h, m40c, B23, if_pos hl, Option.bind_some, lenNe]
 ·cases h⟩
def B31c40 (s : List (List Int)) (o : List Cd) : Option (Int × List Cd) := if s.length ≤ 1000 ∧ 0 < (o.getD 0 dC).2.1.length then some (fx (fun w => !decide (w.length = sz (o.getD 0 dC))) 0 s, o) else none
theorem KB31c40 : FnOk Tryd.prog 31 (F31c40 B31c40) := ok31c40 B40c KB40c B31c40 fun s o r h => ⟨1001, by
 simp only [B31c40] at h
 split at h
 ·rename_i hl
  obtain ⟨hl, ho⟩ := hl
  rw [← h, m31c40]
  exact rangeIx s [] (fun n (_ : Unit) t => l31c40a B40c 1001 s n t o) (fun _ _ _ => True) (fun t xs _ => some (fx (fun w => !decide (w.length = sz (o.getD 0 dC))) t xs, o))
   (fun n _ t x rest ht hx _ ih => by
    simp only [l31c40a, ixA ht, ixB ht, cond_true, chk_true, Int.toNat_natCast, ixW ht (by omega), hx, ih () trivial, fx, B40c, if_pos ho, Option.bind_some]
    cases decide (x.length = sz (o.getD 0 dC)) <;> rfl)
   (fun n _ _ => by simp only [l31c40a, ixE, cond_false]; rfl) 1001 () (by omega) trivial
 ·cases h⟩
def B13c40 (s : List (List Int)) (o : List Cd) : Option (Bool × List Cd) := if s.length ≤ 1000 ∧ 0 < (o.getD 0 dC).2.1.length then some (s.any fun w => !decide (w.length = sz (o.getD 0 dC)), o) else none
theorem KB13c40 : FnOk Tryd.prog 13 (F13c40 B13c40) := ok13c40 B31c40 KB31c40 B13c40 fun s o r h => ⟨0, by
 simp only [B13c40] at h
 split at h
 ·rename_i hl
  rw [← h, m13c40, B31c40, if_pos hl, Option.bind_some, fx_ge _ s 0 (by omega)]
 ·cases h⟩
def cdE (c : Cd) : Int := cond (decide (2 ≤ c.1 ∧ c.1 ≤ 4)) (cond (decide (c.2.1.length = 0)) 1 (cond (decide (10 < c.2.1.length)) 2 (cond (decide (1 ≤ sz c ∧ sz c ≤ 8))
 (cond (c.2.1.any fun w => !decide (w.length = sz c)) 3 (cond (c.2.1.any fun w => w.any (outM c.1)) 4 0)) 3))) 4
def smB (c : Cd) : Bool := decide (c.2.1.length ≤ 1000) && c.2.1.all fun w => decide (w.length ≤ 1000)
theorem smB_at {c : Cd} (h : smB c = true) : c.2.1.length ≤ 1000 ∧ ∀ w ∈ c.2.1, w.length ≤ 1000 := by
 simpa [smB] using h
def B22 (c : Cd) : Option Int := if smB c = true then some (cdE c) else none
theorem lenEq0 (n : Nat) : ((n : Int) == 0) = decide (n = 0) := by
 by_cases h : n = 0 <;> simp [h]
theorem lenGt (n k : Nat) : decide ((n : Int) > (k : Int)) = decide (k < n) := by
 by_cases h : k < n
 ·rw [decide_eq_true h]; exact decide_eq_true (by omega)
 ·rw [decide_eq_false h]; exact decide_eq_false (by omega)
theorem KB22 : FnOk Tryd.prog 22 (F22 B22) := ok22 B13c40 B23 B28 B41 KB13c40 KB23 KB28 KB41 B22 fun c r h => ⟨1001, by
 simp only [B22] at h
 split at h
 ·rename_i hs
  obtain ⟨h1, h2⟩ := smB_at hs
  rw [← h, m22]
  simp only [B28, Option.bind_some, cdE, lenEq0]
  cases decide (2 ≤ c.1 ∧ c.1 ≤ 4) with
  | false => rfl
  | true =>
   simp only [Bool.not_true, cond_true, cond_false]
   cases e0 : decide (c.2.1.length = 0) with
   | true => rfl
   | false =>
    have h0 : 0 < c.2.1.length := by have := of_decide_eq_false e0; omega
    simp only [cond_false]
    rw [show decide ((c.2.1.length : Int) > 10) = decide (10 < c.2.1.length) from lenGt _ 10]
    cases decide (10 < c.2.1.length) with
    | true => rfl
    | false =>
     simp only [cond_false, B23, if_pos h0, Option.bind_some]
     rw [show decide ((1 : Int) ≤ (sz c : Int) ∧ (sz c : Int) ≤ 8) = decide (1 ≤ sz c ∧ sz c ≤ 8) from decide_eq_decide.2 (by omega)]
     cases decide (1 ≤ sz c ∧ sz c ≤ 8) with
     | false => rfl
     | true =>
      simp only [Bool.not_true, cond_false, cond_true, B13c40, List.getD_cons_zero, if_pos (show c.2.1.length ≤ 1000 ∧ 0 < c.2.1.length from ⟨h1, h0⟩), Option.bind_some]
      cases ea : c.2.1.any fun w => !decide (w.length = sz c) with
      | true => rfl
      | false =>
       simp only [cond_false]
       have hall : ∀ w ∈ c.2.1, w.length = sz c := fun w hw => by
        have := List.any_eq_false.1 ea w hw
        simpa using this
       refine (rangeInv c.2.1 [] (fun n (_ : Unit) t => l22a B13c40 B23 B28 B41 1001 (false, [c]) n t) (fun xs _ => ∀ w ∈ xs, w.length = sz c ∧ w.length ≤ 1000) (fun xs _ => some (cond (xs.any fun w => w.any (outM c.1)) 4 0)) (fun n _ t x rest ht hx hI ih => ?_)
        (fun n _ _ => by simp only [l22a, List.getD_cons_zero, ixE, cond_false]; rfl) 1001 () (by omega) (fun w hw => ⟨hall w hw, h2 w hw⟩))
       obtain ⟨x1, x2⟩ := hI x (by simp)
       simp only [l22a, List.getD_cons_zero, ixA ht, ixB ht, cond_true, chk_true, Int.toNat_natCast, ixW ht (by omega), hx, ih () (fun w hw => hI w (by simp [hw])), B41, if_pos (show 0 < c.2.1.length ∧ x.length ≤ 1000 from ⟨h0, x2⟩), Option.bind_some, wE, decide_eq_true x1, List.any_cons]
       cases x.any (outM c.1) <;> rfl
 ·cases h⟩
open Go.RowKit

def apF (b : List Int) : Nat → List Int → Int → Int
 | _, [], n => n
 | t, x :: xs, n => apF b (t + 1) xs (cond (x != b.getD t 0) (n + 1) n)
def ap (a b : List Int) : Int := apF b 0 a 0
def B24 (a b : List Int) : Option Int := if a.length ≤ 1000 ∧ a.length ≤ b.length then some (ap a b) else none
theorem KB24 : FnOk Tryd.prog 24 (F24 B24) := ok24 B24 fun a b r h => ⟨1001, by
 simp only [B24] at h
 split at h
 ·rename_i hl
  rw [← h, m24]
  exact rangeIx a 0 (fun n s t => l24a 1001 a b n s t) (fun t _ s => 0 ≤ s ∧ s ≤ t) (fun t xs s => some (apF b t xs s))
   (fun n s t x rest ht hx hI ih => by
    have e := ih (cond (x != b.getD t 0) (s + 1) s)
    simp only [l24a, ixA ht, ixB ht, ixB (show t < b.length by omega), cond_true, chk_true, Int.toNat_natCast, ixW ht (by omega), hx, apF]
    rw [bne_comm (a := b.getD t 0)]
    cases hb : (x != b.getD t 0) with
    | true => rw [hb] at e; rw [cond_true, w64_small (by omega)]; exact e (by simp only [cond_true]; omega)
    | false => rw [hb] at e; exact e (by simp only [cond_false]; omega))
   (fun n s hI => by simp only [l24a, ixE, cond_false]; rfl) 1001 0 (by omega) ⟨Int.le_refl _, Int.le_refl _⟩
 ·cases h⟩
def dsOf (a : List Int) (l : List (List Int)) : List Int := l.map (ap a)
def dsFrom (ws : List (List Int)) (t : Nat) (rest : List (List Int)) : List Int := (rest.zipIdx t).flatMap fun p => dsOf p.1 (ws.take p.2)
theorem dsFrom_cons (ws : List (List Int)) (t : Nat) (x : List Int) (r : List (List Int)) : dsFrom ws t (x :: r) = dsOf x (ws.take t) ++ dsFrom ws (t + 1) r := by
 simp [dsFrom, List.zipIdx_cons]
def minF (n : Int) (l : List Int) : Int := l.foldl imin n
theorem cdE_ok {c : Cd} (h : cdE c = 0) : (2 ≤ c.1 ∧ c.1 ≤ 4) ∧ (0 < c.2.1.length ∧ c.2.1.length ≤ 10) ∧ (1 ≤ sz c ∧ sz c ≤ 8) ∧ (∀ w ∈ c.2.1, w.length = sz c) ∧ ∀ w ∈ c.2.1, ∀ m ∈ w, 0 ≤ m ∧ m < c.1 := by
 unfold cdE at h
 cases e1 : decide (2 ≤ c.1 ∧ c.1 ≤ 4) with
 | false => rw [e1] at h; cases h
 | true =>
  rw [e1, cond_true] at h
  cases e2 : decide (c.2.1.length = 0) with
  | true => rw [e2] at h; cases h
  | false =>
   rw [e2, cond_false] at h
   cases e3 : decide (10 < c.2.1.length) with
   | true => rw [e3] at h; cases h
   | false =>
    rw [e3, cond_false] at h
    cases e4 : decide (1 ≤ sz c ∧ sz c ≤ 8) with
    | false => rw [e4] at h; cases h
    | true =>
     rw [e4, cond_true] at h
     cases e5 : c.2.1.any fun w => !decide (w.length = sz c) with
     | true => rw [e5] at h; cases h
     | false =>
      rw [e5, cond_false] at h
      cases e6 : c.2.1.any fun w => w.any (outM c.1) with
      | true => rw [e6] at h; cases h
      | false =>
       have a1 := of_decide_eq_true e1
       have a2 := of_decide_eq_false e2
       have a3 := of_decide_eq_false e3
       refine ⟨a1, ⟨by omega, by omega⟩, of_decide_eq_true e4, fun w hw => ?_, fun w hw m hm => ?_⟩
       ·simpa using List.any_eq_false.1 e5 w hw
       ·have := List.any_eq_false.1 e6 w hw
        simp only [Bool.not_eq_true] at this
        have h2 := List.any_eq_false.1 this m hm
        simp only [outM, Bool.not_eq_true, Bool.not_eq_false', decide_eq_true_eq] at h2
        rw [w64_small (by omega)] at h2
        omega
def B8 (c : Cd) : Option (Int × Int) := if smB c = true then some (cond (decide (cdE c = 0)) (cond (decide (c.2.1.length = 1)) (0, 14) (minF (sz c) (dsFrom c.2.1 0 c.2.1), 0)) (0, cdE c)) else none
theorem bneDec (a b : Int) : (a != b) = !decide (a = b) := by
 by_cases h : a = b <;> simp [h]
theorem beqDec (a b : Int) : (a == b) = decide (a = b) := by
 by_cases h : a = b <;> simp [h]
theorem lenEq1 (n : Nat) : ((n : Int) == 1) = decide (n = 1) := by
 rw [beqDec]; exact decide_eq_decide.2 (by omega)
theorem KB8 : FnOk Tryd.prog 8 (F8 B8) := ok8 B22 B23 B24 KB22 KB23 KB24 B8 fun c r h => ⟨1001, by
 simp only [B8] at h
 split at h
 ·rename_i hs
  obtain ⟨h1, h2⟩ := smB_at hs
  rw [← h, m8, B22, if_pos hs, Option.bind_some, bneDec]
  cases e : decide (cdE c = 0) with
  | false => rfl
  | true =>
   obtain ⟨_, hn, hz, hw, _⟩ := cdE_ok (of_decide_eq_true e)
   simp only [Bool.not_true, cond_false, cond_true, lenEq1]
   cases decide (c.2.1.length = 1) with
   | true => rfl
   | false =>
    rw [cond_false, B23, if_pos hn.1, Option.bind_some]
    refine (rangeIx c.2.1 [] (fun n s t => l8a B22 B23 B24 1001 c n s t) (fun t rest _ => rest = c.2.1.drop t) (fun t xs s => some (minF s (dsFrom c.2.1 t xs), 0)) (fun n s t x rest ht hx hI ih => ?_)
     (fun n s hI => by simp only [l8a, ixE, cond_false]; rfl) 1001 (sz c : Int) (by omega) rfl).trans rfl
    have hxw : x ∈ c.2.1 := by rw [← hx, List.getD_eq_getElem?_getD, List.getElem?_eq_getElem ht]; exact List.getElem_mem _
    have htk : (c.2.1.take t).length = t := by simp; omega
    have hrest : rest = c.2.1.drop (t + 1) := by
     have := congrArg List.tail hI
     rwa [List.tail_cons, List.tail_drop] at this
    simp only [l8a, ixA ht, ixB ht, cond_true, chk_true, dsFrom_cons, minF, List.foldl_append]
    rw [chk_dec (by omega)]
    refine (rangeInv (c.2.1.take t) [] (fun n' s k => l8b B22 B23 B24 1001 c (t : Int) (fun y0 y1 => l8a B22 B23 B24 1001 c n y0 y1) n' s k) (fun ys _ => ∀ y ∈ ys, y.length = sz c)
     (fun ys s => l8a B22 B23 B24 1001 c n ((dsOf x ys).foldl imin s) ((t + 1 : Nat) : Int)) (fun n' s k y ys hk hy hI' ih' => ?_) (fun n' s _ => ?_) 1001 s (by omega) (fun y hy => hw y (List.mem_of_mem_take hy))).trans
     (ih _ hrest)
    ·have hkc : k < c.2.1.length := by omega
     have e53 : B24 x y = some (ap x y) := if_pos ⟨h2 x hxw, by rw [hI' y (by simp), hw x hxw]; exact Nat.le_refl _⟩
     simp only [l8b, Int.toNat_natCast, ixA hk, ixB hk, cond_true, chk_true, hx, hy, e53, Option.bind_some, ixW hk (by omega), ih' _ (fun y' hy' => hI' y' (by simp [hy'])), dsOf, List.map_cons, List.foldl_cons]
    ·simp only [l8b, Int.toNat_natCast, ixE, cond_false, dsOf, List.map_nil, List.foldl_nil, ixW ht (by omega)]
 ·cases h⟩
theorem wE_ok {c : Cd} {w : List Int} (h : wE c w = 0) (hc : cdE c = 0) : w.length = sz c ∧ ∀ m ∈ w, 0 ≤ m ∧ m < c.1 := by
 obtain ⟨hm, _⟩ := cdE_ok hc
 unfold wE at h
 cases e : decide (w.length = sz c) with
 | false => rw [e] at h; cases h
 | true =>
  rw [e, cond_true] at h
  cases e6 : w.any (outM c.1) with
  | true => rw [e6] at h; cases h
  | false =>
   refine ⟨of_decide_eq_true e, fun m hmm => ?_⟩
   have h2 := List.any_eq_false.1 e6 m hmm
   simp only [outM, Bool.not_eq_true, Bool.not_eq_false', decide_eq_true_eq] at h2
   rw [w64_small (by omega)] at h2
   omega
def arr (f : Nat → Nat) : List Int := (List.range 8).map fun k => ((f k : Nat) : Int)
theorem arr_len (f : Nat → Nat) : (arr f).length = 8 := by simp [arr]
theorem arr_get (f : Nat → Nat) {t : Nat} (h : t < 8) : (arr f).getD t 0 = f t := by simp [arr, h]
theorem arr_ext {f g : Nat → Nat} (h : ∀ k, k < 8 → f k = g k) : arr f = arr g := by
 unfold arr
 exact List.map_congr_left fun k hk => by rw [h k (List.mem_range.1 hk)]
theorem arr_set (f : Nat → Nat) {t x : Nat} (h : t < 8) : (arr f).set t ((x : Nat) : Int) = arr fun k => if k = t then x else f k := by
 apply List.ext_getElem
 ·simp [arr]
 ·intro i h1 h2
  simp only [arr_len] at h2
  simp only [List.getElem_set, arr, List.getElem_map, List.getElem_range]
  by_cases e : t = i
  ·simp [e]
  ·rw [if_neg e, if_neg (fun q => e q.symm)]
def wBit (w : List Int) (k : Nat) : Nat := if k < w.length then 2 ^ (w.getD k 0).toNat else 0
def ofN (ws : List (List Int)) (k : Nat) : Nat := ws.foldl (fun a w => a ||| wBit w k) 0
def okW (w : List Int) : Bool := decide (w.length ≤ 8) && w.all fun m => decide (0 ≤ m ∧ m < 8)
theorem okW_at {w : List Int} (h : okW w = true) : w.length ≤ 8 ∧ ∀ m ∈ w, 0 ≤ m ∧ m < 8 := by simpa [okW] using h
theorem wBit_lt {w : List Int} (h : okW w = true) (k : Nat) : wBit w k < 256 := by
 unfold wBit
 split
 ·rename_i hk
  have := (okW_at h).2 (w.getD k 0) (by rw [List.getD_eq_getElem?_getD, List.getElem?_eq_getElem hk]; exact List.getElem_mem _)
  exact (Nat.pow_lt_pow_right (by decide) (show (w.getD k 0).toNat < 8 by omega) : 2 ^ (w.getD k 0).toNat < 2 ^ 8)
 ·decide
theorem orF_lt {α : Type} (g : α → Nat) : ∀ (l : List α) (a : Nat), a < 256 → (∀ x ∈ l, g x < 256) → l.foldl (fun a x => a ||| g x) a < 256
 | [], a, h, _ => h
 | x :: r, a, h, hl => by
  rw [List.foldl_cons]
  exact orF_lt g r _ (Nat.or_lt_two_pow (n := 8) h (hl x (by simp))) fun y hy => hl y (by simp [hy])
theorem orF_bit {α : Type} (g : α → Nat) (j : Nat) : ∀ (l : List α) (a : Nat), (l.foldl (fun a x => a ||| g x) a).testBit j = (a.testBit j || l.any fun x => (g x).testBit j)
 | [], a => by simp
 | x :: r, a => by rw [List.foldl_cons, orF_bit g j r, Nat.testBit_or, List.any_cons, Bool.or_assoc]
def B49 (ws : List (List Int)) : Option (List Int) := if ws.length ≤ 1000 ∧ ws.all okW = true then some (arr (ofN ws)) else none
theorem KB49 : FnOk Tryd.prog 49 (F49 B49) := ok49 B49 fun ws r h => ⟨1001, by
 simp only [B49] at h
 split at h
 ·rename_i hl
  have hok : ∀ w ∈ ws, okW w = true := List.all_eq_true.1 hl.2
  rw [← h, m49]
  refine rangeP ws [] (fun n s t => l49a 1001 ws n t s) (fun t rest s => s = [arr (ofN (ws.take t))]) (fun r => r = some (arr (ofN ws))) (fun n s t x rest ht hx hd hI ih => ?_) (fun n s hI => ?_) 1001 _ (by omega) rfl
  ·subst hI
   have hxw : x ∈ ws := by rw [← hx, List.getD_eq_getElem?_getD, List.getElem?_eq_getElem ht]; exact List.getElem_mem _
   obtain ⟨hx8, hxm⟩ := okW_at (hok x hxw)
   have hlt : ∀ k, ofN (ws.take t) k < 256 := fun k => orF_lt _ _ _ (by decide) fun w hw => wBit_lt (hok w (List.mem_of_mem_take hw)) k
   simp only [l49a, ixA ht, ixB ht, cond_true, chk_true]
   refine rangeP x 0 (fun n' s k => l49b 1001 ws (t : Int) (fun y0 y1 => l49a 1001 ws n y0 y1) n' k s) (fun k ys s => s = [arr fun q => if q < k then ofN (ws.take t) q ||| wBit x q else ofN (ws.take t) q]) (fun r => r = some (arr (ofN ws)))
    (fun n' s k y ys hk hy hd' hI' ih' => ?_) (fun n' s hI' => ?_) 1001 _ (by omega) (by congr 1)
   ·subst hI'
    have hk8 : k < 8 := by omega
    have hyb := hxm y (by rw [← hy, List.getD_eq_getElem?_getD, List.getElem?_eq_getElem hk]; exact List.getElem_mem _)
    have hyn : y = ((y.toNat : Nat) : Int) := by omega
    have hb1 : ((1 : Int) * 2 ^ min (Int.toNat y) 8) = (2 ^ min (Int.toNat y) 8) := Int.one_mul _
    have hone : IntKind.wrap .u8 (1 * 2 ^ min (Int.toNat y) 8) = ((2 ^ y.toNat : Nat) : Int) := by
     have := one_u8 (c := y.toNat) (by omega)
     rwa [← hyn] at this
    have hgx : (if k < k then ofN (ws.take t) k ||| wBit x k else ofN (ws.take t) k) = ofN (ws.take t) k := if_neg (Nat.lt_irrefl k)
    simp only [l49b, Int.toNat_natCast, hx, ixA hk, ixB hk, cond_true, chk_true, hy, List.getD_cons_zero, arr_len, arr_get _ hk8, hgx, hone, ixW hk (by omega)]
    rw [chk_dec (show 0 ≤ (k : Int) ∧ (k : Int) < 8 by omega), chk_dec hyb.1, chk_dec (show 0 ≤ (k : Int) ∧ (k : Int) < 8 by omega), chk_of (by simp [hk8]),
     bOr_u8 (hlt k) (Nat.pow_lt_pow_right (by decide) (show y.toNat < 8 by omega) : 2 ^ y.toNat < 2 ^ 8)]
    refine ih' _ ?_
    rw [List.set_cons_zero, arr_set _ hk8]
    congr 1
    refine arr_ext fun q hq => ?_
    by_cases e1 : q = k
    ·subst e1
     rw [if_pos rfl, if_pos (Nat.lt_succ_self q), wBit, if_pos hk, hy]
    ·rw [if_neg e1]
     by_cases e2 : q < k
     ·rw [if_pos e2, if_pos (by omega)]
     ·rw [if_neg e2, if_neg (by omega)]
   ·subst hI'
    simp only [l49b, Int.toNat_natCast, hx, ixE, cond_false, ixW ht (by omega)]
    refine ih _ ?_
    congr 1
    refine arr_ext fun q hq => ?_
    have htk : ws.take (t + 1) = ws.take t ++ [x] := by
     rw [List.take_add_one, List.getElem?_eq_getElem ht]
     rw [List.getD_eq_getElem?_getD, List.getElem?_eq_getElem ht] at hx
     simp only [Option.getD_some] at hx
     rw [hx]; rfl
    have e : ofN (ws.take (t + 1)) q = ofN (ws.take t) q ||| wBit x q := by
     rw [htk]; unfold ofN; rw [List.foldl_append]; rfl
    rw [e]
    by_cases e : q < x.length
    ·rw [if_pos e]
    ·rw [if_neg e, wBit, if_neg e, Nat.or_zero]
  ·subst hI
   simp only [l49a, ixE, cond_false, List.take_length]; rfl
 ·cases h⟩
def mkN (c : Cd) (l : List Int) (k : Nat) : Nat := l.foldl (fun a i => a ||| ofN [c.2.1.getD i.toNat []] k) 0
def okCo (c : Cd) (l : List Int) : Bool := l.all fun i => decide (0 ≤ i ∧ i < (c.2.1.length : Int))
theorem okCo_at {c : Cd} {l : List Int} (h : okCo c l = true) : ∀ i ∈ l, 0 ≤ i ∧ i < (c.2.1.length : Int) := by simpa [okCo] using h
def B37 (c : Cd) (l : List Int) : Option (List Int) := if l.length ≤ 1000 ∧ c.2.1.length ≤ 1000 ∧ c.2.1.all okW = true ∧ okCo c l = true then some (arr (mkN c l)) else none
theorem ofN_lt {ws : List (List Int)} (h : ∀ w ∈ ws, okW w = true) (k : Nat) : ofN ws k < 256 := orF_lt _ _ _ (by decide) fun w hw => wBit_lt (h w hw) k
theorem getD_mem {α : Type} {l : List α} {i : Nat} {d : α} (h : i < l.length) : l.getD i d ∈ l := by
 rw [List.getD_eq_getElem?_getD, List.getElem?_eq_getElem h]; exact List.getElem_mem _
theorem take_succ' {α : Type} {l : List α} {t : Nat} {d x : α} (h : t < l.length) (hx : l.getD t d = x) : l.take (t + 1) = l.take t ++ [x] := by
 rw [List.take_add_one, List.getElem?_eq_getElem h]
 rw [List.getD_eq_getElem?_getD, List.getElem?_eq_getElem h] at hx
 simp only [Option.getD_some] at hx
 rw [hx]; rfl
theorem KB37 : FnOk Tryd.prog 37 (F37 B37) := ok37 B49 KB49 B37 fun c l r h => ⟨1001, by
 simp only [B37] at h
 split at h
 ·rename_i hl
  obtain ⟨hl1, hl2, hl3, hl4⟩ := hl
  have hok : ∀ w ∈ c.2.1, okW w = true := List.all_eq_true.1 hl3
  have hin := okCo_at hl4
  rw [← h, m37]
  refine rangeP l 0 (fun n s t => l37a B49 1001 c l n t s) (fun t rest s => s = [arr (mkN c (l.take t))]) (fun r => r = some (arr (mkN c l))) (fun n s t x rest ht hx hd hI ih => ?_) (fun n s hI => ?_) 1001 _ (by omega) rfl
  ·subst hI
   have hxl := hin x (hx ▸ getD_mem ht)
   have hwo : okW (c.2.1.getD x.toNat []) = true := hok _ (getD_mem (by omega))
   have hlt : ∀ k, mkN c (l.take t) k < 256 := fun k => orF_lt _ _ _ (by decide) fun i hi => by
    have := hin i (List.mem_of_mem_take hi)
    exact ofN_lt (fun w hw => by rw [List.mem_singleton.1 hw]; exact hok _ (getD_mem (by omega))) k
   have e81 : B49 [c.2.1.getD x.toNat []] = some (arr (ofN [c.2.1.getD x.toNat []])) := if_pos ⟨by simp, by simp only [List.all_cons, List.all_nil, Bool.and_true]; exact hwo⟩
   have hlt2 : ∀ k, ofN [c.2.1.getD x.toNat []] k < 256 := ofN_lt fun w hw => by rw [List.mem_singleton.1 hw]; exact hwo
   simp only [l37a, ixA ht, ixB ht, cond_true, chk_true, Int.toNat_natCast, hx]
   rw [chk_dec hxl, e81, Option.bind_some]
   have key : mkN c (l.take (t + 1)) = fun k => mkN c (l.take t) k ||| ofN [c.2.1.getD x.toNat []] k := by
    funext k; rw [take_succ' ht hx]; unfold mkN; rw [List.foldl_append]; rfl
   refine countP' 0 8 (by decide) (fun n' s k => l37b B49 1001 c l (t : Int) (arr (ofN [c.2.1.getD x.toNat []])) (fun y0 y1 => l37a B49 1001 c l n y0 y1) n' k s)
    (fun k s => s = [arr fun q => if (q : Int) < k then mkN c (l.take t) q ||| ofN [c.2.1.getD x.toNat []] q else mkN c (l.take t) q]) (fun r => r = some (arr (mkN c l)))
    (fun n' s k hk0 hk hI' ih' => ?_) (fun n' s hI' => ?_) 1001 _ (by decide) (congrArg (fun z => [z]) (arr_ext fun q hq => by rw [if_neg (by omega)]))
   ·subst hI'
    obtain ⟨k, rfl⟩ : ∃ j : Nat, k = j := ⟨k.toNat, by omega⟩
    have hk8 : k < 8 := by omega
    have hgx : (if (k : Int) < (k : Int) then mkN c (l.take t) k ||| ofN [c.2.1.getD x.toNat []] k else mkN c (l.take t) k) = mkN c (l.take t) k := if_neg (Int.lt_irrefl _)
    simp only [l37b, Int.toNat_natCast, List.getD_cons_zero, arr_len, arr_get _ hk8, hgx]
    rw [decide_eq_true hk, cond_true, chk_dec ⟨hk0, hk⟩, chk_dec ⟨hk0, hk⟩, chk_dec ⟨hk0, hk⟩, chk_of (by simp [hk8]), bOr_u8 (hlt k) (hlt2 k), w64_small (by omega)]
    refine ih' _ ?_
    rw [List.set_cons_zero, arr_set _ hk8]
    congr 1
    refine arr_ext fun q hq => ?_
    by_cases e1 : q = k
    ·subst e1
     rw [if_pos rfl, if_pos (by omega)]
    ·rw [if_neg e1]
     by_cases e2 : q < k
     ·rw [if_pos (by omega), if_pos (by omega)]
     ·rw [if_neg (by omega), if_neg (by omega)]
   ·subst hI'
    simp only [l37b, show decide ((8 : Int) < 8) = false from rfl, cond_false, ixW ht (by omega)]
    refine ih _ ?_
    congr 1
    rw [key]
    exact arr_ext fun q hq => if_pos (by omega)
  ·subst hI
   simp only [l37a, ixE, cond_false, List.take_length]; rfl
 ·cases h⟩
def okA (a : List Int) : Bool := decide (a.length = 8) && a.all fun m => decide (0 ≤ m ∧ m < 256)
theorem okA_at {a : List Int} (h : okA a = true) : a.length = 8 ∧ ∀ m ∈ a, 0 ≤ m ∧ m < 256 := by simpa [okA] using h
theorem okA_arr {f : Nat → Nat} (h : ∀ k, f k < 256) : okA (arr f) = true := by
 refine Bool.and_eq_true_iff.2 ⟨decide_eq_true (arr_len f), List.all_eq_true.2 fun m hm => decide_eq_true ?_⟩
 obtain ⟨k, _, rfl⟩ := List.mem_map.1 hm
 have := h k; omega
theorem arr_of {a : List Int} (h : okA a = true) : a = arr fun k => (a.getD k 0).toNat := by
 obtain ⟨h1, h2⟩ := okA_at h
 apply List.ext_getElem
 ·rw [h1, arr_len]
 ·intro i h3 h4
  simp only [arr, List.getElem_map, List.getElem_range, List.getD_eq_getElem?_getD, List.getElem?_eq_getElem h3, Option.getD_some]
  have := h2 a[i] (List.getElem_mem _); omega
def B45 (a b : List Int) : Option (List Int) := if okA a = true ∧ okA b = true then some (arr fun k => (a.getD k 0).toNat &&& (b.getD k 0).toNat) else none
theorem KB45 : FnOk Tryd.prog 45 (F45 B45) := ok45 B45 fun a b r h => ⟨1001, by
 simp only [B45] at h
 split at h
 ·rename_i hl
  have ea := arr_of hl.1
  have eb := arr_of hl.2
  have la : ∀ k, k < 8 → (a.getD k 0).toNat < 256 := fun k hk => by
   obtain ⟨h1, h2⟩ := okA_at hl.1
   have := h2 (a.getD k 0) (getD_mem (by omega)); omega
  have lb : ∀ k, k < 8 → (b.getD k 0).toNat < 256 := fun k hk => by
   obtain ⟨h1, h2⟩ := okA_at hl.2
   have := h2 (b.getD k 0) (getD_mem (by omega)); omega
  rw [← h, m45]
  generalize hfa : (fun k => (a.getD k 0).toNat) = fa at ea
  have la' : ∀ k, k < 8 → fa k < 256 := fun k hk => by rw [← hfa]; exact la k hk
  have hres : (arr fun k => (a.getD k 0).toNat &&& (b.getD k 0).toNat) = arr fun k => fa k &&& (b.getD k 0).toNat := by rw [← hfa]
  rw [hres, ea]
  refine countP' 0 8 (by decide) (fun n' s k => l45a 1001 b n' k s) (fun k s => s = [arr fun q => if (q : Int) < k then fa q &&& (b.getD q 0).toNat else fa q]) (fun r => r = some (arr fun k => fa k &&& (b.getD k 0).toNat))
   (fun n' s k hk0 hk hI' ih' => ?_) (fun n' s hI' => ?_) 1001 _ (by decide) (congrArg (fun z => [z]) (arr_ext fun q hq => by rw [if_neg (by omega)]))
  ·subst hI'
   obtain ⟨k, rfl⟩ : ∃ j : Nat, k = j := ⟨k.toNat, by omega⟩
   have hk8 : k < 8 := by omega
   have hgx : (if (k : Int) < (k : Int) then fa k &&& (b.getD k 0).toNat else fa k) = fa k := if_neg (Int.lt_irrefl _)
   have hbk : b.getD k 0 = (((b.getD k 0).toNat : Nat) : Int) := by
    obtain ⟨h1, h2⟩ := okA_at hl.2
    have := h2 (b.getD k 0) (getD_mem (by omega)); omega
   have hand : bAnd .u8 ((fa k : Nat) : Int) (b.getD k 0) = ((fa k &&& (b.getD k 0).toNat : Nat) : Int) := by
    have := bAnd_u8 (la' k hk8) (lb k hk8)
    rwa [← hbk] at this
   simp only [l45a, Int.toNat_natCast, List.getD_cons_zero, arr_len, arr_get _ hk8, hgx, hand]
   rw [decide_eq_true hk, cond_true, chk_dec ⟨hk0, hk⟩, chk_dec ⟨hk0, hk⟩, chk_dec ⟨hk0, hk⟩, chk_of (by simp [hk8]), w64_small (by omega)]
   refine ih' _ ?_
   rw [List.set_cons_zero, arr_set _ hk8]
   congr 1
   refine arr_ext fun q hq => ?_
   by_cases e1 : q = k
   ·subst e1
    rw [if_pos rfl, if_pos (by omega)]
   ·rw [if_neg e1]
    by_cases e2 : q < k
    ·rw [if_pos (by omega), if_pos (by omega)]
    ·rw [if_neg (by omega), if_neg (by omega)]
  ·subst hI'
   simp only [l45a, show decide ((8 : Int) < 8) = false from rfl, cond_false, List.getD_cons_zero]
   exact congrArg some (arr_ext fun q hq => if_pos (by omega))
 ·cases h⟩
def mk (c : Cd) (l w : List Int) : Bool := (List.range w.length).all fun k => l.any fun i => decide ((c.2.1.getD i.toNat []).getD k 0 = w.getD k 0)
theorem beq_arr (f g : Nat → Nat) : DT.beq (.arr 8 (.int .u8)) (arr f) (arr g) = (List.range 8).all fun k => decide (f k = g k) := by
 simp only [DT.beq]
 rw [Bool.eq_iff_iff, List.all_eq_true, List.all_eq_true]
 constructor <;> intro h k hk
 ·have := h k hk
  have e1 := arr_get f (List.mem_range.1 hk)
  have e2 := arr_get g (List.mem_range.1 hk)
  have : decide ((arr f).getD k 0 = (arr g).getD k 0) = true := this
  rw [e1, e2] at this
  have := of_decide_eq_true this
  exact decide_eq_true (by omega)
 ·have := of_decide_eq_true (h k hk)
  show decide ((arr f).getD k 0 = (arr g).getD k 0) = true
  rw [arr_get f (List.mem_range.1 hk), arr_get g (List.mem_range.1 hk), this]
  exact decide_eq_true rfl
theorem and_pow {a j : Nat} : (a &&& 2 ^ j = 2 ^ j) ↔ a.testBit j = true := by
 constructor
 ·intro h
  have := congrArg (fun z => z.testBit j) h
  simpa [Nat.testBit_and, Nat.testBit_two_pow_self] using this
 ·intro h
  apply Nat.eq_of_testBit_eq
  intro i
  rw [Nat.testBit_and, Nat.testBit_two_pow]
  by_cases e : j = i
  ·subst e; simp [h]
  ·simp [e]
theorem bit_pow {m j : Nat} : (2 ^ m).testBit j = decide (m = j) := Nat.testBit_two_pow
theorem ofN_one (w : List Int) (k : Nat) : ofN [w] k = wBit w k := by
 show 0 ||| wBit w k = _
 rw [Nat.zero_or]
theorem mkN_bit {c : Cd} {l : List Int} {k j : Nat} (hk : ∀ w ∈ c.2.1, k < w.length) (hm : ∀ w ∈ c.2.1, ∀ m ∈ w, 0 ≤ m) (hl : ∀ i ∈ l, 0 ≤ i ∧ i < (c.2.1.length : Int)) : (mkN c l k).testBit j = l.any fun i => decide ((c.2.1.getD i.toNat []).getD k 0 = (j : Int)) := by
 unfold mkN
 rw [orF_bit, Nat.zero_testBit, Bool.false_or, Bool.eq_iff_iff, List.any_eq_true, List.any_eq_true]
 refine exists_congr fun i => and_congr_right fun hi => ?_
 have hi' := hl i hi
 have hw : c.2.1.getD i.toNat [] ∈ c.2.1 := getD_mem (by omega)
 have hkw := hk _ hw
 have h0 := hm _ hw ((c.2.1.getD i.toNat []).getD k 0) (getD_mem hkw)
 rw [ofN_one, wBit, if_pos hkw, bit_pow, decide_eq_true_eq, decide_eq_true_eq]
 omega
def okC (c : Cd) (l w : List Int) : Bool := decide (cdE c = 0) && okCo c l && decide (l.length ≤ 1000) && decide (wE c w = 0)
theorem okC_at {c : Cd} {l w : List Int} (h : okC c l w = true) : cdE c = 0 ∧ okCo c l = true ∧ l.length ≤ 1000 ∧ wE c w = 0 := by
 simp only [okC, Bool.and_eq_true, decide_eq_true_eq] at h; exact ⟨h.1.1.1, h.1.1.2, h.1.2, h.2⟩
theorem okW_code {c : Cd} (h : cdE c = 0) : ∀ w ∈ c.2.1, okW w = true := fun w hw => by
 obtain ⟨hm, _, hz, hl, hb⟩ := cdE_ok h
 simp only [okW, Bool.and_eq_true, decide_eq_true_eq, List.all_eq_true]
 exact ⟨by rw [hl w hw]; exact hz.2, fun m hmm => by have := hb w hw m hmm; omega⟩
theorem okW_word {c : Cd} {w : List Int} (hc : cdE c = 0) (h : wE c w = 0) : okW w = true := by
 obtain ⟨hm, _, hz, _⟩ := cdE_ok hc
 obtain ⟨h1, h2⟩ := wE_ok h hc
 simp only [okW, Bool.and_eq_true, decide_eq_true_eq, List.all_eq_true]
 exact ⟨by rw [h1]; exact hz.2, fun m hmm => by have := h2 m hmm; omega⟩
def B30 (c : Cd) (l w : List Int) : Option Bool := if okC c l w = true then some (mk c l w) else none
theorem KB30 : FnOk Tryd.prog 30 (F30 B30) := ok30 B37 B45 B49 KB37 KB45 KB49 B30 fun c l w r h => ⟨0, by
 simp only [B30] at h
 split at h
 ·rename_i ho
  obtain ⟨hc, hL, hl, hw⟩ := okC_at ho
  obtain ⟨hm, hn, hz, hlen, hb⟩ := cdE_ok hc
  obtain ⟨w1, w2⟩ := wE_ok hw hc
  have hin := okCo_at hL
  have hoc := okW_code hc
  have how := okW_word hc hw
  have e56 : B37 c l = some (arr (mkN c l)) := if_pos ⟨hl, by omega, List.all_eq_true.2 hoc, hL⟩
  have e81 : B49 [w] = some (arr (ofN [w])) := if_pos ⟨by simp, by simpa using how⟩
  have l1 : ∀ k, mkN c l k < 256 := fun k => orF_lt _ _ _ (by decide) fun i hi => by
   have := hin i hi
   exact ofN_lt (fun w hw => by rw [List.mem_singleton.1 hw]; exact hoc _ (getD_mem (by omega))) k
  have l2 : ∀ k, ofN [w] k < 256 := ofN_lt fun w' hw' => by rw [List.mem_singleton.1 hw']; exact how
  have e84 : B45 (arr (mkN c l)) (arr (ofN [w])) = some (arr fun k => mkN c l k &&& ofN [w] k) := by
   rw [B45, if_pos ⟨okA_arr l1, okA_arr l2⟩]
   exact congrArg some (arr_ext fun k hk => by rw [arr_get _ hk, arr_get _ hk, Int.toNat_natCast, Int.toNat_natCast])
  rw [← h, m30, e56, Option.bind_some, e81, Option.bind_some, e84, Option.bind_some, Option.bind_some, beq_arr]
  refine congrArg some ?_
  rw [mk, Bool.eq_iff_iff, List.all_eq_true, List.all_eq_true]
  have one : ∀ k, k < w.length → ((mkN c l k &&& ofN [w] k = ofN [w] k) ↔ (l.any fun i => decide ((c.2.1.getD i.toNat []).getD k 0 = w.getD k 0)) = true) := fun k hk => by
   have h0 := w2 (w.getD k 0) (getD_mem hk)
   rw [ofN_one, wBit, if_pos hk, and_pow, mkN_bit (fun w' hw' => by rw [hlen w' hw']; omega) (fun w' hw' m hm' => (hb w' hw' m hm').1) hin]
   rw [show (((w.getD k 0).toNat : Nat) : Int) = w.getD k 0 by omega]
  constructor <;> intro hk k hkr
  ·have hkw := List.mem_range.1 hkr
   exact (one k hkw).1 (of_decide_eq_true (hk k (List.mem_range.2 (by omega))))
  ·by_cases hkw : k < w.length
   ·exact decide_eq_true ((one k hkw).2 (hk k (List.mem_range.2 hkw)))
   ·refine decide_eq_true ?_
    rw [ofN_one, wBit, if_neg hkw, Nat.and_zero]
 ·cases h⟩
open Go.RowKit

def gs (N : Nat) : Nat → Nat → List (List Int)
 | 0, _ => []
 | k + 1, i => (List.range' i (N - i)).flatMap fun (j : Nat) => [(j : Int)] :: (gs N k (j + 1)).map fun x => (j : Int) :: x
theorem gr_gs (N : Nat) : ∀ (k : Nat) (L : List Int) (i : Nat), gr N k L i = (gs N k i).map fun x => L ++ x
 | 0, L, i => rfl
 | k + 1, L, i => by
  rw [gr, gs, List.map_flatMap]
  congr 1
  funext j
  rw [gr_gs N k (L ++ [(j : Int)]) (j + 1), List.map_cons, List.map_map]
  congr 1
  exact List.map_congr_left fun x _ => by simp
def co (N k : Nat) : List (List Int) := gs N k 0
theorem gr_co (N k : Nat) : gr N k [] 0 = co N k := by rw [gr_gs]; simp [co]
def isCo (N k : Nat) (x : List Int) : Prop := x ≠ [] ∧ x.length ≤ k ∧ x.Pairwise (· < ·) ∧ ∀ e ∈ x, 0 ≤ e ∧ e < N
theorem gs_mem (N : Nat) : ∀ (k i : Nat) (x : List Int), x ∈ gs N k i ↔ x ≠ [] ∧ x.length ≤ k ∧ x.Pairwise (· < ·) ∧ ∀ e ∈ x, (i : Int) ≤ e ∧ e < N
 | 0, i, x => by
  simp only [gs, List.not_mem_nil, false_iff]
  rintro ⟨h1, h2, _⟩
  exact h1 (List.eq_nil_of_length_eq_zero (by omega))
 | k + 1, i, x => by
  simp only [gs, List.mem_flatMap, List.mem_range'_1, List.mem_cons, List.mem_map]
  constructor
  ·rintro ⟨j, hj, h⟩
   rcases h with rfl | ⟨y, hy, rfl⟩
   ·refine ⟨by simp, by simp, List.pairwise_singleton _ _, fun e he => ?_⟩
    rw [List.mem_singleton.1 he]; omega
   ·obtain ⟨a1, a2, a3, a4⟩ := (gs_mem N k (j + 1) y).1 hy
    refine ⟨by simp, by simp; omega, List.pairwise_cons.2 ⟨fun e he => by have := a4 e he; omega, a3⟩, fun e he => ?_⟩
    rcases List.mem_cons.1 he with rfl | he
    ·omega
    ·have := a4 e he; omega
  ·rintro ⟨h1, h2, h3, h4⟩
   match x, h1, h2, h3, h4 with
   | e :: y, _, h2, h3, h4 =>
    have he := h4 e (by simp)
    obtain ⟨h5, h6⟩ := List.pairwise_cons.1 h3
    refine ⟨e.toNat, by omega, ?_⟩
    have ee : ((e.toNat : Nat) : Int) = e := by omega
    rw [ee]
    cases y with
    | nil => exact .inl rfl
    | cons f z => exact .inr ⟨f :: z, (gs_mem N k (e.toNat + 1) (f :: z)).2 ⟨by simp, by simp at h2 ⊢; omega, h6, fun g hg => by have := h5 g hg; have := h4 g (by simp [hg]); omega⟩, rfl⟩
theorem co_mem {N k : Nat} {x : List Int} : x ∈ co N k ↔ isCo N k x := by
 rw [co, gs_mem]; exact Iff.rfl
theorem rise_len : ∀ {x : List Int} {lo : Nat} {N : Nat}, x.Pairwise (· < ·) → (∀ e ∈ x, (lo : Int) ≤ e ∧ e < N) → x.length ≤ N - lo
 | [], _, _, _, _ => Nat.zero_le _
 | e :: y, lo, N, h, hm => by
  obtain ⟨h1, h2⟩ := List.pairwise_cons.1 h
  have he := hm e (by simp)
  have := rise_len (x := y) (lo := e.toNat + 1) (N := N) h2 fun g hg => by have := h1 g hg; have := hm g (by simp [hg]); omega
  simp only [List.length_cons]; omega
theorem isCo_len {N k : Nat} {x : List Int} (h : isCo N k x) : x.length ≤ N := by
 have := rise_len (lo := 0) h.2.2.1 fun e he => by have := h.2.2.2 e he; omega
 omega
def bs (N set : Nat) : List Int := ((List.range N).filter fun i => set.testBit i).map fun i => ((i : Nat) : Int)
open Go.RowKit

theorem drop_cons' {α : Type} {b : List α} {t : Nat} {d : α} (h : t < b.length) : b.drop t = b.getD t d :: b.drop (t + 1) := by
 rw [List.drop_eq_getElem_cons h, List.getD_eq_getElem?_getD, List.getElem?_eq_getElem h]; rfl
def B25 (c : Cd) (s : Int) : Option (Int × Int × List (List Int) × Unit) := some (s, c)
theorem KB25 : FnOk Tryd.prog 25 (F25 B25) := ok25 B25 fun c s r h => ⟨0, by rw [← h]; rfl⟩
def B27 (s : Option (List Int)) : Option (List Int) := match s with
 | none => some []
 | some l => if l.length ≤ 1000 then some l else none
theorem KB27 : FnOk Tryd.prog 27 (F27 B27) := ok27 B27 fun s r h => ⟨0, by
 cases s with
 | none => rw [← h]; rfl
 | some l =>
  simp only [B27] at h
  split at h
  ·rename_i hl
   rw [← h, m27]
   simp only [Option.isNone_some, cond_false, Option.getD_some, List.nil_append]
   rw [chk_of (small_of (by omega) (by decide))]
  ·cases h⟩
def B33c (n : Int) : Option (List Int) := if 0 ≤ n ∧ n ≤ 10000000 then some [] else none
theorem KB33c : FnOk Tryd.prog 33 (F33c B33c) := ok33c B33c fun n r h => ⟨0, by
 simp only [B33c] at h
 split at h
 ·rename_i hl
  rw [← h, m33c, decide_eq_false (show ¬ n < 0 by omega), cond_false, Int.sub_zero, w64_small (by omega)]
  cases e : decide (n > 0) with
  | false => rfl
  | true =>
   have hn := of_decide_eq_true e
   rw [cond_true, chk_of (by simp only [mkOk, Bool.and_eq_true, decide_eq_true_eq]; exact ⟨trivial, ⟨by omega, Int.le_refl _⟩, (show n * 8 ≤ 140737488355328 by omega), by omega⟩), chk_dec (by omega)]
   rfl
 ·cases h⟩
def B16 (ws : List (List Int)) : Option (List Int) := if ws.length ≤ 2000 ∧ ∀ w ∈ ws, w.length ≤ 1000 then some ws.flatten else none
theorem KB16 : FnOk Tryd.prog 16 (F16 B16) := ok16 B33c KB33c B16 fun ws r h => ⟨2001, by
 simp only [B16] at h
 split at h
 ·rename_i hl
  obtain ⟨hl, hw⟩ := hl
  rw [← h, m16]
  refine rangeP ws [] (fun n s t => l16a B33c 2001 ws n s t) (fun t rest s => (0 ≤ s ∧ s ≤ 1000 * t) ∧ ∀ w ∈ rest, w.length ≤ 1000) (fun r => r = some ws.flatten) (fun n s t x rest ht hx hd hI ih => ?_) (fun n s hI => ?_) 2001 0 (by omega) ⟨by omega, hw⟩
  ·have hxl := hI.2 x (by simp)
   simp only [l16a, ixA ht, ixB ht, cond_true, chk_true, Int.toNat_natCast, hx, ixW ht (by omega)]
   rw [w64_small (by omega), decide_eq_false (show ¬ s + (x.length : Int) < 0 by omega), cond_false]
   exact ih _ ⟨by omega, fun w hw' => hI.2 w (by simp [hw'])⟩
  ·simp only [l16a, ixE, cond_false]
   rw [B33c, if_pos (by omega), Option.bind_some]
   exact (rangeIx ws [] (fun n s t => l16b B33c 2001 ws n t s) (fun t rest s => s.length ≤ 1000 * t ∧ ∀ w ∈ rest, w.length ≤ 1000) (fun _ xs s => some (s ++ xs.flatten))
    (fun n s t x rest ht hx hI ih => by
     have hxl := hI.2 x (by simp)
     have e := ih (s ++ x) ⟨by rw [List.length_append]; omega, fun w hw' => hI.2 w (by simp [hw'])⟩
     simp only [l16b, ixA ht, ixB ht, cond_true, chk_true, Int.toNat_natCast, hx, ixW ht (by omega)]
     rw [chk_of (small_of (by omega) (by decide)), e, List.flatten_cons, List.append_assoc])
    (fun n s _ => by simp only [l16b, ixE, cond_false, List.flatten_nil, List.append_nil]) 2001 [] (by omega) ⟨by simp, hw⟩).trans (by rw [List.nil_append])
 ·cases h⟩
def cwE (c : Cd) (w : List Int) : Int := cond (decide (cdE c = 0)) (wE c w) (cdE c)
theorem cwE_ok {c : Cd} {w : List Int} (h : cwE c w = 0) : cdE c = 0 ∧ wE c w = 0 := by
 unfold cwE at h
 cases e : decide (cdE c = 0) with
 | false => rw [e, cond_false] at h; exact absurd h (of_decide_eq_false e)
 | true => rw [e, cond_true] at h; exact ⟨of_decide_eq_true e, h⟩
theorem okC_co {c : Cd} {w x : List Int} {k : Nat} (h : cwE c w = 0) (hx : isCo c.2.1.length k x) : okC c x w = true := by
 obtain ⟨h1, h2⟩ := cwE_ok h
 have hn := (cdE_ok h1).2.1
 have := isCo_len hx
 simp only [okC, Bool.and_eq_true, decide_eq_true_eq]
 refine ⟨⟨⟨h1, ?_⟩, by omega⟩, h2⟩
 simp only [okCo, List.all_eq_true, decide_eq_true_eq]
 exact fun i hi => hx.2.2.2 i hi
open Go.RowKit

def B35 (s : List Int) (v : Int) : Option Int := if s.length ≤ 1000 then some (fx (fun x => v == x) 0 s) else none
theorem KB35 : FnOk Tryd.prog 35 (F35 B35) := ok35 B35 fun s v r h => ⟨1001, by
 simp only [B35] at h
 split at h
 ·rename_i hl
  rw [← h, m35]
  exact rangeIx s 0 (fun n (_ : Unit) t => l35a 1001 s v n t) (fun _ _ _ => True) (fun t xs _ => some (fx (fun x => v == x) t xs))
   (fun n _ t x rest ht hx _ ih => by
    simp only [l35a, ixA ht, ixB ht, cond_true, chk_true, Int.toNat_natCast, ixW ht (by omega), hx, ih () trivial, fx]
    cases (v == x) <;> rfl)
   (fun n _ _ => by simp only [l35a, ixE, cond_false]; rfl) 1001 () (by omega) trivial
 ·cases h⟩
def B29 (s : List Int) (v : Int) : Option Bool := if s.length ≤ 1000 then some (decide (v ∈ s)) else none
theorem any_mem (s : List Int) (v : Int) : (s.any fun x => v == x) = decide (v ∈ s) := by
 rw [Bool.eq_iff_iff, List.any_eq_true, decide_eq_true_eq]
 constructor
 ·rintro ⟨x, hx, h⟩; rw [eq_of_beq h]; exact hx
 ·exact fun h => ⟨v, h, beq_self_eq_true v⟩
theorem KB29 : FnOk Tryd.prog 29 (F29 B29) := ok29 B35 KB35 B29 fun s v r h => ⟨0, by
 simp only [B29] at h
 split at h
 ·rename_i hl
  rw [← h, m29, B35, if_pos hl, Option.bind_some, fx_ge _ s 0 (by omega), any_mem]
 ·cases h⟩
def fi (c : Cd) (l : List Int) : Nat → List (List Int) → Option Int
 | _, [] => none
 | k, w :: r => cond (!decide ((k : Int) ∈ l) && mk c l w) (some (k : Int)) (fi c l (k + 1) r)
def frS (c : Cd) (b : Option (List Int) × Int) (l : List Int) : Option (List Int) × Int :=
 cond (b.1.isSome && decide ((b.1.getD []).length ≤ l.length)) b (match fi c l 0 c.2.1 with
  | some i => (some l, i)
  | none => b)
def frR (b : Option (List Int) × Int) : List Int × Int × Int := match b.1 with
 | some l => (l, b.2, 0)
 | none => ([], 0, 5)
def frA (c : Cd) (s : Int) : Option (List Int) × Int := (co c.2.1.length s.toNat).foldl (frS c) (none, 0)
def B10 (c : Cd) (s : Int) : Option (List Int × Int × Int) := if smB c = true then some (cond (decide (cdE c = 0)) (cond (decide (1 ≤ s ∧ s ≤ 10)) (frR (frA c s)) ([], 0, 4)) ([], 0, cdE c)) else none
theorem wE_of {c : Cd} (h : cdE c = 0) {w : List Int} (hw : w ∈ c.2.1) : wE c w = 0 := by
 obtain ⟨hm, _, _, hlen, hb⟩ := cdE_ok h
 rw [wE, decide_eq_true (hlen w hw), cond_true]
 have : w.any (outM c.1) = false := List.any_eq_false.2 fun m hmm => by
  have := hb w hw m hmm
  simp only [outM, Bool.not_eq_true, Bool.not_eq_false', decide_eq_true_eq]
  rw [w64_small (by omega)]; omega
 rw [this]; rfl
theorem okC_word {c : Cd} (h : cdE c = 0) {w x : List Int} (hw : w ∈ c.2.1) {k : Nat} (hx : isCo c.2.1.length k x) : okC c x w = true :=
 okC_co (by rw [cwE, decide_eq_true h, cond_true]; exact wE_of h hw) hx
theorem KB10 : FnOk Tryd.prog 10 (F10 B10) := ok10 B22 B25 B27 B28 B29 B30 KB22 KB25 KB27 KB28 KB29 KB30 B10 fun c z r h => ⟨1001, by
 simp only [B10] at h
 split at h
 ·rename_i hs
  obtain ⟨h1, h2⟩ := smB_at hs
  rw [← h, m10, B22, if_pos hs, Option.bind_some, bneDec]
  cases e : decide (cdE c = 0) with
  | false => rfl
  | true =>
   have h0 := of_decide_eq_true e
   have hn := (cdE_ok h0).2.1
   simp only [Bool.not_true, cond_false, cond_true, B28, Option.bind_some]
   cases e2 : decide (1 ≤ z ∧ z ≤ 10) with
   | false => rfl
   | true =>
    have hz := of_decide_eq_true e2
    simp only [Bool.not_true, cond_false, cond_true, B25, Option.bind_some]
    rw [chk_dec (by omega), gr_co]
    have key : ∀ (l : List (List Int)) (b : Option (List Int)) (q : Int), (∀ x ∈ l, isCo c.2.1.length z.toNat x) → l10a B22 B25 B27 B28 B29 B30 1001 c (cdE c) (z, c) l b q = some (frR (l.foldl (frS c) (b, q))) := by
     intro l
     induction l with
     | nil => intro b q _; cases b <;> rfl
     | cons x r ih =>
      intro b q hl
      have hx := hl x (by simp)
      have hxl := isCo_len hx
      have hpos : 0 < x.length := by
       have := hx.1
       cases x with
       | nil => exact absurd rfl this
       | cons _ _ => simp
      have hr := fun b q => ih b q fun y hy => hl y (by simp [hy])
      have inner : l10b B22 B25 B27 B28 B29 B30 1001 c b q x (fun y0 y1 => l10a B22 B25 B27 B28 B29 B30 1001 c (cdE c) (z, c) r y0 y1) 1001 0 = some (frR (r.foldl (frS c) (match fi c x 0 c.2.1 with | some i => (some x, i) | none => (b, q)))) := by
       refine (rangeIx c.2.1 [] (fun n (_ : Unit) t => l10b B22 B25 B27 B28 B29 B30 1001 c b q x (fun y0 y1 => l10a B22 B25 B27 B28 B29 B30 1001 c (cdE c) (z, c) r y0 y1) n t) (fun _ _ _ => True)
        (fun t xs _ => some (frR (r.foldl (frS c) (match fi c x t xs with | some i => (some x, i) | none => (b, q))))) (fun n _ t w rest ht hw _ ihn => ?_) (fun n _ _ => ?_) 1001 () (by omega) trivial)
       ·have hwm : w ∈ c.2.1 := hw ▸ getD_mem ht
        have e75 : B29 x (t : Int) = some (decide ((t : Int) ∈ x)) := if_pos (by omega)
        have e59 : B30 c x w = some (mk c x w) := if_pos (okC_word h0 hwm hx)
        simp only [l10b, ixA ht, ixB ht, cond_true, chk_true, Int.toNat_natCast, hw, ixW ht (by omega), ihn () trivial, e75, Option.bind_some, fi]
        cases decide ((t : Int) ∈ x) with
        | true => rfl
        | false =>
         simp only [Bool.not_false, cond_true, e59, Option.bind_some, Bool.true_and]
         cases mk c x w with
         | false => rfl
         | true =>
          simp only [cond_true]
          rw [chk_of (by simp only [Bool.and_true, decide_eq_true_eq]; exact hpos)]
          simp only [B27, if_pos (show x.length ≤ 1000 by omega), Option.bind_some]
          rw [chk_dec hpos, hr]
       ·simp only [l10b, ixE, cond_false, fi]
        exact hr b q
      rw [List.foldl_cons]
      cases b with
      | none =>
       rw [l10a]
       exact inner
      | some y =>
       rw [l10a]
       simp only [Option.isNone_some, Bool.not_false, cond_true, Option.getD_some]
       rw [show decide ((x.length : Int) ≥ (y.length : Int)) = decide (y.length ≤ x.length) from decide_eq_decide.2 (by omega)]
       show _ = some (frR (r.foldl (frS c) (cond (true && decide (y.length ≤ x.length)) (some y, q) _)))
       rw [Bool.true_and]
       cases decide (y.length ≤ x.length) with
       | true => exact hr (some y) q
       | false => exact inner
    exact (key _ none 0 fun x hx => co_mem.1 hx).trans rfl
 ·cases h⟩
open Go.RowKit

def B47c (i : Int) (p : List Int) : Option (Bool × List Int) := if p.length ≤ 1000 then some (!decide (i ∈ p), p) else none
theorem KB47c : FnOk Tryd.prog 47 (F47c B47c) := ok47c B29 KB29 B47c fun i p r h => ⟨0, by
 simp only [B47c] at h
 split at h
 ·rename_i hl
  rw [← h, m47c, B29, if_pos hl]; rfl
 ·cases h⟩
def B32c47 (s p : List Int) : Option (Int × List Int × List Int) := if s.length ≤ 1000 ∧ p.length ≤ 1000 then some (fx (fun i => !decide (i ∈ p)) 0 s, s, p) else none
theorem KB32c47 : FnOk Tryd.prog 32 (F32c47 B32c47) := ok32c47 B47c KB47c B32c47 fun s p r h => ⟨1001, by
 simp only [B32c47] at h
 split at h
 ·rename_i hl
  rw [← h, m32c47]
  exact rangeIx s 0 (fun n (_ : Unit) t => l32c47a B47c 1001 s n t p) (fun _ _ _ => True) (fun t xs _ => some (fx (fun i => !decide (i ∈ p)) t xs, s, p))
   (fun n _ t x rest ht hx _ ih => by
    simp only [l32c47a, ixA ht, ixB ht, cond_true, chk_true, Int.toNat_natCast, ixW ht (by omega), hx, B47c, if_pos hl.2, Option.bind_some, ih () trivial, fx]
    cases decide (x ∈ p) <;> rfl)
   (fun n _ _ => by simp only [l32c47a, ixE, cond_false]; rfl) 1001 () (by omega) trivial
 ·cases h⟩
theorem fx_cases {α : Type} (p : α → Bool) (d : α) : ∀ (xs : List α) (t : Int), 0 ≤ t → (fx p t xs = -1 ∧ ∀ x ∈ xs, p x = false) ∨ ∃ i : Nat, i < xs.length ∧ fx p t xs = t + i ∧ p (xs.getD i d) = true ∧ ∀ x ∈ xs.take i, p x = false
 | [], t, _ => .inl ⟨rfl, fun x hx => by cases hx⟩
 | x :: r, t, ht => by
  rw [fx]
  cases e : p x with
  | true => exact .inr ⟨0, by simp, by simp, e, fun y hy => by cases hy⟩
  | false =>
   rw [cond_false]
   rcases fx_cases p d r (t + 1) (by omega) with ⟨h1, h2⟩ | ⟨i, h1, h2, h3, h4⟩
   ·refine .inl ⟨h1, fun y hy => ?_⟩
    rcases List.mem_cons.1 hy with rfl | hy
    ·exact e
    ·exact h2 y hy
   ·refine .inr ⟨i + 1, by simp; omega, by rw [h2]; omega, h3, fun y hy => ?_⟩
    rw [List.take_succ_cons] at hy
    rcases List.mem_cons.1 hy with rfl | hy
    ·exact e
    ·exact h4 y hy
abbrev fil (p s : List Int) : List Int := s.filter fun i => decide (i ∈ p)
theorem fil_app (p a b : List Int) : fil p (a ++ b) = fil p a ++ fil p b := List.filter_append _ _
theorem fil_one (p : List Int) (x : Int) : fil p [x] = cond (decide (x ∈ p)) [x] [] := by
 rw [fil, List.filter_cons]
 cases decide (x ∈ p) <;> rfl
def B46c47 (s p : List Int) : Option (List Int × List Int) := if s.length ≤ 1000 ∧ p.length ≤ 1000 then some (fil p s, p) else none
theorem set_take {α : Type} {o : List α} {i : Nat} {x d : α} (h : i < o.length) : (o.set i x).take (i + 1) = o.take i ++ [x] := by
 rw [take_succ' (t := i) (d := d) (x := x) (by rw [List.length_set]; exact h) (by simp [h]), List.take_set, List.set_eq_of_length_le (by rw [List.length_take]; omega)]
theorem KB46c47 : FnOk Tryd.prog 46 (F46c47 B46c47) := ok46c47 B32c47 B47c KB32c47 KB47c B46c47 fun s p r h => ⟨1001, by
 simp only [B46c47] at h
 split at h
 ·rename_i hl
  rw [← h, m46c47, B32c47, if_pos hl, Option.bind_some, beqDec]
  rcases fx_cases (fun i => !decide (i ∈ p)) 0 s 0 (by omega) with ⟨h1, h2⟩ | ⟨k, h1, h2, h3, h4⟩
  ·simp only [h1, decide_true, cond_true]
   rw [show fil p s = s from List.filter_eq_self.2 fun x hx => by have := h2 x hx; simpa using this]
  ·simp only [h2]
   rw [decide_eq_false (by omega), cond_false]
   have key : ∀ (m j n i : Nat) (o : List Int), j + m = s.length → m < n → i < j → o.length = s.length → o.drop j = s.drop j → o.take i = fil p (s.take j) → l46c47a B32c47 B47c 1001 n (i : Int) (j : Int) o p = some (fil p s, p) := by
    intro m
    induction m with
    | zero =>
     intro j n i o e1 e2 e3 e4 e5 e6
     obtain ⟨n, rfl⟩ : ∃ q, n = q + 1 := ⟨n - 1, by omega⟩
     have hj : j = o.length := by omega
     subst hj
     simp only [l46c47a, ixE, cond_false, Int.toNat_natCast]
     rw [chk_dec (by omega), chk_dec (by omega), chk_dec (by simp [clr]; omega)]
     rw [clr, List.append_assoc, List.take_append_of_le_length (by simp; omega), List.take_take, Nat.min_self, e6, e4, List.take_length]
    | succ m ih =>
     intro j n i o e1 e2 e3 e4 e5 e6
     obtain ⟨n, rfl⟩ : ∃ q, n = q + 1 := ⟨n - 1, by omega⟩
     have hj : j < o.length := by omega
     have hjs : j < s.length := by omega
     have d1 := drop_cons' (d := 0) hj
     have d2 := drop_cons' (d := 0) hjs
     rw [e5, d2] at d1
     obtain ⟨d3, d4⟩ := List.cons.inj d1
     have tk := take_succ' (d := 0) hjs rfl
     simp only [l46c47a, ixA hj, ixB hj, cond_true, chk_true, Int.toNat_natCast, ixW hj (by omega), B47c, if_pos hl.2, Option.bind_some, Bool.not_not]
     cases e : decide (o.getD j 0 ∈ p) with
     | true =>
      rw [cond_true, chk_dec (by omega), ixW (show i < o.length by omega) (by omega)]
      refine ih (j + 1) n (i + 1) _ (by omega) (by omega) (by omega) (by rw [List.length_set]; exact e4) ?_ ?_
      ·rw [List.drop_set_of_lt (by omega), d4]
      ·rw [set_take (d := 0) (by omega), e6, tk, fil_app, fil_one, d3, e]; rfl
     | false =>
      rw [cond_false]
      refine ih (j + 1) n i o (by omega) (by omega) (by omega) e4 d4.symm ?_
      rw [e6, tk, fil_app, fil_one, d3, e, cond_false, List.append_nil]
   have hk2 : w64 (0 + (k : Int) + 1) = ((k + 1 : Nat) : Int) := by rw [w64_small (by omega)]; omega
   rw [hk2, show (0 : Int) + (k : Int) = (k : Int) by omega]
   refine key (s.length - (k + 1)) (k + 1) 1001 k s (by omega) (by omega) (by omega) rfl rfl ?_
   have h3' : decide (s.getD k 0 ∈ p) = false := by simpa using h3
   rw [take_succ' (d := 0) h1 rfl, fil_app, fil_one, h3', cond_false, List.append_nil]
   exact (List.filter_eq_self.2 fun x hx => by have := h4 x hx; simpa using this).symm
 ·cases h⟩
def B48c (m p : Int) : Option (Bool × Int) := if (0 ≤ m ∧ m ≤ 8) ∧ 0 ≤ p ∧ p < 256 then some (p.toNat.testBit m.toNat, p) else none
theorem KB48c : FnOk Tryd.prog 48 (F48c B48c) := ok48c B48c fun m p r h => ⟨0, by
 simp only [B48c] at h
 split at h
 ·rename_i hl
  obtain ⟨⟨h1, h2⟩, h3, h4⟩ := hl
  obtain ⟨a, rfl⟩ : ∃ j : Nat, m = j := ⟨m.toNat, by omega⟩
  obtain ⟨b, rfl⟩ : ∃ j : Nat, p = j := ⟨p.toNat, by omega⟩
  rw [← h, m48c, chk_dec h1, bit_u8 (by omega) (by omega)]; rfl
 ·cases h⟩
def B32c48 (s : List Int) (p : Int) : Option (Int × Int) := if s.length ≤ 1000 ∧ (∀ m ∈ s, 0 ≤ m ∧ m ≤ 8) ∧ 0 ≤ p ∧ p < 256 then some (fx (fun m => p.toNat.testBit m.toNat) 0 s, p) else none
theorem KB32c48 : FnOk Tryd.prog 32 (F32c48 B32c48) := ok32c48 B48c KB48c B32c48 fun s p r h => ⟨1001, by
 simp only [B32c48] at h
 split at h
 ·rename_i hl
  obtain ⟨h1, h2, h3⟩ := hl
  rw [← h, m32c48]
  exact rangeIx s 0 (fun n (_ : Unit) t => l32c48a B48c 1001 s n t p) (fun _ rest _ => ∀ m ∈ rest, 0 ≤ m ∧ m ≤ 8) (fun t xs _ => some (fx (fun m => p.toNat.testBit m.toNat) t xs, p))
   (fun n _ t x rest ht hx hI ih => by
    simp only [l32c48a, ixA ht, ixB ht, cond_true, chk_true, Int.toNat_natCast, ixW ht (by omega), hx, B48c, if_pos (show (0 ≤ x ∧ x ≤ 8) ∧ 0 ≤ p ∧ p < 256 from ⟨hI x (by simp), h3⟩), Option.bind_some, ih () (fun m hm => hI m (by simp [hm])), fx]
    cases p.toNat.testBit x.toNat <;> rfl)
   (fun n _ _ => by simp only [l32c48a, ixE, cond_false]; rfl) 1001 () (by omega) h2
 ·cases h⟩
open Go.RowKit

def anA (c : Cd) : List (List Int) → (Nat → Nat) → Nat → Nat
 | [], f => f
 | l :: r, f => anA c r fun k => f k &&& mkN c l k
def inA : List (List Int) → List Int → List Int
 | [], a => a
 | l :: r, a => inA r (fil l a)
def fb (n : Nat) : Int := fx (fun m : Int => n.testBit m.toNat) 0 [0, 1, 2, 3]
def fin78 (c : Cd) (ls : List (List Int)) (a : List Int) (f : Nat → Nat) : Db × Bool :=
 cond ((List.range' 0 (sz c)).all fun k => decide (0 ≤ fb (f k))) (((List.range' 0 (sz c)).map fun k => fb (f k), ls, ()), decide (a.length = 0)) (([], [], ()), false)
def dbF (c : Cd) (ls : List (List Int)) : Db × Bool := fin78 c ls (inA (ls.drop 1) (ls.getD 0 [])) (anA c (ls.drop 1) (mkN c (ls.getD 0 [])))
def okS (c : Cd) (l : List Int) : Bool := decide (0 < l.length) && okCo c l && decide (l.length ≤ 10)
theorem okS_at {c : Cd} {l : List Int} (h : okS c l = true) : 0 < l.length ∧ okCo c l = true ∧ l.length ≤ 10 := by
 simp only [okS, Bool.and_eq_true, decide_eq_true_eq] at h; exact ⟨h.1.1, h.1.2, h.2⟩
def B26 (c : Cd) (ls : List (List Int)) : Option (Db × Bool) := if cdE c = 0 ∧ 0 < ls.length ∧ ls.length ≤ 1000 ∧ ls.all (okS c) = true then some (dbF c ls) else none
theorem KB26 : FnOk Tryd.prog 26 (F26 B26) := ok26 B23 B27 B32c48 B37 B45 B46c47 KB23 KB27 KB32c48 KB37 KB45 KB46c47 B26 fun c ls r h => ⟨1001, by
 simp only [B26] at h
 split at h
 ·rename_i ho
  obtain ⟨hc, h0, hl, hok⟩ := ho
  rw [List.all_eq_true] at hok
  obtain ⟨hm, hn, hz, hlen, hb⟩ := cdE_ok hc
  have hoc := okW_code hc
  have e56 : ∀ l, okS c l = true → B37 c l = some (arr (mkN c l)) := fun l h => by
   obtain ⟨a1, a2, a3⟩ := okS_at h
   exact if_pos ⟨by omega, by omega, List.all_eq_true.2 hoc, a2⟩
  have lt16 : ∀ l, okS c l = true → ∀ k, mkN c l k < 256 := fun l h k => orF_lt _ _ _ (by decide) fun i hi => by
   have := okCo_at (okS_at h).2.1 i hi
   exact ofN_lt (fun w hw => by rw [List.mem_singleton.1 hw]; exact hoc _ (getD_mem (by omega))) k
  have s0 := hok _ (getD_mem (d := []) h0)
  obtain ⟨z1, z2, z3⟩ := okS_at s0
  rw [← h, m26, chk_dec (by omega), e56 _ s0, Option.bind_some, chk_dec (by omega), chk_of (by rw [Bool.and_true]; exact decide_eq_true z1)]
  simp only [B27, if_pos (show (ls.getD 0 []).length ≤ 1000 by omega), Option.bind_some]
  rw [chk_dec (by omega)]
  refine (rangeInv (ls.drop 1) [] (fun n (s : List Int × (Nat → Nat)) t => l26a B23 B27 B32c48 B37 B45 B46c47 1001 c ls n t s.1 [arr s.2]) (fun xs s => (∀ l ∈ xs, okS c l = true) ∧ s.1.length ≤ 10 ∧ ∀ k, s.2 k < 256)
   (fun xs s => some (fin78 c ls (inA xs s.1) (anA c xs s.2))) (fun n s t x rest ht hx hI ih => ?_) (fun n s hI => ?_) 1001 (ls.getD 0 [], mkN c (ls.getD 0 [])) (by simp; omega) ⟨fun l hl => hok l (List.mem_of_mem_drop hl), z3, lt16 _ s0⟩).trans rfl
  ·obtain ⟨a, f⟩ := s
   obtain ⟨i1, i2, i3⟩ := hI
   simp only at i2 i3
   have sx := i1 x (by simp)
   obtain ⟨x1, x2, x3⟩ := okS_at sx
   have lx := lt16 x sx
   have e84 : B45 (arr f) (arr (mkN c x)) = some (arr fun k => f k &&& mkN c x k) := by
    rw [B45, if_pos ⟨okA_arr i3, okA_arr lx⟩]
    exact congrArg some (arr_ext fun k hk => by rw [arr_get _ hk, arr_get _ hk, Int.toNat_natCast, Int.toNat_natCast])
   have e94 : B46c47 a x = some (fil x a, x) := if_pos ⟨by omega, by omega⟩
   have hfl : (fil x a).length ≤ a.length := List.length_filter_le _ _
   have ih' := ih (fil x a, fun k => f k &&& mkN c x k) ⟨fun l hl => i1 l (by simp [hl]), by simp only; omega, fun k => Nat.and_lt_two_pow (n := 8) _ (lx k)⟩
   simp only [l26a, ixA ht, ixB ht, cond_true, chk_true, Int.toNat_natCast, hx, e56 x sx, Option.bind_some]
   rw [show ([arr f] : List (List Int)).getD 0 [0, 0, 0, 0, 0, 0, 0, 0] = arr f from rfl, e84, Option.bind_some, e94, Option.bind_some, ixW ht (by simp; omega)]
   exact ih'
  ·obtain ⟨a, f⟩ := s
   obtain ⟨i1, i2, i3⟩ := hI
   simp only at i2 i3
   simp only [l26a, ixE, cond_false]
   rw [B23, if_pos hn.1, Option.bind_some, chk_of (by rw [Bool.and_true]; exact decide_eq_true (by omega))]
   refine (countUp 0 (sz c : Int) (by omega) (fun n s t => l26b B23 B27 B32c48 B37 B45 B46c47 1001 ls a [arr f] (sz c : Int) n t s) (fun t s => (s.length : Int) ≤ t) (fun t s => some (cond ((List.range' t.toNat (sz c - t.toNat)).all fun k => decide (0 ≤ fb (f k))) ((s ++ (List.range' t.toNat (sz c - t.toNat)).map fun k => fb (f k), ls, ()), decide (a.length = 0)) (([], [], ()), false)))
    (fun n s t h1 h2 hI ih => ?_) (fun n s _ => ?_) 1001 [] (by omega) (by simp)).trans rfl
   ·obtain ⟨k, rfl⟩ : ∃ j : Nat, t = j := ⟨t.toNat, by omega⟩
    have hk : k < sz c := by omega
    have hb : decide (0 ≤ (k : Int) ∧ (k : Int) < (sz c : Int)) = true := decide_eq_true (by omega)
    have e96 : B32c48 [0, 1, 2, 3] ((arr f).getD k 0) = some (fb (f k), (arr f).getD k 0) := by
     have h3 := i3 k
     rw [arr_get f (by omega), B32c48, if_pos ⟨by simp, by simp, by omega, by omega⟩, Int.toNat_natCast]; rfl
    have ih' := fun s' h' => ih s' h'
    simp only [show ((k : Int) + 1).toNat = k + 1 by omega] at ih'
    simp only [l26b, decide_eq_true h2, hb, cond_true, chk_true, Int.toNat_natCast, Nat.sub_zero, Nat.zero_add]
    rw [show ([arr f] : List (List Int)).getD 0 [0, 0, 0, 0, 0, 0, 0, 0] = arr f from rfl, e96, Option.bind_some, show sz c - k = (sz c - (k + 1)) + 1 by omega, List.range'_succ, List.all_cons, List.map_cons]
    cases e : decide (fb (f k) < 0) with
    | true =>
     have := of_decide_eq_true e
     rw [cond_true, decide_eq_false (show ¬ 0 ≤ fb (f k) by omega)]; rfl
    | false =>
     have := of_decide_eq_false e
     rw [cond_false, chk_of (small_of (by omega) (by decide)), decide_eq_true (show 0 ≤ fb (f k) by omega), Bool.true_and, w64_small (by omega), ih' _ (by simp; omega), List.append_assoc]; rfl
   ·simp only [l26b, Int.toNat_natCast, Nat.sub_zero, decide_eq_false (Int.lt_irrefl _), cond_false, lenEq0, Int.toNat_natCast, Nat.sub_self, List.range'_zero, List.all_nil, cond_true, List.map_nil, List.append_nil]
 ·cases h⟩
def tri (e : List Int) : List (List Int) := [[e.getD 0 0, e.getD 1 0], [e.getD 0 0, e.getD 2 0], [e.getD 1 0, e.getD 2 0]]
def prs (N : Nat) : List (List (List Int)) := (co N 2).flatMap fun a => (co N 2).map fun b => [a, b]
def trs (N : Nat) : List (List (List Int)) := ((co N 3).filter fun e => decide (3 ≤ e.length)).map tri
def cands (N : Nat) : List (List (List Int)) := prs N ++ trs N
def dbO (c : Cd) (l : List (List (List Int))) (k : Db × Int) : Db × Int := match l.find? fun ls => (dbF c ls).2 with
 | some ls => ((dbF c ls).1, 0)
 | none => k
def dbV (c : Cd) : Db × Int := cond (decide (cdE c = 0)) (dbO c (cands c.2.1.length) (([], [], ()), 14)) (([], [], ()), cdE c)
theorem dbO_cons (c : Cd) (x : List (List Int)) (r : List (List (List Int))) (k : Db × Int) : dbO c (x :: r) k = cond (dbF c x).2 ((dbF c x).1, 0) (dbO c r k) := by
 unfold dbO
 rw [List.find?_cons]
 cases (dbF c x).2 <;> rfl
theorem dbO_app (c : Cd) (k : Db × Int) : ∀ (a b : List (List (List Int))), dbO c (a ++ b) k = dbO c a (dbO c b k)
 | [], b => rfl
 | x :: r, b => by rw [List.cons_append, dbO_cons, dbO_cons, dbO_app c k r b]
def B9 (c : Cd) : Option (Db × Int) := if smB c = true then some (dbV c) else none
theorem okS_co {c : Cd} {k : Nat} {x : List Int} (hn : c.2.1.length ≤ 10) (h : isCo c.2.1.length k x) : okS c x = true := by
 have hl := isCo_len h
 have h0 : 0 < x.length := by
  have := h.1
  cases x with
  | nil => exact absurd rfl this
  | cons _ _ => simp
 simp only [okS, okCo, Bool.and_eq_true, decide_eq_true_eq, List.all_eq_true]
 exact ⟨⟨h0, fun i hi => h.2.2.2 i hi⟩, by omega⟩
theorem tri_ok {c : Cd} {x : List Int} (h : isCo c.2.1.length 3 x) (h3 : 3 ≤ x.length) : (tri x).all (okS c) = true := by
 have hm : ∀ i, i < 3 → 0 ≤ x.getD i 0 ∧ x.getD i 0 < (c.2.1.length : Int) := fun i hi => h.2.2.2 _ (getD_mem (by omega))
 have h0 := hm 0 (by decide)
 have h1 := hm 1 (by decide)
 have h2 := hm 2 (by decide)
 simp only [tri, List.all_cons, List.all_nil, okS, okCo, Bool.and_true, Bool.and_eq_true, decide_eq_true_eq, List.length_cons, List.length_nil]
 exact ⟨⟨⟨by omega, h0, h1⟩, by omega⟩, ⟨⟨by omega, h0, h2⟩, by omega⟩, ⟨by omega, h1, h2⟩, by omega⟩
theorem KB9 : FnOk Tryd.prog 9 (F9 B9) := ok9 B22 B25 B26 B27 KB22 KB25 KB26 KB27 B9 fun c r h => ⟨0, by
 simp only [B9] at h
 split at h
 ·rename_i hs
  obtain ⟨h1, h2⟩ := smB_at hs
  rw [← h, m9, B22, if_pos hs, Option.bind_some, bneDec, dbV]
  cases e : decide (cdE c = 0) with
  | false => rfl
  | true =>
   have h0 := of_decide_eq_true e
   have hn := (cdE_ok h0).2.1
   simp only [Bool.not_true, cond_false, cond_true, B25, Option.bind_some]
   rw [chk_dec (by omega), gr_co]
   have e78 : ∀ ls, 0 < ls.length → ls.length ≤ 1000 → ls.all (okS c) = true → B26 c ls = some (dbF c ls) := fun ls a b d => if_pos ⟨h0, a, b, d⟩
   have kB : ∀ (l : List (List Int)) (r3 : Int × Cd), (∀ x ∈ l, isCo c.2.1.length 3 x) → l9b B22 B25 B26 B27 0 c r3 l = some (dbO c ((l.filter fun e => decide (3 ≤ e.length)).map tri) (([], [], ()), 14)) := by
    intro l r3
    induction l with
    | nil => intro _; rfl
    | cons x r ih =>
     intro hl
     have hx := hl x (by simp)
     rw [l9b, ih fun y hy => hl y (by simp [hy]), List.filter_cons]
     rw [show decide ((x.length : Int) < 3) = !decide (3 ≤ x.length) by rw [← decide_not]; exact decide_eq_decide.2 (by omega)]
     cases e3 : decide (3 ≤ x.length) with
     | false => rfl
     | true =>
      have h3 := of_decide_eq_true e3
      rw [Bool.not_true, cond_false, if_pos rfl, chk_dec (by omega), chk_dec (by omega), chk_dec (by omega), chk_dec (by omega), chk_dec (by omega), chk_dec (by omega), List.map_cons, dbO_cons]
      have e := e78 (tri x) (by simp [tri]) (by simp [tri]) (tri_ok hx h3)
      rw [show B26 c [[x.getD 0 0, x.getD 1 0], [x.getD 0 0, x.getD 2 0], [x.getD 1 0, x.getD 2 0]] = some (dbF c (tri x)) from e, Option.bind_some]
      cases (dbF c (tri x)).2 <;> rfl
   have kC : ∀ (l : List (List Int)) (a : List Int) (r7 : Int × Cd) (rec : Option (Db × Int)) (k : Db × Int), rec = some k → isCo c.2.1.length 2 a → (∀ x ∈ l, isCo c.2.1.length 2 x) → l9c B22 B25 B26 B27 0 c a r7 rec l = some (dbO c (l.map fun b => [a, b]) k) := by
    intro l a r7 rec k hrec ha
    induction l with
    | nil => intro _; exact hrec
    | cons x r ih =>
     intro hl
     have hx := hl x (by simp)
     have sa := okS_co hn.2 ha
     have sx := okS_co hn.2 hx
     obtain ⟨a1, a2, a3⟩ := okS_at sa
     obtain ⟨x1, x2, x3⟩ := okS_at sx
     rw [l9c, ih fun y hy => hl y (by simp [hy]), chk_of (by rw [Bool.and_true]; exact decide_eq_true a1)]
     simp only [B27, if_pos (show a.length ≤ 1000 by omega), if_pos (show x.length ≤ 1000 by omega), Option.bind_some]
     rw [chk_of (by rw [Bool.and_true]; exact decide_eq_true x1), e78 [a, x] (by simp) (by simp) (by simp [sa, sx]), Option.bind_some, List.map_cons, dbO_cons]
     cases (dbF c [a, x]).2 <;> rfl
   have kA : ∀ (l : List (List Int)) (r2 : Int × Cd), (∀ x ∈ l, isCo c.2.1.length 2 x) → l9a B22 B25 B26 B27 0 c r2 l = some (dbO c (l.flatMap fun a => (co c.2.1.length 2).map fun b => [a, b]) (dbO c (trs c.2.1.length) (([], [], ()), 14))) := by
    intro l r2
    induction l with
    | nil =>
     intro _
     simp only [l9a, B25, Option.bind_some]
     rw [chk_dec (by omega), gr_co]
     exact kB _ _ fun x hx => co_mem.1 hx
    | cons x r ih =>
     intro hl
     simp only [l9a, B25, Option.bind_some]
     rw [chk_dec (by omega), gr_co, List.flatMap_cons, dbO_app]
     exact kC _ x _ _ _ (ih fun y hy => hl y (by simp [hy])) (hl x (by simp)) fun y hy => co_mem.1 hy
   rw [cands, dbO_app]
   exact kA _ _ fun x hx => co_mem.1 hx
 ·cases h⟩
open Go.RowKit

def cm (ls : List (List Int)) : Bool := (ls.getD 0 []).any fun x => ls.all fun l => decide (x ∈ l)
def hsM (c : Cd) (l : List Int) (k : Nat) (m : Int) : Bool := l.any fun i => decide ((c.2.1.getD i.toNat []).getD k 0 = m)
def plK (c : Cd) (ls : List (List Int)) (k : Nat) : Bool := (List.range' 0 c.1.toNat).any fun (m : Nat) => ls.all fun l => hsM c l k (m : Int)
def pl (c : Cd) (ls : List (List Int)) : Bool := (List.range' 0 (sz c)).all fun k => plK c ls k
theorem inA_eq : ∀ (r : List (List Int)) (a : List Int), inA r a = a.filter fun x => r.all fun l => decide (x ∈ l)
 | [], a => (List.filter_eq_self.2 fun _ _ => rfl).symm
 | l :: r, a => by
  rw [inA, inA_eq r, fil, List.filter_filter]
  congr 1
  funext x
  rw [List.all_cons, Bool.and_comm]
theorem anA_bit (c : Cd) (k j : Nat) : ∀ (r : List (List Int)) (f : Nat → Nat), (anA c r f k).testBit j = ((f k).testBit j && r.all fun l => (mkN c l k).testBit j)
 | [], f => by simp [anA]
 | l :: r, f => by rw [anA, anA_bit c k j r, Nat.testBit_and, List.all_cons, Bool.and_assoc]
theorem fb_at {n : Nat} (h : 0 ≤ fb n) : ∃ m : Nat, m < 4 ∧ fb n = (m : Int) ∧ n.testBit m = true := by
 rcases fx_cases (fun m : Int => n.testBit m.toNat) 0 [0, 1, 2, 3] 0 (by omega) with ⟨h1, _⟩ | ⟨i, h1, h2, h3, _⟩
 ·unfold fb at h; omega
 ·have hi : i < 4 := h1
  refine ⟨i, hi, by unfold fb; omega, ?_⟩
  match i, hi, h3 with
  | 0, _, h3 => exact h3
  | 1, _, h3 => exact h3
  | 2, _, h3 => exact h3
  | 3, _, h3 => exact h3
theorem fb_of {n m : Nat} (h : m < 4) (hb : n.testBit m = true) : 0 ≤ fb n := by
 have := fx_ge (fun m : Int => n.testBit m.toNat) [0, 1, 2, 3] 0 (by omega)
 have h2 : ([0, 1, 2, 3] : List Int).any (fun m : Int => n.testBit m.toNat) = true := by
  rw [List.any_eq_true]
  refine ⟨(m : Int), ?_, by rw [Int.toNat_natCast]; exact hb⟩
  match m, h with
  | 0, _ => simp
  | 1, _ => simp
  | 2, _ => simp
  | 3, _ => simp
 rw [h2, decide_eq_true_eq] at this
 exact this
theorem an_bit {c : Cd} {ls : List (List Int)} {k j : Nat} (hc : cdE c = 0) (h0 : 0 < ls.length) (hok : ∀ l ∈ ls, okS c l = true) (hk : k < sz c) :
  (anA c (ls.drop 1) (mkN c (ls.getD 0 [])) k).testBit j = ls.all fun l => hsM c l k (j : Int) := by
 obtain ⟨_, _, _, hlen, hb⟩ := cdE_ok hc
 have one : ∀ l, okS c l = true → (mkN c l k).testBit j = hsM c l k (j : Int) := fun l h =>
  mkN_bit (fun w hw => by rw [hlen w hw]; exact hk) (fun w hw m hm => (hb w hw m hm).1) (okCo_at (okS_at h).2.1)
 match ls, h0, hok with
 | l :: r, _, hok =>
  rw [anA_bit]
  show ((mkN c l k).testBit j && r.all fun l => (mkN c l k).testBit j) = _
  rw [List.all_cons, one l (hok l (by simp))]
  congr 1
  rw [Bool.eq_iff_iff, List.all_eq_true, List.all_eq_true]
  exact ⟨fun h x hx => by rw [← one x (hok x (by simp [hx]))]; exact h x hx, fun h x hx => by rw [one x (hok x (by simp [hx]))]; exact h x hx⟩
theorem hsM_lt {c : Cd} {l : List Int} {k : Nat} {m : Int} (hc : cdE c = 0) (hl : okCo c l = true) (hk : k < sz c) (h : hsM c l k m = true) : 0 ≤ m ∧ m < c.1 := by
 obtain ⟨_, _, _, hlen, hb⟩ := cdE_ok hc
 obtain ⟨i, hi, he⟩ := List.any_eq_true.1 h
 have hir := okCo_at hl i hi
 have hw := getD_mem (l := c.2.1) (d := []) (show i.toNat < c.2.1.length by omega)
 rw [← of_decide_eq_true he]
 exact hb _ hw _ (getD_mem (by rw [hlen _ hw]; exact hk))
theorem fb_pl {c : Cd} {ls : List (List Int)} {k : Nat} (hc : cdE c = 0) (h0 : 0 < ls.length) (hok : ∀ l ∈ ls, okS c l = true) (hk : k < sz c) :
  decide (0 ≤ fb (anA c (ls.drop 1) (mkN c (ls.getD 0 [])) k)) = plK c ls k := by
 have hm := (cdE_ok hc).1
 rw [Bool.eq_iff_iff, decide_eq_true_eq, plK, List.any_eq_true]
 constructor
 ·intro h
  obtain ⟨m, h1, h2, h3⟩ := fb_at h
  rw [an_bit hc h0 hok hk] at h3
  have := hsM_lt hc (okS_at (hok _ (getD_mem (d := []) h0))).2.1 hk (List.all_eq_true.1 h3 _ (getD_mem (d := []) h0))
  exact ⟨m, by rw [List.mem_range'_1]; omega, h3⟩
 ·rintro ⟨m, hmr, h⟩
  rw [List.mem_range'_1] at hmr
  exact fb_of (m := m) (by omega) (by rw [an_bit hc h0 hok hk]; exact h)
theorem dbF_snd {c : Cd} {ls : List (List Int)} (hc : cdE c = 0) (h0 : 0 < ls.length) (hok : ∀ l ∈ ls, okS c l = true) : (dbF c ls).2 = (pl c ls && !cm ls) := by
 have e1 : ((List.range' 0 (sz c)).all fun k => decide (0 ≤ fb (anA c (ls.drop 1) (mkN c (ls.getD 0 [])) k))) = pl c ls := by
  rw [Bool.eq_iff_iff, pl, List.all_eq_true, List.all_eq_true]
  have hx : ∀ k ∈ List.range' 0 (sz c), k < sz c := fun k hk => by rw [List.mem_range'_1] at hk; omega
  exact ⟨fun h k hk => by rw [← fb_pl hc h0 hok (hx k hk)]; exact h k hk, fun h k hk => by rw [fb_pl hc h0 hok (hx k hk)]; exact h k hk⟩
 rw [dbF, fin78, e1]
 have e2 : decide ((inA (ls.drop 1) (ls.getD 0 [])).length = 0) = !cm ls := by
  match ls, h0 with
  | l :: r, _ =>
   rw [inA_eq]
   show decide ((l.filter fun x => r.all fun l => decide (x ∈ l)).length = 0) = !(l.any fun x => (l :: r).all fun l => decide (x ∈ l))
   rw [Bool.eq_iff_iff, decide_eq_true_eq, Bool.not_eq_true', List.any_eq_false, List.length_eq_zero_iff, List.filter_eq_nil_iff]
   exact ⟨fun h x hx q => h x hx (by rw [List.all_cons, Bool.and_eq_true] at q; exact q.2), fun h x hx q => h x hx (by rw [List.all_cons, q, decide_eq_true hx]; rfl)⟩
 rw [e2]
 cases pl c ls <;> rfl
theorem dbO_snd (c : Cd) (d : Db) (n : Int) : ∀ (l : List (List (List Int))), (dbO c l (d, n)).2 = cond (l.any fun ls => (dbF c ls).2) 0 n
 | [] => rfl
 | x :: r => by
  rw [dbO_cons, List.any_cons]
  cases (dbF c x).2 with
  | true => rfl
  | false => exact dbO_snd c d n r
end Go.Proofs.YtoflclmkfajomaaDoor
