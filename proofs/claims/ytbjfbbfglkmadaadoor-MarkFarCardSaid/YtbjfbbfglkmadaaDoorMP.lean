/-
 Loops of mirrors, told as recursions over lists. Bits; codes and their errors. Distances, coalitions, copies: what the program computes.
-/
import Derived.Test.YtbjfbbfglkmadaaDoorYD
import Derived.Test.YtbjfbbfglkmadaaDoorWks
namespace Go.Proofs.YtbjfbbfglkmadaaDoor
open Go.RowKit
set_option linter.unusedVariables false

theorem w64_eq {n : Int} (h0 : -9223372036854775808 ≤ n) (h1 : n < 9223372036854775808) : w64 n = n := by
 simp [w64, IntKind.wrap, IntKind.bits, IntKind.signed]; omega
theorem w64_succ {t : Nat} (h : t < 4611686018427387904) : w64 ((t : Int) + 1) = ((t + 1 : Nat) : Int) := by
 rw [w64_eq (by omega) (by omega)]; omega
theorem chk_true {α : Type} (x : Option α) : chk true x = x := rfl
theorem chk_of {α : Type} {b : Bool} {x : Option α} (h : b = true) : chk b x = x := by rw [h]; rfl
theorem chk_dec {α : Type} {p : Prop} [Decidable p] {x : Option α} (h : p) : chk (decide p) x = x := by rw [decide_eq_true h]; rfl
theorem small_of {n eb : Nat} (h : n * eb ≤ 140737488355328) (hb : 0 < eb) : small n eb = true := by
 have : n ≤ n * eb := Nat.le_mul_of_pos_right n hb
 simp [small, h]; omega
theorem getD_drop {α : Type} {xs rest : List α} {t : Nat} {x d : α} (h : xs.drop t = x :: rest) : t < xs.length ∧ xs.getD t d = x ∧ xs.drop (t + 1) = rest := by
 have hl : t < xs.length := by
  have := congrArg List.length h
  simp only [List.length_drop, List.length_cons] at this; omega
 refine ⟨hl, ?_, ?_⟩
 ·have h2 := congrArg List.head? h
  rw [List.head?_drop] at h2
  rw [List.getD_eq_getElem?_getD, h2]; rfl
 ·have h2 := congrArg List.tail h
  rw [List.tail_drop] at h2; exact h2
theorem rangeIx {α σ ρ : Type} (xs : List α) (d : α) (L : Nat → σ → Int → Option ρ) (I : Nat → List α → σ → Prop) (S : Nat → List α → σ → Option ρ)
  (hs : ∀ (n : Nat) (s : σ) (t : Nat) (x : α) (rest : List α), t < xs.length → xs.getD t d = x → I t (x :: rest) s →
   (∀ s', I (t + 1) rest s' → L n s' ((t + 1 : Nat) : Int) = S (t + 1) rest s') → L (n + 1) s (t : Int) = S t (x :: rest) s)
  (he : ∀ (n : Nat) (s : σ), I xs.length [] s → L (n + 1) s (xs.length : Int) = S xs.length [] s)
  (n : Nat) (s : σ) (hn : xs.length < n) (hI : I 0 xs s) : L n s 0 = S 0 xs s := by
 have main : ∀ (k t n : Nat) (s : σ), t + k = xs.length → k < n → I t (xs.drop t) s → L n s (t : Int) = S t (xs.drop t) s := by
  intro k
  induction k with
  | zero =>
   intro t n s h1 h2 h3
   obtain ⟨m, rfl⟩ : ∃ m, n = m + 1 := ⟨n - 1, by omega⟩
   have : t = xs.length := by omega
   subst this
   rw [List.drop_length] at h3 ⊢
   exact he m s h3
  | succ k ih =>
   intro t n s h1 h2 h3
   obtain ⟨m, rfl⟩ : ∃ m, n = m + 1 := ⟨n - 1, by omega⟩
   cases hd : xs.drop t with
   | nil => have := congrArg List.length hd; simp only [List.length_drop, List.length_nil] at this; omega
   | cons x rest =>
    obtain ⟨a, b, c⟩ := getD_drop (d := d) hd
    rw [hd] at h3
    refine hs m s t x rest a b h3 fun s' hI' => ?_
    rw [← c] at hI' ⊢
    exact ih (t + 1) m s' (by omega) (by omega) hI'
 have := main xs.length 0 n s (by omega) hn (by simpa using hI)
 simpa using this
theorem rangeInv {α σ ρ : Type} (xs : List α) (d : α) (L : Nat → σ → Int → Option ρ) (I : List α → σ → Prop) (S : List α → σ → Option ρ)
  (hs : ∀ (n : Nat) (s : σ) (t : Nat) (x : α) (rest : List α), t < xs.length → xs.getD t d = x → I (x :: rest) s →
   (∀ s', I rest s' → L n s' ((t + 1 : Nat) : Int) = S rest s') → L (n + 1) s (t : Int) = S (x :: rest) s)
  (he : ∀ (n : Nat) (s : σ), I [] s → L (n + 1) s (xs.length : Int) = S [] s)
  (n : Nat) (s : σ) (hn : xs.length < n) (hI : I xs s) : L n s 0 = S xs s :=
 rangeIx xs d L (fun _ => I) (fun _ => S) (fun n s t x rest h1 h2 h3 h => hs n s t x rest h1 h2 h3 fun s' => h s') (fun n s h => he n s h) n s hn hI
theorem countUp {σ ρ : Type} (lo hi : Int) (hle : lo ≤ hi) (L : Nat → σ → Int → Option ρ) (I : Int → σ → Prop) (S : Int → σ → Option ρ)
  (hs : ∀ (n : Nat) (s : σ) (t : Int), lo ≤ t → t < hi → I t s → (∀ s', I (t + 1) s' → L n s' (t + 1) = S (t + 1) s') → L (n + 1) s t = S t s)
  (he : ∀ (n : Nat) (s : σ), I hi s → L (n + 1) s hi = S hi s)
  (n : Nat) (s : σ) (hn : (hi - lo).toNat < n) (hI : I lo s) : L n s lo = S lo s := by
 have main : ∀ (k n : Nat) (t : Int) (s : σ), lo ≤ t → t + k = hi → k < n → I t s → L n s t = S t s := by
  intro k
  induction k with
  | zero =>
   intro n t s h0 h1 h2 h3
   obtain ⟨m, rfl⟩ : ∃ m, n = m + 1 := ⟨n - 1, by omega⟩
   have : t = hi := by omega
   subst this; exact he m s h3
  | succ k ih =>
   intro n t s h0 h1 h2 h3
   obtain ⟨m, rfl⟩ : ∃ m, n = m + 1 := ⟨n - 1, by omega⟩
   exact hs m s t h0 (by omega) h3 fun s' h' => ih m (t + 1) s' (by omega) (by omega) (by omega) h'
 exact main (hi - lo).toNat n lo s (by omega) (by omega) hn hI
theorem rangeP {α σ ρ : Type} (xs : List α) (d : α) (L : Nat → σ → Int → Option ρ) (I : Nat → List α → σ → Prop) (Q : Option ρ → Prop)
  (hs : ∀ (n : Nat) (s : σ) (t : Nat) (x : α) (rest : List α), t < xs.length → xs.getD t d = x → xs.drop (t + 1) = rest → I t (x :: rest) s →
   (∀ s', I (t + 1) rest s' → Q (L n s' ((t + 1 : Nat) : Int))) → Q (L (n + 1) s (t : Int)))
  (he : ∀ (n : Nat) (s : σ), I xs.length [] s → Q (L (n + 1) s (xs.length : Int)))
  (n : Nat) (s : σ) (hn : xs.length < n) (hI : I 0 xs s) : Q (L n s 0) := by
 have main : ∀ (k t n : Nat) (s : σ), t + k = xs.length → k < n → I t (xs.drop t) s → Q (L n s (t : Int)) := by
  intro k
  induction k with
  | zero =>
   intro t n s h1 h2 h3
   obtain ⟨m, rfl⟩ : ∃ m, n = m + 1 := ⟨n - 1, by omega⟩
   have : t = xs.length := by omega
   subst this
   rw [List.drop_length] at h3
   exact he m s h3
  | succ k ih =>
   intro t n s h1 h2 h3
   obtain ⟨m, rfl⟩ : ∃ m, n = m + 1 := ⟨n - 1, by omega⟩
   cases hd : xs.drop t with
   | nil => have := congrArg List.length hd; simp only [List.length_drop, List.length_nil] at this; omega
   | cons x rest =>
    obtain ⟨a, b, c⟩ := getD_drop (d := d) hd
    rw [hd] at h3
    refine hs m s t x rest a b c h3 fun s' hI' => ?_
    rw [← c] at hI'
    exact ih (t + 1) m s' (by omega) (by omega) hI'
 have := main xs.length 0 n s (by omega) hn (by simpa using hI)
 simpa using this
theorem countP' {σ ρ : Type} (lo hi : Int) (hle : lo ≤ hi) (L : Nat → σ → Int → Option ρ) (I : Int → σ → Prop) (Q : Option ρ → Prop)
  (hs : ∀ (n : Nat) (s : σ) (t : Int), lo ≤ t → t < hi → I t s → (∀ s', I (t + 1) s' → Q (L n s' (t + 1))) → Q (L (n + 1) s t))
  (he : ∀ (n : Nat) (s : σ), I hi s → Q (L (n + 1) s hi))
  (n : Nat) (s : σ) (hn : (hi - lo).toNat < n) (hI : I lo s) : Q (L n s lo) := by
 have main : ∀ (k n : Nat) (t : Int) (s : σ), lo ≤ t → t + k = hi → k < n → I t s → Q (L n s t) := by
  intro k
  induction k with
  | zero =>
   intro n t s h0 h1 h2 h3
   obtain ⟨m, rfl⟩ : ∃ m, n = m + 1 := ⟨n - 1, by omega⟩
   have : t = hi := by omega
   subst this; exact he m s h3
  | succ k ih =>
   intro n t s h0 h1 h2 h3
   obtain ⟨m, rfl⟩ : ∃ m, n = m + 1 := ⟨n - 1, by omega⟩
   exact hs m s t h0 (by omega) h3 fun s' h' => ih m (t + 1) s' (by omega) (by omega) (by omega) h'
 exact main (hi - lo).toNat n lo s (by omega) (by omega) hn hI
theorem ixA {t n : Nat} (h : t < n) : decide ((t : Int) < (n : Int)) = true := decide_eq_true (by omega)
theorem ixB {t n : Nat} (h : t < n) : decide (0 ≤ (t : Int) ∧ (t : Int) < (n : Int)) = true := decide_eq_true (by omega)
theorem ixE (n : Nat) : decide ((n : Int) < (n : Int)) = false := decide_eq_false (by omega)
theorem ixW {t n : Nat} (h : t < n) (hn : n ≤ 4611686018427387904) : w64 ((t : Int) + 1) = ((t + 1 : Nat) : Int) := w64_succ (by omega)
theorem w64_small {x : Int} (h : -4611686018427387904 ≤ x ∧ x ≤ 4611686018427387904) : w64 x = x := w64_eq (by omega) (by omega)
abbrev dC : Cd := (0, [], ())
theorem wrap_u8 {n : Nat} (h : n < 256) : IntKind.wrap .u8 (n : Int) = n := by simp [IntKind.wrap, IntKind.bits, IntKind.signed]; omega
theorem or_bits (k a b : Nat) (ha : a < 2 ^ k) (hb : b < 2 ^ k) : ((BitVec.ofInt k (a : Int)) ||| (BitVec.ofInt k (b : Int))).toNat = a ||| b := by
 rw [BitVec.ofInt_natCast, BitVec.ofInt_natCast, BitVec.toNat_or, BitVec.toNat_ofNat, BitVec.toNat_ofNat, Nat.mod_eq_of_lt ha, Nat.mod_eq_of_lt hb]
theorem and_bits (k a b : Nat) (ha : a < 2 ^ k) (hb : b < 2 ^ k) : ((BitVec.ofInt k (a : Int)) &&& (BitVec.ofInt k (b : Int))).toNat = a &&& b := by
 rw [BitVec.ofInt_natCast, BitVec.ofInt_natCast, BitVec.toNat_and, BitVec.toNat_ofNat, BitVec.toNat_ofNat, Nat.mod_eq_of_lt ha, Nat.mod_eq_of_lt hb]
theorem bOr_u8 {a b : Nat} (ha : a < 256) (hb : b < 256) : bOr .u8 (a : Int) (b : Int) = ((a ||| b : Nat) : Int) := by
 have h : a ||| b < 256 := Nat.or_lt_two_pow (n := 8) ha hb
 have e := or_bits 8 a b ha hb
 show IntKind.wrap .u8 ((((BitVec.ofInt 8 (a : Int)) ||| (BitVec.ofInt 8 (b : Int))).toNat : Nat) : Int) = _
 rw [e]
 exact wrap_u8 h
theorem bAnd_u8 {a b : Nat} (ha : a < 256) (hb : b < 256) : bAnd .u8 (a : Int) (b : Int) = ((a &&& b : Nat) : Int) := by
 have h : a &&& b < 256 := Nat.and_lt_two_pow (n := 8) a hb
 have e := and_bits 8 a b ha hb
 show IntKind.wrap .u8 ((((BitVec.ofInt 8 (a : Int)) &&& (BitVec.ofInt 8 (b : Int))).toNat : Nat) : Int) = _
 rw [e]
 exact wrap_u8 h
theorem pow_cast (c : Nat) : ((2 : Int) ^ c) = ((2 ^ c : Nat) : Int) := by simp
theorem fdiv_pow (s c : Nat) : Int.fdiv (s : Int) ((2 : Int) ^ c) = ((s / 2 ^ c : Nat) : Int) := by
 rw [pow_cast, Int.fdiv_eq_ediv_of_nonneg _ (Int.natCast_nonneg _), Int.natCast_ediv]
theorem bit_of (s c : Nat) : ((((s / 2 ^ c &&& 1 : Nat)) : Int) == 1) = s.testBit c := by
 rw [Nat.and_one_is_mod, Nat.testBit_eq_decide_div_mod_eq]
 by_cases h : s / 2 ^ c % 2 = 1
 ·simp [h]
 ·have : s / 2 ^ c % 2 = 0 := by omega
  simp [this]
theorem bit_u8 {s c : Nat} (hs : s < 256) (hc : c ≤ 8) : ((bAnd .u8 (Int.fdiv (s : Int) (2 ^ min (Int.toNat (c : Int)) 8)) 1) == 1) = s.testBit c := by
 rw [Int.toNat_natCast, Nat.min_eq_left hc, fdiv_pow]
 have h := bAnd_u8 (a := s / 2 ^ c) (b := 1) (Nat.lt_of_le_of_lt (Nat.div_le_self _ _) hs) (by decide)
 rw [show ((1 : Nat) : Int) = 1 from rfl] at h
 rw [h]; exact bit_of s c
theorem one_u8 {c : Nat} (hc : c < 8) : IntKind.wrap .u8 (1 * 2 ^ min (Int.toNat (c : Int)) 8) = ((2 ^ c : Nat) : Int) := by
 rw [Int.toNat_natCast, Nat.min_eq_left (by omega), Int.one_mul, pow_cast]
 exact wrap_u8 (Nat.pow_lt_pow_right (by decide) hc : 2 ^ c < 2 ^ 8)
def B62 (lo n hi : Int) : Option Bool := some (decide (lo ≤ n ∧ n ≤ hi))
theorem KB62 : FnOk Tryd.prog 62 (F62 B62) := ok62 B62 fun lo n hi r h => ⟨0, by
 rw [← h]; simp only [m62, B62]
 by_cases a : lo ≤ n <;> simp [a]⟩
def fx {α : Type} (p : α → Bool) : Int → List α → Int
 | _, [] => -1
 | t, x :: xs => cond (p x) t (fx p (t + 1) xs)
theorem fx_ge {α : Type} (p : α → Bool) : ∀ (xs : List α) (t : Int), 0 ≤ t → decide (fx p t xs ≥ 0) = xs.any p
 | [], t, h => rfl
 | x :: xs, t, h => by
  rw [fx, List.any_cons]
  cases e : p x with
  | true => simp [h]
  | false => rw [cond_false, fx_ge p xs (t + 1) (by omega)]; simp
def sz (c : Cd) : Nat := (c.2.1.getD 0 []).length
def outM (n m : Int) : Bool := !decide (0 ≤ m ∧ m ≤ w64 (n - 1))
def B52 (c : Cd) : Option Int := if 0 < c.2.1.length then some (sz c : Int) else none
theorem KB52 : FnOk Tryd.prog 52 (F52 B52) := ok52 B52 fun c r h => ⟨0, by
 simp only [B52] at h
 split at h
 ·rename_i hl
  rw [← h, m52, chk_dec (by omega)]; rfl
 ·cases h⟩
def B83c (m : Int) (o : List Cd) : Option (Bool × List Cd) := some (outM (o.getD 0 dC).1 m, o)
theorem KB83c : FnOk Tryd.prog 83 (F83c B83c) := ok83c B62 KB62 B83c fun c o r h => ⟨0, by
 rw [← h]; simp only [m83c, B83c, B62, Option.bind_some, outM]⟩
def B96c83 (s : List Int) (o : List Cd) : Option (Int × List Cd) := if s.length ≤ 1000 then some (fx (outM (o.getD 0 dC).1) 0 s, o) else none
theorem KB96c83 : FnOk Tryd.prog 96 (F96c83 B96c83) := ok96c83 B83c KB83c B96c83 fun s o r h => ⟨1001, by
 simp only [B96c83] at h
 split at h
 ·rename_i hl
  rw [← h, m96c83]
  exact rangeIx s 0 (fun n (_ : Unit) t => l96c83a B83c 1001 s n t o) (fun _ _ _ => True) (fun t xs _ => some (fx (outM (o.getD 0 dC).1) t xs, o))
   (fun n _ t x rest ht hx _ ih => by
    simp only [l96c83a, ixA ht, ixB ht, cond_true, chk_true, Int.toNat_natCast, ixW ht (by omega), hx, ih () trivial, fx, B83c, Option.bind_some]
    cases outM (o.getD 0 dC).1 x <;> rfl)
   (fun n _ _ => by simp only [l96c83a, ixE, cond_false]; rfl) 1001 () (by omega) trivial
 ·cases h⟩
def B82c83 (s : List Int) (o : List Cd) : Option (Bool × List Cd) := if s.length ≤ 1000 then some (s.any (outM (o.getD 0 dC).1), o) else none
theorem KB82c83 : FnOk Tryd.prog 82 (F82c83 B82c83) := ok82c83 B96c83 KB96c83 B82c83 fun s o r h => ⟨0, by
 simp only [B82c83] at h
 split at h
 ·rename_i hl
  rw [← h, m82c83, B96c83, if_pos hl, Option.bind_some, fx_ge _ s 0 (by omega)]
 ·cases h⟩
def wE (c : Cd) (w : List Int) : Int := cond (decide (w.length = sz c)) (cond (w.any (outM c.1)) 4 0) 3
theorem lenNe (a b : Nat) : ((a : Int) != (b : Int)) = !decide (a = b) := by
 by_cases h : a = b
 ·subst h; simp
 ·have : (a : Int) ≠ b := by omega
  simp [h, this]
def B58 (c : Cd) (w : List Int) : Option Int := if 0 < c.2.1.length ∧ w.length ≤ 1000 then some (wE c w) else none
theorem KB58 : FnOk Tryd.prog 58 (F58 B58) := ok58 B52 B82c83 KB52 KB82c83 B58 fun c w r h => ⟨0, by
 simp only [B58] at h
 split at h
 ·rename_i hl
  rw [← h, m58, B52, if_pos hl.1, Option.bind_some, B82c83, if_pos hl.2, Option.bind_some, lenNe, wE]
  cases decide (w.length = sz c) with
  | false => rfl
  | true =>
   show (cond (w.any (outM c.1)) (some 4) (some 0)) = _
   cases w.any (outM c.1) <;> rfl
 ·cases h⟩
def B64c (w : List Int) (o : List Cd) : Option (Bool × List Cd) := if 0 < (o.getD 0 dC).2.1.length then some (!decide (w.length = sz (o.getD 0 dC)), o) else none
theorem KB64c : FnOk Tryd.prog 64 (F64c B64c) := ok64c B52 KB52 B64c fun w o r h => ⟨0, by
 simp only [B64c] at h
 split at h
 ·rename_i hl
  rw [← h, m64c, B52, if_pos hl, Option.bind_some, lenNe]
 ·cases h⟩
def B85c64 (s : List (List Int)) (o : List Cd) : Option (Int × List Cd) := if s.length ≤ 1000 ∧ 0 < (o.getD 0 dC).2.1.length then some (fx (fun w => !decide (w.length = sz (o.getD 0 dC))) 0 s, o) else none
theorem KB85c64 : FnOk Tryd.prog 85 (F85c64 B85c64) := ok85c64 B64c KB64c B85c64 fun s o r h => ⟨1001, by
 simp only [B85c64] at h
 split at h
 ·rename_i hl
  obtain ⟨hl, ho⟩ := hl
  rw [← h, m85c64]
  exact rangeIx s [] (fun n (_ : Unit) t => l85c64a B64c 1001 s n t o) (fun _ _ _ => True) (fun t xs _ => some (fx (fun w => !decide (w.length = sz (o.getD 0 dC))) t xs, o))
   (fun n _ t x rest ht hx _ ih => by
    simp only [l85c64a, ixA ht, ixB ht, cond_true, chk_true, Int.toNat_natCast, ixW ht (by omega), hx, ih () trivial, fx, B64c, if_pos ho, Option.bind_some]
    cases decide (x.length = sz (o.getD 0 dC)) <;> rfl)
   (fun n _ _ => by simp only [l85c64a, ixE, cond_false]; rfl) 1001 () (by omega) trivial
 ·cases h⟩
def B63c64 (s : List (List Int)) (o : List Cd) : Option (Bool × List Cd) := if s.length ≤ 1000 ∧ 0 < (o.getD 0 dC).2.1.length then some (s.any fun w => !decide (w.length = sz (o.getD 0 dC)), o) else none
theorem KB63c64 : FnOk Tryd.prog 63 (F63c64 B63c64) := ok63c64 B85c64 KB85c64 B63c64 fun s o r h => ⟨0, by
 simp only [B63c64] at h
 split at h
 ·rename_i hl
  rw [← h, m63c64, B85c64, if_pos hl, Option.bind_some, fx_ge _ s 0 (by omega)]
 ·cases h⟩
def cdE (c : Cd) : Int := cond (decide (2 ≤ c.1 ∧ c.1 ≤ 4)) (cond (decide (c.2.1.length = 0)) 1 (cond (decide (10 < c.2.1.length)) 2 (cond (decide (1 ≤ sz c ∧ sz c ≤ 8))
 (cond (c.2.1.any fun w => !decide (w.length = sz c)) 3 (cond (c.2.1.any fun w => w.any (outM c.1)) 4 0)) 3))) 4
def smB (c : Cd) : Bool := decide (c.2.1.length ≤ 1000) && c.2.1.all fun w => decide (w.length ≤ 1000)
theorem smB_at {c : Cd} (h : smB c = true) : c.2.1.length ≤ 1000 ∧ ∀ w ∈ c.2.1, w.length ≤ 1000 := by
 simpa [smB] using h
def B22 (c : Cd) : Option Int := if smB c = true then some (cdE c) else none
theorem lenEq0 (n : Nat) : ((n : Int) == 0) = decide (n = 0) := by
 by_cases h : n = 0 <;> simp [h]
theorem lenGt (n k : Nat) : decide ((n : Int) > (k : Int)) = decide (k < n) := by
 by_cases h : k < n
 ·rw [decide_eq_true h]; exact decide_eq_true (by omega)
 ·rw [decide_eq_false h]; exact decide_eq_false (by omega)
theorem KB22 : FnOk Tryd.prog 22 (F22 B22) := ok22 B52 B58 B62 B63c64 KB52 KB58 KB62 KB63c64 B22 fun c r h => ⟨1001, by
 simp only [B22] at h
 split at h
 ·rename_i hs
  obtain ⟨h1, h2⟩ := smB_at hs
  rw [← h, m22]
  simp only [B62, Option.bind_some, cdE, lenEq0]
  cases decide (2 ≤ c.1 ∧ c.1 ≤ 4) with
  | false => rfl
  | true =>
   simp only [Bool.not_true, cond_true, cond_false]
   cases e0 : decide (c.2.1.length = 0) with
   | true => rfl
   | false =>
    have h0 : 0 < c.2.1.length := by have := of_decide_eq_false e0; omega
    simp only [cond_false]
    rw [show decide ((c.2.1.length : Int) > 10) = decide (10 < c.2.1.length) from lenGt _ 10]
    cases decide (10 < c.2.1.length) with
    | true => rfl
    | false =>
     simp only [cond_false, B52, if_pos h0, Option.bind_some]
     rw [show decide ((1 : Int) ≤ (sz c : Int) ∧ (sz c : Int) ≤ 8) = decide (1 ≤ sz c ∧ sz c ≤ 8) from decide_eq_decide.2 (by omega)]
     cases decide (1 ≤ sz c ∧ sz c ≤ 8) with
     | false => rfl
     | true =>
      simp only [Bool.not_true, cond_false, cond_true, B63c64, List.getD_cons_zero, if_pos (show c.2.1.length ≤ 1000 ∧ 0 < c.2.1.length from ⟨h1, h0⟩), Option.bind_some]
      cases ea : c.2.1.any fun w => !decide (w.length = sz c) with
      | true => rfl
      | false =>
       simp only [cond_false]
       have hall : ∀ w ∈ c.2.1, w.length = sz c := fun w hw => by
        have := List.any_eq_false.1 ea w hw
        simpa using this
       refine (rangeInv c.2.1 [] (fun n (_ : Unit) t => l22a B52 B58 B62 B63c64 1001 (false, [c]) n t) (fun xs _ => ∀ w ∈ xs, w.length = sz c ∧ w.length ≤ 1000) (fun xs _ => some (cond (xs.any fun w => w.any (outM c.1)) 4 0)) (fun n _ t x rest ht hx hI ih => ?_)
        (fun n _ _ => by simp only [l22a, List.getD_cons_zero, ixE, cond_false]; rfl) 1001 () (by omega) (fun w hw => ⟨hall w hw, h2 w hw⟩))
       obtain ⟨x1, x2⟩ := hI x (by simp)
       simp only [l22a, List.getD_cons_zero, ixA ht, ixB ht, cond_true, chk_true, Int.toNat_natCast, ixW ht (by omega), hx, ih () (fun w hw => hI w (by simp [hw])), B58, if_pos (show 0 < c.2.1.length ∧ x.length ≤ 1000 from ⟨h0, x2⟩), Option.bind_some, wE, decide_eq_true x1, List.any_cons]
       cases x.any (outM c.1) <;> rfl
 ·cases h⟩
def apF (b : List Int) : Nat → List Int → Int → Int
 | _, [], n => n
 | t, x :: xs, n => apF b (t + 1) xs (cond (x != b.getD t 0) (n + 1) n)
theorem apF_le (b : List Int) : ∀ (xs : List Int) (t : Nat) (n : Int), n ≤ apF b t xs n ∧ apF b t xs n ≤ n + xs.length
 | [], t, n => by simp [apF]
 | x :: xs, t, n => by
  have ih := apF_le b xs (t + 1) (cond (x != b.getD t 0) (n + 1) n)
  simp only [apF, List.length_cons]
  cases e : (x != b.getD t 0) <;> rw [e] at ih <;> simp only [cond_true, cond_false] at ih ⊢ <;> omega
def ap (a b : List Int) : Int := apF b 0 a 0
def B53 (a b : List Int) : Option Int := if a.length ≤ 1000 ∧ a.length ≤ b.length then some (ap a b) else none
theorem KB53 : FnOk Tryd.prog 53 (F53 B53) := ok53 B53 fun a b r h => ⟨1001, by
 simp only [B53] at h
 split at h
 ·rename_i hl
  rw [← h, m53]
  exact rangeIx a 0 (fun n s t => l53a 1001 a b n s t) (fun t _ s => 0 ≤ s ∧ s ≤ t) (fun t xs s => some (apF b t xs s))
   (fun n s t x rest ht hx hI ih => by
    have e := ih (cond (x != b.getD t 0) (s + 1) s)
    simp only [l53a, ixA ht, ixB ht, ixB (show t < b.length by omega), cond_true, chk_true, Int.toNat_natCast, ixW ht (by omega), hx, apF]
    rw [bne_comm (a := b.getD t 0)]
    cases hb : (x != b.getD t 0) with
    | true => rw [hb] at e; rw [cond_true, w64_small (by omega)]; exact e (by simp only [cond_true]; omega)
    | false => rw [hb] at e; exact e (by simp only [cond_false]; omega))
   (fun n s hI => by simp only [l53a, ixE, cond_false]; rfl) 1001 0 (by omega) ⟨Int.le_refl _, Int.le_refl _⟩
 ·cases h⟩
def dsOf (a : List Int) (l : List (List Int)) : List Int := l.map (ap a)
def dsFrom (ws : List (List Int)) (t : Nat) (rest : List (List Int)) : List Int := (rest.zipIdx t).flatMap fun p => dsOf p.1 (ws.take p.2)
theorem dsFrom_cons (ws : List (List Int)) (t : Nat) (x : List Int) (r : List (List Int)) : dsFrom ws t (x :: r) = dsOf x (ws.take t) ++ dsFrom ws (t + 1) r := by
 simp [dsFrom, List.zipIdx_cons]
def minF (n : Int) (l : List Int) : Int := l.foldl imin n
theorem cdE_ok {c : Cd} (h : cdE c = 0) : (2 ≤ c.1 ∧ c.1 ≤ 4) ∧ (0 < c.2.1.length ∧ c.2.1.length ≤ 10) ∧ (1 ≤ sz c ∧ sz c ≤ 8) ∧ (∀ w ∈ c.2.1, w.length = sz c) ∧ ∀ w ∈ c.2.1, ∀ m ∈ w, 0 ≤ m ∧ m < c.1 := by
 unfold cdE at h
 cases e1 : decide (2 ≤ c.1 ∧ c.1 ≤ 4) with
 | false => rw [e1] at h; cases h
 | true =>
  rw [e1, cond_true] at h
  cases e2 : decide (c.2.1.length = 0) with
  | true => rw [e2] at h; cases h
  | false =>
   rw [e2, cond_false] at h
   cases e3 : decide (10 < c.2.1.length) with
   | true => rw [e3] at h; cases h
   | false =>
    rw [e3, cond_false] at h
    cases e4 : decide (1 ≤ sz c ∧ sz c ≤ 8) with
    | false => rw [e4] at h; cases h
    | true =>
     rw [e4, cond_true] at h
     cases e5 : c.2.1.any fun w => !decide (w.length = sz c) with
     | true => rw [e5] at h; cases h
     | false =>
      rw [e5, cond_false] at h
      cases e6 : c.2.1.any fun w => w.any (outM c.1) with
      | true => rw [e6] at h; cases h
      | false =>
       have a1 := of_decide_eq_true e1
       have a2 := of_decide_eq_false e2
       have a3 := of_decide_eq_false e3
       refine ⟨a1, ⟨by omega, by omega⟩, of_decide_eq_true e4, fun w hw => ?_, fun w hw m hm => ?_⟩
       ·simpa using List.any_eq_false.1 e5 w hw
       ·have := List.any_eq_false.1 e6 w hw
        simp only [Bool.not_eq_true] at this
        have h2 := List.any_eq_false.1 this m hm
        simp only [outM, Bool.not_eq_true, Bool.not_eq_false', dtq] at h2
        rw [w64_small (by omega)] at h2
        omega
def B16 (c : Cd) : Option (Int × Int) := if smB c = true then some (cond (decide (cdE c = 0)) (cond (decide (c.2.1.length = 1)) (0, 14) (minF (sz c) (dsFrom c.2.1 0 c.2.1), 0)) (0, cdE c)) else none
theorem bneDec (a b : Int) : (a != b) = !decide (a = b) := by
 by_cases h : a = b <;> simp [h]
theorem beqDec (a b : Int) : (a == b) = decide (a = b) := by
 by_cases h : a = b <;> simp [h]
theorem lenEq1 (n : Nat) : ((n : Int) == 1) = decide (n = 1) := by
 rw [beqDec]; exact decide_eq_decide.2 (by omega)
theorem KB16 : FnOk Tryd.prog 16 (F16 B16) := ok16 B22 B52 B53 KB22 KB52 KB53 B16 fun c r h => ⟨1001, by
 simp only [B16] at h
 split at h
 ·rename_i hs
  obtain ⟨h1, h2⟩ := smB_at hs
  rw [← h, m16, B22, if_pos hs, Option.bind_some, bneDec]
  cases e : decide (cdE c = 0) with
  | false => rfl
  | true =>
   obtain ⟨_, hn, hz, hw, _⟩ := cdE_ok (of_decide_eq_true e)
   simp only [Bool.not_true, cond_false, cond_true, lenEq1]
   cases decide (c.2.1.length = 1) with
   | true => rfl
   | false =>
    rw [cond_false, B52, if_pos hn.1, Option.bind_some]
    refine (rangeIx c.2.1 [] (fun n s t => l16a B22 B52 B53 1001 c n s t) (fun t rest _ => rest = c.2.1.drop t) (fun t xs s => some (minF s (dsFrom c.2.1 t xs), 0)) (fun n s t x rest ht hx hI ih => ?_)
     (fun n s hI => by simp only [l16a, ixE, cond_false]; rfl) 1001 (sz c : Int) (by omega) rfl).trans rfl
    have hxw : x ∈ c.2.1 := by rw [← hx, List.getD_eq_getElem?_getD, List.getElem?_eq_getElem ht]; exact List.getElem_mem _
    have htk : (c.2.1.take t).length = t := by simp; omega
    have hrest : rest = c.2.1.drop (t + 1) := by
     have := congrArg List.tail hI
     rwa [List.tail_cons, List.tail_drop] at this
    simp only [l16a, ixA ht, ixB ht, cond_true, chk_true, dsFrom_cons, minF, List.foldl_append]
    rw [chk_dec (by omega)]
    refine (rangeInv (c.2.1.take t) [] (fun n' s k => l16b B22 B52 B53 1001 c (t : Int) (fun y0 y1 => l16a B22 B52 B53 1001 c n y0 y1) n' s k) (fun ys _ => ∀ y ∈ ys, y.length = sz c)
     (fun ys s => l16a B22 B52 B53 1001 c n ((dsOf x ys).foldl imin s) ((t + 1 : Nat) : Int)) (fun n' s k y ys hk hy hI' ih' => ?_) (fun n' s _ => ?_) 1001 s (by omega) (fun y hy => hw y (List.mem_of_mem_take hy))).trans
     (ih _ hrest)
    ·have hkc : k < c.2.1.length := by omega
     have e53 : B53 x y = some (ap x y) := if_pos ⟨h2 x hxw, by rw [hI' y (by simp), hw x hxw]; exact Nat.le_refl _⟩
     simp only [l16b, Int.toNat_natCast, ixA hk, ixB hk, cond_true, chk_true, hx, hy, e53, Option.bind_some, ixW hk (by omega), ih' _ (fun y' hy' => hI' y' (by simp [hy'])), dsOf, List.map_cons, List.foldl_cons]
    ·simp only [l16b, Int.toNat_natCast, ixE, cond_false, dsOf, List.map_nil, List.foldl_nil, ixW ht (by omega)]
 ·cases h⟩
theorem wE_ok {c : Cd} {w : List Int} (h : wE c w = 0) (hc : cdE c = 0) : w.length = sz c ∧ ∀ m ∈ w, 0 ≤ m ∧ m < c.1 := by
 obtain ⟨hm, _⟩ := cdE_ok hc
 unfold wE at h
 cases e : decide (w.length = sz c) with
 | false => rw [e] at h; cases h
 | true =>
  rw [e, cond_true] at h
  cases e6 : w.any (outM c.1) with
  | true => rw [e6] at h; cases h
  | false =>
   refine ⟨of_decide_eq_true e, fun m hmm => ?_⟩
   have h2 := List.any_eq_false.1 e6 m hmm
   simp only [outM, Bool.not_eq_true, Bool.not_eq_false', dtq] at h2
   rw [w64_small (by omega)] at h2
   omega
def B66 (c : Cd) (w : List Int) : Option Int := if smB c = true ∧ w.length ≤ 1000 then some (cond (decide (cdE c = 0)) (wE c w) (cdE c)) else none
theorem KB66 : FnOk Tryd.prog 66 (F66 B66) := ok66 B22 B58 KB22 KB58 B66 fun c w r h => ⟨0, by
 simp only [B66] at h
 split at h
 ·rename_i hs
  rw [← h, m66, B22, if_pos hs.1, Option.bind_some, bneDec]
  cases e : decide (cdE c = 0) with
  | false => rfl
  | true =>
   obtain ⟨_, hn, _⟩ := cdE_ok (of_decide_eq_true e)
   rw [Bool.not_true, cond_false, B58, if_pos ⟨hn.1, hs.2⟩]; rfl
 ·cases h⟩
def arr (f : Nat → Nat) : List Int := (List.range 8).map fun k => ((f k : Nat) : Int)
theorem arr_len (f : Nat → Nat) : (arr f).length = 8 := by simp [arr]
theorem arr_get (f : Nat → Nat) {t : Nat} (h : t < 8) : (arr f).getD t 0 = f t := by simp [arr, h]
theorem arr_ext {f g : Nat → Nat} (h : ∀ k, k < 8 → f k = g k) : arr f = arr g := by
 unfold arr
 exact List.map_congr_left fun k hk => by rw [h k (List.mem_range.1 hk)]
theorem arr_set (f : Nat → Nat) {t x : Nat} (h : t < 8) : (arr f).set t ((x : Nat) : Int) = arr fun k => if k = t then x else f k := by
 apply List.ext_getElem
 ·simp [arr]
 ·intro i h1 h2
  simp only [arr_len] at h2
  simp only [List.getElem_set, arr, List.getElem_map, List.getElem_range]
  by_cases e : t = i
  ·simp [e]
  ·rw [if_neg e, if_neg (fun q => e q.symm)]
def wBit (w : List Int) (k : Nat) : Nat := if k < w.length then 2 ^ (w.getD k 0).toNat else 0
def ofN (ws : List (List Int)) (k : Nat) : Nat := ws.foldl (fun a w => a ||| wBit w k) 0
def okW (w : List Int) : Bool := decide (w.length ≤ 8) && w.all fun m => decide (0 ≤ m ∧ m < 8)
theorem okW_at {w : List Int} (h : okW w = true) : w.length ≤ 8 ∧ ∀ m ∈ w, 0 ≤ m ∧ m < 8 := by simpa [okW] using h
theorem wBit_lt {w : List Int} (h : okW w = true) (k : Nat) : wBit w k < 256 := by
 unfold wBit
 split
 ·rename_i hk
  have := (okW_at h).2 (w.getD k 0) (by rw [List.getD_eq_getElem?_getD, List.getElem?_eq_getElem hk]; exact List.getElem_mem _)
  exact (Nat.pow_lt_pow_right (by decide) (show (w.getD k 0).toNat < 8 by omega) : 2 ^ (w.getD k 0).toNat < 2 ^ 8)
 ·decide
theorem orF_lt {α : Type} (g : α → Nat) : ∀ (l : List α) (a : Nat), a < 256 → (∀ x ∈ l, g x < 256) → l.foldl (fun a x => a ||| g x) a < 256
 | [], a, h, _ => h
 | x :: r, a, h, hl => by
  rw [List.foldl_cons]
  exact orF_lt g r _ (Nat.or_lt_two_pow (n := 8) h (hl x (by simp))) fun y hy => hl y (by simp [hy])
theorem orF_bit {α : Type} (g : α → Nat) (j : Nat) : ∀ (l : List α) (a : Nat), (l.foldl (fun a x => a ||| g x) a).testBit j = (a.testBit j || l.any fun x => (g x).testBit j)
 | [], a => by simp
 | x :: r, a => by rw [List.foldl_cons, orF_bit g j r, Nat.testBit_or, List.any_cons, Bool.or_assoc]
def B81 (ws : List (List Int)) : Option (List Int) := if ws.length ≤ 1000 ∧ ws.all okW = true then some (arr (ofN ws)) else none
theorem KB81 : FnOk Tryd.prog 81 (F81 B81) := ok81 B81 fun ws r h => ⟨1001, by
 simp only [B81] at h
 split at h
 ·rename_i hl
  have hok : ∀ w ∈ ws, okW w = true := List.all_eq_true.1 hl.2
  rw [← h, m81]
  refine rangeP ws [] (fun n s t => l81a 1001 ws n t s) (fun t rest s => s = [arr (ofN (ws.take t))]) (fun r => r = some (arr (ofN ws))) (fun n s t x rest ht hx hd hI ih => ?_) (fun n s hI => ?_) 1001 _ (by omega) rfl
  ·subst hI
   have hxw : x ∈ ws := by rw [← hx, List.getD_eq_getElem?_getD, List.getElem?_eq_getElem ht]; exact List.getElem_mem _
   obtain ⟨hx8, hxm⟩ := okW_at (hok x hxw)
   have hlt : ∀ k, ofN (ws.take t) k < 256 := fun k => orF_lt _ _ _ (by decide) fun w hw => wBit_lt (hok w (List.mem_of_mem_take hw)) k
   simp only [l81a, ixA ht, ixB ht, cond_true, chk_true]
   refine rangeP x 0 (fun n' s k => l81b 1001 ws (t : Int) (fun y0 y1 => l81a 1001 ws n y0 y1) n' k s) (fun k ys s => s = [arr fun q => if q < k then ofN (ws.take t) q ||| wBit x q else ofN (ws.take t) q]) (fun r => r = some (arr (ofN ws)))
    (fun n' s k y ys hk hy hd' hI' ih' => ?_) (fun n' s hI' => ?_) 1001 _ (by omega) (by congr 1)
   ·subst hI'
    have hk8 : k < 8 := by omega
    have hyb := hxm y (by rw [← hy, List.getD_eq_getElem?_getD, List.getElem?_eq_getElem hk]; exact List.getElem_mem _)
    have hyn : y = ((y.toNat : Nat) : Int) := by omega
    have hb1 : ((1 : Int) * 2 ^ min (Int.toNat y) 8) = (2 ^ min (Int.toNat y) 8) := Int.one_mul _
    have hone : IntKind.wrap .u8 (1 * 2 ^ min (Int.toNat y) 8) = ((2 ^ y.toNat : Nat) : Int) := by
     have := one_u8 (c := y.toNat) (by omega)
     rwa [← hyn] at this
    have hgx : (if k < k then ofN (ws.take t) k ||| wBit x k else ofN (ws.take t) k) = ofN (ws.take t) k := if_neg (Nat.lt_irrefl k)
    simp only [l81b, Int.toNat_natCast, hx, ixA hk, ixB hk, cond_true, chk_true, hy, List.getD_cons_zero, arr_len, arr_get _ hk8, hgx, hone, ixW hk (by omega)]
    rw [chk_dec (show 0 ≤ (k : Int) ∧ (k : Int) < 8 by omega), chk_dec hyb.1, chk_dec (show 0 ≤ (k : Int) ∧ (k : Int) < 8 by omega), chk_of (by simp [hk8]),
     bOr_u8 (hlt k) (Nat.pow_lt_pow_right (by decide) (show y.toNat < 8 by omega) : 2 ^ y.toNat < 2 ^ 8)]
    refine ih' _ ?_
    rw [List.set_cons_zero, arr_set _ hk8]
    congr 1
    refine arr_ext fun q hq => ?_
    by_cases e1 : q = k
    ·subst e1
     rw [if_pos rfl, if_pos (Nat.lt_succ_self q), wBit, if_pos hk, hy]
    ·rw [if_neg e1]
     by_cases e2 : q < k
     ·rw [if_pos e2, if_pos (by omega)]
     ·rw [if_neg e2, if_neg (by omega)]
   ·subst hI'
    simp only [l81b, Int.toNat_natCast, hx, ixE, cond_false, ixW ht (by omega)]
    refine ih _ ?_
    congr 1
    refine arr_ext fun q hq => ?_
    have htk : ws.take (t + 1) = ws.take t ++ [x] := by
     rw [List.take_add_one, List.getElem?_eq_getElem ht]
     rw [List.getD_eq_getElem?_getD, List.getElem?_eq_getElem ht] at hx
     simp only [Option.getD_some] at hx
     rw [hx]; rfl
    have e : ofN (ws.take (t + 1)) q = ofN (ws.take t) q ||| wBit x q := by
     rw [htk]; unfold ofN; rw [List.foldl_append]; rfl
    rw [e]
    by_cases e : q < x.length
    ·rw [if_pos e]
    ·rw [if_neg e, wBit, if_neg e, Nat.or_zero]
  ·subst hI
   simp only [l81a, ixE, cond_false, List.take_length]; rfl
 ·cases h⟩
def mkN (c : Cd) (l : List Int) (k : Nat) : Nat := l.foldl (fun a i => a ||| ofN [c.2.1.getD i.toNat []] k) 0
def okCo (c : Cd) (l : List Int) : Bool := l.all fun i => decide (0 ≤ i ∧ i < (c.2.1.length : Int))
theorem okCo_at {c : Cd} {l : List Int} (h : okCo c l = true) : ∀ i ∈ l, 0 ≤ i ∧ i < (c.2.1.length : Int) := by simpa [okCo] using h
def B56 (c : Cd) (l : List Int) : Option (List Int) := if l.length ≤ 1000 ∧ c.2.1.length ≤ 1000 ∧ c.2.1.all okW = true ∧ okCo c l = true then some (arr (mkN c l)) else none
theorem ofN_lt {ws : List (List Int)} (h : ∀ w ∈ ws, okW w = true) (k : Nat) : ofN ws k < 256 := orF_lt _ _ _ (by decide) fun w hw => wBit_lt (h w hw) k
theorem getD_mem {α : Type} {l : List α} {i : Nat} {d : α} (h : i < l.length) : l.getD i d ∈ l := by
 rw [List.getD_eq_getElem?_getD, List.getElem?_eq_getElem h]; exact List.getElem_mem _
theorem take_succ' {α : Type} {l : List α} {t : Nat} {d x : α} (h : t < l.length) (hx : l.getD t d = x) : l.take (t + 1) = l.take t ++ [x] := by
 rw [List.take_add_one, List.getElem?_eq_getElem h]
 rw [List.getD_eq_getElem?_getD, List.getElem?_eq_getElem h] at hx
 simp only [Option.getD_some] at hx
 rw [hx]; rfl
theorem KB56 : FnOk Tryd.prog 56 (F56 B56) := ok56 B81 KB81 B56 fun c l r h => ⟨1001, by
 simp only [B56] at h
 split at h
 ·rename_i hl
  obtain ⟨hl1, hl2, hl3, hl4⟩ := hl
  have hok : ∀ w ∈ c.2.1, okW w = true := List.all_eq_true.1 hl3
  have hin := okCo_at hl4
  rw [← h, m56]
  refine rangeP l 0 (fun n s t => l56a B81 1001 c l n t s) (fun t rest s => s = [arr (mkN c (l.take t))]) (fun r => r = some (arr (mkN c l))) (fun n s t x rest ht hx hd hI ih => ?_) (fun n s hI => ?_) 1001 _ (by omega) rfl
  ·subst hI
   have hxl := hin x (hx ▸ getD_mem ht)
   have hwo : okW (c.2.1.getD x.toNat []) = true := hok _ (getD_mem (by omega))
   have hlt : ∀ k, mkN c (l.take t) k < 256 := fun k => orF_lt _ _ _ (by decide) fun i hi => by
    have := hin i (List.mem_of_mem_take hi)
    exact ofN_lt (fun w hw => by rw [List.mem_singleton.1 hw]; exact hok _ (getD_mem (by omega))) k
   have e81 : B81 [c.2.1.getD x.toNat []] = some (arr (ofN [c.2.1.getD x.toNat []])) := if_pos ⟨by simp, by simp only [List.all_cons, List.all_nil, Bool.and_true]; exact hwo⟩
   have hlt2 : ∀ k, ofN [c.2.1.getD x.toNat []] k < 256 := ofN_lt fun w hw => by rw [List.mem_singleton.1 hw]; exact hwo
   simp only [l56a, ixA ht, ixB ht, cond_true, chk_true, Int.toNat_natCast, hx]
   rw [chk_dec hxl, e81, Option.bind_some]
   have key : mkN c (l.take (t + 1)) = fun k => mkN c (l.take t) k ||| ofN [c.2.1.getD x.toNat []] k := by
    funext k; rw [take_succ' ht hx]; unfold mkN; rw [List.foldl_append]; rfl
   refine countP' 0 8 (by decide) (fun n' s k => l56b B81 1001 c l (t : Int) (arr (ofN [c.2.1.getD x.toNat []])) (fun y0 y1 => l56a B81 1001 c l n y0 y1) n' k s)
    (fun k s => s = [arr fun q => if (q : Int) < k then mkN c (l.take t) q ||| ofN [c.2.1.getD x.toNat []] q else mkN c (l.take t) q]) (fun r => r = some (arr (mkN c l)))
    (fun n' s k hk0 hk hI' ih' => ?_) (fun n' s hI' => ?_) 1001 _ (by decide) (congrArg (fun z => [z]) (arr_ext fun q hq => by rw [if_neg (by omega)]))
   ·subst hI'
    obtain ⟨k, rfl⟩ : ∃ j : Nat, k = j := ⟨k.toNat, by omega⟩
    have hk8 : k < 8 := by omega
    have hgx : (if (k : Int) < (k : Int) then mkN c (l.take t) k ||| ofN [c.2.1.getD x.toNat []] k else mkN c (l.take t) k) = mkN c (l.take t) k := if_neg (Int.lt_irrefl _)
    simp only [l56b, Int.toNat_natCast, List.getD_cons_zero, arr_len, arr_get _ hk8, hgx]
    rw [decide_eq_true hk, cond_true, chk_dec ⟨hk0, hk⟩, chk_dec ⟨hk0, hk⟩, chk_dec ⟨hk0, hk⟩, chk_of (by simp [hk8]), bOr_u8 (hlt k) (hlt2 k), w64_small (by omega)]
    refine ih' _ ?_
    rw [List.set_cons_zero, arr_set _ hk8]
    congr 1
    refine arr_ext fun q hq => ?_
    by_cases e1 : q = k
    ·subst e1
     rw [if_pos rfl, if_pos (by omega)]
    ·rw [if_neg e1]
     by_cases e2 : q < k
     ·rw [if_pos (by omega), if_pos (by omega)]
     ·rw [if_neg (by omega), if_neg (by omega)]
   ·subst hI'
    simp only [l56b, show decide ((8 : Int) < 8) = false from rfl, cond_false, ixW ht (by omega)]
    refine ih _ ?_
    congr 1
    rw [key]
    exact arr_ext fun q hq => if_pos (by omega)
  ·subst hI
   simp only [l56a, ixE, cond_false, List.take_length]; rfl
 ·cases h⟩
def okA (a : List Int) : Bool := decide (a.length = 8) && a.all fun m => decide (0 ≤ m ∧ m < 256)
theorem okA_at {a : List Int} (h : okA a = true) : a.length = 8 ∧ ∀ m ∈ a, 0 ≤ m ∧ m < 256 := by simpa [okA] using h
theorem okA_arr {f : Nat → Nat} (h : ∀ k, f k < 256) : okA (arr f) = true := by
 refine Bool.and_eq_true_iff.2 ⟨decide_eq_true (arr_len f), List.all_eq_true.2 fun m hm => decide_eq_true ?_⟩
 obtain ⟨k, _, rfl⟩ := List.mem_map.1 hm
 have := h k; omega
theorem arr_of {a : List Int} (h : okA a = true) : a = arr fun k => (a.getD k 0).toNat := by
 obtain ⟨h1, h2⟩ := okA_at h
 apply List.ext_getElem
 ·rw [h1, arr_len]
 ·intro i h3 h4
  simp only [arr, List.getElem_map, List.getElem_range, List.getD_eq_getElem?_getD, List.getElem?_eq_getElem h3, Option.getD_some]
  have := h2 a[i] (List.getElem_mem _); omega
def B84 (a b : List Int) : Option (List Int) := if okA a = true ∧ okA b = true then some (arr fun k => (a.getD k 0).toNat &&& (b.getD k 0).toNat) else none
theorem KB84 : FnOk Tryd.prog 84 (F84 B84) := ok84 B84 fun a b r h => ⟨1001, by
 simp only [B84] at h
 split at h
 ·rename_i hl
  have ea := arr_of hl.1
  have eb := arr_of hl.2
  have la : ∀ k, k < 8 → (a.getD k 0).toNat < 256 := fun k hk => by
   obtain ⟨h1, h2⟩ := okA_at hl.1
   have := h2 (a.getD k 0) (getD_mem (by omega)); omega
  have lb : ∀ k, k < 8 → (b.getD k 0).toNat < 256 := fun k hk => by
   obtain ⟨h1, h2⟩ := okA_at hl.2
   have := h2 (b.getD k 0) (getD_mem (by omega)); omega
  rw [← h, m84]
  generalize hfa : (fun k => (a.getD k 0).toNat) = fa at ea
  have la' : ∀ k, k < 8 → fa k < 256 := fun k hk => by rw [← hfa]; exact la k hk
  have hres : (arr fun k => (a.getD k 0).toNat &&& (b.getD k 0).toNat) = arr fun k => fa k &&& (b.getD k 0).toNat := by rw [← hfa]
  rw [hres, ea]
  refine countP' 0 8 (by decide) (fun n' s k => l84a 1001 b n' k s) (fun k s => s = [arr fun q => if (q : Int) < k then fa q &&& (b.getD q 0).toNat else fa q]) (fun r => r = some (arr fun k => fa k &&& (b.getD k 0).toNat))
   (fun n' s k hk0 hk hI' ih' => ?_) (fun n' s hI' => ?_) 1001 _ (by decide) (congrArg (fun z => [z]) (arr_ext fun q hq => by rw [if_neg (by omega)]))
  ·subst hI'
   obtain ⟨k, rfl⟩ : ∃ j : Nat, k = j := ⟨k.toNat, by omega⟩
   have hk8 : k < 8 := by omega
   have hgx : (if (k : Int) < (k : Int) then fa k &&& (b.getD k 0).toNat else fa k) = fa k := if_neg (Int.lt_irrefl _)
   have hbk : b.getD k 0 = (((b.getD k 0).toNat : Nat) : Int) := by
    obtain ⟨h1, h2⟩ := okA_at hl.2
    have := h2 (b.getD k 0) (getD_mem (by omega)); omega
   have hand : bAnd .u8 ((fa k : Nat) : Int) (b.getD k 0) = ((fa k &&& (b.getD k 0).toNat : Nat) : Int) := by
    have := bAnd_u8 (la' k hk8) (lb k hk8)
    rwa [← hbk] at this
   simp only [l84a, Int.toNat_natCast, List.getD_cons_zero, arr_len, arr_get _ hk8, hgx, hand]
   rw [decide_eq_true hk, cond_true, chk_dec ⟨hk0, hk⟩, chk_dec ⟨hk0, hk⟩, chk_dec ⟨hk0, hk⟩, chk_of (by simp [hk8]), w64_small (by omega)]
   refine ih' _ ?_
   rw [List.set_cons_zero, arr_set _ hk8]
   congr 1
   refine arr_ext fun q hq => ?_
   by_cases e1 : q = k
   ·subst e1
    rw [if_pos rfl, if_pos (by omega)]
   ·rw [if_neg e1]
    by_cases e2 : q < k
    ·rw [if_pos (by omega), if_pos (by omega)]
    ·rw [if_neg (by omega), if_neg (by omega)]
  ·subst hI'
   simp only [l84a, show decide ((8 : Int) < 8) = false from rfl, cond_false, List.getD_cons_zero]
   exact congrArg some (arr_ext fun q hq => if_pos (by omega))
 ·cases h⟩
def mk (c : Cd) (l w : List Int) : Bool := (List.range w.length).all fun k => l.any fun i => decide ((c.2.1.getD i.toNat []).getD k 0 = w.getD k 0)
theorem beq_arr (f g : Nat → Nat) : DT.beq (.arr 8 (.int .u8)) (arr f) (arr g) = (List.range 8).all fun k => decide (f k = g k) := by
 simp only [DT.beq]
 rw [Bool.eq_iff_iff, List.all_eq_true, List.all_eq_true]
 constructor <;> intro h k hk
 ·have := h k hk
  have e1 := arr_get f (List.mem_range.1 hk)
  have e2 := arr_get g (List.mem_range.1 hk)
  have : decide ((arr f).getD k 0 = (arr g).getD k 0) = true := this
  rw [e1, e2] at this
  have := of_decide_eq_true this
  exact decide_eq_true (by omega)
 ·have := of_decide_eq_true (h k hk)
  show decide ((arr f).getD k 0 = (arr g).getD k 0) = true
  rw [arr_get f (List.mem_range.1 hk), arr_get g (List.mem_range.1 hk), this]
  exact decide_eq_true rfl
theorem and_pow {a j : Nat} : (a &&& 2 ^ j = 2 ^ j) ↔ a.testBit j = true := by
 constructor
 ·intro h
  have := congrArg (fun z => z.testBit j) h
  simpa [Nat.testBit_and, Nat.testBit_two_pow_self] using this
 ·intro h
  apply Nat.eq_of_testBit_eq
  intro i
  rw [Nat.testBit_and, Nat.testBit_two_pow]
  by_cases e : j = i
  ·subst e; simp [h]
  ·simp [e]
theorem bit_pow {m j : Nat} : (2 ^ m).testBit j = decide (m = j) := Nat.testBit_two_pow
theorem ofN_one (w : List Int) (k : Nat) : ofN [w] k = wBit w k := by
 show 0 ||| wBit w k = _
 rw [Nat.zero_or]
theorem mkN_bit {c : Cd} {l : List Int} {k j : Nat} (hk : ∀ w ∈ c.2.1, k < w.length) (hm : ∀ w ∈ c.2.1, ∀ m ∈ w, 0 ≤ m) (hl : ∀ i ∈ l, 0 ≤ i ∧ i < (c.2.1.length : Int)) : (mkN c l k).testBit j = l.any fun i => decide ((c.2.1.getD i.toNat []).getD k 0 = (j : Int)) := by
 unfold mkN
 rw [orF_bit, Nat.zero_testBit, Bool.false_or, Bool.eq_iff_iff, List.any_eq_true, List.any_eq_true]
 refine exists_congr fun i => and_congr_right fun hi => ?_
 have hi' := hl i hi
 have hw : c.2.1.getD i.toNat [] ∈ c.2.1 := getD_mem (by omega)
 have hkw := hk _ hw
 have h0 := hm _ hw ((c.2.1.getD i.toNat []).getD k 0) (getD_mem hkw)
 rw [ofN_one, wBit, if_pos hkw, bit_pow, dtq, dtq]
 omega
def okC (c : Cd) (l w : List Int) : Bool := decide (cdE c = 0) && okCo c l && decide (l.length ≤ 1000) && decide (wE c w = 0)
theorem okC_at {c : Cd} {l w : List Int} (h : okC c l w = true) : cdE c = 0 ∧ okCo c l = true ∧ l.length ≤ 1000 ∧ wE c w = 0 := by
 simp only [okC, bae, dtq] at h; exact ⟨h.1.1.1, h.1.1.2, h.1.2, h.2⟩
theorem okW_code {c : Cd} (h : cdE c = 0) : ∀ w ∈ c.2.1, okW w = true := fun w hw => by
 obtain ⟨hm, _, hz, hl, hb⟩ := cdE_ok h
 simp only [okW, bae, dtq, List.all_eq_true]
 exact ⟨by rw [hl w hw]; exact hz.2, fun m hmm => by have := hb w hw m hmm; omega⟩
theorem okW_word {c : Cd} {w : List Int} (hc : cdE c = 0) (h : wE c w = 0) : okW w = true := by
 obtain ⟨hm, _, hz, _⟩ := cdE_ok hc
 obtain ⟨h1, h2⟩ := wE_ok h hc
 simp only [okW, bae, dtq, List.all_eq_true]
 exact ⟨by rw [h1]; exact hz.2, fun m hmm => by have := h2 m hmm; omega⟩
def B59 (c : Cd) (l w : List Int) : Option Bool := if okC c l w = true then some (mk c l w) else none
theorem KB59 : FnOk Tryd.prog 59 (F59 B59) := ok59 B56 B81 B84 KB56 KB81 KB84 B59 fun c l w r h => ⟨0, by
 simp only [B59] at h
 split at h
 ·rename_i ho
  obtain ⟨hc, hL, hl, hw⟩ := okC_at ho
  obtain ⟨hm, hn, hz, hlen, hb⟩ := cdE_ok hc
  obtain ⟨w1, w2⟩ := wE_ok hw hc
  have hin := okCo_at hL
  have hoc := okW_code hc
  have how := okW_word hc hw
  have e56 : B56 c l = some (arr (mkN c l)) := if_pos ⟨hl, by omega, List.all_eq_true.2 hoc, hL⟩
  have e81 : B81 [w] = some (arr (ofN [w])) := if_pos ⟨by simp, by simpa using how⟩
  have l1 : ∀ k, mkN c l k < 256 := fun k => orF_lt _ _ _ (by decide) fun i hi => by
   have := hin i hi
   exact ofN_lt (fun w hw => by rw [List.mem_singleton.1 hw]; exact hoc _ (getD_mem (by omega))) k
  have l2 : ∀ k, ofN [w] k < 256 := ofN_lt fun w' hw' => by rw [List.mem_singleton.1 hw']; exact how
  have e84 : B84 (arr (mkN c l)) (arr (ofN [w])) = some (arr fun k => mkN c l k &&& ofN [w] k) := by
   rw [B84, if_pos ⟨okA_arr l1, okA_arr l2⟩]
   exact congrArg some (arr_ext fun k hk => by rw [arr_get _ hk, arr_get _ hk, Int.toNat_natCast, Int.toNat_natCast])
  rw [← h, m59, e56, Option.bind_some, e81, Option.bind_some, e84, Option.bind_some, Option.bind_some, beq_arr]
  refine congrArg some ?_
  rw [mk, Bool.eq_iff_iff, List.all_eq_true, List.all_eq_true]
  have one : ∀ k, k < w.length → ((mkN c l k &&& ofN [w] k = ofN [w] k) ↔ (l.any fun i => decide ((c.2.1.getD i.toNat []).getD k 0 = w.getD k 0)) = true) := fun k hk => by
   have h0 := w2 (w.getD k 0) (getD_mem hk)
   rw [ofN_one, wBit, if_pos hk, and_pow, mkN_bit (fun w' hw' => by rw [hlen w' hw']; omega) (fun w' hw' m hm' => (hb w' hw' m hm').1) hin]
   rw [show (((w.getD k 0).toNat : Nat) : Int) = w.getD k 0 by omega]
  constructor <;> intro hk k hkr
  ·have hkw := List.mem_range.1 hkr
   exact (one k hkw).1 (of_decide_eq_true (hk k (List.mem_range.2 (by omega))))
  ·by_cases hkw : k < w.length
   ·exact decide_eq_true ((one k hkw).2 (hk k (List.mem_range.2 hkw)))
   ·refine decide_eq_true ?_
    rw [ofN_one, wBit, if_neg hkw, Nat.and_zero]
 ·cases h⟩
end Go.Proofs.YtbjfbbfglkmadaaDoor
