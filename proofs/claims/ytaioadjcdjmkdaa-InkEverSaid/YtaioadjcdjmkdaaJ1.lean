/-
  What the laws without the reference need.
-/
import Derived.Test.YtaioadjcdjmkdaaP0
import Derived.Test.YtaioadjcdjmkdaaWC0
namespace Go.Proofs.Ytaioadjcdjmkdaa
open Go.RowKit
set_option linter.unusedVariables false

abbrev Pal := Int × List (List Int) × Unit
abbrev dP : Pal := (0, [], ())

/-! ### bits -/
theorem wrap_u8 {n : Nat} (h : n < 256) : IntKind.wrap .u8 (n : Int) = n := by simp [IntKind.wrap, IntKind.bits, IntKind.signed]; omega
theorem wrap_i64 {n : Nat} (h : n < 9223372036854775808) : IntKind.wrap .i64 (n : Int) = n := w64_nat h
theorem or_bits (k a b : Nat) (ha : a < 2 ^ k) (hb : b < 2 ^ k) : ((BitVec.ofInt k (a : Int)) ||| (BitVec.ofInt k (b : Int))).toNat = a ||| b := by
  rw [BitVec.ofInt_natCast, BitVec.ofInt_natCast, BitVec.toNat_or, BitVec.toNat_ofNat, BitVec.toNat_ofNat, Nat.mod_eq_of_lt ha, Nat.mod_eq_of_lt hb]
theorem and_bits (k a b : Nat) (ha : a < 2 ^ k) (hb : b < 2 ^ k) : ((BitVec.ofInt k (a : Int)) &&& (BitVec.ofInt k (b : Int))).toNat = a &&& b := by
  rw [BitVec.ofInt_natCast, BitVec.ofInt_natCast, BitVec.toNat_and, BitVec.toNat_ofNat, BitVec.toNat_ofNat, Nat.mod_eq_of_lt ha, Nat.mod_eq_of_lt hb]
theorem bOr_u8 {a b : Nat} (ha : a < 256) (hb : b < 256) : bOr .u8 (a : Int) (b : Int) = ((a ||| b : Nat) : Int) := by
  have h : a ||| b < 256 := Nat.or_lt_two_pow (n := 8) ha hb
  have e := or_bits 8 a b ha hb
  show IntKind.wrap .u8 ((((BitVec.ofInt 8 (a : Int)) ||| (BitVec.ofInt 8 (b : Int))).toNat : Nat) : Int) = _
  rw [e]
  exact wrap_u8 h
theorem bAnd_u8 {a b : Nat} (ha : a < 256) (hb : b < 256) : bAnd .u8 (a : Int) (b : Int) = ((a &&& b : Nat) : Int) := by
  have h : a &&& b < 256 := Nat.and_lt_two_pow (n := 8) a hb
  have e := and_bits 8 a b ha hb
  show IntKind.wrap .u8 ((((BitVec.ofInt 8 (a : Int)) &&& (BitVec.ofInt 8 (b : Int))).toNat : Nat) : Int) = _
  rw [e]
  exact wrap_u8 h
theorem p62 : (2 : Nat) ^ 62 = 4611686018427387904 := by decide
theorem p64 : (2 : Nat) ^ 64 = 18446744073709551616 := by decide
theorem bOr_i64 {a b : Nat} (ha : a < 4611686018427387904) (hb : b < 4611686018427387904) : bOr .i64 (a : Int) (b : Int) = ((a ||| b : Nat) : Int) := by
  have h : a ||| b < 2 ^ 62 := Nat.or_lt_two_pow (by rw [p62]; exact ha) (by rw [p62]; exact hb)
  rw [p62] at h
  have e := or_bits 64 a b (by rw [p64]; omega) (by rw [p64]; omega)
  show IntKind.wrap .i64 ((((BitVec.ofInt 64 (a : Int)) ||| (BitVec.ofInt 64 (b : Int))).toNat : Nat) : Int) = _
  rw [e]
  exact wrap_i64 (by omega)
theorem bAnd_i64 {a b : Nat} (ha : a < 4611686018427387904) (hb : b < 4611686018427387904) : bAnd .i64 (a : Int) (b : Int) = ((a &&& b : Nat) : Int) := by
  have h : a &&& b < 2 ^ 62 := Nat.and_lt_two_pow a (by rw [p62]; exact hb)
  rw [p62] at h
  have e := and_bits 64 a b (by rw [p64]; omega) (by rw [p64]; omega)
  show IntKind.wrap .i64 ((((BitVec.ofInt 64 (a : Int)) &&& (BitVec.ofInt 64 (b : Int))).toNat : Nat) : Int) = _
  rw [e]
  exact wrap_i64 (by omega)
theorem pow_cast (c : Nat) : ((2 : Int) ^ c) = ((2 ^ c : Nat) : Int) := by simp
theorem fdiv_pow (s c : Nat) : Int.fdiv (s : Int) ((2 : Int) ^ c) = ((s / 2 ^ c : Nat) : Int) := by
  rw [pow_cast, Int.fdiv_eq_ediv_of_nonneg _ (Int.natCast_nonneg _), Int.natCast_ediv]
theorem bit_of (s c : Nat) : ((((s / 2 ^ c &&& 1 : Nat)) : Int) == 1) = s.testBit c := by
  rw [Nat.and_one_is_mod, Nat.testBit_eq_decide_div_mod_eq]
  by_cases h : s / 2 ^ c % 2 = 1
  · simp [h]
  · have : s / 2 ^ c % 2 = 0 := by omega
    simp [this]
theorem bit_u8 {s c : Nat} (hs : s < 256) (hc : c ≤ 8) : ((bAnd .u8 (Int.fdiv (s : Int) (2 ^ min (Int.toNat (c : Int)) 8)) 1) == 1) = s.testBit c := by
  rw [Int.toNat_natCast, Nat.min_eq_left hc, fdiv_pow]
  have h := bAnd_u8 (a := s / 2 ^ c) (b := 1) (Nat.lt_of_le_of_lt (Nat.div_le_self _ _) hs) (by decide)
  rw [show ((1 : Nat) : Int) = 1 from rfl] at h
  rw [h]; exact bit_of s c
theorem bit_i64 {s c : Nat} (hs : s < 4611686018427387904) (hc : c ≤ 64) : ((bAnd .i64 (Int.fdiv (s : Int) (2 ^ min (Int.toNat (c : Int)) 64)) 1) == 1) = s.testBit c := by
  rw [Int.toNat_natCast, Nat.min_eq_left hc, fdiv_pow]
  have h := bAnd_i64 (a := s / 2 ^ c) (b := 1) (Nat.lt_of_le_of_lt (Nat.div_le_self _ _) hs) (by decide)
  rw [show ((1 : Nat) : Int) = 1 from rfl] at h
  rw [h]; exact bit_of s c
theorem one_u8 {c : Nat} (hc : c < 8) : IntKind.wrap .u8 (1 * 2 ^ min (Int.toNat (c : Int)) 8) = ((2 ^ c : Nat) : Int) := by
  rw [Int.toNat_natCast, Nat.min_eq_left (by omega), Int.one_mul, pow_cast]
  exact wrap_u8 (Nat.pow_lt_pow_right (by decide) hc : 2 ^ c < 2 ^ 8)
theorem one_i64 {c : Nat} (hc : c < 62) : IntKind.wrap .i64 (1 * 2 ^ min (Int.toNat (c : Int)) 64) = ((2 ^ c : Nat) : Int) := by
  rw [Int.toNat_natCast, Nat.min_eq_left (by omega), Int.one_mul, pow_cast]
  have h : 2 ^ c < 2 ^ 62 := Nat.pow_lt_pow_right (by decide) hc
  rw [p62] at h
  exact wrap_i64 (by omega)

/-! ### between -/
def B63 (lo n hi : Int) : Option Bool := some (decide (lo ≤ n ∧ n ≤ hi))
theorem KB63 : FnOk Try.prog 63 (F63 B63) := ok63 B63 fun lo n hi r h => ⟨0, by
  rw [← h]; simp only [m63, B63]
  by_cases a : lo ≤ n <;> simp [a]⟩
def B66 (n lo hi : Int) : Option Bool := some (decide (lo ≤ n ∧ n ≤ hi))
/-! ### where is the first one? -/
def fx (p : Int → Bool) : Int → List Int → Int
  | _, [] => -1
  | t, x :: xs => cond (p x) t (fx p (t + 1) xs)
theorem fx_ge (p : Int → Bool) : ∀ (xs : List Int) (t : Int), 0 ≤ t → decide (fx p t xs ≥ 0) = xs.any p
  | [], t, h => rfl
  | x :: xs, t, h => by
    rw [fx, List.any_cons]
    cases e : p x with
    | true => simp [h]
    | false => rw [cond_false, fx_ge p xs (t + 1) (by omega)]; simp

/-- No colour, or no ink, of so many. -/
def outP (n c : Int) : Bool := !decide (0 ≤ c ∧ c ≤ w64 (n - 1))
def B65c (c : Int) (o : List Pal) : Option (Bool × List Pal) := some (outP (o.getD 0 dP).1 c, o)
theorem KB65c : FnOk Try.prog 65 (F65c B65c) := ok65c B63 KB63 B65c fun c o r h => ⟨0, by
  rw [← h]; simp only [m65c, B65c, B63, Option.bind_some, outP]⟩
def B85c65 (s : List Int) (o : List Pal) : Option (Int × List Pal) := if s.length ≤ 1000 then some (fx (outP (o.getD 0 dP).1) 0 s, o) else none
theorem KB85c65 : FnOk Try.prog 85 (F85c65 B85c65) := ok85c65 B65c KB65c B85c65 fun s o r h => ⟨1001, by
  simp only [B85c65] at h
  split at h
  · rename_i hl
    rw [← h, m85c65]
    exact rangeIx s 0 (fun n (_ : Unit) t => l85c65a B65c 1001 s n t o) (fun _ _ _ => True) (fun t xs _ => some (fx (outP (o.getD 0 dP).1) t xs, o))
      (fun n _ t x rest ht hx _ ih => by
        simp only [l85c65a, ixA ht, ixB ht, cond_true, chk_true, Int.toNat_natCast, ixW ht (by omega), hx, ih () trivial, fx, B65c, Option.bind_some]
        cases outP (o.getD 0 dP).1 x <;> rfl)
      (fun n _ _ => by simp only [l85c65a, ixE, cond_false]; rfl) 1001 () (by omega) trivial
  · cases h⟩
def B64c65 (s : List Int) (o : List Pal) : Option (Bool × List Pal) := if s.length ≤ 1000 then some (s.any (outP (o.getD 0 dP).1), o) else none
theorem KB64c65 : FnOk Try.prog 64 (F64c65 B64c65) := ok64c65 B85c65 KB85c65 B64c65 fun s o r h => ⟨0, by
  simp only [B64c65] at h
  split at h
  · rename_i hl
    rw [← h, m64c65, B85c65, if_pos hl, Option.bind_some, fx_ge _ s 0 (by omega)]
  · cases h⟩
def B81c (c : Int) (o : List Pal) : Option (Bool × List Pal) := some (outP ((o.getD 0 dP).2.1.length : Int) c, o)
theorem KB81c : FnOk Try.prog 81 (F81c B81c) := ok81c B63 KB63 B81c fun c o r h => ⟨0, by
  rw [← h]; simp only [m81c, B81c, B63, Option.bind_some, outP]⟩
def B85c81 (s : List Int) (o : List Pal) : Option (Int × List Pal) := if s.length ≤ 1000 then some (fx (outP ((o.getD 0 dP).2.1.length : Int)) 0 s, o) else none
theorem KB85c81 : FnOk Try.prog 85 (F85c81 B85c81) := ok85c81 B81c KB81c B85c81 fun s o r h => ⟨1001, by
  simp only [B85c81] at h
  split at h
  · rename_i hl
    rw [← h, m85c81]
    exact rangeIx s 0 (fun n (_ : Unit) t => l85c81a B81c 1001 s n t o) (fun _ _ _ => True) (fun t xs _ => some (fx (outP ((o.getD 0 dP).2.1.length : Int)) t xs, o))
      (fun n _ t x rest ht hx _ ih => by
        simp only [l85c81a, ixA ht, ixB ht, cond_true, chk_true, Int.toNat_natCast, ixW ht (by omega), hx, ih () trivial, fx, B81c, Option.bind_some]
        cases outP ((o.getD 0 dP).2.1.length : Int) x <;> rfl)
      (fun n _ _ => by simp only [l85c81a, ixE, cond_false]; rfl) 1001 () (by omega) trivial
  · cases h⟩
def B64c81 (s : List Int) (o : List Pal) : Option (Bool × List Pal) := if s.length ≤ 1000 then some (s.any (outP ((o.getD 0 dP).2.1.length : Int)), o) else none
theorem KB64c81 : FnOk Try.prog 64 (F64c81 B64c81) := ok64c81 B85c81 KB85c81 B64c81 fun s o r h => ⟨0, by
  simp only [B64c81] at h
  split at h
  · rename_i hl
    rw [← h, m64c81, B85c81, if_pos hl, Option.bind_some, fx_ge _ s 0 (by omega)]
  · cases h⟩

/-! ### palettes are checked -/
def ckInk (n : Int) (l : List Int) : Int := cond ((l.length : Int) != n) 3 (cond (l.any (outP n)) 4 0)
def ckInks (n : Int) : List (List Int) → Int
  | [] => 0
  | l :: r => cond (ckInk n l == 0) (ckInks n r) (ckInk n l)
def ck (p : Pal) : Int := if 2 ≤ p.1 ∧ p.1 ≤ 7 then (if p.2.1.length = 0 then 1 else if p.2.1.length > 6 then 2 else ckInks p.1 p.2.1) else 4
/-- Not too large to be looked at. -/
def fitP (p : Pal) : Bool := decide (p.2.1.length ≤ 1000) && p.2.1.all fun l => decide (l.length ≤ 1000)
theorem fitP_ok {p : Pal} (h : fitP p = true) : p.2.1.length ≤ 1000 ∧ ∀ l ∈ p.2.1, l.length ≤ 1000 := by
  simpa [fitP] using h
def B24 (p : Pal) : Option Int := if fitP p then some (ck p) else none
theorem ck_head {p : Pal} (f : Option Int) (e : 2 ≤ p.1 ∧ p.1 ≤ 7 → f = some (ckInks p.1 p.2.1)) :
    (cond (!decide (2 ≤ p.1 ∧ p.1 ≤ 7)) (some (4 : Int)) (cond ((p.2.1.length : Int) == 0) (some 1) (cond (decide ((p.2.1.length : Int) > 6)) (some 2) f))) = some (ck p) := by
  simp only [ck]
  by_cases h1 : 2 ≤ p.1 ∧ p.1 ≤ 7
  · rw [if_pos h1, decide_eq_true h1]
    by_cases h2 : p.2.1.length = 0
    · rw [if_pos h2]; simp [h2]
    · rw [if_neg h2]
      have h2' : ((p.2.1.length : Int) == 0) = false := by rw [beq_eq_false_iff_ne]; omega
      rw [h2']
      by_cases h3 : p.2.1.length > 6
      · rw [if_pos h3, decide_eq_true (by omega : (p.2.1.length : Int) > 6)]; rfl
      · rw [if_neg h3, decide_eq_false (by omega : ¬ (p.2.1.length : Int) > 6)]; exact e h1
  · rw [if_neg h1, decide_eq_false h1]; rfl
theorem KB24 : FnOk Try.prog 24 (F24 B24) := ok24 B63 B64c65 KB63 KB64c65 B24 fun p r h => ⟨1001, by
  simp only [B24] at h
  split at h
  · rename_i hf
    obtain ⟨hl, hm⟩ := fitP_ok hf
    rw [← h, m24, B63, Option.bind_some]
    refine ck_head _ fun h1 => ?_
    exact rangeInv p.2.1 [] (fun n (_ : Unit) t => l24a B63 B64c65 1001 p n t [p]) (fun xs _ => ∀ l ∈ xs, l.length ≤ 1000) (fun xs _ => some (ckInks p.1 xs))
      (fun n _ t x rest ht hx hI ih => by
        have hx1 := hI x (List.mem_cons_self ..)
        have hr : ∀ l ∈ rest, l.length ≤ 1000 := fun l hl => hI l (List.mem_cons_of_mem _ hl)
        simp only [l24a, ixA ht, ixB ht, cond_true, chk_true, Int.toNat_natCast, ixW ht (by omega), hx, ih () hr, B64c65, if_pos hx1, Option.bind_some, ckInks, ckInk, List.getD_cons_zero]
        by_cases e : (x.length : Int) = p.1
        · have e' : ((x.length : Int) != p.1) = false := by rw [bne_eq_false_iff_eq]; exact e
          rw [e', cond_false, cond_false]
          cases x.any (outP p.1) <;> rfl
        · have e' : ((x.length : Int) != p.1) = true := by rw [bne_iff_ne]; exact e
          rw [e']; rfl)
      (fun n _ _ => by simp only [l24a, ixE, cond_false]; rfl) 1001 () (by omega) hm
  · cases h⟩
/-! ### sequences -/
def sqE (p : Pal) (l : List Int) (most : Int) : Int := if ck p = 0 then (if (l.length : Int) > most then 2 else cond (l.any (outP (p.2.1.length : Int))) 5 0) else ck p
def B55 (p : Pal) (l : List Int) (most : Int) : Option Int := if fitP p = true ∧ l.length ≤ 1000 then some (sqE p l most) else none
theorem KB55 : FnOk Try.prog 55 (F55 B55) := ok55 B24 B64c81 KB24 KB64c81 B55 fun p l most r h => ⟨0, by
  simp only [B55] at h
  split at h
  · rename_i hf
    rw [← h, m55, B24, if_pos hf.1, Option.bind_some, B64c81, if_pos hf.2, Option.bind_some, sqE]
    by_cases e : ck p = 0
    · rw [if_pos e]
      have e' : (ck p != 0) = false := by rw [bne_eq_false_iff_eq]; exact e
      rw [e', cond_false]
      by_cases e2 : (l.length : Int) > most
      · rw [decide_eq_true e2, if_pos e2]; rfl
      · rw [decide_eq_false e2, if_neg e2, cond_false]
        show cond (l.any (outP (p.2.1.length : Int))) _ _ = _
        cases l.any (outP (p.2.1.length : Int)) <;> rfl
    · have e' : (ck p != 0) = true := by rw [bne_iff_ne]; exact e
      rw [e', if_neg e]; rfl
  · cases h⟩

end Go.Proofs.Ytaioadjcdjmkdaa
