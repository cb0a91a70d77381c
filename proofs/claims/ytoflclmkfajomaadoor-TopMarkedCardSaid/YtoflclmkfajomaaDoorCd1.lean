/-
 Numbers with a check digit: two of them differ at two places at least.
-/
import Derived.Test.YtoflclmkfajomaaDoorT1
namespace Go.Proofs.YtoflclmkfajomaaDoor.Sd
open Go.RowKit
set_option linter.unusedVariables false

def low (n : Nat) : Nat → Nat → List Int
 | 0, _ => []
 | k + 1, x => ((x / n ^ k % n : Nat) : Int) :: low n k x
theorem low_len (n : Nat) : ∀ k x, (low n k x).length = k
 | 0, _ => rfl
 | k + 1, x => by simp [low, low_len n k]
theorem low_rg {n : Nat} (hn : 0 < n) : ∀ {k x : Nat} {d : Int}, d ∈ low n k x → 0 ≤ d ∧ d < n
 | 0, _, _, h => by simp [low] at h
 | k + 1, x, d, h => by
  rcases List.mem_cons.1 h with rfl | h
  ·have := Nat.mod_lt (x / n ^ k) hn; omega
  ·exact low_rg hn h
theorem low_mod {n : Nat} (hn : 0 < n) : ∀ {k x y : Nat}, low n k x = low n k y → x % n ^ k = y % n ^ k
 | 0, x, y, _ => by simp [Nat.mod_one]
 | k + 1, x, y, h => by
  simp only [low, List.cons.injEq] at h
  obtain ⟨h1, h2⟩ := h
  have h3 := low_mod hn h2
  have e : ∀ z : Nat, z % n ^ (k + 1) = z % n ^ k + n ^ k * (z / n ^ k % n) := fun z => by
   rw [Nat.pow_succ, Nat.mod_mul]
  have h1' : x / n ^ k % n = y / n ^ k % n := by exact_mod_cast h1
  rw [e, e, h3, h1']
theorem low_inj {n k x y : Nat} (hn : 0 < n) (hx : x < n ^ k) (hy : y < n ^ k) (h : low n k x = low n k y) : x = y := by
 have := low_mod hn h
 rwa [Nat.mod_eq_of_lt hx, Nat.mod_eq_of_lt hy] at this
def dif : List Int → List Int → Nat
 | x :: a, y :: b => (if x = y then 0 else 1) + dif a b
 | _, _ => 0
theorem dif_zero : ∀ {a b : List Int}, a.length = b.length → dif a b = 0 → a = b
 | [], [], _, _ => rfl
 | [], _ :: _, h, _ => by simp at h
 | _ :: _, [], h, _ => by simp at h
 | x :: a, y :: b, h, hd => by
  simp only [dif] at hd
  split at hd
  ·rename_i e
   have := dif_zero (a := a) (b := b) (by simpa using h) (by omega)
   rw [e, this]
  ·omega
theorem dif_snoc : ∀ {a b : List Int} {x y : Int}, a.length = b.length → dif (a ++ [x]) (b ++ [y]) = dif a b + (if x = y then 0 else 1)
 | [], [], x, y, _ => by simp [dif]
 | [], _ :: _, _, _, h => by simp at h
 | _ :: _, [], _, _, h => by simp at h
 | u :: a, v :: b, x, y, h => by
  simp only [List.cons_append, dif]
  rw [dif_snoc (by simpa using h)]; omega
theorem one_state {t : List (List Int)} (h : Lat t) : ∀ {a b : List Int} {s : Int}, a.length = b.length → rg t s → (∀ d ∈ a, rg t d) → (∀ d ∈ b, rg t d) → dif a b = 1 → aft t s a ≠ aft t s b
 | [], [], s, _, _, _, _, hd => by simp [dif] at hd
 | [], _ :: _, _, hl, _, _, _, _ => by simp at hl
 | _ :: _, [], _, hl, _, _, _, _ => by simp at hl
 | x :: a, y :: b, s, hl, hs, ha, hb, hd => by
  have hx := ha x (by simp)
  have hy := hb y (by simp)
  simp only [dif] at hd
  simp only [aft]
  split at hd
  ·rename_i e
   subst e
   exact one_state h (by simpa using hl) (h.bd hs hx) (fun d q => ha d (by simp [q])) (fun d q => hb d (by simp [q])) (by omega)
  ·rename_i e
   obtain rfl := dif_zero (a := a) (b := b) (by simpa using hl) (by omega)
   intro q
   exact e (h.ri hs hx hy (aft_inj h (h.bd hs hx) (h.bd hs hy) (fun d q => ha d (by simp [q])) q))
def word (t : List (List Int)) (k x : Nat) : List Int := low t.length k x ++ [chkD t (low t.length k x)]
theorem word_len (t : List (List Int)) (k x : Nat) : (word t k x).length = k + 1 := by simp [word, low_len]
theorem low_all {t : List (List Int)} (h : Lat t) (k x : Nat) : ∀ d ∈ low t.length k x, rg t d := fun d hd => low_rg (by have := h.len; omega) hd
theorem word_rg {t : List (List Int)} (h : Lat t) (k x : Nat) : ∀ d ∈ word t k x, rg t d := fun d hd => by
 rcases List.mem_append.1 hd with q | q
 ·exact low_all h k x d q
 ·rw [List.mem_singleton.1 q]; exact (chkD_ok h (low_all h k x)).1
theorem word_two {t : List (List Int)} (h : Lat t) {k x y : Nat} (hx : x < t.length ^ k) (hy : y < t.length ^ k) (hne : x ≠ y) : 2 ≤ dif (word t k x) (word t k y) := by
 have hlen : (low t.length k x).length = (low t.length k y).length := by rw [low_len, low_len]
 obtain ⟨x1, x2⟩ := chkD_ok h (low_all h k x)
 obtain ⟨y1, y2⟩ := chkD_ok h (low_all h k y)
 rw [word, word, dif_snoc hlen]
 have h0 : dif (low t.length k x) (low t.length k y) ≠ 0 := fun q => hne (low_inj (by have := h.len; omega) hx hy (dif_zero hlen q))
 by_cases h1 : dif (low t.length k x) (low t.length k y) = 1
 ·have hs := one_state h hlen (rg0 h) (low_all h k x) (low_all h k y) h1
  have hc : chkD t (low t.length k x) ≠ chkD t (low t.length k y) := fun q => by
   rw [← q] at y2
   exact hs (h.ci x1 (aft_rg h (rg0 h) (low_all h k x)) (aft_rg h (rg0 h) (low_all h k y)) (x2.trans y2.symm))
  rw [if_neg hc]; omega
 ·omega
theorem mkOk_of {a b : Int} {k : Nat} (h0 : 0 ≤ a) (h1 : a ≤ b) (h2 : b * (k : Int) ≤ 140737488355328) (h3 : b ≤ 140737488355328) : mkOk a b k = true := by
 simp only [mkOk, Bool.and_eq_true, decide_eq_true_eq]
 refine ⟨?_, ?_⟩ <;> omega
theorem set_rep (d : Int) (l : List Int) : ∀ p : Nat, (List.replicate (p + 1) (0 : Int) ++ l).set p d = List.replicate p 0 ++ d :: l
 | 0 => rfl
 | p + 1 => by
  rw [List.replicate_succ, List.cons_append, List.set_cons_succ, set_rep d l p]; rfl
def okW (t : List (List Int)) (k x : Int) : Prop := good t ∧ (2 ≤ k ∧ k ≤ 12) ∧ 0 ≤ x ∧ x.toNat < t.length ^ (k - 1).toNat
instance (t : List (List Int)) (k x : Int) : Decidable (okW t k x) := inferInstanceAs (Decidable (_ ∧ _))
def B6 (t : List (List Int)) (k x : Int) : Option (List Int × Int) := if okW t k x then some (word t (k - 1).toNat x.toNat, 0) else none
theorem code_loop {t : List (List Int)} (hg : good t) {m x N : Nat} (hm : 1 ≤ m ∧ m ≤ 11) (hx : x < t.length ^ m) (hx2 : x < 4611686018427387904) : ∀ (j i n : Nat), i + j = m → j < n →
  l6a Sr.B12 B19 Sr.B5 N t ((m : Int) + 1) n ((x / t.length ^ i : Nat) : Int) (i : Int) (List.replicate (m - i) 0 ++ low t.length i x) = some (word t m x, 0)
 | 0, i, n + 1, hj, _ => by
  obtain rfl : i = m := by omega
  have hL := lat_of hg.2
  have hr : (List.replicate (w64 ((i : Int) + 1 - 1)).toNat (0 : Int)).length = i := by rw [w64_small (by omega)]; simp
  have h0 : x / t.length ^ i = 0 := Nat.div_eq_of_lt hx
  have hb : B19 t (low t.length i x) = some (chkD t (low t.length i x), 0) := if_pos ⟨hg, allR_of (low_all hL i x), by rw [low_len]; omega⟩
  have hsm := small_of (n := i + 1) (eb := 8) (by omega) (by decide)
  simp only [l6a, hr, decide_eq_false (show ¬ (i : Int) < (i : Int) by omega), cond_false, h0, Nat.sub_self, List.replicate_zero, List.nil_append, hb, Option.bind_some, low_len, hsm, chk_true]
  rfl
 | j + 1, i, n + 1, hj, hn => by
  have hL := lat_of hg.2
  have hlen := hL.len
  have hr : (List.replicate (w64 ((m : Int) + 1 - 1)).toNat (0 : Int)).length = m := by rw [w64_small (by omega)]; simp
  have hq : x / t.length ^ i ≤ x := Nat.div_le_self _ _
  have hd : Int.tdiv ((x / t.length ^ i : Nat) : Int) (t.length : Int) = ((x / t.length ^ (i + 1) : Nat) : Int) := by
   rw [Nat.pow_succ, ← Nat.div_div_eq_div_mul]; rfl
  have hq2 : x / t.length ^ (i + 1) ≤ x := Nat.div_le_self _ _
  have hmd : Int.tmod ((x / t.length ^ i : Nat) : Int) (t.length : Int) = ((x / t.length ^ i % t.length : Nat) : Int) := rfl
  have hol : (List.replicate (m - i) (0 : Int) ++ low t.length i x).length = m := by simp [low_len]; omega
  have hix : w64 (w64 ((m : Int) - 1) - (i : Int)) = ((m - 1 - i : Nat) : Int) := by rw [w64_small (x := (m : Int) - 1) (by omega), w64_small (by omega)]; omega
  have ih := code_loop (N := N) hg hm hx hx2 j (i + 1) n (by omega) (by omega)
  have hset : (List.replicate (m - i) (0 : Int) ++ low t.length i x).set (m - 1 - i) ((x / t.length ^ i % t.length : Nat) : Int) = List.replicate (m - (i + 1)) 0 ++ low t.length (i + 1) x := by
   obtain ⟨p, hp⟩ : ∃ p, m - i = p + 1 := ⟨m - i - 1, by omega⟩
   rw [hp, show m - 1 - i = p by omega, set_rep, show m - (i + 1) = p by omega]; rfl
  simp only [l6a, hr, decide_eq_true (show (i : Int) < (m : Int) by omega), cond_true, decide_eq_true (show (t.length : Int) ≠ 0 by omega), chk_true, hol, hix, Int.toNat_natCast, hd, hmd, hset]
  rw [decide_eq_true (by omega), chk_true, w64_nat (Nat.lt_of_le_of_lt hq2 (by omega)), w64_succ (by omega)]
  exact ih
theorem KB6 : FnOk Tryd.prog 6 (F6 B6) := ok6 Sr.B12 B19 Sr.B5 Sr.KB12 KB19 Sr.KB5 B6 fun t k x r h => ⟨1001, by
 simp only [B6] at h
 split at h
 ·rename_i hh
  obtain ⟨hg, ⟨hk, hk2⟩, h0, hx⟩ := hh
  obtain ⟨m, rfl⟩ : ∃ m : Nat, k = (m : Int) + 1 := ⟨(k - 1).toNat, by omega⟩
  obtain ⟨y, rfl⟩ : ∃ y : Nat, x = (y : Int) := ⟨x.toNat, by omega⟩
  have hL := lat_of hg.2
  have em : ((m : Int) + 1 - 1).toNat = m := by omega
  rw [em, Int.toNat_natCast] at h
  rw [em, Int.toNat_natCast] at hx
  have hb : t.length ^ m ≤ 10 ^ 11 := Nat.le_trans (Nat.pow_le_pow_left hL.len.2 m) (Nat.pow_le_pow_right (by omega) (by omega))
  have main := code_loop hg (N := 1001) (m := m) (x := y) (by omega) hx (by omega) m 0 1001 (by omega) (by omega)
  rw [← h, m6, hg.1, Option.bind_some, show ((0 : Int) != 0) = false from rfl, cond_false, Sr.B12, Option.bind_some, decide_eq_true (show (2 : Int) ≤ (m : Int) + 1 ∧ (m : Int) + 1 ≤ 12 by omega), Bool.not_true, cond_false, decide_eq_false (show ¬ (y : Int) < 0 by omega), cond_false]
  have ew : w64 ((m : Int) + 1 - 1) = (m : Int) := by rw [w64_small (by omega)]; omega
  rw [ew, mkOk_of (by omega) (by omega) (by omega) (by omega), chk_true, Int.toNat_natCast]
  simpa [low] using main
 ·cases h⟩
end Go.Proofs.YtoflclmkfajomaaDoor.Sd
