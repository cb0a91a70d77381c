/-
 Loops of mirrors, told as recursions over lists. Sums of hours: what the chapter's small functions answer. Tables of hours: what Check answers for square ones. Tables of hours: sums, and where they are as large as can be. Where all sums are alike: the shortest time, and who is busy all the time. Orders: what turned answers has each number once. Tables whose sums are all alike: a square that alone joins two parts takes its row and its column whole. Sets of bits: rounds along arrows, until nothing more is reached. Racks of rods alone, as many rows as columns: Check. What is reached along arrows: sets of bits in sixteen. Arrows of rods; is a rack stiff, and which rods does it need? Tables of hours whose rows and columns all have the same sum; one more order; what its rods join. Where all sums are equal everybody works all the time, and no rod is needed.
-/
import Derived.Test.YtplbdongegfdnaaYD
import Derived.Test.YtplbdongegfdnaaWC0
import Derived.Test.YtplbdongegfdnaaRGM
namespace Go.Proofs.Ytplbdongegfdnaa
open Go.RowKit
set_option linter.unusedVariables false

theorem w64_eq {n : Int} (h0 : -9223372036854775808 ≤ n) (h1 : n < 9223372036854775808) : w64 n = n := by
 simp [w64, IntKind.wrap, IntKind.bits, IntKind.signed]; omega
theorem w64_succ {t : Nat} (h : t < 4611686018427387904) : w64 ((t : Int) + 1) = ((t + 1 : Nat) : Int) := by
 rw [w64_eq (by omega) (by omega)]; omega
theorem chk_true {α : Type} (x : Option α) : chk true x = x := rfl
theorem chk_of {α : Type} {b : Bool} {x : Option α} (h : b = true) : chk b x = x := by rw [h]; rfl
theorem chk_dec {α : Type} {p : Prop} [Decidable p] {x : Option α} (h : p) : chk (decide p) x = x := by rw [decide_eq_true h]; rfl
theorem small_of {n eb : Nat} (h : n * eb ≤ 140737488355328) (hb : 0 < eb) : small n eb = true := by
 have : n ≤ n * eb := Nat.le_mul_of_pos_right n hb
 simp [small, h]; omega
theorem getD_drop {α : Type} {xs rest : List α} {t : Nat} {x d : α} (h : xs.drop t = x :: rest) : t < xs.length ∧ xs.getD t d = x ∧ xs.drop (t + 1) = rest := by
 have hl : t < xs.length := by
  have := congrArg List.length h
  simp only [List.length_drop, List.length_cons] at this; omega
 refine ⟨hl, ?_, ?_⟩
 ·have h2 := congrArg List.head? h
  rw [List.head?_drop] at h2
  rw [List.getD_eq_getElem?_getD, h2]; rfl
 ·have h2 := congrArg List.tail h
  rw [List.tail_drop] at h2; exact h2
theorem rangeIx {α σ ρ : Type} (xs : List α) (d : α) (L : Nat → σ → Int → Option ρ) (I : Nat → List α → σ → Prop) (S : Nat → List α → σ → Option ρ)
  (hs : ∀ (n : Nat) (s : σ) (t : Nat) (x : α) (rest : List α), t < xs.length → xs.getD t d = x → I t (x :: rest) s →
   (∀ s', I (t + 1) rest s' → L n s' ((t + 1 : Nat) : Int) = S (t + 1) rest s') → L (n + 1) s (t : Int) = S t (x :: rest) s)
  (he : ∀ (n : Nat) (s : σ), I xs.length [] s → L (n + 1) s (xs.length : Int) = S xs.length [] s)
  (n : Nat) (s : σ) (hn : xs.length < n) (hI : I 0 xs s) : L n s 0 = S 0 xs s := by
 have main : ∀ (k t n : Nat) (s : σ), t + k = xs.length → k < n → I t (xs.drop t) s → L n s (t : Int) = S t (xs.drop t) s := by
  intro k
  induction k with
  | zero =>
   intro t n s h1 h2 h3
   obtain ⟨m, rfl⟩ : ∃ m, n = m + 1 := ⟨n - 1, by omega⟩
   have : t = xs.length := by omega
   subst this
   rw [List.drop_length] at h3 ⊢
   exact he m s h3
  | succ k ih =>
   intro t n s h1 h2 h3
   obtain ⟨m, rfl⟩ : ∃ m, n = m + 1 := ⟨n - 1, by omega⟩
   cases hd : xs.drop t with
   | nil => have := congrArg List.length hd; simp only [List.length_drop, List.length_nil] at this; omega
   | cons x rest =>
    obtain ⟨a, b, c⟩ := getD_drop (d := d) hd
    rw [hd] at h3
    refine hs m s t x rest a b h3 fun s' hI' => ?_
    rw [← c] at hI' ⊢
    exact ih (t + 1) m s' (by omega) (by omega) hI'
 have := main xs.length 0 n s (by omega) hn (by simpa using hI)
 simpa using this
theorem countUp {σ ρ : Type} (lo hi : Int) (hle : lo ≤ hi) (L : Nat → σ → Int → Option ρ) (I : Int → σ → Prop) (S : Int → σ → Option ρ)
  (hs : ∀ (n : Nat) (s : σ) (t : Int), lo ≤ t → t < hi → I t s → (∀ s', I (t + 1) s' → L n s' (t + 1) = S (t + 1) s') → L (n + 1) s t = S t s)
  (he : ∀ (n : Nat) (s : σ), I hi s → L (n + 1) s hi = S hi s)
  (n : Nat) (s : σ) (hn : (hi - lo).toNat < n) (hI : I lo s) : L n s lo = S lo s := by
 have main : ∀ (k n : Nat) (t : Int) (s : σ), lo ≤ t → t + k = hi → k < n → I t s → L n s t = S t s := by
  intro k
  induction k with
  | zero =>
   intro n t s h0 h1 h2 h3
   obtain ⟨m, rfl⟩ : ∃ m, n = m + 1 := ⟨n - 1, by omega⟩
   have : t = hi := by omega
   subst this; exact he m s h3
  | succ k ih =>
   intro n t s h0 h1 h2 h3
   obtain ⟨m, rfl⟩ : ∃ m, n = m + 1 := ⟨n - 1, by omega⟩
   exact hs m s t h0 (by omega) h3 fun s' h' => ih m (t + 1) s' (by omega) (by omega) (by omega) h'
 exact main (hi - lo).toNat n lo s (by omega) (by omega) hn hI
theorem countP' {σ ρ : Type} (lo hi : Int) (hle : lo ≤ hi) (L : Nat → σ → Int → Option ρ) (I : Int → σ → Prop) (Q : Option ρ → Prop)
  (hs : ∀ (n : Nat) (s : σ) (t : Int), lo ≤ t → t < hi → I t s → (∀ s', I (t + 1) s' → Q (L n s' (t + 1))) → Q (L (n + 1) s t))
  (he : ∀ (n : Nat) (s : σ), I hi s → Q (L (n + 1) s hi))
  (n : Nat) (s : σ) (hn : (hi - lo).toNat < n) (hI : I lo s) : Q (L n s lo) := by
 have main : ∀ (k n : Nat) (t : Int) (s : σ), lo ≤ t → t + k = hi → k < n → I t s → Q (L n s t) := by
  intro k
  induction k with
  | zero =>
   intro n t s h0 h1 h2 h3
   obtain ⟨m, rfl⟩ : ∃ m, n = m + 1 := ⟨n - 1, by omega⟩
   have : t = hi := by omega
   subst this; exact he m s h3
  | succ k ih =>
   intro n t s h0 h1 h2 h3
   obtain ⟨m, rfl⟩ : ∃ m, n = m + 1 := ⟨n - 1, by omega⟩
   exact hs m s t h0 (by omega) h3 fun s' h' => ih m (t + 1) s' (by omega) (by omega) (by omega) h'
 exact main (hi - lo).toNat n lo s (by omega) (by omega) hn hI
theorem ixA {t n : Nat} (h : t < n) : decide ((t : Int) < (n : Int)) = true := decide_eq_true (by omega)
theorem ixB {t n : Nat} (h : t < n) : decide (0 ≤ (t : Int) ∧ (t : Int) < (n : Int)) = true := decide_eq_true (by omega)
theorem ixE (n : Nat) : decide ((n : Int) < (n : Int)) = false := decide_eq_false (by omega)
theorem ixW {t n : Nat} (h : t < n) (hn : n ≤ 4611686018427387904) : w64 ((t : Int) + 1) = ((t + 1 : Nat) : Int) := w64_succ (by omega)
theorem w64_small {x : Int} (h : -4611686018427387904 ≤ x ∧ x ≤ 4611686018427387904) : w64 x = x := w64_eq (by omega) (by omega)
theorem getD_at {α : Type} {l : List α} {i : Nat} {d : α} (h : i < l.length) : l.getD i d = l[i] := by
 rw [List.getD_eq_getElem?_getD, List.getElem?_eq_getElem h]; rfl
theorem getD_mem {α : Type} {l : List α} {i : Nat} {d : α} (h : i < l.length) : l.getD i d ∈ l := by
 rw [getD_at h]; exact List.getElem_mem _
theorem take_succ' {α : Type} {l : List α} {t : Nat} {d x : α} (h : t < l.length) (hx : l.getD t d = x) : l.take (t + 1) = l.take t ++ [x] := by
 rw [List.take_add_one, List.getElem?_eq_getElem h, ← hx, getD_at h]; rfl
def okS (l : List Int) : Bool := decide (l.length ≤ 100) && l.all fun x => decide (0 ≤ x ∧ x ≤ 100000)
theorem okS_at {l : List Int} (h : okS l = true) : l.length ≤ 100 ∧ ∀ x ∈ l, 0 ≤ x ∧ x ≤ 100000 := by simpa [okS] using h
theorem sum_bd : ∀ {l : List Int}, (∀ x ∈ l, 0 ≤ x ∧ x ≤ 100000) → 0 ≤ l.sum ∧ l.sum ≤ 100000 * l.length
 | [], _ => by simp
 | x :: r, h => by
  have h1 := h x (by simp)
  have h2 := sum_bd (l := r) fun y hy => h y (by simp [hy])
  simp only [List.sum_cons, List.length_cons]
  omega
theorem KB41 : FnOk Try.prog 41 (F41 fun lo n hi => some (decide (lo ≤ n ∧ n ≤ hi))) := ok41 _ fun lo n hi r h => ⟨0, by
 rw [← h, m41]
 by_cases e : lo ≤ n
 ·rw [decide_eq_true e, cond_true]; simp [e]
 ·rw [decide_eq_false e, cond_false]; simp [e]⟩
def B63 (n : Int) : Option Int := some n
theorem KB63 : FnOk Try.prog 63 (F63 B63) := ok63 B63 fun n r h => ⟨0, h⟩
def B62 (l : List Int) : Option Int := if okS l = true then some l.sum else none
theorem KB62 : FnOk Try.prog 62 (F62c63 B62) := ok62c63 B63 KB63 B62 fun l r h => ⟨101, by
 simp only [B62] at h
 split at h
 ·rename_i hs
  obtain ⟨h1, h2⟩ := okS_at hs
  rw [← h, m62c63]
  refine countP' 0 (l.length : Int) (by omega) (fun n s t => l62c63a B63 101 l n s t) (fun t s => s = (l.take t.toNat).sum) (fun r => r = some l.sum) (fun n s t a b hI ih => ?_) (fun n s hI => ?_) 101 0 (by omega) rfl
  ·subst hI
   obtain ⟨k, rfl⟩ : ∃ q : Nat, t = q := ⟨t.toNat, by omega⟩
   have hk : k < l.length := by omega
   have e := ih _ rfl
   rw [show ((k : Int) + 1).toNat = k + 1 by omega, take_succ' hk rfl, List.sum_append, List.sum_cons, List.sum_nil, Int.add_zero] at e
   have b1 := sum_bd (l := l.take k) fun x hx => h2 x (List.mem_of_mem_take hx)
   have b2 := h2 _ (getD_mem (d := 0) hk)
   have b3 : (l.take k).length ≤ 100 := by rw [List.length_take]; omega
   simp only [l62c63a, ixA hk, ixB hk, cond_true, chk_true, B63, Option.bind_some, Int.toNat_natCast]
   rw [w64_small (x := (k : Int) + 1) (by omega), w64_small (by omega)]
   exact e
  ·subst hI
   simp only [l62c63a, ixE, cond_false, Int.toNat_natCast, List.take_length]
 ·cases h⟩
def B58 (i : Int) (p : List Int) : Option (Int × List Int) := if 0 ≤ i ∧ i < p.length then some (p.getD i.toNat 0, p) else none
theorem KB58 : FnOk Try.prog 58 (F58c B58) := ok58c B58 fun i p r h => ⟨0, by
 simp only [B58] at h
 split at h
 ·rename_i hi; rw [← h, m58c, chk_dec hi]
 ·cases h⟩
theorem KB59 : FnOk Try.prog 59 (F59c B58) := ok59c B58 fun i p r h => ⟨0, by
 simp only [B58] at h
 split at h
 ·rename_i hi; rw [← h, m59c, chk_dec hi]
 ·cases h⟩
def upV (a b : Int) : Int := (a + b - 1) / b
def B61 (a b : Int) : Option Int := if (0 ≤ a ∧ a ≤ 100000000) ∧ (1 ≤ b ∧ b ≤ 100) then some (upV a b) else none
theorem KB61 : FnOk Try.prog 61 (F61 B61) := ok61 B61 fun a b r h => ⟨0, by
 simp only [B61] at h
 split at h
 ·rename_i hh
  have hq : 0 ≤ (a + b - 1) / b ∧ (a + b - 1) / b ≤ a + b - 1 := ⟨Int.ediv_nonneg (by omega) (by omega), Int.ediv_le_self _ (by omega)⟩
  rw [← h, m61, chk_dec (by omega), w64_small (x := a + b) (by omega), w64_small (x := a + b - 1) (by omega), Int.tdiv_eq_ediv_of_nonneg (by omega), w64_small (by omega), upV]
 ·cases h⟩
def B60 (t : Int) (p : List Int) (q : Int) : Option (Int × List Int × Int) := if okS p = true ∧ (1 ≤ q ∧ q ≤ 100) then some (upV p.sum q, p, q) else none
theorem KB60 : FnOk Try.prog 60 (F60c B60) := ok60c B61 B62 KB61 KB62 B60 fun t p q r h => ⟨0, by
 simp only [B60] at h
 split at h
 ·rename_i hh
  obtain ⟨hs, hq⟩ := hh
  obtain ⟨h1, h2⟩ := okS_at hs
  have b1 := sum_bd h2
  rw [← h, m60c, B62, if_pos hs, Option.bind_some, B61, if_pos ⟨by omega, hq⟩]; rfl
 ·cases h⟩
def okW (ws : List (List Int)) : Bool := decide (1 ≤ ws.length ∧ ws.length ≤ 6) && ws.all fun l => decide (l.length = ws.length) && l.all fun x => decide (0 ≤ x ∧ x ≤ 30)
theorem okW_at {ws : List (List Int)} (h : okW ws = true) : (1 ≤ ws.length ∧ ws.length ≤ 6) ∧ ∀ l ∈ ws, l.length = ws.length ∧ ∀ x ∈ l, 0 ≤ x ∧ x ≤ 30 := by simpa [okW] using h
theorem okW_len {ws : List (List Int)} (h : okW ws = true) {k : Nat} (hk : k < ws.length) : (ws.getD k []).length = ws.length := ((okW_at h).2 _ (getD_mem hk)).1
theorem KB57 : FnOk Try.prog 57 (F57 fun lo n hi => some (decide (lo ≤ n ∧ n ≤ hi))) := ok57 _ fun lo n hi r h => ⟨0, by
 rw [← h, m57]
 by_cases e : lo ≤ n
 ·rw [decide_eq_true e, cond_true]; simp [e]
 ·rw [decide_eq_false e, cond_false]; simp [e]⟩
def B88 (l : List Int) (p : List (List Int)) : Option (Bool × List (List Int)) := if 0 < p.length then some ((l.length : Int) != ((p.getD 0 []).length : Int), p) else none
theorem KB88 : FnOk Try.prog 88 (F88c B88) := ok88c B88 fun l p r h => ⟨0, by
 simp only [B88] at h
 split at h
 ·rename_i hp; rw [← h, m88c, chk_dec (by omega)]
 ·cases h⟩
def okE (s p : List (List Int)) : Bool := decide (s.length ≤ 100 ∧ 0 < p.length) && s.all fun l => decide (l.length = (p.getD 0 []).length)
theorem okE_at {s p : List (List Int)} (h : okE s p = true) : (s.length ≤ 100 ∧ 0 < p.length) ∧ ∀ l ∈ s, l.length = (p.getD 0 []).length := by simpa [okE] using h
def B67 (s p : List (List Int)) : Option (Int × List (List Int)) := if okE s p = true then some (-1, p) else none
theorem KB67 : FnOk Try.prog 67 (F67c88 B67) := ok67c88 B88 KB88 B67 fun s p r h => ⟨101, by
 simp only [B67] at h
 split at h
 ·rename_i hs
  obtain ⟨⟨h1, h2⟩, h3⟩ := okE_at hs
  rw [← h, m67c88]
  refine countP' 0 (s.length : Int) (by omega) (fun n o t => l67c88a B88 101 s n t o) (fun t o => o = p) (fun r => r = some (-1, p)) (fun n o t a b hI ih => ?_) (fun n o hI => ?_) 101 p (by omega) rfl
  ·subst hI
   obtain ⟨k, rfl⟩ : ∃ q : Nat, t = q := ⟨t.toNat, by omega⟩
   have hk : k < s.length := by omega
   have e := ih _ rfl
   simp only [l67c88a, ixA hk, ixB hk, cond_true, chk_true, Int.toNat_natCast, B88, if_pos h2, Option.bind_some]
   rw [h3 _ (getD_mem hk), show (((o.getD 0 []).length : Int) != ((o.getD 0 []).length : Int)) = false by simp, cond_false, w64_small (x := (k : Int) + 1) (by omega)]
   exact e
  ·subst hI
   simp only [l67c88a, ixE, cond_false]
 ·cases h⟩
def B31 (s p : List (List Int)) : Option (Bool × List (List Int)) := if okE s p = true then some (false, p) else none
theorem KB31 : FnOk Try.prog 31 (F31c88 B31) := ok31c88 B67 KB67 B31 fun s p r h => ⟨0, by
 simp only [B31] at h
 split at h
 ·rename_i hs; rw [← h, m31c88, B67, if_pos hs]; rfl
 ·cases h⟩
def B69 (n : Int) : Option (List Int) := if 0 ≤ n ∧ n ≤ 100000 then some [] else none
theorem KB69 : FnOk Try.prog 69 (F69c B69) := ok69c B69 fun n r h => ⟨0, by
 simp only [B69] at h
 split at h
 ·rename_i hn
  rw [← h, m69c, decide_eq_false (show ¬ n < 0 by omega), cond_false, w64_small (by omega)]
  by_cases e : n - 0 > 0
  ·rw [decide_eq_true e, cond_true, chk_of (by simp [mkOk]; omega), chk_dec (by omega)]; rfl
  ·rw [decide_eq_false e, cond_false]
 ·cases h⟩
def okLs (s : List (List Int)) : Bool := decide (s.length ≤ 100) && s.all fun l => decide (l.length ≤ 100)
theorem okLs_at {s : List (List Int)} (h : okLs s = true) : s.length ≤ 100 ∧ ∀ l ∈ s, l.length ≤ 100 := by simpa [okLs] using h
theorem flat_len : ∀ {s : List (List Int)}, (∀ l ∈ s, l.length ≤ 100) → s.flatten.length ≤ 100 * s.length
 | [], _ => by simp
 | x :: r, h => by
  have h1 := h x (by simp)
  have h2 := flat_len (s := r) fun y hy => h y (by simp [hy])
  simp only [List.flatten_cons, List.length_append, List.length_cons]
  omega
def B34 (s : List (List Int)) : Option (List Int) := if okLs s = true then some s.flatten else none
theorem KB34 : FnOk Try.prog 34 (F34 B34) := ok34 B69 KB69 B34 fun s r h => ⟨101, by
 simp only [B34] at h
 split at h
 ·rename_i hs
  obtain ⟨h1, h2⟩ := okLs_at hs
  rw [← h, m34]
  have tk : ∀ k, k < s.length → (s.take (k + 1)).flatten = (s.take k).flatten ++ s.getD k [] := fun k hk => by
   rw [take_succ' hk rfl, List.flatten_append, List.flatten_cons, List.flatten_nil, List.append_nil]
  have bd : ∀ k, k ≤ s.length → (s.take k).flatten.length ≤ 10000 := fun k hk => by
   have := flat_len (s := s.take k) fun l hl => h2 l (List.mem_of_mem_take hl)
   rw [List.length_take] at this; omega
  refine countP' 0 (s.length : Int) (by omega) (fun n z t => l34a B69 101 s n z t) (fun t z => z = ((s.take t.toNat).flatten.length : Int)) (fun r => r = some s.flatten) (fun n z t a b hI ih => ?_) (fun n z hI => ?_) 101 0 (by omega) rfl
  ·subst hI
   obtain ⟨k, rfl⟩ : ∃ q : Nat, t = q := ⟨t.toNat, by omega⟩
   have hk : k < s.length := by omega
   have e := ih _ rfl
   have b1 := bd (k + 1) hk
   rw [tk k hk, List.length_append] at b1
   rw [show ((k : Int) + 1).toNat = k + 1 by omega, tk k hk, List.length_append, Int.natCast_add] at e
   simp only [l34a, ixA hk, ixB hk, cond_true, chk_true, Int.toNat_natCast]
   have hw : w64 (((s.take k).flatten.length : Int) + ((s.getD k []).length : Int)) = ((s.take k).flatten.length : Int) + ((s.getD k []).length : Int) := w64_small (by omega)
   simp only [hw]
   rw [decide_eq_false (show ¬ ((s.take k).flatten.length : Int) + ((s.getD k []).length : Int) < 0 by omega), cond_false, w64_small (x := (k : Int) + 1) (by omega)]
   exact e
  ·subst hI
   simp only [l34a, ixE, cond_false, Int.toNat_natCast, List.take_length]
   have b1 := bd s.length (Nat.le_refl _)
   rw [List.take_length] at b1
   rw [B69, if_pos (by omega), Option.bind_some]
   refine countP' 0 (s.length : Int) (by omega) (fun n z t => l34b B69 101 s n t z) (fun t z => z = (s.take t.toNat).flatten) (fun r => r = some s.flatten) (fun n z t a b hI ih => ?_) (fun n z hI => ?_) 101 [] (by omega) rfl
   ·subst hI
    obtain ⟨k, rfl⟩ : ∃ q : Nat, t = q := ⟨t.toNat, by omega⟩
    have hk : k < s.length := by omega
    have e := ih _ rfl
    have b2 := bd (k + 1) hk
    rw [tk k hk, List.length_append] at b2
    rw [show ((k : Int) + 1).toNat = k + 1 by omega, tk k hk] at e
    simp only [l34b, ixA hk, ixB hk, cond_true, chk_true, Int.toNat_natCast]
    rw [chk_of (small_of (by omega) (by decide)), w64_small (x := (k : Int) + 1) (by omega)]
    exact e
   ·subst hI
    simp only [l34b, ixE, cond_false, Int.toNat_natCast, List.take_length]
 ·cases h⟩
def B89 (x : Int) : Option Bool := some (!decide (0 ≤ x ∧ x ≤ 30))
theorem KB89 : FnOk Try.prog 89 (F89 B89) := ok89 _ KB57 B89 fun x r h => ⟨0, by rw [← h, m89]; rfl⟩
def isH (l : List Int) : Bool := decide (l.length ≤ 1000) && l.all fun x => decide (0 ≤ x ∧ x ≤ 30)
theorem isH_at {l : List Int} (h : isH l = true) : l.length ≤ 1000 ∧ ∀ x ∈ l, 0 ≤ x ∧ x ≤ 30 := by simpa [isH] using h
def B68 (l : List Int) : Option Int := if isH l = true then some (-1) else none
theorem KB68 : FnOk Try.prog 68 (F68c89 B68) := ok68c89 B89 KB89 B68 fun l r h => ⟨1001, by
 simp only [B68] at h
 split at h
 ·rename_i hs
  obtain ⟨h1, h2⟩ := isH_at hs
  rw [← h, m68c89]
  refine countP' 0 (l.length : Int) (by omega) (fun n (_ : Unit) t => l68c89a B89 1001 l n t) (fun _ _ => True) (fun r => r = some (-1)) (fun n o t a b hI ih => ?_) (fun n o hI => ?_) 1001 () (by omega) trivial
  ·obtain ⟨k, rfl⟩ : ∃ q : Nat, t = q := ⟨t.toNat, by omega⟩
   have hk : k < l.length := by omega
   have e := ih () trivial
   simp only [l68c89a, ixA hk, ixB hk, cond_true, chk_true, Int.toNat_natCast, B89, Option.bind_some]
   rw [decide_eq_true (h2 _ (getD_mem hk)), Bool.not_true, cond_false, w64_small (x := (k : Int) + 1) (by omega)]
   exact e
  ·simp only [l68c89a, ixE, cond_false]
 ·cases h⟩
def B33 (l : List Int) : Option Bool := if isH l = true then some false else none
theorem KB33 : FnOk Try.prog 33 (F33c89 B33) := ok33c89 B68 KB68 B33 fun l r h => ⟨0, by
 simp only [B33] at h
 split at h
 ·rename_i hs; rw [← h, m33c89, B68, if_pos hs]; rfl
 ·cases h⟩
def B56 (ws : List (List Int)) : Option Int := if okW ws = true then some 0 else none
theorem KB56 : FnOk Try.prog 56 (F56 B56) := ok56 B31 B33 B34 _ KB31 KB33 KB34 KB57 B56 fun ws r h => ⟨0, by
 simp only [B56] at h
 split at h
 ·rename_i hs
  obtain ⟨h1, h2⟩ := okW_at hs
  have h0 : (ws.getD 0 []).length = ws.length := okW_len hs (by omega)
  have hE : okE ws ws = true := by
   simp only [okE, Bool.and_eq_true, decide_eq_true_eq, List.all_eq_true]
   exact ⟨by omega, fun l hl => (h2 l hl).1.trans h0.symm⟩
  have hL : okLs ws = true := by
   simp only [okLs, Bool.and_eq_true, decide_eq_true_eq, List.all_eq_true]
   exact ⟨by omega, fun l hl => by have := (h2 l hl).1; omega⟩
  have h30 : isH ws.flatten = true := by
   simp only [isH, Bool.and_eq_true, decide_eq_true_eq, List.all_eq_true]
   have := flat_len (s := ws) fun l hl => by have := (h2 l hl).1; omega
   refine ⟨by omega, fun x hx => ?_⟩
   obtain ⟨l, hl, hx⟩ := List.mem_flatten.1 hx
   exact (h2 l hl).2 x hx
  rw [← h, m56, show ((ws.length : Int) == 0) = false from beq_eq_false_iff_ne.2 (by omega), cond_false, decide_eq_false (show ¬ (ws.length : Int) > 6 by omega), cond_false, chk_dec (by omega)]
  simp only [Option.bind_some]
  rw [decide_eq_true (show (1 : Int) ≤ ((ws.getD 0 []).length : Int) ∧ ((ws.getD 0 []).length : Int) ≤ 6 by omega), Bool.not_true, cond_false, B31, if_pos hE, Option.bind_some]
  simp only [cond_false]
  rw [B34, if_pos hL, Option.bind_some, B33, if_pos h30]; rfl
 ·cases h⟩
def B23 (ws : List (List Int)) (n : Int) : Option Int := if okW ws = true ∧ (1 ≤ n ∧ n ≤ 6) then some 0 else none
theorem KB23 : FnOk Try.prog 23 (F23 B23) := ok23 B56 _ KB56 KB57 B23 fun ws n r h => ⟨0, by
 simp only [B23] at h
 split at h
 ·rename_i hs
  rw [← h, m23, B56, if_pos hs.1, Option.bind_some, beq_self_eq_true, cond_true]
  simp only [Option.bind_some]
  rw [decide_eq_true hs.2]; rfl
 ·cases h⟩
theorem rangeE (s n : Nat) : List.range' s (n + 1) = List.range' s n ++ [s + n] := by rw [List.range'_concat]; simp
def B65 (l : List Int) (k : Int) : Option (Int × Int) := if 0 ≤ k ∧ k < l.length then some (l.getD k.toNat 0, k) else none
theorem KB65 : FnOk Try.prog 65 (F65c B65) := ok65c B65 fun l k r h => ⟨0, by
 simp only [B65] at h
 split at h
 ·rename_i hk; rw [← h, m65c, chk_dec hk]
 ·cases h⟩
def colI (ws : List (List Int)) (k : Nat) : Int := (ws.map fun l => l.getD k 0).sum
def B64 (ws : List (List Int)) (k : Int) : Option (Int × Int) := if okW ws = true ∧ (0 ≤ k ∧ k < ws.length) then some (colI ws k.toNat, k) else none
theorem col_bd {ws : List (List Int)} {k : Nat} (h : ∀ l ∈ ws, k < l.length ∧ ∀ x ∈ l, 0 ≤ x ∧ x ≤ 30) : 0 ≤ (ws.map fun l => l.getD k 0).sum ∧ (ws.map fun l => l.getD k 0).sum ≤ 100000 * ws.length := by
 have := sum_bd (l := ws.map fun l => l.getD k 0) fun x hx => by
  obtain ⟨l, hl, rfl⟩ := List.mem_map.1 hx
  have := (h l hl).2 _ (getD_mem (d := 0) (h l hl).1)
  omega
 rwa [List.length_map] at this
theorem KB64 : FnOk Try.prog 64 (F64c65 B64) := ok64c65 B65 KB65 B64 fun ws k r h => ⟨101, by
 simp only [B64] at h
 split at h
 ·rename_i hh
  obtain ⟨hs, hk0⟩ := hh
  obtain ⟨h1, h2⟩ := okW_at hs
  obtain ⟨k, rfl⟩ : ∃ q : Nat, k = q := ⟨k.toNat, by omega⟩
  have hkl : ∀ l ∈ ws, k < l.length ∧ ∀ x ∈ l, 0 ≤ x ∧ x ≤ 30 := fun l hl => ⟨by have := (h2 l hl).1; omega, (h2 l hl).2⟩
  rw [← h, m64c65]
  refine countP' 0 (ws.length : Int) (by omega) (fun n (z : Int × Int) t => l64c65a B65 101 ws n z.1 t z.2) (fun t z => z = (((ws.take t.toNat).map fun l => l.getD k 0).sum, (k : Int))) (fun r => r = some (colI ws (k : Int).toNat, (k : Int))) (fun n z t a b hI ih => ?_) (fun n z hI => ?_) 101 (0, (k : Int)) (by omega) rfl
  ·subst hI
   obtain ⟨j, rfl⟩ : ∃ q : Nat, t = q := ⟨t.toNat, by omega⟩
   have hj : j < ws.length := by omega
   have e := ih _ rfl
   have hm := hkl _ (getD_mem (d := []) hj)
   have b1 := col_bd (ws := ws.take j) (k := k) fun l hl => hkl l (List.mem_of_mem_take hl)
   have b3 : (ws.take j).length ≤ 6 := by rw [List.length_take]; omega
   have b2 := hm.2 _ (getD_mem (d := 0) hm.1)
   rw [show ((j : Int) + 1).toNat = j + 1 by omega, take_succ' hj rfl, List.map_append, List.sum_append, List.map_cons, List.map_nil, List.sum_cons, List.sum_nil, Int.add_zero] at e
   simp only [l64c65a, ixA hj, ixB hj, cond_true, chk_true, Int.toNat_natCast]
   rw [B65, if_pos (by omega), Option.bind_some]
   simp only [Int.toNat_natCast]
   rw [w64_small (x := (j : Int) + 1) (by omega), w64_small (by omega)]
   exact e
  ·subst hI
   simp only [l64c65a, ixE, cond_false, Int.toNat_natCast, List.take_length, colI]
 ·cases h⟩
def rowS (ws : List (List Int)) : List Int := ws.map List.sum
def colS (ws : List (List Int)) : List Int := (List.range' 0 ws.length).map (colI ws)
def B25 (ws : List (List Int)) : Option (List Int × List Int) := if okW ws = true then some (rowS ws, colS ws) else none
theorem KB25 : FnOk Try.prog 25 (F25 B25) := ok25 B62 B64 KB62 KB64 B25 fun ws r h => ⟨101, by
 simp only [B25] at h
 split at h
 ·rename_i hs
  obtain ⟨h1, h2⟩ := okW_at hs
  have h0 : (ws.getD 0 []).length = ws.length := okW_len hs (by omega)
  rw [← h, m25]
  refine countP' 0 (ws.length : Int) (by omega) (fun n z t => l25a B62 B64 101 ws n t z) (fun t z => z = (ws.take t.toNat).map List.sum) (fun r => r = some (rowS ws, colS ws)) (fun n z t a b hI ih => ?_) (fun n z hI => ?_) 101 [] (by omega) rfl
  ·subst hI
   obtain ⟨k, rfl⟩ : ∃ q : Nat, t = q := ⟨t.toNat, by omega⟩
   have hk : k < ws.length := by omega
   have e := ih _ rfl
   have hm := h2 _ (getD_mem (d := []) hk)
   have hS : okS (ws.getD k []) = true := by
    simp only [okS, Bool.and_eq_true, decide_eq_true_eq, List.all_eq_true]
    exact ⟨by omega, fun x hx => by have := hm.2 x hx; omega⟩
   rw [show ((k : Int) + 1).toNat = k + 1 by omega, take_succ' hk rfl, List.map_append, List.map_cons, List.map_nil] at e
   have b3 : (ws.take k).length ≤ 6 := by rw [List.length_take]; omega
   simp only [l25a, ixA hk, ixB hk, cond_true, chk_true, Int.toNat_natCast]
   rw [B62, if_pos hS, Option.bind_some, chk_of (small_of (by rw [List.length_map]; omega) (by decide)), w64_small (x := (k : Int) + 1) (by omega)]
   exact e
  ·subst hI
   simp only [l25a, ixE, cond_false, Int.toNat_natCast, List.take_length]
   rw [chk_dec (by omega)]
   refine countP' 0 (ws.length : Int) (by omega) (fun n z t => l25b B62 B64 101 ws (ws.map List.sum) n t z) (fun t z => z = (List.range' 0 t.toNat).map (colI ws)) (fun r => r = some (rowS ws, colS ws)) (fun n z t a b hI ih => ?_) (fun n z hI => ?_) 101 [] (by omega) rfl
   ·subst hI
    obtain ⟨k, rfl⟩ : ∃ q : Nat, t = q := ⟨t.toNat, by omega⟩
    have hk : k < ws.length := by omega
    have e := ih _ rfl
    rw [show ((k : Int) + 1).toNat = k + 1 by omega, rangeE, List.map_append, Nat.zero_add, List.map_cons, List.map_nil] at e
    simp only [l25b, h0, ixA hk, cond_true, Int.toNat_natCast]
    rw [B64, if_pos ⟨hs, by omega⟩, Option.bind_some]
    simp only [Int.toNat_natCast]
    rw [chk_of (small_of (by rw [List.length_map, List.length_range']; omega) (by decide)), w64_small (x := (k : Int) + 1) (by omega)]
    exact e
   ·subst hI
    simp only [l25b, h0, ixE, cond_false, Int.toNat_natCast]
    rfl
 ·cases h⟩
def alike (l : List Int) (n : Int) : Bool := decide (l.length ≤ 1000) && l.all fun x => decide (x = n)
theorem alike_at {l : List Int} {n : Int} (h : alike l n = true) : l.length ≤ 1000 ∧ ∀ x ∈ l, x = n := by simpa [alike] using h
def allI (k : Nat) : List Int := (List.range' 0 k).map fun i => ((i : Nat) : Int)
def B26 (l : List Int) (n : Int) : Option (List Int) := if alike l n = true then some (allI l.length) else none
theorem KB26 : FnOk Try.prog 26 (F26 B26) := ok26 B26 fun l n r h => ⟨1001, by
 simp only [B26] at h
 split at h
 ·rename_i hs
  obtain ⟨h1, h2⟩ := alike_at hs
  rw [← h, m26]
  refine countP' 0 (l.length : Int) (by omega) (fun n' z t => l26a 1001 l n n' t z) (fun t z => z = allI t.toNat) (fun r => r = some (allI l.length)) (fun n' z t a b hI ih => ?_) (fun n' z hI => ?_) 1001 [] (by omega) rfl
  ·subst hI
   obtain ⟨k, rfl⟩ : ∃ q : Nat, t = q := ⟨t.toNat, by omega⟩
   have hk : k < l.length := by omega
   have e := ih _ rfl
   rw [show ((k : Int) + 1).toNat = k + 1 by omega, allI, rangeE, List.map_append, Nat.zero_add, List.map_cons, List.map_nil] at e
   simp only [l26a, ixA hk, ixB hk, cond_true, chk_true, Int.toNat_natCast]
   rw [h2 _ (getD_mem (d := 0) hk), beq_self_eq_true, cond_true, chk_of (small_of (by rw [allI, List.length_map, List.length_range']; omega) (by decide)), w64_small (x := (k : Int) + 1) (by omega)]
   exact e
  ·subst hI
   simp only [l26a, ixE, cond_false, Int.toNat_natCast]
 ·cases h⟩
def B24 (ws : List (List Int)) (n : Int) : Option (Int × List Int × List Int × Int × Int × Int) := if okW ws = true then some (n, rowS ws, colS ws, (ws.length : Int), (ws.length : Int), 1) else none
theorem KB24 : FnOk Try.prog 24 (F24 B24) := ok24 B25 KB25 B24 fun ws n r h => ⟨0, by
 simp only [B24] at h
 split at h
 ·rename_i hs
  rw [← h, m24, B25, if_pos hs, Option.bind_some, rowS, colS, List.length_map, List.length_map, List.length_range']
 ·cases h⟩
def evn (ws : List (List Int)) (s : Int) : Bool := (rowS ws).all (fun x => decide (x = s)) && (colS ws).all fun x => decide (x = s)
theorem evn_at {ws : List (List Int)} {s : Int} (h : evn ws s = true) : (∀ x ∈ rowS ws, x = s) ∧ ∀ x ∈ colS ws, x = s := by simpa [evn] using h
theorem sum_const {s : Int} : ∀ {l : List Int}, (∀ x ∈ l, x = s) → l.sum = l.length * s
 | [], _ => by simp
 | x :: r, h => by
  have h1 := h x (by simp)
  have h2 := sum_const (l := r) fun y hy => h y (by simp [hy])
  rw [List.sum_cons, h1, h2, List.length_cons, Int.natCast_add, Int.add_mul]
  omega
theorem upV_const {n s : Int} (h : 1 ≤ n ∧ n ≤ 6) : upV (n * s) n = s := by
 unfold upV
 obtain h | h | h | h | h | h : n = 1 ∨ n = 2 ∨ n = 3 ∨ n = 4 ∨ n = 5 ∨ n = 6 := by omega
 all_goals (subst h; omega)
theorem imax_self (s : Int) : imax s s = s := by unfold imax; split <;> omega
theorem imax_0 {s : Int} (h : 0 ≤ s) : imax 0 s = s := by unfold imax; split <;> omega
theorem okS_rows {ws : List (List Int)} (h : okW ws = true) : okS (rowS ws) = true ∧ (rowS ws).length = ws.length ∧ (colS ws).length = ws.length ∧ (∀ x ∈ rowS ws, 0 ≤ x ∧ x ≤ 180) := by
 obtain ⟨h1, h2⟩ := okW_at h
 have hb : ∀ x ∈ rowS ws, 0 ≤ x ∧ x ≤ 180 := fun x hx => by
  obtain ⟨l, hl, rfl⟩ := List.mem_map.1 hx
  have g := h2 l hl
  have : ∀ {l : List Int}, (∀ x ∈ l, 0 ≤ x ∧ x ≤ 30) → 0 ≤ l.sum ∧ l.sum ≤ 30 * l.length := fun {l} => by
   induction l with
   | nil => simp
   | cons y r ih =>
    intro hh
    have a1 := hh y (by simp)
    have a2 := ih fun z hz => hh z (by simp [hz])
    simp only [List.sum_cons, List.length_cons]; omega
  have := this g.2
  omega
 refine ⟨?_, by simp [rowS], by simp [colS], hb⟩
 simp only [okS, Bool.and_eq_true, decide_eq_true_eq, List.all_eq_true]
 exact ⟨by simp [rowS]; omega, fun x hx => by have := hb x hx; omega⟩
def C7 (ws : List (List Int)) (n : Int) : Option (Int × Int) := if okW ws = true ∧ n = ws.length ∧ evn ws ((rowS ws).getD 0 0) = true then some ((rowS ws).getD 0 0, 0) else none
theorem KB7 : FnOk Try.prog 7 (F7 C7) := ok7 B23 B24 B58 B58 B60 KB23 KB24 KB58 KB59 KB60 C7 fun ws n r h => ⟨21, by
 simp only [C7] at h
 split at h
 ·rename_i hh
  obtain ⟨hs, hn, he⟩ := hh
  subst hn
  obtain ⟨h1, h2⟩ := okW_at hs
  obtain ⟨g1, g2, g3, g4⟩ := okS_rows hs
  obtain ⟨e1, e2⟩ := evn_at he
  generalize hS : (rowS ws).getD 0 0 = s at *
  have hs0 : 0 ≤ s := by
   have := g4 _ (getD_mem (l := rowS ws) (i := 0) (d := 0) (by omega)); omega
  have hsum : upV (rowS ws).sum (ws.length : Int) = s := by
   rw [sum_const e1, g2]; exact upV_const (by omega)
  have gr : ∀ k, k < ws.length → (rowS ws).getD k 0 = s := fun k hk => e1 _ (getD_mem (by omega))
  have gc : ∀ k, k < ws.length → (colS ws).getD k 0 = s := fun k hk => e2 _ (getD_mem (by omega))
  rw [← h, m7, B23, if_pos ⟨hs, by omega⟩, Option.bind_some, show ((0 : Int) != 0) = false from rfl, cond_false, B24, if_pos hs, Option.bind_some]
  rw [l7a]
  refine countP' 0 (ws.length : Int) (by omega) (fun n' (z : Int × List Int) t => l7b B23 B24 B58 B58 B60 21 ((ws.length : Int), rowS ws, colS ws, (ws.length : Int), (ws.length : Int), 1) (fun y0 y1 y2 y3 => l7c B23 B24 B58 B58 B60 21 ((ws.length : Int), rowS ws, colS ws, (ws.length : Int), (ws.length : Int), 1) 20 y0 y1 y2 y3) n' z.1 t z.2 (colS ws) (ws.length : Int))
   (fun t z => z.2 = rowS ws ∧ (t = 0 → z.1 = 0) ∧ (0 < t → z.1 = s)) (fun r => r = some (s, 0)) (fun n' z t a b hI ih => ?_) (fun n' z hI => ?_) 21 (0, rowS ws) (by omega) ⟨rfl, fun _ => rfl, fun h => by omega⟩
  ·obtain ⟨z1, z2⟩ := z
   obtain ⟨i1, i2, i3⟩ := hI
   simp only at i1 i2 i3
   subst i1
   obtain ⟨k, rfl⟩ : ∃ q : Nat, t = q := ⟨t.toNat, by omega⟩
   have hk : k < ws.length := by omega
   have em : imax z1 s = s := by
    by_cases q : k = 0
    ·rw [i2 (by omega)]; exact imax_0 hs0
    ·rw [i3 (by omega)]; exact imax_self s
   have e := ih (s, rowS ws) ⟨rfl, fun h => by omega, fun _ => rfl⟩
   simp only [l7b, ixA hk, cond_true]
   rw [B58, if_pos (by omega), Option.bind_some]
   simp only [Int.toNat_natCast]
   rw [gr k hk, em, w64_small (x := (k : Int) + 1) (by omega)]
   exact e
  ·obtain ⟨z1, z2⟩ := z
   obtain ⟨i1, i2, i3⟩ := hI
   simp only at i1 i2 i3
   subst i1
   obtain rfl := i3 (by omega)
   simp only [l7b, ixE, cond_false]
   rw [l7c]
   refine countP' 0 (ws.length : Int) (by omega) (fun n' (z : Int × List Int) t => l7d B23 B24 B58 B58 B60 21 ((ws.length : Int), rowS ws, colS ws, (ws.length : Int), (ws.length : Int), 1) (fun y0 y1 y2 y3 => l7e B23 B24 B58 B58 B60 21 ((ws.length : Int), rowS ws, colS ws, (ws.length : Int), (ws.length : Int), 1) 19 y0 y1 y2 y3) n' z.1 t (rowS ws) z.2 (ws.length : Int))
    (fun t z => z = (z1, colS ws)) (fun r => r = some (z1, 0)) (fun n' z t a b hI ih => ?_) (fun n' z hI => ?_) 21 (z1, colS ws) (by omega) rfl
   ·subst hI
    obtain ⟨k, rfl⟩ : ∃ q : Nat, t = q := ⟨t.toNat, by omega⟩
    have hk : k < ws.length := by omega
    have e := ih _ rfl
    simp only [l7d, ixA hk, cond_true]
    rw [B58, if_pos (by omega), Option.bind_some]
    simp only [Int.toNat_natCast]
    rw [gc k hk, imax_self, w64_small (x := (k : Int) + 1) (by omega)]
    exact e
   ·subst hI
    simp only [l7d, ixE, cond_false]
    rw [l7e, l7f]
    simp only [show decide ((0 : Int) < 1) = true from rfl, cond_true]
    rw [B60, if_pos ⟨g1, by omega⟩, Option.bind_some]
    simp only [hsum, imax_self]
    rw [show w64 (0 + 1) = 1 from by rw [w64_small (by omega)]; rfl, l7f]
    simp only [show decide ((1 : Int) < 1) = false from rfl, cond_false]
    rw [l7g]
 ·cases h⟩
def B8 (ws : List (List Int)) (n : Int) : Option (List Int × List Int × Int) := if okW ws = true ∧ n = ws.length ∧ evn ws ((rowS ws).getD 0 0) = true then some (allI ws.length, allI ws.length, 0) else none
theorem KB8 : FnOk Try.prog 8 (F8 B8) := ok8 B25 B26 C7 KB25 KB26 KB7 B8 fun ws n r h => ⟨0, by
 simp only [B8] at h
 split at h
 ·rename_i hh
  obtain ⟨h1, h2⟩ := okW_at hh.1
  obtain ⟨g1, g2, g3, g4⟩ := okS_rows hh.1
  obtain ⟨e1, e2⟩ := evn_at hh.2.2
  have a1 : alike (rowS ws) ((rowS ws).getD 0 0) = true := by
   simp only [alike, Bool.and_eq_true, decide_eq_true_eq, List.all_eq_true]; exact ⟨by omega, e1⟩
  have a2 : alike (colS ws) ((rowS ws).getD 0 0) = true := by
   simp only [alike, Bool.and_eq_true, decide_eq_true_eq, List.all_eq_true]; exact ⟨by omega, e2⟩
  rw [← h, m8, C7, if_pos hh, Option.bind_some]
  simp only [show ((0 : Int) != 0) = false from rfl, cond_false]
  rw [B25, if_pos hh.1, Option.bind_some]
  simp only [B26, a1, a2, if_true, Option.bind_some, g2, g3]
 ·cases h⟩
theorem tmod_emod {a b : Int} (ha : 0 ≤ a) : Int.tmod a b = a % b := Int.tmod_eq_emod_of_nonneg ha
theorem rm_perm {l out : List Int} {i : Nat} (hi : i < l.length) : (out ++ [l.getD i 0] ++ (l.take i ++ l.drop (i + 1))).Perm (out ++ l) := by
 rw [List.append_assoc]
 refine List.Perm.append_left out ?_
 have e : l = l.take i ++ l.getD i 0 :: l.drop (i + 1) := by
  rw [getD_at hi, ← List.drop_eq_getElem_cons hi, List.take_append_drop]
 conv => rhs; rw [e]
 show (l.getD i 0 :: (l.take i ++ l.drop (i + 1))).Perm _
 exact List.perm_middle.symm
theorem l6b_ok {q base : List Int} (hq : q.length ≤ 100 ∧ ∀ x ∈ q, 0 ≤ x ∧ x ≤ 255) (hbase : base.length ≤ 100) : ∀ (m fuel k : Nat) (left out : List Int), left.length = m → m < fuel → k + m ≤ 200 → (out ++ left).Perm base →
  ∃ p, l6b 60 q fuel (k : Int) left out = some p ∧ p.Perm base
 | 0, fuel + 1, k, left, out, hl, _, _, hp => by
  obtain rfl := List.eq_nil_of_length_eq_zero hl
  rw [List.append_nil] at hp
  exact ⟨out, rfl, hp⟩
 | m + 1, fuel + 1, k, left, out, hl, hf, hkm, hp => by
  have hlen : out.length + left.length ≤ 100 := by have := hp.length_eq; rw [List.length_append] at this; omega
  have key : ∀ i, i < left.length → ∃ p, l6b 60 q fuel ((k : Int) + 1) (left.take i ++ left.drop (i + 1)) (out ++ [left.getD i 0]) = some p ∧ p.Perm base := fun i hi => by
   have := l6b_ok hq hbase m fuel (k + 1) (left.take i ++ left.drop (i + 1)) (out ++ [left.getD i 0]) (by rw [List.length_append, List.length_take, List.length_drop]; omega) (by omega) (by omega) ((rm_perm hi).trans hp)
   rwa [show ((k + 1 : Nat) : Int) = (k : Int) + 1 by omega] at this
  rw [l6b, decide_eq_true (show (left.length : Int) > 0 by omega), cond_true]
  by_cases hk : k < q.length
  ·have hx := hq.2 _ (getD_mem (d := 0) hk)
   have hpos : (0 : Int) < (left.length : Int) := by omega
   obtain ⟨i, hi, eI⟩ : ∃ i : Nat, i < left.length ∧ Int.tmod (w64 (q.getD k 0)) (left.length : Int) = (i : Int) := by
    refine ⟨(q.getD k 0 % (left.length : Int)).toNat, ?_, ?_⟩
    ·have := Int.emod_lt_of_pos (q.getD k 0) hpos; omega
    ·rw [w64_small (by omega), tmod_emod hx.1]
     have := Int.emod_nonneg (q.getD k 0) (show (left.length : Int) ≠ 0 by omega); omega
   have hw : w64 ((i : Int) + 1) = (i : Int) + 1 := w64_small (by omega)
   simp only [ixA hk, ixB hk, cond_true, chk_true, Int.toNat_natCast, eI, hw, show ((i : Int) + 1).toNat = i + 1 by omega, List.drop_zero, List.nil_append, List.take_length]
   rw [chk_dec (by omega), chk_dec (by omega), chk_of (small_of (by omega) (by decide)), chk_dec (by omega), chk_of (small_of (by rw [List.length_take]; omega) (by decide)), chk_dec (by omega), chk_of (small_of (by rw [List.length_take, List.length_drop]; omega) (by decide)), w64_small (x := (k : Int) + 1) (by omega)]
   exact key i hi
  ·have h0 := key 0 (by omega)
   rw [decide_eq_false (show ¬ (k : Int) < (q.length : Int) by omega), cond_false]
   simp only [List.drop_zero, List.nil_append, List.take_length, List.take_zero, List.length_nil] at h0 ⊢
   rw [chk_dec (by omega), chk_of (small_of (by omega) (by decide)), chk_dec (by omega), chk_of (small_of (by omega) (by decide)), chk_dec (by omega), chk_of (small_of (by rw [List.length_drop]; omega) (by decide)), w64_small (x := (k : Int) + 1) (by omega)]
   exact h0
def B6 (n : Int) (q : List Int) : Option (List Int) := m6 60 n q
theorem KB6 : FnOk Try.prog 6 (F6 B6) := ok6 B6 fun n q r h => ⟨60, h⟩
theorem B6_ok {n : Nat} {q : List Int} (hn : n ≤ 6) (hq : q.length ≤ 100 ∧ ∀ x ∈ q, 0 ≤ x ∧ x ≤ 255) : ∃ p, B6 n q = some p ∧ p.Perm (allI n) := by
 rw [B6, m6]
 refine countP' 0 (n : Int) (by omega) (fun n' z t => l6a 60 (n : Int) q n' t z) (fun t z => z = allI t.toNat) (fun r => ∃ p, r = some p ∧ p.Perm (allI n)) (fun n' z t a b hI ih => ?_) (fun n' z hI => ?_) 60 [] (by omega) rfl
 ·subst hI
  obtain ⟨k, rfl⟩ : ∃ q : Nat, t = q := ⟨t.toNat, by omega⟩
  have hk : k < n := by omega
  have e := ih _ rfl
  rw [show ((k : Int) + 1).toNat = k + 1 by omega, allI, rangeE, List.map_append, Nat.zero_add, List.map_cons, List.map_nil] at e
  simp only [l6a, ixA hk, cond_true, Int.toNat_natCast]
  rw [chk_of (small_of (by rw [allI, List.length_map, List.length_range']; omega) (by decide)), w64_small (x := (k : Int) + 1) (by omega)]
  exact e
 ·subst hI
  simp only [l6a, ixE, cond_false, Int.toNat_natCast]
  have hl : (allI n).length = n := by simp [allI]
  exact l6b_ok hq (by omega) n 60 0 (allI n) [] hl (by omega) (by omega) (.refl _)
def sm : Nat → (Nat → Int) → Int
 | 0, _ => 0
 | n + 1, f => sm n f + f n
theorem sm_congr : ∀ {n : Nat} {f g : Nat → Int}, (∀ i, i < n → f i = g i) → sm n f = sm n g
 | 0, _, _, _ => rfl
 | n + 1, f, g, h => by rw [sm, sm, sm_congr fun i hi => h i (by omega), h n (by omega)]
theorem sm_add (f g : Nat → Int) : ∀ n, sm n (fun i => f i + g i) = sm n f + sm n g
 | 0 => rfl
 | n + 1 => by simp only [sm]; rw [sm_add f g n]; omega
theorem sm_zero : ∀ n, sm n (fun _ => 0) = 0
 | 0 => rfl
 | n + 1 => by simp only [sm]; rw [sm_zero n]; omega
theorem sm_swap (f : Nat → Nat → Int) (m : Nat) : ∀ n, sm n (fun i => sm m fun j => f i j) = sm m fun j => sm n fun i => f i j
 | 0 => (sm_zero m).symm
 | n + 1 => by simp only [sm]; rw [sm_swap f m n, sm_add]
theorem sm_mul (s : Int) (f : Nat → Int) : ∀ n, sm n (fun i => s * f i) = s * sm n f
 | 0 => by simp [sm]
 | n + 1 => by simp only [sm]; rw [sm_mul s f n, Int.mul_add]
theorem sm_nn : ∀ {n : Nat} {f : Nat → Int}, (∀ i, i < n → 0 ≤ f i) → 0 ≤ sm n f
 | 0, _, _ => Int.le_refl _
 | n + 1, f, h => by have := sm_nn (n := n) fun i hi => h i (by omega); have := h n (by omega); simp only [sm]; omega
theorem sm_le : ∀ {n : Nat} {f : Nat → Int}, (∀ i, i < n → 0 ≤ f i) → ∀ i, i < n → f i ≤ sm n f
 | 0, _, _, i, hi => by omega
 | n + 1, f, h, i, hi => by
  have a := sm_nn (n := n) fun i hi => h i (by omega)
  have b := h n (by omega)
  simp only [sm]
  by_cases e : i = n
  ·subst e; omega
  ·have := sm_le (n := n) (fun i hi => h i (by omega)) i (by omega); omega
theorem sm_two {n : Nat} {f : Nat → Int} (h : ∀ i, i < n → 0 ≤ f i) : ∀ {i j : Nat}, i < n → j < n → i ≠ j → f i + f j ≤ sm n f := by
 induction n with
 | zero => intro i j hi; omega
 | succ n ih =>
  intro i j hi hj hne
  have b := h n (by omega)
  simp only [sm]
  by_cases e : i = n
  ·subst e; have := sm_le (n := i) (fun k hk => h k (by omega)) j (by omega); omega
  ·by_cases e2 : j = n
   ·subst e2; have := sm_le (n := j) (fun k hk => h k (by omega)) i (by omega); omega
   ·have := ih (fun k hk => h k (by omega)) (i := i) (j := j) (by omega) (by omega) hne; omega
theorem sm_one {n : Nat} (x : Int) {k : Nat} : sm n (fun i => if i = k then x else 0) = if k < n then x else 0 := by
 induction n with
 | zero => rfl
 | succ n ih =>
  simp only [sm, ih]
  by_cases e : n = k
  ·subst e; simp
  ·rw [if_neg e]
   by_cases q : k < n
   ·rw [if_pos q, if_pos (by omega)]; omega
   ·rw [if_neg q, if_neg (by omega)]; omega
def ind (b : Bool) : Int := cond b 1 0
theorem bridge {n : Nat} {h : Nat → Nat → Int} {s : Int} (hnn : ∀ r c, r < n → c < n → 0 ≤ h r c) (hr : ∀ r, r < n → sm n (h r) = s) (hc : ∀ c, c < n → sm n (fun r => h r c) = s) {R C : Nat → Bool} {r0 c0 : Nat} (hr0 : r0 < n) (hc0 : c0 < n)
  (hR : R r0 = true) (hC : C c0 = false) (hpos : 0 < h r0 c0) (hin : ∀ r c, r < n → c < n → ¬ (r = r0 ∧ c = c0) → h r c ≠ 0 → R r = C c) : h r0 c0 = s := by
 have e1 : sm n (fun r => sm n fun c => ind (R r) * h r c) = s * sm n fun r => ind (R r) := by
  rw [← sm_mul]
  refine sm_congr fun r h1 => ?_
  rw [sm_mul, show sm n (fun c => h r c) = s from hr r h1, Int.mul_comm]
 have e2 : sm n (fun r => sm n fun c => ind (C c) * h r c) = s * sm n fun c => ind (C c) := by
  rw [sm_swap, ← sm_mul]
  refine sm_congr fun c h1 => ?_
  rw [sm_mul, hc c h1, Int.mul_comm]
 have e3 : sm n (fun r => sm n fun c => ind (R r) * h r c) = sm n (fun r => sm n fun c => ind (C c) * h r c) + h r0 c0 := by
  have : sm n (fun r => sm n fun c => ind (R r) * h r c) = sm n (fun r => sm n (fun c => ind (C c) * h r c) + if r = r0 then h r0 c0 else 0) := sm_congr fun r h1 => by
   have key : sm n (fun c => ind (R r) * h r c) = sm n (fun c => ind (C c) * h r c + if c = c0 then (if r = r0 then h r0 c0 else 0) else 0) := sm_congr fun c h2 => by
    by_cases q : r = r0 ∧ c = c0
    ·obtain ⟨rfl, rfl⟩ := q
     rw [if_pos rfl, if_pos rfl, hR, hC]; simp [ind]
    ·have z : (if c = c0 then (if r = r0 then h r0 c0 else 0) else 0) = 0 := by
      by_cases a : c = c0
      ·rw [if_pos a, if_neg (fun b => q ⟨b, a⟩)]
      ·rw [if_neg a]
     rw [z, Int.add_zero]
     by_cases y : h r c = 0
     ·rw [y, Int.mul_zero, Int.mul_zero]
     ·rw [hin r c h1 h2 q y]
   rw [key, sm_add, sm_one, if_pos hc0]
  rw [this, sm_add, sm_one, if_pos hr0]
 have hle : h r0 c0 ≤ s := by rw [← hr r0 hr0]; exact sm_le (fun c h1 => hnn r0 c hr0 h1) c0 hc0
 rw [e1, e2] at e3
 have e4 : s * (sm n (fun r => ind (R r)) - sm n fun c => ind (C c)) = h r0 c0 := by rw [Int.mul_sub]; omega
 generalize sm n (fun r => ind (R r)) - sm n (fun c => ind (C c)) = d at e4
 have hs : 0 < s := by omega
 have hd : 0 < d := by
  by_cases q : 0 < d
  ·exact q
  ·have := Int.mul_nonpos_of_nonneg_of_nonpos (a := s) (b := d) (by omega) (by omega); omega
 have : s * 1 ≤ s * d := Int.mul_le_mul_of_nonneg_left (by omega) (by omega)
 omega
theorem alone {n : Nat} {h : Nat → Nat → Int} {s : Int} (hnn : ∀ r c, r < n → c < n → 0 ≤ h r c) (hr : ∀ r, r < n → sm n (h r) = s) (hc : ∀ c, c < n → sm n (fun r => h r c) = s) {r0 c0 : Nat} (hr0 : r0 < n) (hc0 : c0 < n) (h0 : h r0 c0 = s) :
  (∀ c, c < n → c ≠ c0 → h r0 c = 0) ∧ ∀ r, r < n → r ≠ r0 → h r c0 = 0 := by
 refine ⟨fun c h1 h2 => ?_, fun r h1 h2 => ?_⟩
 ·have a := sm_two (n := n) (f := h r0) (fun c hc' => hnn r0 c hr0 hc') hc0 h1 (Ne.symm h2)
  rw [hr r0 hr0] at a
  have := hnn r0 c hr0 h1; omega
 ·have a := sm_two (n := n) (f := fun r => h r c0) (fun r hr' => hnn r c0 hr' hc0) hr0 h1 (Ne.symm h2)
  rw [hc c0 hc0] at a
  have := hnn r c0 h1 hc0
  omega
def psF : Nat → List Nat → Nat → Nat
 | _, [], s => s
 | k, a :: r, s => psF (k + 1) r (cond (s.testBit k) (s ||| a) s)
def itr (ar : List Nat) : Nat → Nat → Nat
 | 0, s => s
 | n + 1, s => itr ar n (psF 0 ar s)
def frN (ar : List Nat) (i : Nat) : Nat := itr ar ar.length (2 ^ i)
abbrev Sub (s t : Nat) : Prop := ∀ j, s.testBit j = true → t.testBit j = true
theorem sub_or (s a : Nat) : Sub s (s ||| a) := fun j h => by rw [Nat.testBit_or, h, Bool.true_or]
theorem psF_sub : ∀ (r : List Nat) (k s : Nat), Sub s (psF k r s)
 | [], _, _, _, h => h
 | a :: r, k, s, j, h => by
  rw [psF]
  refine psF_sub r (k + 1) _ j ?_
  cases s.testBit k with
  | true => exact sub_or s a j h
  | false => exact h
theorem psF_min {T : Nat → Prop} : ∀ (r : List Nat) (k s : Nat), (∀ i, i < r.length → T (k + i) → ∀ j, (r.getD i 0).testBit j = true → T j) → (∀ j, s.testBit j = true → T j) → ∀ j, (psF k r s).testBit j = true → T j
 | [], _, _, _, hs, j, h => hs j h
 | a :: r, k, s, hc, hs, j, h => by
  rw [psF] at h
  refine psF_min r (k + 1) _ (fun i hi ht => ?_) ?_ j h
  ·have := hc (i + 1) (by simp only [List.length_cons]; omega) (by rwa [show k + (i + 1) = k + 1 + i by omega])
   simpa using this
  ·intro j hj
   cases e : s.testBit k with
   | false => rw [e, cond_false] at hj; exact hs j hj
   | true =>
    rw [e, cond_true, Nat.testBit_or, Bool.or_eq_true] at hj
    rcases hj with hj | hj
    ·exact hs j hj
    ·have := hc 0 (by simp) (hs k e)
     exact this j (by simpa using hj)
theorem psF_step : ∀ (r : List Nat) (k s i : Nat), i < r.length → s.testBit (k + i) = true → Sub (r.getD i 0) (psF k r s)
 | a :: r, k, s, 0, _, h, j, hj => by
  rw [psF]
  refine psF_sub r (k + 1) _ j ?_
  have h : s.testBit k = true := h
  rw [h, cond_true, Nat.testBit_or]
  have hj : a.testBit j = true := by simpa using hj
  rw [hj, Bool.or_true]
 | a :: r, k, s, i + 1, hi, h, j, hj => by
  rw [psF]
  refine psF_step r (k + 1) _ i (by simp only [List.length_cons] at hi; omega) ?_ j (by simpa using hj)
  rw [show k + 1 + i = k + (i + 1) by omega]
  cases s.testBit k with
  | true => exact sub_or s a _ h
  | false => exact h
theorem psF_lt {m : Nat} : ∀ (r : List Nat) (k s : Nat), (∀ a ∈ r, a < 2 ^ m) → s < 2 ^ m → psF k r s < 2 ^ m
 | [], _, _, _, h => h
 | a :: r, k, s, hr, h => by
  rw [psF]
  refine psF_lt r (k + 1) _ (fun b hb => hr b (by simp [hb])) ?_
  cases s.testBit k with
  | true => exact Nat.or_lt_two_pow h (hr a (by simp))
  | false => exact h
def cnt : Nat → Nat → Nat
 | 0, _ => 0
 | m + 1, s => cnt m s + (s.testBit m).toNat
theorem cnt_le : ∀ (m s : Nat), cnt m s ≤ m
  | 0, _ => Nat.le_refl _
  | m + 1, s => by have := cnt_le m s; have : (s.testBit m).toNat ≤ 1 := by cases s.testBit m <;> decide
                   simp only [cnt]; omega
theorem bit_sub {s t : Nat} (h : Sub s t) (m : Nat) : (s.testBit m).toNat ≤ (t.testBit m).toNat := by
 cases e : s.testBit m with
 | false => exact Nat.zero_le _
 | true => rw [h m e]; exact Nat.le_refl _
theorem cnt_mono {s t : Nat} (h : Sub s t) : ∀ m, cnt m s ≤ cnt m t
 | 0 => Nat.le_refl _
 | m + 1 => by have := cnt_mono h m; have := bit_sub h m; simp only [cnt]; omega
theorem cnt_more {s t : Nat} (h : Sub s t) {j : Nat} (h1 : s.testBit j = false) (h2 : t.testBit j = true) : ∀ m, j < m → cnt m s < cnt m t
 | 0, hj => by omega
 | m + 1, hj => by
  simp only [cnt]
  by_cases e : j = m
  ·subst e
   have := cnt_mono h j
   rw [h1, h2]; simp only [Bool.toNat_false, Bool.toNat_true]; omega
  ·have := cnt_more h h1 h2 m (by omega); have := bit_sub h m; omega
theorem sub_more {s t m : Nat} (h : Sub s t) (ht : t < 2 ^ m) (hne : t ≠ s) : cnt m s < cnt m t := by
 obtain ⟨j, hj⟩ : ∃ j, s.testBit j ≠ t.testBit j := by
  apply Classical.byContradiction
  intro hc
  refine hne (Nat.eq_of_testBit_eq fun j => ?_)
  apply Classical.byContradiction
  intro hj
  exact hc ⟨j, Ne.symm hj⟩
 have h1 : s.testBit j = false := by
  cases e : s.testBit j with
  | false => rfl
  | true => rw [e, h j e] at hj; exact absurd rfl hj
 have h2 : t.testBit j = true := by
  cases e : t.testBit j with
  | true => rfl
  | false => rw [e, h1] at hj; exact absurd rfl hj
 refine cnt_more h h1 h2 m ?_
 apply Classical.byContradiction
 intro hm
 have := Nat.testBit_lt_two_pow (x := t) (i := j) (Nat.lt_of_lt_of_le ht (Nat.pow_le_pow_right (by decide) (by omega)))
 rw [this] at h2; cases h2
theorem itr_fix (ar : List Nat) : ∀ (n s : Nat), psF 0 ar s = s → itr ar n s = s
 | 0, _, _ => rfl
 | n + 1, s, h => by rw [itr, h]; exact itr_fix ar n s h
theorem itr_ok {ar : List Nat} {m : Nat} (hb : ∀ a ∈ ar, a < 2 ^ m) : ∀ (n s : Nat), s < 2 ^ m → m ≤ n + cnt m s → psF 0 ar (itr ar n s) = itr ar n s
 | 0, s, hs, hn => by
  rw [itr]
  apply Classical.byContradiction
  intro hne
  have := sub_more (psF_sub ar 0 s) (psF_lt ar 0 s hb hs) hne
  have := cnt_le m (psF 0 ar s)
  omega
 | n + 1, s, hs, hn => by
  rw [itr]
  by_cases e : psF 0 ar s = s
  ·rw [e, itr_fix ar n s e, e]
  ·have := sub_more (psF_sub ar 0 s) (psF_lt ar 0 s hb hs) e
   exact itr_ok hb n _ (psF_lt ar 0 s hb hs) (by omega)
theorem itr_sub (ar : List Nat) : ∀ (n s : Nat), Sub s (itr ar n s)
 | 0, _, _, h => h
 | n + 1, s, j, h => itr_sub ar n _ j (psF_sub ar 0 s j h)
theorem itr_lt {ar : List Nat} {m : Nat} (hb : ∀ a ∈ ar, a < 2 ^ m) : ∀ (n s : Nat), s < 2 ^ m → itr ar n s < 2 ^ m
 | 0, _, h => h
 | n + 1, s, h => itr_lt hb n _ (psF_lt ar 0 s hb h)
theorem itr_min {T : Nat → Prop} {ar : List Nat} (hc : ∀ i, i < ar.length → T i → ∀ j, (ar.getD i 0).testBit j = true → T j) : ∀ (n s : Nat), (∀ j, s.testBit j = true → T j) → ∀ j, (itr ar n s).testBit j = true → T j
 | 0, _, hs, j, h => hs j h
 | n + 1, s, hs, j, h => itr_min hc n _ (psF_min ar 0 s (fun i hi ht => hc i hi (by rwa [Nat.zero_add] at ht)) hs) j h
def okA (ar : List Nat) : Prop := ∀ a ∈ ar, a < 2 ^ ar.length
theorem fr_lt {ar : List Nat} (h : okA ar) {i : Nat} (hi : i < ar.length) : frN ar i < 2 ^ ar.length := itr_lt h _ _ (Nat.pow_lt_pow_right (by decide) hi)
theorem fr_self (ar : List Nat) (i : Nat) : (frN ar i).testBit i = true := itr_sub ar _ _ i (Nat.testBit_two_pow_self)
theorem fr_closed {ar : List Nat} (h : okA ar) {i k j : Nat} (hi : i < ar.length) (hk : k < ar.length) (h1 : (frN ar i).testBit k = true) (h2 : (ar.getD k 0).testBit j = true) : (frN ar i).testBit j = true := by
 have e := itr_ok h ar.length (2 ^ i) (Nat.pow_lt_pow_right (by decide) hi) (by omega)
 rw [frN, ← e]
 exact psF_step ar 0 _ k hk (by rw [Nat.zero_add]; exact h1) j h2
theorem fr_min {T : Nat → Prop} {ar : List Nat} {i : Nat} (hc : ∀ i, i < ar.length → T i → ∀ j, (ar.getD i 0).testBit j = true → T j) (hi : T i) {j : Nat} (h : (frN ar i).testBit j = true) : T j :=
 itr_min hc _ _ (fun k hk => by rw [Nat.testBit_two_pow, decide_eq_true_eq] at hk; rwa [← hk]) j h
theorem bit_lt {s m j : Nat} (h : s < 2 ^ m) (hj : s.testBit j = true) : j < m := by
 apply Classical.byContradiction
 intro hm
 have := Nat.testBit_lt_two_pow (x := s) (i := j) (Nat.lt_of_lt_of_le h (Nat.pow_le_pow_right (by decide) (by omega)))
 rw [this] at hj; cases hj
def symA (ar : List Nat) : Prop := ∀ k, k < ar.length → ∀ j, j < ar.length → (ar.getD k 0).testBit j = (ar.getD j 0).testBit k
theorem fr_sym {ar : List Nat} (h : okA ar) (hs : symA ar) {i j : Nat} (hi : i < ar.length) (hj : (frN ar i).testBit j = true) : (frN ar j).testBit i = true := by
 have key : j < ar.length ∧ (frN ar j).testBit i = true := fr_min (T := fun x => x < ar.length ∧ (frN ar x).testBit i = true) (fun k hk hT l hl => by
  have hl2 : l < ar.length := bit_lt (h _ (List.getElem_mem hk)) (by rwa [List.getD_eq_getElem?_getD, List.getElem?_eq_getElem hk] at hl)
  refine ⟨hl2, ?_⟩
  have b : (ar.getD l 0).testBit k = true := by rw [← hs k hk l hl2]; exact hl
  have c : (frN ar l).testBit k = true := fr_closed h hl2 hl2 (fr_self ar l) b
  exact fr_min (T := fun x => (frN ar l).testBit x = true) (fun q hq hT' z hz => fr_closed h hl2 hq hT' hz) c hT.2) ⟨hi, fr_self ar i⟩ hj
 exact key.2
theorem all_bits {s m : Nat} (hs : s < 2 ^ m) : s = 2 ^ m - 1 ↔ ∀ j, j < m → s.testBit j = true := by
 constructor
 ·intro h j hj; rw [h, Nat.testBit_two_pow_sub_one, decide_eq_true hj]
 ·intro h
  refine Nat.eq_of_testBit_eq fun j => ?_
  rw [Nat.testBit_two_pow_sub_one]
  by_cases hj : j < m
  ·rw [h j hj, decide_eq_true hj]
  ·rw [decide_eq_false hj]
   cases e : s.testBit j with
   | false => rfl
   | true => exact absurd (bit_lt hs e) hj
abbrev Bz := Int × Int × Int × Unit
abbrev Rk := Int × Int × List Bz × Unit
def okB (n : Int) (b : Bz) : Bool := decide (0 ≤ b.1 ∧ b.1 < n) && decide (0 ≤ b.2.1 ∧ b.2.1 < n) && decide (b.2.2.1 = 0)
theorem okB_at {n : Int} {b : Bz} (h : okB n b = true) : (0 ≤ b.1 ∧ b.1 < n) ∧ (0 ≤ b.2.1 ∧ b.2.1 < n) ∧ b.2.2.1 = 0 := by
 simp only [okB, Bool.and_eq_true, decide_eq_true_eq] at h; exact ⟨h.1.1, h.1.2, h.2⟩
def okR (r : Rk) : Bool := decide (1 ≤ r.1 ∧ r.1 ≤ 6) && decide (r.2.1 = r.1) && decide (r.2.2.1.length ≤ 24) && r.2.2.1.all (okB r.1)
theorem okR_at {r : Rk} (h : okR r = true) : (1 ≤ r.1 ∧ r.1 ≤ 6) ∧ r.2.1 = r.1 ∧ r.2.2.1.length ≤ 24 ∧ ∀ b ∈ r.2.2.1, okB r.1 b = true := by
 simp only [okR, Bool.and_eq_true, decide_eq_true_eq, List.all_eq_true] at h; exact ⟨h.1.1.1, h.1.1.2, h.1.2, h.2⟩
def B27 (r : Rk) : Option Int := if okR r = true then some 0 else none
theorem KB27 : FnOk Try.prog 27 (F27 B27) := ok27 _ KB41 B27 fun r x h => ⟨25, by
 simp only [B27] at h
 split at h
 ·rename_i hs
  obtain ⟨h1, h2, h3, h4⟩ := okR_at hs
  rw [← h, m27]
  simp only [Option.bind_some, h2]
  rw [decide_eq_true (show (1 : Int) ≤ r.1 ∧ r.1 ≤ 6 from h1), Bool.not_true, cond_false, decide_eq_false (show ¬ (r.2.2.1.length : Int) > 24 by omega)]
  simp only [cond_false]
  refine countP' 0 (r.2.2.1.length : Int) (by omega) (fun n (_ : Unit) t => l27a (fun lo n hi => some (decide (lo ≤ n ∧ n ≤ hi))) 25 r n t) (fun _ _ => True) (fun x => x = some 0) (fun n o t a b hI ih => ?_) (fun n o hI => ?_) 25 () (by omega) trivial
  ·obtain ⟨k, rfl⟩ : ∃ q : Nat, t = q := ⟨t.toNat, by omega⟩
   have hk : k < r.2.2.1.length := by omega
   have e := ih () trivial
   obtain ⟨b1, b2, b3⟩ := okB_at (h4 _ (getD_mem (d := (0, 0, 0, ())) hk))
   have hw : w64 (r.1 - 1) = r.1 - 1 := w64_small (by omega)
   simp only [l27a, ixA hk, ixB hk, cond_true, chk_true, Int.toNat_natCast, Option.bind_some, h2, hw, b3]
   rw [decide_eq_true (show (0 : Int) ≤ (r.2.2.1.getD k (0, 0, 0, ())).1 ∧ (r.2.2.1.getD k (0, 0, 0, ())).1 ≤ r.1 - 1 by omega), decide_eq_true (show (0 : Int) ≤ (r.2.2.1.getD k (0, 0, 0, ())).2.1 ∧ (r.2.2.1.getD k (0, 0, 0, ())).2.1 ≤ r.1 - 1 by omega), w64_small (x := (k : Int) + 1) (by omega)]
   exact e
  ·simp only [l27a, ixE, cond_false]
 ·cases h⟩
theorem wrap_u16 {n : Nat} (h : n < 65536) : IntKind.wrap .u16 (n : Int) = n := by simp [IntKind.wrap, IntKind.bits, IntKind.signed]; omega
theorem or_bits (k a b : Nat) (ha : a < 2 ^ k) (hb : b < 2 ^ k) : ((BitVec.ofInt k (a : Int)) ||| (BitVec.ofInt k (b : Int))).toNat = a ||| b := by
 rw [BitVec.ofInt_natCast, BitVec.ofInt_natCast, BitVec.toNat_or, BitVec.toNat_ofNat, BitVec.toNat_ofNat, Nat.mod_eq_of_lt ha, Nat.mod_eq_of_lt hb]
theorem and_bits (k a b : Nat) (ha : a < 2 ^ k) (hb : b < 2 ^ k) : ((BitVec.ofInt k (a : Int)) &&& (BitVec.ofInt k (b : Int))).toNat = a &&& b := by
 rw [BitVec.ofInt_natCast, BitVec.ofInt_natCast, BitVec.toNat_and, BitVec.toNat_ofNat, BitVec.toNat_ofNat, Nat.mod_eq_of_lt ha, Nat.mod_eq_of_lt hb]
theorem bOr_u16 {a b : Nat} (ha : a < 65536) (hb : b < 65536) : bOr .u16 (a : Int) (b : Int) = ((a ||| b : Nat) : Int) := by
 have h : a ||| b < 65536 := Nat.or_lt_two_pow (n := 16) ha hb
 have e := or_bits 16 a b ha hb
 show IntKind.wrap .u16 ((((BitVec.ofInt 16 (a : Int)) ||| (BitVec.ofInt 16 (b : Int))).toNat : Nat) : Int) = _
 rw [e]
 exact wrap_u16 h
theorem bAnd_u16 {a b : Nat} (ha : a < 65536) (hb : b < 65536) : bAnd .u16 (a : Int) (b : Int) = ((a &&& b : Nat) : Int) := by
 have h : a &&& b < 65536 := Nat.and_lt_two_pow (n := 16) a hb
 have e := and_bits 16 a b ha hb
 show IntKind.wrap .u16 ((((BitVec.ofInt 16 (a : Int)) &&& (BitVec.ofInt 16 (b : Int))).toNat : Nat) : Int) = _
 rw [e]
 exact wrap_u16 h
theorem pow_cast (c : Nat) : ((2 : Int) ^ c) = ((2 ^ c : Nat) : Int) := by simp
theorem fdiv_pow (s c : Nat) : Int.fdiv (s : Int) ((2 : Int) ^ c) = ((s / 2 ^ c : Nat) : Int) := by
 rw [pow_cast, Int.fdiv_eq_ediv_of_nonneg _ (Int.natCast_nonneg _), Int.natCast_ediv]
theorem bit_of (s c : Nat) : ((((s / 2 ^ c &&& 1 : Nat)) : Int) == 1) = s.testBit c := by
 rw [Nat.and_one_is_mod, Nat.testBit_eq_decide_div_mod_eq]
 by_cases h : s / 2 ^ c % 2 = 1
 ·simp [h]
 ·have : s / 2 ^ c % 2 = 0 := by omega
  simp [this]
theorem bit_u16 {s c : Nat} (hs : s < 65536) (hc : c ≤ 16) : ((bAnd .u16 (Int.fdiv (s : Int) (2 ^ min (Int.toNat (c : Int)) 16)) 1) == 1) = s.testBit c := by
 rw [Int.toNat_natCast, Nat.min_eq_left hc, fdiv_pow]
 have h := bAnd_u16 (a := s / 2 ^ c) (b := 1) (Nat.lt_of_le_of_lt (Nat.div_le_self _ _) hs) (by decide)
 rw [show ((1 : Nat) : Int) = 1 from rfl] at h
 rw [h]; exact bit_of s c
theorem p16 {c : Nat} (hc : c < 16) : 2 ^ c < 65536 := by
 have e := Nat.pow_lt_pow_right (show 1 < 2 by decide) hc
 rwa [show (2 : Nat) ^ 16 = 65536 by decide] at e
theorem lt16 {x m : Nat} (h : x < 2 ^ m) (hm : m ≤ 16) : x < 65536 := by
 have e := Nat.pow_le_pow_right (show 0 < 2 by decide) hm
 rw [show (2 : Nat) ^ 16 = 65536 by decide] at e
 exact Nat.lt_of_lt_of_le h e
theorem one_u16 {c : Nat} (hc : c < 16) : IntKind.wrap .u16 (1 * 2 ^ min (Int.toNat (c : Int)) 16) = ((2 ^ c : Nat) : Int) := by
 rw [Int.toNat_natCast, Nat.min_eq_left (by omega), Int.one_mul, pow_cast]
 exact wrap_u16 (p16 hc)
abbrev Fr := Rk × List Int × Unit
def aN (f : Fr) : List Nat := f.2.1.map Int.toNat
theorem aN_len (f : Fr) : (aN f).length = f.2.1.length := by simp [aN]
def okF (f : Fr) : Bool := decide (f.2.1.length ≤ 12) && f.2.1.all fun x => decide (0 ≤ x ∧ x.toNat < 2 ^ f.2.1.length)
theorem okF_at {f : Fr} (h : okF f = true) : f.2.1.length ≤ 12 ∧ okA (aN f) ∧ ∀ k : Nat, k < f.2.1.length → f.2.1.getD k 0 = (((aN f).getD k 0 : Nat) : Int) ∧ (aN f).getD k 0 < 65536 := by
 simp only [okF, Bool.and_eq_true, decide_eq_true_eq, List.all_eq_true] at h
 refine ⟨h.1, fun a ha => ?_, fun k hk => ?_⟩
 ·obtain ⟨x, hx, rfl⟩ := List.mem_map.1 ha
  rw [aN_len]; exact (h.2 x hx).2
 ·have := h.2 _ (getD_mem (d := 0) hk)
  have e : (aN f).getD k 0 = (f.2.1.getD k 0).toNat := by
   rw [getD_at (by rw [aN_len]; exact hk), getD_at hk]; simp [aN]
  refine ⟨by rw [e]; omega, ?_⟩
  rw [e]
  exact lt16 this.2 (by omega)
def okSet (s i : Int) : Prop := (0 ≤ s ∧ s < 65536) ∧ (0 ≤ i ∧ i ≤ 16)
noncomputable def B38 (s i : Int) : Option Bool := @ite _ (okSet s i) (Classical.propDecidable _) (some (s.toNat.testBit i.toNat)) none
theorem KB38 : FnOk Try.prog 38 (F38 B38) := ok38 B38 fun s i r h => ⟨0, by
 simp only [B38] at h
 split at h
 ·rename_i hh
  unfold okSet at hh
  obtain ⟨a, rfl⟩ : ∃ q : Nat, s = q := ⟨s.toNat, by omega⟩
  obtain ⟨b, rfl⟩ : ∃ q : Nat, i = q := ⟨i.toNat, by omega⟩
  rw [← h, m38, chk_dec (by omega), bit_u16 (by omega) (by omega)]
  simp
 ·cases h⟩
theorem B38_at {s i : Nat} (hs : s < 65536) (hi : i ≤ 16) : B38 (s : Int) (i : Int) = some (s.testBit i) := by
 rw [B38, if_pos (show okSet _ _ from ⟨by omega, by omega⟩)]; simp
def B66 (f : Fr) : Option Int := if (1 ≤ f.1.1 ∧ f.1.1 ≤ 6) ∧ f.1.2.1 = f.1.1 then some ((2 ^ (2 * f.1.1.toNat) - 1 : Nat) : Int) else none
theorem KB66 : FnOk Try.prog 66 (F66 B66) := ok66 B66 fun f r h => ⟨0, by
 simp only [B66] at h
 split at h
 ·rename_i hh
  obtain ⟨⟨h1, h2⟩, h3⟩ := hh
  rw [← h, m66, h3]
  obtain ⟨n, hn⟩ : ∃ q : Nat, f.1.1 = q := ⟨f.1.1.toNat, by omega⟩
  rw [hn] at h1 h2 ⊢
  rw [w64_small (by omega), chk_dec (by omega), show (n : Int) + (n : Int) = ((2 * n : Nat) : Int) by omega, one_u16 (by omega), Int.toNat_natCast]
  have hp : 0 < 2 ^ (2 * n) := Nat.pow_pos (by decide)
  have hq := p16 (c := 2 * n) (by omega)
  rw [show (((2 ^ (2 * n) : Nat) : Int) - 1) = ((2 ^ (2 * n) - 1 : Nat) : Int) by omega, wrap_u16 (by omega)]
 ·cases h⟩
def B72 (f : Fr) (i : Int) : Option Int := if okF f = true ∧ (0 ≤ i ∧ i < f.2.1.length) then some ((frN (aN f) i.toNat : Nat) : Int) else none
theorem l72b_ok {f : Fr} (hf : okF f = true) (t13 : Int) (rec : Int → Int → Option Int) (s : Nat) (hs : s < 2 ^ f.2.1.length) :
  l72b B38 20 f t13 rec 20 (s : Int) 0 = rec ((psF 0 (aN f) s : Nat) : Int) (w64 (t13 + 1)) := by
 obtain ⟨h1, h2, h3⟩ := okF_at hf
 have h16 : ∀ {x : Nat}, x < 2 ^ f.2.1.length → x < 65536 := fun hx => lt16 hx (by omega)
 refine rangeIx (aN f) 0 (fun n (s : Nat) t => l72b B38 20 f t13 rec n (s : Int) t) (fun _ r s => s < 2 ^ f.2.1.length ∧ ∀ a ∈ r, a < 2 ^ f.2.1.length) (fun t r s => rec ((psF t r s : Nat) : Int) (w64 (t13 + 1)))
  (fun n s t x rest ht hx hI ih => ?_) (fun n s hI => ?_) 20 s (by rw [aN_len]; omega) ⟨hs, fun a ha => by have := h2 a ha; rwa [aN_len] at this⟩
 ·rw [aN_len] at ht
  obtain ⟨i1, i2⟩ := hI
  obtain ⟨e1, e2⟩ := h3 t ht
  rw [hx] at e1 e2
  have hx2 := i2 x (by simp)
  simp only [l72b, ixA ht, ixB ht, cond_true, chk_true, Int.toNat_natCast, ixW ht (by omega)]
  rw [B38_at (h16 i1) (by omega), Option.bind_some, e1, bOr_u16 (h16 i1) e2, psF]
  cases s.testBit t with
  | true => exact ih _ ⟨Nat.or_lt_two_pow i1 hx2, fun a ha => i2 a (by simp [ha])⟩
  | false => exact ih _ ⟨i1, fun a ha => i2 a (by simp [ha])⟩
 ·simp only [aN_len, l72b, ixE, cond_false, psF]
theorem KB72 : FnOk Try.prog 72 (F72 B72) := ok72 B38 KB38 B72 fun f i r h => ⟨20, by
 simp only [B72] at h
 split at h
 ·rename_i hh
  obtain ⟨hf, hi⟩ := hh
  obtain ⟨h1, h2, h3⟩ := okF_at hf
  obtain ⟨i, rfl⟩ : ∃ q : Nat, i = q := ⟨i.toNat, by omega⟩
  rw [← h, m72, chk_dec (by omega), one_u16 (by omega), Int.toNat_natCast]
  refine (rangeIx (aN f) 0 (fun n (s : Nat) t => l72a B38 20 f n (s : Int) t) (fun _ _ s => s < 2 ^ f.2.1.length) (fun t r s => some ((itr (aN f) r.length s : Nat) : Int))
   (fun n s t x rest ht hx hI ih => ?_) (fun n s hI => ?_) 20 (2 ^ i) (by rw [aN_len]; omega) (Nat.pow_lt_pow_right (by decide) (by omega))).trans rfl
  ·rw [aN_len] at ht
   simp only [l72a, ixA ht, cond_true]
   rw [l72b_ok hf _ _ s hI, ixW ht (by omega)]
   exact ih _ (psF_lt _ _ _ (fun a ha => by have := h2 a ha; rwa [aN_len] at this) hI)
  ·simp only [aN_len, l72a, ixE, cond_false, List.length_nil, itr]
 ·cases h⟩
theorem or_low (s t : Nat) : (s % 2 ^ t) ||| 2 ^ t = if s.testBit t then s % 2 ^ (t + 1) else (s % 2 ^ t) ||| 2 ^ t := by
 split
 ·rename_i h
  refine Nat.eq_of_testBit_eq fun j => ?_
  rw [Nat.testBit_or, Nat.testBit_mod_two_pow, Nat.testBit_mod_two_pow, Nat.testBit_two_pow]
  by_cases e : t = j
  ·subst e; simp [h]
  ·by_cases q : j < t
   ·simp [q, e, show j < t + 1 by omega]
   ·simp [q, e, show ¬ j < t + 1 by omega]
 ·rfl
theorem low_same {s t : Nat} (h : s.testBit t = false) : s % 2 ^ (t + 1) = s % 2 ^ t := by
 refine Nat.eq_of_testBit_eq fun j => ?_
 rw [Nat.testBit_mod_two_pow, Nat.testBit_mod_two_pow]
 by_cases e : t = j
 ·subst e; simp [h]
 ·by_cases q : j < t
  ·simp [q, show j < t + 1 by omega]
  ·simp [q, show ¬ j < t + 1 by omega]
instance (ar : List Nat) : Decidable (symA ar) := inferInstanceAs (Decidable (∀ k, k < ar.length → ∀ j, j < ar.length → (ar.getD k 0).testBit j = (ar.getD j 0).testBit k))
def B39 (f : Fr) (i : Int) : Option Int := if (okF f = true ∧ symA (aN f)) ∧ (0 ≤ i ∧ i < f.2.1.length) then some ((frN (aN f) i.toNat : Nat) : Int) else none
theorem KB39 : FnOk Try.prog 39 (F39 B39) := ok39 B38 B72 KB38 KB72 B39 fun f i r h => ⟨20, by
 simp only [B39] at h
 split at h
 ·rename_i hh
  obtain ⟨⟨hf, hs⟩, hi⟩ := hh
  obtain ⟨h1, h2, h3⟩ := okF_at hf
  obtain ⟨i, rfl⟩ : ∃ q : Nat, i = q := ⟨i.toNat, by omega⟩
  have hil : i < (aN f).length := by rw [aN_len]; omega
  have fl : ∀ {k : Nat}, k < f.2.1.length → frN (aN f) k < 65536 := fun {k} hk => by
   have := fr_lt h2 (i := k) (by rw [aN_len]; exact hk)
   rw [aN_len] at this
   exact lt16 this (by omega)
  rw [← h, m39, B72, if_pos ⟨hf, hi⟩, Option.bind_some, Int.toNat_natCast]
  refine countP' 0 (f.2.1.length : Int) (by omega) (fun n (s : Int) t => l39a B38 B72 20 f (i : Int) ((frN (aN f) i : Nat) : Int) n s t) (fun t s => s = ((frN (aN f) i % 2 ^ t.toNat : Nat) : Int)) (fun r => r = some ((frN (aN f) i : Nat) : Int)) (fun n s t a b hI ih => ?_) (fun n s hI => ?_) 20 0 (by omega) (by simp [Nat.mod_one])
  ·subst hI
   obtain ⟨k, rfl⟩ : ∃ q : Nat, t = q := ⟨t.toNat, by omega⟩
   have hk : k < f.2.1.length := by omega
   have e := ih _ rfl
   rw [show ((k : Int) + 1).toNat = k + 1 by omega] at e
   simp only [l39a, ixA hk, cond_true, Int.toNat_natCast]
   rw [B38_at (fl (by omega)) (by omega), Option.bind_some, w64_small (x := (k : Int) + 1) (by omega)]
   cases ek : (frN (aN f) i).testBit k with
   | false => rw [low_same ek] at e; exact e
   | true =>
    have eb := fr_sym h2 hs hil ek
    rw [cond_true, B72, if_pos ⟨hf, by omega⟩, Option.bind_some, Int.toNat_natCast, B38_at (fl hk) (by omega), Option.bind_some, eb, cond_true, chk_dec (by omega), show IntKind.wrap .u16 (1 * 2 ^ min k 16) = ((2 ^ k : Nat) : Int) by have := one_u16 (c := k) (by omega); rwa [Int.toNat_natCast] at this]
    have hm : frN (aN f) i % 2 ^ k < 65536 := Nat.lt_of_lt_of_le (Nat.mod_lt _ (Nat.pow_pos (by decide))) (Nat.le_of_lt (p16 (by omega)))
    rw [bOr_u16 hm (p16 (by omega)), or_low, if_pos ek]
    exact e
  ·subst hI
   have : frN (aN f) i % 2 ^ f.2.1.length = frN (aN f) i := Nat.mod_eq_of_lt (by have := fr_lt h2 hil; rwa [aN_len] at this)
   simp only [l39a, ixE, cond_false, Int.toNat_natCast, this]
 ·cases h⟩
def stfA (ar : List Nat) : Bool := decide (frN ar 0 = 2 ^ ar.length - 1)
def B29 (f : Fr) : Option Bool := if (okF f = true ∧ symA (aN f)) ∧ ((1 ≤ f.1.1 ∧ f.1.1 ≤ 6) ∧ f.1.2.1 = f.1.1) ∧ f.2.1.length = 2 * f.1.1.toNat then some (stfA (aN f)) else none
theorem KB29 : FnOk Try.prog 29 (F29 B29) := ok29 B39 B66 KB39 KB66 B29 fun f r h => ⟨0, by
 simp only [B29] at h
 split at h
 ·rename_i hh
  obtain ⟨hf, h6, hl⟩ := hh
  rw [← h, m29, B39, if_pos ⟨hf, by omega⟩, Option.bind_some, B66, if_pos h6, Option.bind_some, stfA, aN_len, hl]
  congr 1
  rw [show (0 : Int).toNat = 0 from rfl]
  generalize frN (aN f) 0 = x
  generalize 2 ^ (2 * f.1.1.toNat) - 1 = y
  by_cases e : x = y
  ·subst e; simp
  ·rw [decide_eq_false e, beq_eq_false_iff_ne]; omega
 ·cases h⟩
def upA (n : Nat) (b : Bz) (o : List Nat) : List Nat :=
 (o.set b.1.toNat (o.getD b.1.toNat 0 ||| 2 ^ (n + b.2.1.toNat))).set (n + b.2.1.toNat) ((o.set b.1.toNat (o.getD b.1.toNat 0 ||| 2 ^ (n + b.2.1.toNat))).getD (n + b.2.1.toNat) 0 ||| 2 ^ b.1.toNat)
def arF (n : Nat) (w : Int) : Nat → List Bz → List Nat → List Nat
 | _, [], o => o
 | t, b :: bs, o => arF n w (t + 1) bs (cond (decide ((t : Int) = w)) o (upA n b o))
def arr (n : Nat) (w : Int) (bs : List Bz) : List Nat := arF n w 0 bs (List.replicate (2 * n) 0)
def edge (n : Nat) (b : Bz) (k j : Nat) : Prop := (k = b.1.toNat ∧ j = n + b.2.1.toNat) ∨ (k = n + b.2.1.toNat ∧ j = b.1.toNat)
theorem upA_len (n : Nat) (b : Bz) (o : List Nat) : (upA n b o).length = o.length := by simp [upA]
theorem arF_len (n : Nat) (w : Int) : ∀ (bs : List Bz) (t : Nat) (o : List Nat), (arF n w t bs o).length = o.length
 | [], _, _ => rfl
 | b :: bs, t, o => by
  rw [arF, arF_len n w bs]
  cases decide ((t : Int) = w) with
  | true => rfl
  | false => exact upA_len n b o
theorem arr_len (n : Nat) (w : Int) (bs : List Bz) : (arr n w bs).length = 2 * n := by rw [arr, arF_len, List.length_replicate]
theorem getD_set {l : List Nat} {i j x : Nat} (hi : i < l.length) : (l.set i x).getD j 0 = if i = j then x else l.getD j 0 := by
 rw [List.getD_eq_getElem?_getD, List.getElem?_set, List.getD_eq_getElem?_getD]
 by_cases e : i = j
 ·subst e; simp [hi]
 ·simp [e]
theorem upA_bit {n : Nat} {b : Bz} (hb : okB n b = true) {o : List Nat} (ho : o.length = 2 * n) (k j : Nat) : ((upA n b o).getD k 0).testBit j = true ↔ (o.getD k 0).testBit j = true ∨ edge n b k j := by
 obtain ⟨b1, b2, b3⟩ := okB_at hb
 have h1 : b.1.toNat < n := by omega
 have h2 : n + b.2.1.toNat < 2 * n := by omega
 generalize hr : b.1.toNat = r at *
 generalize hc : n + b.2.1.toNat = c at *
 have hcn : n ≤ c := by omega
 rw [upA, edge, hr, hc, getD_set (by rw [List.length_set]; omega), getD_set (by omega), getD_set (by omega)]
 by_cases e1 : c = k
 ·subst e1
  rw [if_pos rfl, if_neg (by omega), Nat.testBit_or, Bool.or_eq_true, Nat.testBit_two_pow, decide_eq_true_eq]
  constructor
  ·rintro (h | h)
   ·exact .inl h
   ·exact .inr (.inr ⟨rfl, h.symm⟩)
  ·rintro (h | h | h)
   ·exact .inl h
   ·omega
   ·exact .inr h.2.symm
 ·rw [if_neg e1]
  by_cases e2 : r = k
  ·subst e2
   rw [if_pos rfl, Nat.testBit_or, Bool.or_eq_true, Nat.testBit_two_pow, decide_eq_true_eq]
   constructor
   ·rintro (h | h)
    ·exact .inl h
    ·exact .inr (.inl ⟨rfl, h.symm⟩)
   ·rintro (h | h | h)
    ·exact .inl h
    ·exact .inr h.2.symm
    ·omega
  ·rw [if_neg e2]
   constructor
   ·exact .inl
   ·rintro (h | h | h)
    ·exact h
    ·omega
    ·omega
theorem arF_bit {n : Nat} (w : Int) : ∀ (bs : List Bz) (t : Nat) (o : List Nat), (∀ b ∈ bs, okB n b = true) → o.length = 2 * n → ∀ k j, ((arF n w t bs o).getD k 0).testBit j = true ↔
  (o.getD k 0).testBit j = true ∨ ∃ i, i < bs.length ∧ ((t + i : Nat) : Int) ≠ w ∧ edge n (bs.getD i (0, 0, 0, ())) k j
 | [], t, o, _, _, k, j => by simp [arF]
 | b :: bs, t, o, hb, ho, k, j => by
  have hb' : ∀ b ∈ bs, okB n b = true := fun c hc => hb c (by simp [hc])
  have tail : (∃ i, i < (b :: bs).length ∧ ((t + i : Nat) : Int) ≠ w ∧ edge n ((b :: bs).getD i (0, 0, 0, ())) k j) ↔ ((t : Int) ≠ w ∧ edge n b k j) ∨ ∃ i, i < bs.length ∧ ((t + 1 + i : Nat) : Int) ≠ w ∧ edge n (bs.getD i (0, 0, 0, ())) k j := by
   constructor
   ·rintro ⟨i, h1, h2, h3⟩
    cases i with
    | zero => exact .inl ⟨h2, h3⟩
    | succ i => exact .inr ⟨i, by simpa using h1, by rwa [show t + 1 + i = t + (i + 1) by omega], by simpa using h3⟩
   ·rintro (⟨h2, h3⟩ | ⟨i, h1, h2, h3⟩)
    ·exact ⟨0, by simp, h2, h3⟩
    ·exact ⟨i + 1, by simpa using h1, by rwa [show t + (i + 1) = t + 1 + i by omega], by simpa using h3⟩
  rw [arF, tail]
  by_cases e : (t : Int) = w
  ·rw [decide_eq_true e, cond_true, arF_bit w bs (t + 1) o hb' ho]
   simp [e]
  ·rw [decide_eq_false e, cond_false, arF_bit w bs (t + 1) _ hb' (by rw [upA_len]; exact ho), upA_bit (hb b (by simp)) ho]
   simp only [ne_eq, e, not_false_eq_true, true_and, or_assoc]
theorem arr_bit {n : Nat} {w : Int} {bs : List Bz} (hb : ∀ b ∈ bs, okB n b = true) (k j : Nat) : ((arr n w bs).getD k 0).testBit j = true ↔ ∃ i, i < bs.length ∧ (i : Int) ≠ w ∧ edge n (bs.getD i (0, 0, 0, ())) k j := by
 rw [arr, arF_bit w bs 0 _ hb (by simp)]
 have : ((List.replicate (2 * n) 0).getD k 0).testBit j = false := by
  rw [List.getD_eq_getElem?_getD, List.getElem?_replicate]; split <;> simp
 rw [this]
 simp
theorem edge_comm {n : Nat} {b : Bz} {k j : Nat} : edge n b k j ↔ edge n b j k := by
 unfold edge
 constructor
 ·rintro (h | h)
  ·exact .inr ⟨h.2, h.1⟩
  ·exact .inl ⟨h.2, h.1⟩
 ·rintro (h | h)
  ·exact .inr ⟨h.2, h.1⟩
  ·exact .inl ⟨h.2, h.1⟩
theorem edge_lt {n : Nat} {b : Bz} (hb : okB n b = true) {k j : Nat} (h : edge n b k j) : k < 2 * n ∧ j < 2 * n := by
 obtain ⟨b1, b2, b3⟩ := okB_at hb
 unfold edge at h; omega
theorem arr_sym {n : Nat} {w : Int} {bs : List Bz} (hb : ∀ b ∈ bs, okB n b = true) : symA (arr n w bs) := fun k _ j _ => by
 rw [Bool.eq_iff_iff, arr_bit hb, arr_bit hb]
 constructor
 ·rintro ⟨i, h1, h2, h3⟩; exact ⟨i, h1, h2, edge_comm.1 h3⟩
 ·rintro ⟨i, h1, h2, h3⟩; exact ⟨i, h1, h2, edge_comm.1 h3⟩
theorem arr_ok {n : Nat} {w : Int} {bs : List Bz} (hb : ∀ b ∈ bs, okB n b = true) : okA (arr n w bs) := fun a ha => by
 rw [arr_len]
 obtain ⟨k, hk, rfl⟩ := List.getElem_of_mem ha
 refine Nat.lt_pow_two_of_testBit _ fun j hj => ?_
 cases e : ((arr n w bs)[k]).testBit j with
 | false => rfl
 | true =>
  have : ((arr n w bs).getD k 0).testBit j = true := by rw [getD_at hk]; exact e
  obtain ⟨i, h1, h2, h3⟩ := (arr_bit hb k j).1 this
  have := edge_lt (hb _ (getD_mem h1)) h3
  omega
def cI (l : List Nat) : List Int := l.map fun x : Nat => (x : Int)
theorem one_u16' {c : Nat} (hc : c < 16) : IntKind.wrap .u16 (1 * 2 ^ min c 16) = ((2 ^ c : Nat) : Int) := by have := one_u16 hc; rwa [Int.toNat_natCast] at this
theorem cI_len (l : List Nat) : (cI l).length = l.length := by simp [cI]
theorem cI_getD (l : List Nat) (k : Nat) : (cI l).getD k 0 = ((l.getD k 0 : Nat) : Int) := by
 rw [cI, List.getD_eq_getElem?_getD, List.getD_eq_getElem?_getD, List.getElem?_map]
 cases l[k]? <;> rfl
theorem cI_set (l : List Nat) (k x : Nat) : (cI l).set k (x : Int) = cI (l.set k x) := by rw [cI, cI, List.map_set]
def frm (r : Rk) (w : Int) : Fr := (r, cI (arr r.1.toNat w r.2.2.1), ())
theorem aN_frm (r : Rk) (w : Int) : aN (frm r w) = arr r.1.toNat w r.2.2.1 := by
 show (cI _).map Int.toNat = _
 rw [cI, List.map_map]
 exact (List.map_congr_left (g := id) fun x _ => Int.toNat_natCast x).trans (List.map_id _)
theorem okF_frm {r : Rk} (h : okR r = true) (w : Int) : (okF (frm r w) = true ∧ symA (aN (frm r w))) ∧ ((1 ≤ (frm r w).1.1 ∧ (frm r w).1.1 ≤ 6) ∧ (frm r w).1.2.1 = (frm r w).1.1) ∧ (frm r w).2.1.length = 2 * (frm r w).1.1.toNat := by
 obtain ⟨h1, h2, h3, h4⟩ := okR_at h
 have hn : ((r.1.toNat : Nat) : Int) = r.1 := by omega
 have hb : ∀ b ∈ r.2.2.1, okB (r.1.toNat : Nat) b = true := fun b hb => by rw [hn]; exact h4 b hb
 have hl : (frm r w).2.1.length = 2 * r.1.toNat := by rw [frm, cI_len, arr_len]
 refine ⟨⟨?_, by rw [aN_frm]; exact arr_sym hb⟩, ⟨h1, h2⟩, hl⟩
 simp only [okF, Bool.and_eq_true, decide_eq_true_eq, List.all_eq_true]
 refine ⟨by rw [hl]; omega, fun x hx => ?_⟩
 obtain ⟨a, ha, rfl⟩ := List.mem_map.1 hx
 have := arr_ok hb a ha
 rw [arr_len] at this
 rw [hl, Int.toNat_natCast]
 exact ⟨by omega, this⟩
def B28 (r : Rk) (w : Int) : Option Fr := if okR r = true then some (frm r w) else none
theorem arr_u16 {n : Nat} (hn : n ≤ 6) {o : List Nat} (ho : ∀ a ∈ o, a < 65536) {b : Bz} (hb : okB n b = true) (hl : o.length = 2 * n) : ∀ a ∈ upA n b o, a < 65536 := fun a ha => by
 obtain ⟨b1, b2, b3⟩ := okB_at hb
 have g : ∀ {l : List Nat} {k c : Nat}, (∀ a ∈ l, a < 65536) → c < 16 → l.getD k 0 ||| 2 ^ c < 65536 := fun {l k c} hl hc => by
  refine Nat.or_lt_two_pow (n := 16) ?_ (p16 hc)
  by_cases q : k < l.length
  ·exact hl _ (getD_mem q)
  ·rw [List.getD_eq_getElem?_getD, List.getElem?_eq_none (by omega)]; decide
 have s1 : ∀ a ∈ o.set b.1.toNat (o.getD b.1.toNat 0 ||| 2 ^ (n + b.2.1.toNat)), a < 65536 := fun a ha => by
  rcases List.mem_or_eq_of_mem_set ha with h | h
  ·exact ho a h
  ·rw [h]; exact g ho (by omega)
 rcases List.mem_or_eq_of_mem_set ha with h | h
 ·exact s1 a h
 ·rw [h]; exact g s1 (by omega)
theorem KB28 : FnOk Try.prog 28 (F28 B28) := ok28 B28 fun r w x h => ⟨40, by
 simp only [B28] at h
 split at h
 ·rename_i hr
  obtain ⟨h1, h2, h3, h4⟩ := okR_at hr
  obtain ⟨n, hn⟩ : ∃ q : Nat, r.1 = q := ⟨r.1.toNat, by omega⟩
  rw [hn] at h1 h4
  have e0 : w64 (r.1 + r.2.1) = ((2 * n : Nat) : Int) := by rw [h2, hn, w64_small (by omega)]; omega
  rw [← h, m28, e0, chk_of (by simp [mkOk]; omega), Int.toNat_natCast, frm, hn, Int.toNat_natCast, arr]
  have c0 : List.replicate (2 * n) (0 : Int) = cI (List.replicate (2 * n) 0) := by simp [cI]
  rw [c0]
  refine rangeIx r.2.2.1 (0, 0, 0, ()) (fun m (o : List Nat) t => l28a 40 r w m t (cI o)) (fun t rest o => o.length = 2 * n ∧ (∀ a ∈ o, a < 65536) ∧ ∀ b ∈ rest, okB n b = true) (fun t rest o => some (r, cI (arF n w t rest o), ()))
   (fun m o t b rest ht hx hI ih => ?_) (fun m o hI => ?_) 40 (List.replicate (2 * n) 0) (by omega) ⟨by simp, fun a ha => by rw [(List.mem_replicate.1 ha).2]; decide, h4⟩
  ·obtain ⟨i1, i2, i3⟩ := hI
   have hb := i3 b (by simp)
   obtain ⟨b1, b2, b3⟩ := okB_at hb
   have i3' : ∀ b ∈ rest, okB n b = true := fun c hc => i3 c (by simp [hc])
   obtain ⟨rr, hrr⟩ : ∃ q : Nat, b.1 = q := ⟨b.1.toNat, by omega⟩
   obtain ⟨c, hc⟩ : ∃ q : Nat, b.2.1 = q := ⟨b.2.1.toNat, by omega⟩
   rw [hrr] at b1; rw [hc] at b2
   have ew : w64 (r.1 + b.2.1) = ((n + c : Nat) : Int) := by rw [hn, hc, w64_small (by omega)]; omega
   simp only [l28a, ixA ht, ixB ht, cond_true, chk_true, Int.toNat_natCast, hx, ew, hrr, b3, ixW ht (by omega), show ((0 : Int) != 2) = true from rfl, show ((0 : Int) != 1) = true from rfl, cI_len, List.length_set, i1]
   by_cases e : (t : Int) = w
   ·rw [show ((t : Int) != w) = false by simp [e]]
    simp only [cond_false]
    have := ih o ⟨i1, i2, i3'⟩
    rw [arF, decide_eq_true e, cond_true]
    exact this
   ·rw [show ((t : Int) != w) = true by simp [e]]
    simp only [cond_true]
    have := ih (upA n b o) ⟨by rw [upA_len]; exact i1, arr_u16 (by omega) i2 hb i1, i3'⟩
    rw [arF, decide_eq_false e, cond_false, ← this, upA, hrr, hc, Int.toNat_natCast, Int.toNat_natCast]
    have g : ∀ {l : List Nat} (k : Nat), (∀ a ∈ l, a < 65536) → l.getD k 0 < 65536 := fun {l} k hl => by
     by_cases q : k < l.length
     ·exact hl _ (getD_mem q)
     ·rw [List.getD_eq_getElem?_getD, List.getElem?_eq_none (by omega)]; decide
    have s1 : ∀ a ∈ o.set rr (o.getD rr 0 ||| 2 ^ (n + c)), a < 65536 := fun a ha => by
     rcases List.mem_or_eq_of_mem_set ha with h | h
     ·exact i2 a h
     ·rw [h]; exact Nat.or_lt_two_pow (n := 16) (g rr i2) (p16 (by omega))
    rw [one_u16' (by omega), one_u16' (by omega), cI_getD, bOr_u16 (g rr i2) (p16 (by omega)), cI_set, cI_getD, bOr_u16 (g _ s1) (p16 (by omega)), cI_set]
    rw [chk_dec (by omega), chk_dec (by omega), chk_dec (by omega), chk_dec (by omega), chk_dec (by omega), chk_dec (by omega)]
  ·simp only [l28a, ixE, cond_false, arF]
 ·cases h⟩
def stf (r : Rk) (w : Int) : Bool := stfA (arr r.1.toNat w r.2.2.1)
theorem B29_frm {r : Rk} (h : okR r = true) (w : Int) : B29 (frm r w) = some (stf r w) := by
 rw [B29, if_pos (okF_frm h w), aN_frm, stf]
def B10 (r : Rk) : Option (Bool × Int) := if okR r = true then some (stf r (-1), 0) else none
theorem KB10 : FnOk Try.prog 10 (F10 B10) := ok10 B27 B28 B29 KB27 KB28 KB29 B10 fun r x h => ⟨0, by
 simp only [B10] at h
 split at h
 ·rename_i hr
  rw [← h, m10, B27, if_pos hr, Option.bind_some]
  simp only [show ((0 : Int) != 0) = false from rfl, cond_false]
  rw [B28, if_pos hr, Option.bind_some, B29_frm hr, Option.bind_some]
 ·cases h⟩
def ndF (r : Rk) : Nat → Nat → List Int
 | _, 0 => []
 | t, k + 1 => cond (stf r (t : Int)) (ndF r (t + 1) k) ((t : Int) :: ndF r (t + 1) k)
def B11 (r : Rk) : Option (List Int × Int) := if okR r = true then some (cond (stf r (-1)) (ndF r 0 r.2.2.1.length, 0) ([], 22)) else none
theorem KB11 : FnOk Try.prog 11 (F11 B11) := ok11 B10 B28 B29 KB10 KB28 KB29 B11 fun r x h => ⟨40, by
 simp only [B11] at h
 split at h
 ·rename_i hr
  obtain ⟨h1, h2, h3, h4⟩ := okR_at hr
  rw [← h, m11, B10, if_pos hr, Option.bind_some]
  simp only [show ((0 : Int) != 0) = false from rfl, cond_false]
  cases hs : stf r (-1) with
  | false => rfl
  | true =>
   simp only [Bool.not_true, cond_false, cond_true]
   refine (countUp 0 (r.2.2.1.length : Int) (by omega) (fun n (o : List Int) t => l11a B10 B28 B29 40 r n t o) (fun t o => o.length ≤ t.toNat) (fun t o => some (o ++ ndF r t.toNat (r.2.2.1.length - t.toNat), 0)) (fun n o t a b hI ih => ?_) (fun n o hI => ?_) 40 [] (by omega) (by simp)).trans (by simp)
   ·obtain ⟨k, rfl⟩ : ∃ q : Nat, t = q := ⟨t.toNat, by omega⟩
    have hk : k < r.2.2.1.length := by omega
    rw [Int.toNat_natCast] at hI
    obtain ⟨m, hm⟩ : ∃ m, r.2.2.1.length - k = m + 1 := ⟨r.2.2.1.length - k - 1, by omega⟩
    have ih' : ∀ s' : List Int, s'.length ≤ k + 1 → l11a B10 B28 B29 40 r n ((k : Int) + 1) s' = some (s' ++ ndF r (k + 1) m, 0) := fun s' h' => by
     have := ih s' (by rw [show ((k : Int) + 1).toNat = k + 1 by omega]; exact h')
     rwa [show ((k : Int) + 1).toNat = k + 1 by omega, show r.2.2.1.length - (k + 1) = m by omega] at this
    simp only [l11a, ixA hk, cond_true, Int.toNat_natCast]
    rw [B28, if_pos hr, Option.bind_some, B29_frm hr, Option.bind_some, w64_small (x := (k : Int) + 1) (by omega), chk_of (small_of (by omega) (by decide)), hm, ndF]
    cases stf r (k : Int) with
    | true => exact ih' o (by omega)
    | false =>
     have := ih' (o ++ [(k : Int)]) (by simp; omega)
     simp only [Bool.not_false, cond_true, cond_false]
     rw [this, List.append_assoc]; rfl
   ·simp only [l11a, ixE, cond_false, Int.toNat_natCast, Nat.sub_self, ndF, List.append_nil]
 ·cases h⟩
theorem take_sm (l : List Int) : ∀ k, k ≤ l.length → (l.take k).sum = sm k fun i => l.getD i 0
 | 0, _ => by simp [sm]
 | k + 1, h => by
  rw [take_succ' (d := 0) (x := l.getD k 0) (by omega) rfl, List.sum_append, take_sm l k (by omega), sm]; simp
theorem sum_sm (l : List Int) : l.sum = sm l.length fun i => l.getD i 0 := by
 have := take_sm l l.length (Nat.le_refl _)
 rwa [List.take_length] at this
def enT (ws : List (List Int)) (r c : Nat) : Int := (ws.getD r []).getD c 0
theorem getD_map {α β : Type} (f : α → β) (l : List α) {i : Nat} (h : i < l.length) (d : α) (e : β) : (l.map f).getD i e = f (l.getD i d) := by
 rw [getD_at (by simpa using h), getD_at h, List.getElem_map]
theorem col_sm (ws : List (List Int)) (k : Nat) : colI ws k = sm ws.length fun r => enT ws r k := by
 rw [colI, sum_sm, List.length_map]
 exact sm_congr fun i hi => by rw [getD_map _ _ hi []]; rfl
def Mx (n : Nat) (s : Int) (ws : List (List Int)) : Prop :=
 ws.length = n ∧ (∀ r, r < n → (ws.getD r []).length = n) ∧ (∀ r c, r < n → c < n → 0 ≤ enT ws r c) ∧ (∀ r, r < n → sm n (enT ws r) = s) ∧ ∀ c, c < n → sm n (fun r => enT ws r c) = s
theorem Mx.le {n : Nat} {s : Int} {ws : List (List Int)} (h : Mx n s ws) {r c : Nat} (hr : r < n) (hc : c < n) : 0 ≤ enT ws r c ∧ enT ws r c ≤ s :=
 ⟨h.2.2.1 r c hr hc, by rw [← h.2.2.2.1 r hr]; exact sm_le (fun c hc' => h.2.2.1 r c hr hc') c hc⟩
theorem mem_getD {α : Type} {l : List α} {x : α} (h : x ∈ l) (d : α) : ∃ i, i < l.length ∧ l.getD i d = x := by
 obtain ⟨i, hi, rfl⟩ := List.getElem_of_mem h
 exact ⟨i, hi, getD_at hi⟩
theorem Mx.okW {n : Nat} {s : Int} {ws : List (List Int)} (h : Mx n s ws) (hn : 1 ≤ n ∧ n ≤ 6) (hs : s ≤ 30) : okW ws = true := by
 simp only [Go.Proofs.Ytplbdongegfdnaa.okW, Bool.and_eq_true, decide_eq_true_eq, List.all_eq_true]
 refine ⟨by rw [h.1]; exact hn, fun l hl => ?_⟩
 obtain ⟨r, hr, rfl⟩ := mem_getD hl []
 rw [h.1] at hr ⊢
 refine ⟨h.2.1 r hr, fun x hx => ?_⟩
 obtain ⟨c, hc, rfl⟩ := mem_getD hx 0
 rw [h.2.1 r hr] at hc
 have := h.le hr hc
 unfold enT at this; omega
theorem Mx.evn {n : Nat} {s : Int} {ws : List (List Int)} (h : Mx n s ws) (hn : 1 ≤ n) : (rowS ws).getD 0 0 = s ∧ evn ws s = true := by
 have row : ∀ r, r < n → (ws.getD r []).sum = s := fun r hr => by
  rw [sum_sm, h.2.1 r hr]; exact h.2.2.2.1 r hr
 refine ⟨by rw [rowS, getD_map _ _ (by rw [h.1]; omega) []]; exact row 0 (by omega), ?_⟩
 simp only [Go.Proofs.Ytplbdongegfdnaa.evn, Bool.and_eq_true, List.all_eq_true, decide_eq_true_eq]
 constructor
 ·intro x hx
  obtain ⟨l, hl, rfl⟩ := List.mem_map.1 hx
  obtain ⟨r, hr, rfl⟩ := mem_getD hl []
  rw [h.1] at hr
  exact row r hr
 ·intro x hx
  obtain ⟨c, hc, rfl⟩ := List.mem_map.1 hx
  rw [h.1, List.mem_range'] at hc
  obtain ⟨i, hi, rfl⟩ := hc
  rw [col_sm, h.1]; exact h.2.2.2.2 _ (by omega)
theorem mx_zero (n : Nat) : Mx n 0 (List.replicate n (List.replicate n 0)) := by
 have hr : ∀ r, r < n → (List.replicate n (List.replicate n (0 : Int))).getD r [] = List.replicate n 0 := fun r h => by rw [getD_at (by simpa using h), List.getElem_replicate]
 have he : ∀ r c, r < n → c < n → enT (List.replicate n (List.replicate n 0)) r c = 0 := fun r c h1 h2 => by rw [enT, hr r h1, getD_at (by simpa using h2), List.getElem_replicate]
 refine ⟨by simp, fun r h => by rw [hr r h]; simp, fun r c h1 h2 => by rw [he r c h1 h2]; exact Int.le_refl _, fun r h => ?_, fun c h => ?_⟩
 ·rw [sm_congr (g := fun _ => 0) fun i hi => he r i h hi, sm_zero]
 ·rw [sm_congr (g := fun _ => 0) fun i hi => he i c hi h, sm_zero]
theorem allI_len (n : Nat) : (allI n).length = n := by simp [allI]
theorem allI_at {n k : Nat} (h : k < n) : (allI n).getD k 0 = (k : Int) := by
 rw [getD_at (by rw [allI_len]; exact h)]; simp [allI]
theorem perm_sum {a b : List Int} (h : a.Perm b) : a.sum = b.sum := by
 induction h with
 | nil => rfl
 | cons x _ ih => rw [List.sum_cons, List.sum_cons, ih]
 | swap x y l => simp only [List.sum_cons]; omega
 | trans _ _ i1 i2 => rw [i1, i2]
theorem perm_one {n : Nat} {p : List Int} (hp : p.Perm (allI n)) {c : Nat} (hc : c < n) : sm n (fun r => if p.getD r 0 = (c : Int) then (1 : Int) else 0) = 1 := by
 have hl : p.length = n := by rw [hp.length_eq, allI_len]
 have e1 : sm n (fun r => if p.getD r 0 = (c : Int) then (1 : Int) else 0) = (p.map fun x => if x = (c : Int) then (1 : Int) else 0).sum := by
  rw [sum_sm, List.length_map, hl]
  exact sm_congr fun i hi => by rw [getD_map _ _ (by omega) 0]
 have e2 : (p.map fun x => if x = (c : Int) then (1 : Int) else 0).sum = ((allI n).map fun x => if x = (c : Int) then (1 : Int) else 0).sum := perm_sum (hp.map _)
 rw [e1, e2, sum_sm, List.length_map, allI_len]
 have e3 : sm n (fun i => ((allI n).map fun x => if x = (c : Int) then (1 : Int) else 0).getD i 0) = sm n fun i => if i = c then (1 : Int) else 0 := sm_congr fun i hi => by
  rw [getD_map _ _ (by rw [allI_len]; exact hi) 0, allI_at hi]
  by_cases q : i = c
  ·simp [q]
  ·rw [if_neg (by omega), if_neg q]
 rw [e3, sm_one, if_pos hc]
theorem perm_rg {n : Nat} {p : List Int} (hp : p.Perm (allI n)) {k : Nat} (hk : k < n) : 0 ≤ p.getD k 0 ∧ p.getD k 0 < n := by
 have hl : p.length = n := by rw [hp.length_eq, allI_len]
 have hm : p.getD k 0 ∈ allI n := hp.mem_iff.1 (getD_mem (by omega))
 obtain ⟨i, hi, e⟩ := mem_getD hm 0
 rw [allI_len] at hi
 rw [allI_at hi] at e
 omega
theorem mx_bump {n : Nat} {s : Int} {ws o : List (List Int)} {p : List Int} (h : Mx n s ws) (hp : p.Perm (allI n)) (h1 : o.length = n) (h2 : ∀ r, r < n → (o.getD r []).length = n)
  (h3 : ∀ r c, r < n → c < n → enT o r c = enT ws r c + if p.getD r 0 = (c : Int) then 1 else 0) : Mx n (s + 1) o := by
 refine ⟨h1, h2, fun r c hr hc => ?_, fun r hr => ?_, fun c hc => ?_⟩
 ·rw [h3 r c hr hc]; have := h.2.2.1 r c hr hc; split <;> omega
 ·rw [sm_congr fun c hc => h3 r c hr hc, sm_add, h.2.2.2.1 r hr]
  congr 1
  obtain ⟨a, b⟩ := perm_rg hp hr
  rw [sm_congr (g := fun c => if c = (p.getD r 0).toNat then (1 : Int) else 0) fun c hc => by
   by_cases q : c = (p.getD r 0).toNat
   ·rw [if_pos q, if_pos (by omega)]
   ·rw [if_neg q, if_neg (by omega)], sm_one, if_pos (by omega)]
 ·rw [sm_congr fun r hr => h3 r c hr hc, sm_add, h.2.2.2.2 c hc, perm_one hp hc]
theorem rods {n : Nat} {s : Int} {ws : List (List Int)} (h : Mx n s ws) (hn : 2 ≤ n) {bs : List Bz} (hb : ∀ b ∈ bs, okB n b = true ∧ 0 < enT ws b.1.toNat b.2.1.toNat)
  (hall : ∀ r c, r < n → c < n → 0 < enT ws r c → ∃ i, i < bs.length ∧ (bs.getD i (0, 0, 0, ())).1.toNat = r ∧ (bs.getD i (0, 0, 0, ())).2.1.toNat = c)
  (hst : stfA (arr n (-1) bs) = true) {e : Nat} (he : e < bs.length) : stfA (arr n (e : Int) bs) = true := by
 have hok : ∀ b ∈ bs, okB n b = true := fun b hm => (hb b hm).1
 have lt0 : 0 < 2 * n := by omega
 have stf_iff : ∀ w, stfA (arr n w bs) = true ↔ ∀ j, j < 2 * n → (frN (arr n w bs) 0).testBit j = true := fun w => by
  have hl : frN (arr n w bs) 0 < 2 ^ (arr n w bs).length := fr_lt (arr_ok hok) (by rw [arr_len]; exact lt0)
  rw [stfA, decide_eq_true_eq, all_bits hl, arr_len]
 have full := (stf_iff (-1)).1 hst
 have oke := arr_ok (w := (e : Int)) hok
 rw [stf_iff]
 intro j0 hj0
 apply Classical.byContradiction
 intro hj
 obtain ⟨S, hS⟩ : ∃ S, S = frN (arr n (e : Int) bs) 0 := ⟨_, rfl⟩
 rw [← hS] at hj
 have S0 : S.testBit 0 = true := by rw [hS]; exact fr_self _ 0
 -- closed under all rods but e
 have hcl : ∀ i, i < bs.length → i ≠ e → ∀ k j, edge n (bs.getD i (0, 0, 0, ())) k j → S.testBit k = true → S.testBit j = true := fun i hi hne k j hed hk => by
  have hkl := (edge_lt (hok _ (getD_mem hi)) hed).1
  rw [hS] at hk ⊢
  exact fr_closed oke (by rw [arr_len]; exact lt0) (by rw [arr_len]; exact hkl) hk ((arr_bit hok k j).2 ⟨i, hi, by omega, hed⟩)
 have hiff : ∀ i, i < bs.length → i ≠ e → S.testBit (bs.getD i (0, 0, 0, ())).1.toNat = S.testBit (n + (bs.getD i (0, 0, 0, ())).2.1.toNat) := fun i hi hne => by
  rw [Bool.eq_iff_iff]
  exact ⟨hcl i hi hne _ _ (.inl ⟨rfl, rfl⟩), hcl i hi hne _ _ (.inr ⟨rfl, rfl⟩)⟩
 -- the rod e itself joins S and what is not in S
 obtain ⟨be, hbe⟩ : ∃ b, b = bs.getD e (0, 0, 0, ()) := ⟨_, rfl⟩
 have hbm : be ∈ bs := by rw [hbe]; exact getD_mem he
 obtain ⟨b1, b2, b3⟩ := okB_at (hok be hbm)
 obtain ⟨r0, hr0⟩ : ∃ r, r = be.1.toNat := ⟨_, rfl⟩
 obtain ⟨c0, hc0⟩ : ∃ c, c = be.2.1.toNat := ⟨_, rfl⟩
 have hpos : 0 < enT ws r0 c0 := by rw [hr0, hc0]; exact (hb be hbm).2
 have lr : r0 < n := by omega
 have lc : c0 < n := by omega
 have hdiff : S.testBit r0 ≠ S.testBit (n + c0) := fun heq => hj (by
  refine fr_min (T := fun x => S.testBit x = true) (fun k hk hT j hb' => ?_) S0 (full j0 hj0)
  obtain ⟨i, hi, hne, hed⟩ := (arr_bit hok k j).1 hb'
  by_cases q : i = e
  ·rw [q, ← hbe] at hed
   rcases hed with ⟨a, b⟩ | ⟨a, b⟩
   ·rw [← hr0] at a; rw [← hc0] at b; rw [b, ← heq, ← a]; exact hT
   ·rw [← hc0] at a; rw [← hr0] at b; rw [b, heq, ← a]; exact hT
  ·exact hcl i hi q k j hed hT)
 have hin : ∀ r c, r < n → c < n → ¬ (r = r0 ∧ c = c0) → enT ws r c ≠ 0 → S.testBit r = S.testBit (n + c) := fun r c hr hc hne hz => by
  obtain ⟨i, hi, e1, e2⟩ := hall r c hr hc (by have := h.2.2.1 r c hr hc; omega)
  have := hiff i hi fun q => hne ⟨by rw [← e1, q, ← hbe, hr0], by rw [← e2, q, ← hbe, hc0]⟩
  rwa [e1, e2] at this
 have hs : enT ws r0 c0 = s := by
  cases e1 : S.testBit r0 with
  | true =>
   have e2 : S.testBit (n + c0) = false := by
    cases q : S.testBit (n + c0) with
    | false => rfl
    | true => rw [e1, q] at hdiff; exact absurd rfl hdiff
   exact bridge h.2.2.1 h.2.2.2.1 h.2.2.2.2 (R := fun r => S.testBit r) (C := fun c => S.testBit (n + c)) lr lc e1 e2 hpos hin
  | false =>
   have e2 : S.testBit (n + c0) = true := by
    cases q : S.testBit (n + c0) with
    | true => rfl
    | false => rw [e1, q] at hdiff; exact absurd rfl hdiff
   exact bridge h.2.2.1 h.2.2.2.1 h.2.2.2.2 (R := fun r => !S.testBit r) (C := fun c => !S.testBit (n + c)) lr lc (by rw [e1]; rfl) (by rw [e2]; rfl) hpos (fun r c a b d z => by rw [hin r c a b d z])
 obtain ⟨a1, a2⟩ := alone h.2.2.1 h.2.2.2.1 h.2.2.2.2 lr lc hs
 -- row r0 and column c0 reach only each other
 have only : ∀ i, i < bs.length → ∀ k j, edge n (bs.getD i (0, 0, 0, ())) k j → ((k = r0 ∨ k = n + c0) ↔ (j = r0 ∨ j = n + c0)) := fun i hi k j hed => by
  obtain ⟨g1, g2⟩ := hb _ (getD_mem (d := (0, 0, 0, ())) hi)
  obtain ⟨d1, d2, d3⟩ := okB_at g1
  generalize hbb : bs.getD i (0, 0, 0, ()) = b at *
  have key : b.1.toNat = r0 ↔ b.2.1.toNat = c0 := by
   constructor
   ·intro q
    apply Classical.byContradiction
    intro z
    have := a1 b.2.1.toNat (by omega) z
    rw [← q] at this; omega
   ·intro q
    apply Classical.byContradiction
    intro z
    have := a2 b.1.toNat (by omega) z
    rw [← q] at this; omega
  unfold edge at hed
  omega
 by_cases q : (0 : Nat) = r0 ∨ 0 = n + c0
 ·-- from 0 only r0 and c0 are reached
  have := fr_min (ar := arr n (-1) bs) (i := 0) (T := fun x => x = r0 ∨ x = n + c0) (fun k hk hT j hb' => by
   obtain ⟨i, hi, hne, hed⟩ := (arr_bit hok k j).1 hb'
   exact (only i hi k j hed).1 hT) q (full (if r0 = 0 then 1 else 0) (by split <;> omega))
  split at this <;> omega
 ·have := fr_min (ar := arr n (-1) bs) (i := 0) (T := fun x => ¬ (x = r0 ∨ x = n + c0)) (fun k hk hT j hb' => by
   obtain ⟨i, hi, hne, hed⟩ := (arr_bit hok k j).1 hb'
   exact fun z => hT ((only i hi k j hed).2 z)) q (full r0 (by omega))
  exact this (.inl rfl)
theorem getD_setG {α : Type} {l : List α} {i j : Nat} {x d : α} (hi : i < l.length) : (l.set i x).getD j d = if i = j then x else l.getD j d := by
 rw [List.getD_eq_getElem?_getD, List.getElem?_set, List.getD_eq_getElem?_getD]
 by_cases e : i = j
 ·subst e; simp [hi]
 ·simp [e]
theorem l3c_ok {n : Nat} {s : Int} {ws : List (List Int)} {p : List Int} (h : Mx n s ws) (hn : n ≤ 6) (hs : 0 ≤ s ∧ s ≤ 100) (hp : p.Perm (allI n)) (side : Int) (orders : List (List Int)) (sum i : Int) (rec : Int → Int → List (List Int) → Option Bool) :
  ∃ o, Mx n (s + 1) o ∧ l3c B10 B11 B6 C7 B8 (some true) 60 side orders sum i p rec 60 0 ws = rec (w64 (sum + 1)) (w64 (i + 1)) o := by
 have hl : p.length = n := by rw [hp.length_eq, allI_len]
 refine countP' 0 (n : Int) (by omega) (fun m (z : List (List Int)) t => l3c B10 B11 B6 C7 B8 (some true) 60 side orders sum i p rec m t z)
  (fun t z => z.length = n ∧ (∀ r, r < n → (z.getD r []).length = n) ∧ ∀ r c, r < n → c < n → enT z r c = enT ws r c + if r < t.toNat ∧ p.getD r 0 = (c : Int) then 1 else 0)
  (fun x => ∃ o, Mx n (s + 1) o ∧ x = rec (w64 (sum + 1)) (w64 (i + 1)) o) (fun m z t a b hI ih => ?_) (fun m z hI => ?_) 60 ws (by omega) ⟨h.1, h.2.1, fun r c _ _ => by simp⟩
 ·obtain ⟨k, rfl⟩ : ∃ q : Nat, t = q := ⟨t.toNat, by omega⟩
  have hk : k < n := by omega
  obtain ⟨i1, i2, i3⟩ := hI
  obtain ⟨x, hx⟩ : ∃ q : Nat, p.getD k 0 = q := ⟨(p.getD k 0).toNat, by have := perm_rg hp hk; omega⟩
  have hxn : x < n := by have := perm_rg hp hk; omega
  have hkp : k < p.length := by omega
  have hkz : k < z.length := by omega
  have hrow := i2 k hk
  have hent : enT z k x = enT ws k x := by
   rw [i3 k x hk hxn, if_neg (by rw [Int.toNat_natCast]; omega), Int.add_zero]
  have hle := h.le hk hxn
  have e := ih (z.set k ((z.getD k []).set x (enT z k x + 1))) ⟨by rw [List.length_set]; exact i1, fun r hr => by
    rw [getD_setG hkz]; split
    ·rw [List.length_set]; exact hrow
    ·exact i2 r hr, fun r c hr hc => by
    rw [show ((k : Int) + 1).toNat = k + 1 by omega]
    rw [enT, getD_setG hkz]
    by_cases q : k = r
    ·subst q
     rw [if_pos rfl, getD_setG (by rw [hrow]; exact hxn), hx]
     by_cases q2 : x = c
     ·subst q2
      rw [if_pos rfl, if_pos ⟨by omega, rfl⟩, hent]
     ·rw [if_neg q2, if_neg (by omega)]
      have := i3 k c hk hc
      rw [if_neg (by rw [Int.toNat_natCast]; omega)] at this
      exact this
    ·rw [if_neg q]
     have := i3 r c hr hc
     rw [Int.toNat_natCast] at this
     rw [show z.getD r [] = z.getD r [] from rfl]
     refine this.trans ?_
     congr 1
     by_cases y : r < k ∧ p.getD r 0 = (c : Int)
     ·rw [if_pos y, if_pos ⟨by omega, y.2⟩]
     ·rw [if_neg y, if_neg (fun w => y ⟨by omega, w.2⟩)]⟩
  simp only [l3c, ixA hkp, ixB hkp, ixB hkz, cond_true, chk_true, Int.toNat_natCast, hx]
  rw [chk_dec (by rw [hrow]; omega), chk_dec (by rw [hrow]; omega), w64_small (x := (k : Int) + 1) (by omega), show (z.getD k []).getD x 0 = enT z k x from rfl, w64_small (x := enT z k x + 1) (by omega)]
  exact e
 ·obtain ⟨i1, i2, i3⟩ := hI
  refine ⟨z, mx_bump h hp i1 i2 fun r c hr hc => ?_, by simp only [l3c, hl, ixE, cond_false]⟩
  rw [i3 r c hr hc, Int.toNat_natCast]
  congr 1
  by_cases y : p.getD r 0 = (c : Int)
  ·rw [if_pos ⟨hr, y⟩, if_pos y]
  ·rw [if_neg (fun w => y w.2), if_neg y]
def Br (n : Nat) (ws : List (List Int)) (r c : Nat) (o : List Bz) : Prop :=
 o.length ≤ 24 ∧ (∀ b ∈ o, okB n b = true ∧ 0 < enT ws b.1.toNat b.2.1.toNat) ∧ (o.length < 24 → ∀ r' c', r' < n → c' < n → (r' < r ∨ (r' = r ∧ c' < c)) → 0 < enT ws r' c' → ∃ b ∈ o, b.1.toNat = r' ∧ b.2.1.toNat = c')
theorem okB_mk {n r k : Nat} (hr : r < n) (hk : k < n) : okB n ((r : Int), (k : Int), 0, ()) = true := by simp [okB]; omega
theorem l3e_ok {n : Nat} {ws : List (List Int)} (hn : n ≤ 6) {r : Nat} (hr : r < n) (hrow : (ws.getD r []).length = n) (side : Int) (rec : Int → List Bz → Option Bool)
  (hrec : ∀ o, Br n ws (r + 1) 0 o → rec (w64 ((r : Int) + 1)) o = some true) {o : List Bz} (ho : Br n ws r 0 o) :
  l3e B10 B11 B6 C7 B8 (some true) 60 side ws (r : Int) rec 60 0 o = some true := by
 refine countP' 0 (n : Int) (by omega) (fun m (z : List Bz) t => l3e B10 B11 B6 C7 B8 (some true) 60 side ws (r : Int) rec m t z) (fun t z => Br n ws r t.toNat z) (fun x => x = some true) (fun m z t a b hI ih => ?_) (fun m z hI => ?_) 60 o (by omega) ho
 ·obtain ⟨k, rfl⟩ : ∃ q : Nat, t = q := ⟨t.toNat, by omega⟩
  have hk : k < n := by omega
  have hk' : k < (ws.getD r []).length := by omega
  rw [show ((k : Int) + 1).toNat = k + 1 by omega] at ih
  obtain ⟨i1, i2, i3⟩ := hI
  rw [Int.toNat_natCast] at i3
  have same : (z.length < 24 → 0 < enT ws r k → ∃ b ∈ z, b.1.toNat = r ∧ b.2.1.toNat = k) → l3e B10 B11 B6 C7 B8 (some true) 60 side ws (r : Int) rec m ((k : Int) + 1) z = some true := fun hz => ih z ⟨i1, i2, fun h24 r' c' h1 h2 h3 h4 => by
   by_cases q : r' = r ∧ c' = k
   ·obtain ⟨rfl, rfl⟩ := q; exact hz h24 h4
   ·exact i3 h24 r' c' h1 h2 (by omega) h4⟩
  simp only [l3e, Int.toNat_natCast, ixA hk', ixB hk', cond_true, chk_true, show (ws.getD r []).getD k 0 = enT ws r k from rfl]
  rw [w64_small (x := (k : Int) + 1) (by omega)]
  by_cases hp : enT ws r k > 0
  ·rw [decide_eq_true hp, cond_true]
   by_cases h24 : (z.length : Int) < 24
   ·rw [decide_eq_true h24, cond_true, chk_of (small_of (by omega) (by decide))]
    refine ih _ ⟨by simp; omega, fun b hb => ?_, fun h25 r' c' h1 h2 h3 h4 => ?_⟩
    ·rw [List.mem_append, List.mem_singleton] at hb
     rcases hb with hb | hb
     ·exact i2 b hb
     ·rw [hb]
      exact ⟨okB_mk hr hk, by simpa using hp⟩
    ·by_cases q : r' = r ∧ c' = k
     ·exact ⟨((r : Int), (k : Int), 0, ()), by simp, by simp [q.1], by simp [q.2]⟩
     ·obtain ⟨b, hb, hbb⟩ := i3 (by omega) r' c' h1 h2 (by omega) h4
      exact ⟨b, by simp [hb], hbb⟩
   ·rw [decide_eq_false h24, cond_false]
    exact same fun h25 => absurd h25 (by omega)
  ·rw [decide_eq_false hp, cond_false]
   exact same fun _ h => absurd h hp
 ·obtain ⟨i1, i2, i3⟩ := hI
  simp only [l3e, Int.toNat_natCast, hrow, ixE, cond_false]
  refine hrec z ⟨i1, i2, fun h24 r' c' h1 h2 h3 h4 => i3 h24 r' c' h1 h2 (by rw [Int.toNat_natCast]; omega) h4⟩
theorem ndF_nil {r : Rk} : ∀ (k t : Nat), (∀ i, t ≤ i → i < t + k → stf r (i : Int) = true) → ndF r t k = []
 | 0, _, _ => rfl
 | k + 1, t, h => by
  rw [ndF, h t (by omega) (by omega), cond_true]
  exact ndF_nil k (t + 1) fun i a b => h i (by omega) (by omega)
theorem l3d_ok {n : Nat} {s : Int} {ws : List (List Int)} (h : Mx n s ws) (hn : 2 ≤ n ∧ n ≤ 5) {side : Int} (hside : w64 (2 + Int.tmod (w64 side) 4) = (n : Int)) :
  l3d B10 B11 B6 C7 B8 (some true) 60 side ws 60 0 [] = some true := by
 refine countP' 0 (n : Int) (by omega) (fun m (z : List Bz) t => l3d B10 B11 B6 C7 B8 (some true) 60 side ws m t z) (fun t z => Br n ws t.toNat 0 z) (fun x => x = some true) (fun m z t a b hI ih => ?_) (fun m z hI => ?_) 60 [] (by omega) ⟨by simp, by simp, fun _ r' c' _ _ h3 => by simp at h3⟩
 ·obtain ⟨k, rfl⟩ : ∃ q : Nat, t = q := ⟨t.toNat, by omega⟩
  have hk : k < n := by omega
  have hk' : k < ws.length := by rw [h.1]; exact hk
  rw [show ((k : Int) + 1).toNat = k + 1 by omega] at ih
  simp only [l3d, ixA hk', ixB hk', cond_true, chk_true]
  exact l3e_ok (by omega) hk (h.2.1 k hk) side _ (fun o ho => by rw [w64_small (by omega)]; exact ih o ho) hI
 ·obtain ⟨i1, i2, i3⟩ := hI
  rw [Int.toNat_natCast] at i3
  simp only [l3d, h.1, ixE, cond_false, hside, Option.bind_some]
  by_cases h24 : z.length = 24
  ·rw [show ((z.length : Int) == 24) = true by simp [h24], cond_true]
  ·rw [show ((z.length : Int) == 24) = false by rw [beq_eq_false_iff_ne]; omega, cond_false]
   have hr : okR ((n : Int), (n : Int), z, ()) = true := by
    simp only [okR, Bool.and_eq_true, decide_eq_true_eq, List.all_eq_true]
    exact ⟨⟨⟨by omega, trivial⟩, i1⟩, fun b hb => (i2 b hb).1⟩
   rw [B10, if_pos hr, Option.bind_some, B11, if_pos hr, Option.bind_some]
   simp only [show ((0 : Int) != 0) = false from rfl, cond_false]
   cases hst : stf ((n : Int), (n : Int), z, ()) (-1) with
   | false => rfl
   | true =>
    have hnil : ndF ((n : Int), (n : Int), z, ()) 0 z.length = [] := ndF_nil _ _ fun i _ hi => by
     rw [stf, Int.toNat_natCast] at hst ⊢
     exact rods h (by omega) i2 (fun r c hr hc hpos => by
      obtain ⟨b, hb, hbb⟩ := i3 (by omega) r c hr hc (by omega) hpos
      obtain ⟨j, hj, e⟩ := mem_getD hb (0, 0, 0, ())
      exact ⟨j, hj, by rw [e]; exact hbb⟩) hst (by omega)
    simp only [hnil]
    rfl
def okO (o : List Int) : Bool := decide (o.length = 5) && o.all fun x => decide (0 ≤ x ∧ x ≤ 255)
theorem l3b_ok {n : Nat} (hn : 2 ≤ n ∧ n ≤ 5) {side : Int} (hside : w64 (2 + Int.tmod (w64 side) 4) = (n : Int)) {orders : List (List Int)} (ho : ∀ o ∈ orders, okO o = true) :
  ∀ (m i : Nat) (ws : List (List Int)), i ≤ 8 → 8 < m + i → Mx n i ws → l3b B10 B11 B6 C7 B8 (some true) 60 side orders m (i : Int) (i : Int) ws = some true := by
 intro m
 induction m with
 | zero => intro i ws h1 h2; omega
 | succ m ih =>
  intro i ws h1 h2 h
  have hok := h.okW (by omega) (by omega)
  obtain ⟨e1, e2⟩ := h.evn (by omega)
  have c7 : C7 ws (n : Int) = some ((i : Int), 0) := by rw [C7, e1, if_pos ⟨hok, by rw [h.1], e2⟩]
  have b8 : B8 ws (n : Int) = some (allI n, allI n, 0) := by rw [B8, e1, if_pos ⟨hok, by rw [h.1], e2⟩, h.1]
  have hl := l3d_ok h hn hside
  rw [l3b]
  simp only [hside, c7, b8, Option.bind_some, allI_len, hl, bne_self_eq_false, cond_false]
  by_cases q : (i : Int) < (orders.length : Int)
  ·rw [decide_eq_true q, cond_true]
   by_cases q8 : (i : Int) < 8
   ·have hi : i < orders.length := by omega
    have hoi := ho _ (getD_mem (d := ([0, 0, 0, 0, 0] : List Int)) hi)
    simp only [okO, Bool.and_eq_true, decide_eq_true_eq, List.all_eq_true] at hoi
    obtain ⟨p, hp, hpp⟩ := B6_ok (n := n) (q := orders.getD i [0, 0, 0, 0, 0]) (by omega) ⟨by omega, hoi.2⟩
    simp only [decide_eq_true q8, cond_true, ixB hi, chk_true, Int.toNat_natCast, hoi.1, decide_true, Bool.and_self, hp, Option.bind_some]
    obtain ⟨o, ho', e⟩ := l3c_ok h (by omega) (by omega) hpp side orders (i : Int) (i : Int) (fun y0 y1 y2 => l3b B10 B11 B6 C7 B8 (some true) 60 side orders m y0 y1 y2)
    refine e.trans ?_
    have hw : w64 ((i : Int) + 1) = ((i + 1 : Nat) : Int) := by rw [w64_small (by omega)]; omega
    simp only [hw]
    exact ih (i + 1) o (by omega) (by omega) (by rw [show ((i + 1 : Nat) : Int) = (i : Int) + 1 by omega]; exact ho')
   ·rw [decide_eq_false q8, cond_false]
  ·rw [decide_eq_false q, cond_false]
def B3 (side : Int) (orders : List (List Int)) : Option Bool := if (0 ≤ side ∧ side ≤ 255) ∧ ∀ o ∈ orders, okO o = true then some true else none
theorem KB3 : FnOk Try.prog 3 (F3 B3) := ok3 B10 B11 B6 C7 B8 (some true) KB10 KB11 KB6 KB7 KB8 K9t B3 fun side orders r h => ⟨60, by
 simp only [B3] at h
 split at h
 ·rename_i hh
  obtain ⟨hs, ho⟩ := hh
  obtain ⟨n, hn, hside⟩ : ∃ n : Nat, (2 ≤ n ∧ n ≤ 5) ∧ w64 (2 + Int.tmod (w64 side) 4) = (n : Int) := by
   refine ⟨(2 + side % 4).toNat, by omega, ?_⟩
   rw [w64_small (x := side) (by omega), tmod_emod hs.1, w64_small (by omega)]; omega
  rw [← h, m3]
  simp only [hside, Int.toNat_natCast]
  rw [chk_of (by simp [mkOk]; omega)]
  refine countP' 0 (n : Int) (by omega) (fun m (z : List (List Int)) t => l3a B10 B11 B6 C7 B8 (some true) 60 side orders m t z) (fun t z => z = List.replicate t.toNat (List.replicate n 0) ++ List.replicate (n - t.toNat) []) (fun x => x = some true) (fun m z t a b hI ih => ?_) (fun m z hI => ?_) 60 _ (by omega) (by simp)
  ·obtain ⟨k, rfl⟩ : ∃ q : Nat, t = q := ⟨t.toNat, by omega⟩
   rw [Int.toNat_natCast] at hI
   have hk : k < n := by omega
   have hz : z.length = n := by rw [hI]; simp; omega
   have hkz : k < z.length := by omega
   have e := ih (z.set k (List.replicate n 0)) (by
    rw [hI, show ((k : Int) + 1).toNat = k + 1 by omega, List.set_append_right _ _ (by simp), List.length_replicate, Nat.sub_self]
    obtain ⟨j, hj⟩ : ∃ j, n - k = j + 1 := ⟨n - k - 1, by omega⟩
    rw [hj, show n - (k + 1) = j by omega, List.replicate_succ, List.set_cons_zero, List.replicate_succ', List.append_assoc]; rfl)
   simp only [l3a, hside, Int.toNat_natCast, List.length_replicate, ixA hk, ixB hkz, cond_true, chk_true]
   rw [chk_of (by simp [mkOk]; omega), w64_small (x := (k : Int) + 1) (by omega)]
   exact e
  ·rw [Int.toNat_natCast, Nat.sub_self, List.replicate_zero, List.append_nil] at hI
   subst hI
   simp only [l3a, hside, Int.toNat_natCast, List.length_replicate, ixE, cond_false]
   exact l3b_ok hn hside ho 60 0 _ (by omega) (by omega) (mx_zero n)
 ·cases h⟩
end Go.Proofs.Ytplbdongegfdnaa
