/-
 Loops of mirrors, told as recursions over lists. Tables for check digits: what their small functions answer for tables that are accepted. The shortest timetable of one hour each, for the five sizes; the law. The shortest timetable for 2 artists. The shortest timetable for 3 artists. The shortest timetable for 4 artists. The shortest timetable for 5 artists. The shortest timetable for 6 artists. A shortest timetable of one hour each is a table for check digits: the law.
-/
import Derived.Test.YtplbdongegfdnaaYD
import Derived.Test.YtplbdongegfdnaaWC0
namespace Go.Proofs.Ytplbdongegfdnaa
open Go.RowKit
set_option linter.unusedVariables false

theorem w64_eq {n : Int} (h0 : -9223372036854775808 ≤ n) (h1 : n < 9223372036854775808) : w64 n = n := by
 simp [w64, IntKind.wrap, IntKind.bits, IntKind.signed]; omega
theorem w64_succ {t : Nat} (h : t < 4611686018427387904) : w64 ((t : Int) + 1) = ((t + 1 : Nat) : Int) := by
 rw [w64_eq (by omega) (by omega)]; omega
theorem chk_true {α : Type} (x : Option α) : chk true x = x := rfl
theorem chk_of {α : Type} {b : Bool} {x : Option α} (h : b = true) : chk b x = x := by rw [h]; rfl
theorem chk_dec {α : Type} {p : Prop} [Decidable p] {x : Option α} (h : p) : chk (decide p) x = x := by rw [decide_eq_true h]; rfl
theorem small_of {n eb : Nat} (h : n * eb ≤ 140737488355328) (hb : 0 < eb) : small n eb = true := by
 have : n ≤ n * eb := Nat.le_mul_of_pos_right n hb
 simp [small, h]; omega
theorem getD_drop {α : Type} {xs rest : List α} {t : Nat} {x d : α} (h : xs.drop t = x :: rest) : t < xs.length ∧ xs.getD t d = x ∧ xs.drop (t + 1) = rest := by
 have hl : t < xs.length := by
  have := congrArg List.length h
  simp only [List.length_drop, List.length_cons] at this; omega
 refine ⟨hl, ?_, ?_⟩
 ·have h2 := congrArg List.head? h
  rw [List.head?_drop] at h2
  rw [List.getD_eq_getElem?_getD, h2]; rfl
 ·have h2 := congrArg List.tail h
  rw [List.tail_drop] at h2; exact h2
theorem rangeIx {α σ ρ : Type} (xs : List α) (d : α) (L : Nat → σ → Int → Option ρ) (I : Nat → List α → σ → Prop) (S : Nat → List α → σ → Option ρ)
  (hs : ∀ (n : Nat) (s : σ) (t : Nat) (x : α) (rest : List α), t < xs.length → xs.getD t d = x → I t (x :: rest) s →
   (∀ s', I (t + 1) rest s' → L n s' ((t + 1 : Nat) : Int) = S (t + 1) rest s') → L (n + 1) s (t : Int) = S t (x :: rest) s)
  (he : ∀ (n : Nat) (s : σ), I xs.length [] s → L (n + 1) s (xs.length : Int) = S xs.length [] s)
  (n : Nat) (s : σ) (hn : xs.length < n) (hI : I 0 xs s) : L n s 0 = S 0 xs s := by
 have main : ∀ (k t n : Nat) (s : σ), t + k = xs.length → k < n → I t (xs.drop t) s → L n s (t : Int) = S t (xs.drop t) s := by
  intro k
  induction k with
  | zero =>
   intro t n s h1 h2 h3
   obtain ⟨m, rfl⟩ : ∃ m, n = m + 1 := ⟨n - 1, by omega⟩
   have : t = xs.length := by omega
   subst this
   rw [List.drop_length] at h3 ⊢
   exact he m s h3
  | succ k ih =>
   intro t n s h1 h2 h3
   obtain ⟨m, rfl⟩ : ∃ m, n = m + 1 := ⟨n - 1, by omega⟩
   cases hd : xs.drop t with
   | nil => have := congrArg List.length hd; simp only [List.length_drop, List.length_nil] at this; omega
   | cons x rest =>
    obtain ⟨a, b, c⟩ := getD_drop (d := d) hd
    rw [hd] at h3
    refine hs m s t x rest a b h3 fun s' hI' => ?_
    rw [← c] at hI' ⊢
    exact ih (t + 1) m s' (by omega) (by omega) hI'
 have := main xs.length 0 n s (by omega) hn (by simpa using hI)
 simpa using this
theorem countP' {σ ρ : Type} (lo hi : Int) (hle : lo ≤ hi) (L : Nat → σ → Int → Option ρ) (I : Int → σ → Prop) (Q : Option ρ → Prop)
  (hs : ∀ (n : Nat) (s : σ) (t : Int), lo ≤ t → t < hi → I t s → (∀ s', I (t + 1) s' → Q (L n s' (t + 1))) → Q (L (n + 1) s t))
  (he : ∀ (n : Nat) (s : σ), I hi s → Q (L (n + 1) s hi))
  (n : Nat) (s : σ) (hn : (hi - lo).toNat < n) (hI : I lo s) : Q (L n s lo) := by
 have main : ∀ (k n : Nat) (t : Int) (s : σ), lo ≤ t → t + k = hi → k < n → I t s → Q (L n s t) := by
  intro k
  induction k with
  | zero =>
   intro n t s h0 h1 h2 h3
   obtain ⟨m, rfl⟩ : ∃ m, n = m + 1 := ⟨n - 1, by omega⟩
   have : t = hi := by omega
   subst this; exact he m s h3
  | succ k ih =>
   intro n t s h0 h1 h2 h3
   obtain ⟨m, rfl⟩ : ∃ m, n = m + 1 := ⟨n - 1, by omega⟩
   exact hs m s t h0 (by omega) h3 fun s' h' => ih m (t + 1) s' (by omega) (by omega) (by omega) h'
 exact main (hi - lo).toNat n lo s (by omega) (by omega) hn hI
theorem ixA {t n : Nat} (h : t < n) : decide ((t : Int) < (n : Int)) = true := decide_eq_true (by omega)
theorem ixB {t n : Nat} (h : t < n) : decide (0 ≤ (t : Int) ∧ (t : Int) < (n : Int)) = true := decide_eq_true (by omega)
theorem ixE (n : Nat) : decide ((n : Int) < (n : Int)) = false := decide_eq_false (by omega)
theorem ixW {t n : Nat} (h : t < n) (hn : n ≤ 4611686018427387904) : w64 ((t : Int) + 1) = ((t + 1 : Nat) : Int) := w64_succ (by omega)
theorem w64_small {x : Int} (h : -4611686018427387904 ≤ x ∧ x ≤ 4611686018427387904) : w64 x = x := w64_eq (by omega) (by omega)
theorem getD_at {α : Type} {l : List α} {i : Nat} {d : α} (h : i < l.length) : l.getD i d = l[i] := by
 rw [List.getD_eq_getElem?_getD, List.getElem?_eq_getElem h]; rfl
theorem getD_mem {α : Type} {l : List α} {i : Nat} {d : α} (h : i < l.length) : l.getD i d ∈ l := by
 rw [getD_at h]; exact List.getElem_mem _
theorem mem_getD {α : Type} {l : List α} {x : α} (h : x ∈ l) (d : α) : ∃ i, i < l.length ∧ l.getD i d = x := by
 obtain ⟨i, hi, rfl⟩ := List.getElem_of_mem h
 exact ⟨i, hi, getD_at hi⟩
def tb (t : List (List Int)) (s d : Int) : Int := (t.getD s.toNat []).getD d.toNat 0
def aft (t : List (List Int)) (s : Int) : List Int → Int
 | [] => s
 | d :: r => aft t (tb t s d) r
def latB (t : List (List Int)) : Bool :=
 decide (2 ≤ t.length ∧ t.length ≤ 10) && t.all (fun r => decide (r.length = t.length) && r.all fun x => decide (0 ≤ x ∧ x < t.length)) &&
  (List.range t.length).all fun s => (List.range t.length).all fun d => (List.range t.length).all fun e =>
   (decide ((t.getD s []).getD d 0 ≠ (t.getD s []).getD e 0) || decide (d = e)) && (decide ((t.getD d []).getD s 0 ≠ (t.getD e []).getD s 0) || decide (d = e))
def rg (t : List (List Int)) (x : Int) : Prop := 0 ≤ x ∧ x < t.length
structure Lat (t : List (List Int)) : Prop where
 len : 2 ≤ t.length ∧ t.length ≤ 10
 row : ∀ k : Nat, k < t.length → (t.getD k []).length = t.length
 bd : ∀ {s d : Int}, rg t s → rg t d → rg t (tb t s d)
 ri : ∀ {s d e : Int}, rg t s → rg t d → rg t e → tb t s d = tb t s e → d = e
 ci : ∀ {s d e : Int}, rg t s → rg t d → rg t e → tb t d s = tb t e s → d = e
theorem lat_of {t : List (List Int)} (h : latB t = true) : Lat t := by
 simp only [latB, bae, dtq, List.all_eq_true, List.mem_range, Bool.or_eq_true] at h
 obtain ⟨⟨h1, h2⟩, h3⟩ := h
 have row : ∀ k : Nat, k < t.length → (t.getD k []).length = t.length := fun k hk => (h2 _ (getD_mem hk)).1
 refine ⟨h1, row, fun {s d} hs hd => ?_, fun {s d e} hs hd he hh => ?_, fun {s d e} hs hd he hh => ?_⟩
 ·unfold rg at *
  have hk : s.toNat < t.length := by omega
  exact (h2 _ (getD_mem (d := []) hk)).2 _ (getD_mem (by rw [row _ hk]; omega))
 ·unfold rg at *
  rcases (h3 s.toNat (by omega) d.toNat (by omega) e.toNat (by omega)).1 with q | q
  ·exact absurd hh q
  ·omega
 ·unfold rg at *
  rcases (h3 s.toNat (by omega) d.toNat (by omega) e.toNat (by omega)).2 with q | q
  ·exact absurd hh q
  ·omega
theorem aft_rg {t : List (List Int)} (h : Lat t) : ∀ {l : List Int} {s : Int}, rg t s → (∀ d ∈ l, rg t d) → rg t (aft t s l)
 | [], s, hs, _ => hs
 | d :: r, s, hs, hl => show rg t (aft t (tb t s d) r) from aft_rg h (h.bd hs (hl d (by simp))) fun e he => hl e (by simp [he])
theorem aft_inj {t : List (List Int)} (h : Lat t) : ∀ {l : List Int} {s s' : Int}, rg t s → rg t s' → (∀ d ∈ l, rg t d) → aft t s l = aft t s' l → s = s'
 | [], s, s', _, _, _, e => e
 | d :: r, s, s', hs, hs', hl, e => by
  have hd := hl d (by simp)
  exact h.ci hd hs hs' (aft_inj h (h.bd hs hd) (h.bd hs' hd) (fun e he => hl e (by simp [he])) e)
theorem aft_append (t : List (List Int)) : ∀ (a b : List Int) (s : Int), aft t s (a ++ b) = aft t (aft t s a) b
 | [], b, s => rfl
 | d :: r, b, s => aft_append t r b (tb t s d)
theorem lat_has {t : List (List Int)} (h : Lat t) {s : Int} (hs : rg t s) {x : Int} (hx : rg t x) : x ∈ t.getD s.toNat [] := by
 have hk : s.toNat < t.length := by unfold rg at hs; omega
 have hlen := h.row _ hk
 have hin : ∀ y ∈ t.getD s.toNat [], rg t y := fun y hy => by
  obtain ⟨i, hi, e⟩ := mem_getD hy 0
  have := h.bd hs (d := (i : Int)) ⟨by omega, by omega⟩
  rw [tb, Int.toNat_natCast, e] at this
  exact this
 have hnd : (t.getD s.toNat []).Nodup := List.pairwise_iff_getElem.2 fun i j hi hj hij hh => by
  have := h.ri hs (d := (i : Int)) (e := (j : Int)) ⟨by omega, by omega⟩ ⟨by omega, by omega⟩ (by
   simp only [tb, Int.toNat_natCast]; rw [getD_at hi, getD_at hj]; exact hh)
  omega
 apply Classical.byContradiction
 intro hc
 have hnd2 : (x :: t.getD s.toNat []).Nodup := List.nodup_cons.2 ⟨hc, hnd⟩
 have hsub : ∀ y ∈ x :: t.getD s.toNat [], y ∈ (List.range t.length).map fun i : Nat => (i : Int) := fun y hy => by
  have hy' : rg t y := by
   rcases List.mem_cons.1 hy with e | e
   ·rw [e]; exact hx
   ·exact hin y e
  unfold rg at hy'
  exact List.mem_map.2 ⟨y.toNat, List.mem_range.2 (by omega), by omega⟩
 have := hnd2.length_le_of_subset hsub
 simp only [List.length_cons, List.length_map, List.length_range] at this; omega
def allR (t : List (List Int)) (l : List Int) : Bool := l.all fun d => decide (0 ≤ d ∧ d < t.length)
theorem allR_at {t : List (List Int)} {l : List Int} (h : allR t l = true) : ∀ d ∈ l, rg t d := by
 simp only [allR, List.all_eq_true, dtq] at h; exact h
theorem allR_of {t : List (List Int)} {l : List Int} (h : ∀ d ∈ l, rg t d) : allR t l = true := by
 simp only [allR, List.all_eq_true, dtq]; exact h
def B86c (s d : Int) (t : List (List Int)) : Option (Int × List (List Int)) := if latB t = true ∧ (0 ≤ s ∧ s < t.length) ∧ (0 ≤ d ∧ d < t.length) then some (tb t s d, t) else none
theorem KB86c : FnOk Try.prog 86 (F86c B86c) := ok86c B86c fun s d t r h => ⟨0, by
 simp only [B86c] at h
 split at h
 ·rename_i hh
  obtain ⟨h1, h2, h3⟩ := hh
  have hl := (lat_of h1).row s.toNat (by omega)
  rw [← h, m86c, chk_dec h2, chk_dec (by rw [hl]; exact h3)]; rfl
 ·cases h⟩
def B85 (s : Int) (l : List Int) (t : List (List Int)) : Option (Int × List (List Int)) := if latB t = true ∧ (0 ≤ s ∧ s < t.length) ∧ allR t l = true ∧ l.length ≤ 100 then some (aft t s l, t) else none
theorem KB85 : FnOk Try.prog 85 (F85c86 B85) := ok85c86 B86c KB86c B85 fun s l t r h => ⟨101, by
 simp only [B85] at h
 split at h
 ·rename_i hh
  obtain ⟨h1, h2, h3, h4⟩ := hh
  have hL := lat_of h1
  rw [← h, m85c86]
  refine rangeIx l 0 (fun n (z : Int) i => l85c86a B86c 101 l n z i t) (fun _ rest z => rg t z ∧ ∀ d ∈ rest, rg t d) (fun _ rest z => some (aft t z rest, t)) (fun n z i d rest hi hx hI ih => ?_) (fun n z hI => ?_) 101 s (by omega) ⟨h2, allR_at h3⟩
  ·obtain ⟨i1, i2⟩ := hI
   have hd := i2 d (by simp)
   simp only [l85c86a, ixA hi, ixB hi, cond_true, chk_true, Int.toNat_natCast, hx, ixW hi (by omega)]
   rw [B86c, if_pos ⟨h1, i1, hd⟩, Option.bind_some]
   exact ih _ ⟨hL.bd i1 hd, fun e he => i2 e (by simp [he])⟩
  ·simp only [l85c86a, ixE, cond_false, aft]
 ·cases h⟩
def B53 (t : List (List Int)) (s : Int) (l : List Int) : Option Int := if latB t = true ∧ (0 ≤ s ∧ s < t.length) ∧ allR t l = true ∧ l.length ≤ 100 then some (aft t s l) else none
theorem KB53 : FnOk Try.prog 53 (F53 B53) := ok53 B85 KB85 B53 fun t s l r h => ⟨0, by
 simp only [B53] at h
 split at h
 ·rename_i hh; rw [← h, m53, B85, if_pos hh, Option.bind_some]
 ·cases h⟩
def B30 (lo n hi : Int) : Option Bool := some (decide (lo ≤ n ∧ n ≤ hi))
theorem KB30 : FnOk Try.prog 30 (F30 B30) := ok30 B30 fun lo n hi r h => ⟨0, by
 rw [← h, m30, B30]
 by_cases e : lo ≤ n
 ·rw [decide_eq_true e, cond_true]; simp [e]
 ·rw [decide_eq_false e, cond_false]; simp [e]⟩
def B98c (d : Int) (t : List (List Int)) : Option (Bool × List (List Int)) := if t.length ≤ 100 then some (!decide (0 ≤ d ∧ d ≤ (t.length : Int) - 1), t) else none
theorem KB98c : FnOk Try.prog 98 (F98c B98c) := ok98c B30 KB30 B98c fun d t r h => ⟨0, by
 simp only [B98c] at h
 split at h
 ·rename_i hh; rw [← h, m98c, B30, Option.bind_some, w64_small (by omega)]
 ·cases h⟩
def B68c98 (l : List Int) (t : List (List Int)) : Option (Int × List (List Int)) := if t.length ≤ 100 ∧ l.length ≤ 100 ∧ allR t l = true then some (-1, t) else none
theorem KB68c98 : FnOk Try.prog 68 (F68c98 B68c98) := ok68c98 B98c KB98c B68c98 fun l t r h => ⟨101, by
 simp only [B68c98] at h
 split at h
 ·rename_i hh
  obtain ⟨h1, h2, h3⟩ := hh
  rw [← h, m68c98]
  refine rangeIx l 0 (fun n (_ : Unit) i => l68c98a B98c 101 l n i t) (fun _ rest _ => ∀ d ∈ rest, rg t d) (fun _ _ _ => some (-1, t)) (fun n z i d rest hi hx hI ih => ?_) (fun n z hI => ?_) 101 () (by omega) (allR_at h3)
  ·have hd := hI d (by simp)
   unfold rg at hd
   simp only [l68c98a, ixA hi, ixB hi, cond_true, chk_true, Int.toNat_natCast, hx, ixW hi (by omega)]
   rw [B98c, if_pos h1, Option.bind_some, decide_eq_true (show 0 ≤ d ∧ d ≤ (t.length : Int) - 1 by omega)]
   exact ih () fun e he => hI e (by simp [he])
  ·simp only [l68c98a, ixE, cond_false]
 ·cases h⟩
def B33c98 (l : List Int) (t : List (List Int)) : Option (Bool × List (List Int)) := if t.length ≤ 100 ∧ l.length ≤ 100 ∧ allR t l = true then some (false, t) else none
theorem KB33c98 : FnOk Try.prog 33 (F33c98 B33c98) := ok33c98 B68c98 KB68c98 B33c98 fun l t r h => ⟨0, by
 simp only [B33c98] at h
 split at h
 ·rename_i hh; rw [← h, m33c98, B68c98, if_pos hh, Option.bind_some]; rfl
 ·cases h⟩
def good (t : List (List Int)) : Prop := A13 t = some 0 ∧ latB t = true
instance (t : List (List Int)) : Decidable (good t) := inferInstanceAs (Decidable (_ ∧ _))
def okC (t : List (List Int)) (l : List Int) : Prop := good t ∧ allR t l = true ∧ l.length ≤ 12
instance (t : List (List Int)) (l : List Int) : Decidable (okC t l) := inferInstanceAs (Decidable (_ ∧ _))
def B84 (t : List (List Int)) (l : List Int) : Option Int := if okC t l then some 0 else none
theorem KB84 : FnOk Try.prog 84 (F84 B84) := ok84 A13 B33c98 K13 KB33c98 B84 fun t l r h => ⟨0, by
 simp only [B84] at h
 split at h
 ·rename_i hh
  obtain ⟨⟨h0, h1⟩, h2, h3⟩ := hh
  have := (lat_of h1).len
  rw [← h, m84, h0, Option.bind_some, show ((0 : Int) != 0) = false from rfl, cond_false, decide_eq_false (show ¬ (l.length : Int) > 12 by omega), cond_false, B33c98, if_pos ⟨by omega, by omega, h2⟩, Option.bind_some]
  rfl
 ·cases h⟩
def B50 (t : List (List Int)) (l : List Int) : Option (Int × Int) := if okC t l then some (aft t 0 l, 0) else none
theorem rg0 {t : List (List Int)} (h : Lat t) : rg t 0 := by have := h.len; unfold rg; omega
theorem KB50 : FnOk Try.prog 50 (F50 B50) := ok50 B53 B84 KB53 KB84 B50 fun t l r h => ⟨0, by
 simp only [B50] at h
 split at h
 ·rename_i hh
  have hL := lat_of hh.1.2
  rw [← h, m50, B84, if_pos hh, Option.bind_some, show ((0 : Int) != 0) = false from rfl, cond_false, B53, if_pos ⟨hh.1.2, rg0 hL, hh.2.1, by have := hh.2.2; omega⟩, Option.bind_some]
 ·cases h⟩
def fx {α : Type} (p : α → Bool) : Int → List α → Int
 | _, [] => -1
 | t, x :: xs => cond (p x) t (fx p (t + 1) xs)
def B51 (s : List Int) (v : Int) : Option Int := if s.length ≤ 100 then some (fx (fun x => v == x) 0 s) else none
theorem KB51 : FnOk Try.prog 51 (F51 B51) := ok51 B51 fun s v r h => ⟨101, by
 simp only [B51] at h
 split at h
 ·rename_i hh
  rw [← h, m51]
  refine rangeIx s 0 (fun n (_ : Unit) i => l51a 101 s v n i) (fun _ _ _ => True) (fun t xs _ => some (fx (fun x => v == x) t xs)) (fun n z i d rest hi hx _ ih => ?_) (fun n z _ => ?_) 101 () (by omega) trivial
  ·simp only [l51a, ixA hi, ixB hi, cond_true, chk_true, Int.toNat_natCast, hx, ixW hi (by omega), fx, ih () trivial]
   cases v == d <;> simp
  ·simp only [l51a, ixE, cond_false, fx]
 ·cases h⟩
theorem fx_at {p : Int → Bool} : ∀ {l : List Int} {k : Int}, (∃ x ∈ l, p x = true) → ∃ i : Nat, i < l.length ∧ fx p k l = k + i ∧ p (l.getD i 0) = true
 | [], _, h => by simp at h
 | x :: r, k, h => by
  rw [fx]
  cases e : p x with
  | true => exact ⟨0, by simp, by simp, by simpa using e⟩
  | false =>
   obtain ⟨y, hy, hp⟩ := h
   rcases List.mem_cons.1 hy with q | q
   ·rw [q, e] at hp; cases hp
   ·obtain ⟨i, h1, h2, h3⟩ := fx_at (k := k + 1) ⟨y, q, hp⟩
    exact ⟨i + 1, by simpa using h1, by rw [cond_false, h2]; omega, by simpa using h3⟩
def chkD (t : List (List Int)) (l : List Int) : Int := fx (fun x => 0 == x) 0 (t.getD (aft t 0 l).toNat [])
theorem chkD_ok {t : List (List Int)} {l : List Int} (h : Lat t) (hl : ∀ d ∈ l, rg t d) : rg t (chkD t l) ∧ tb t (aft t 0 l) (chkD t l) = 0 := by
 have hs := aft_rg h (rg0 h) hl
 obtain ⟨i, h1, h2, h3⟩ := fx_at (p := fun x => (0 : Int) == x) (k := 0) ⟨0, lat_has h hs (rg0 h), rfl⟩
 rw [h.row _ (by unfold rg at hs; omega)] at h1
 rw [chkD, h2]
 refine ⟨by unfold rg; omega, ?_⟩
 rw [tb, show (0 + (i : Int)).toNat = i by omega]
 have := of_decide_eq_true h3
 exact this.symm
def B20 (t : List (List Int)) (l : List Int) : Option (Int × Int) := if okC t l then some (chkD t l, 0) else none
theorem KB20 : FnOk Try.prog 20 (F20 B20) := ok20 B50 B51 KB50 KB51 B20 fun t l r h => ⟨0, by
 simp only [B20] at h
 split at h
 ·rename_i hh
  have hL := lat_of hh.1.2
  have hs := aft_rg hL (rg0 hL) (allR_at hh.2.1)
  have hk : (aft t 0 l).toNat < t.length := by unfold rg at hs; omega
  rw [← h, m20, B50, if_pos hh, Option.bind_some]
  simp only [show ((0 : Int) != 0) = false from rfl, cond_false]
  rw [chk_dec (show 0 ≤ aft t 0 l ∧ aft t 0 l < (t.length : Int) from hs), B51, if_pos (by rw [hL.row _ hk]; have := hL.len; omega), Option.bind_some]; rfl
 ·cases h⟩
def okK (t : List (List Int)) (l : List Int) : Prop := okC t l ∧ 2 ≤ l.length
instance (t : List (List Int)) (l : List Int) : Decidable (okK t l) := inferInstanceAs (Decidable (_ ∧ _))
def B52 (t : List (List Int)) (l : List Int) : Option Int := if okK t l then some 0 else none
theorem KB52 : FnOk Try.prog 52 (F52 B52) := ok52 A13 B84 K13 KB84 B52 fun t l r h => ⟨0, by
 simp only [B52] at h
 split at h
 ·rename_i hh
  have := hh.2
  rw [← h, m52, hh.1.1.1, Option.bind_some, show ((0 : Int) != 0) = false from rfl, cond_false, decide_eq_false (show ¬ (l.length : Int) < 2 by omega), cond_false, B84, if_pos hh.1, Option.bind_some]
 ·cases h⟩
theorem B53_at {t : List (List Int)} {l : List Int} (h : okC t l) : B53 t 0 l = some (aft t 0 l) := by
 rw [B53, if_pos ⟨h.1.2, rg0 (lat_of h.1.2), h.2.1, by have := h.2.2; omega⟩]
def B21 (t : List (List Int)) (l : List Int) : Option Int := if okK t l then some (if aft t 0 l = 0 then 0 else 13) else none
theorem KB21 : FnOk Try.prog 21 (F21 B21) := ok21 B52 B53 KB52 KB53 B21 fun t l r h => ⟨0, by
 simp only [B21] at h
 split at h
 ·rename_i hh
  rw [← h, m21, B52, if_pos hh, Option.bind_some, show ((0 : Int) == 0) = true from rfl, cond_true, B53_at hh.1, Option.bind_some]
  by_cases e : aft t 0 l = 0
  ·rw [if_pos e, e]; rfl
  ·rw [if_neg e, show (aft t 0 l != 0) = true by simp [e]]; rfl
 ·cases h⟩
def B54 (t : List (List Int)) (l : List Int) : Option Int := if okK t l then some (if aft t 0 l = 0 then 20 else 0) else none
theorem KB54 : FnOk Try.prog 54 (F54 B54) := ok54 B52 B53 KB52 KB53 B54 fun t l r h => ⟨0, by
 simp only [B54] at h
 split at h
 ·rename_i hh
  rw [← h, m54, B52, if_pos hh, Option.bind_some, show ((0 : Int) == 0) = true from rfl, cond_true, B53_at hh.1, Option.bind_some]
  by_cases e : aft t 0 l = 0
  ·rw [if_pos e, e]; rfl
  ·rw [if_neg e, show (aft t 0 l == 0) = false by simp [e]]; rfl
 ·cases h⟩
def B87c (x : Int) (t : List (List Int)) (c : List Int) (at_ : Int) : Option (Bool × List (List Int) × List Int × Int) :=
 if latB t = true ∧ (0 ≤ x ∧ x < t.length) ∧ allR t c = true ∧ c.length ≤ 100 ∧ (0 ≤ at_ ∧ at_ < c.length) then some (aft t x (c.drop (at_ + 1).toNat) == 0, t, c, at_) else none
theorem KB87c : FnOk Try.prog 87 (F87c B87c) := ok87c B53 KB53 B87c fun x t c k r h => ⟨0, by
 simp only [B87c] at h
 split at h
 ·rename_i hh
  obtain ⟨h1, h2, h3, h4, h5⟩ := hh
  rw [← h, m87c, w64_small (x := k + 1) (by omega), chk_dec (by omega), B53, if_pos ⟨h1, h2, allR_of fun d hd => allR_at h3 d (List.mem_of_mem_drop hd), by rw [List.length_drop]; omega⟩, Option.bind_some]
 ·cases h⟩
def B68c87 (s : List Int) (t : List (List Int)) (c : List Int) (at_ : Int) : Option (Int × List (List Int) × List Int × Int) :=
 if latB t = true ∧ (allR t s = true ∧ s.length ≤ 100) ∧ allR t c = true ∧ c.length ≤ 100 ∧ (0 ≤ at_ ∧ at_ < c.length) then some (fx (fun x => aft t x (c.drop (at_ + 1).toNat) == 0) 0 s, t, c, at_) else none
theorem KB68c87 : FnOk Try.prog 68 (F68c87 B68c87) := ok68c87 B87c KB87c B68c87 fun s t c k r h => ⟨101, by
 simp only [B68c87] at h
 split at h
 ·rename_i hh
  obtain ⟨h1, h2, h3, h4, h5⟩ := hh
  rw [← h, m68c87]
  refine rangeIx s 0 (fun n (_ : Unit) i => l68c87a B87c 101 s n i t c k) (fun _ rest _ => ∀ d ∈ rest, rg t d) (fun i rest _ => some (fx (fun x => aft t x (c.drop (k + 1).toNat) == 0) i rest, t, c, k)) (fun n z i d rest hi hx hI ih => ?_) (fun n z hI => ?_) 101 () (by omega) (allR_at h2.1)
  ·have hd := hI d (by simp)
   have e := ih () fun e he => hI e (by simp [he])
   simp only [l68c87a, ixA hi, ixB hi, cond_true, chk_true, Int.toNat_natCast, hx, ixW hi (by omega), fx]
   rw [B87c, if_pos ⟨h1, hd, h3, h4, h5⟩, Option.bind_some]
   simp only [e]
   cases aft t d (c.drop (k + 1).toNat) == 0 <;> simp
  ·simp only [l68c87a, ixE, cond_false, fx]
 ·cases h⟩
def fixD (t : List (List Int)) (c : List Int) (k : Nat) : Int := fx (fun x => aft t x (c.drop (k + 1)) == 0) 0 (t.getD (aft t 0 (c.take k)).toNat [])
def B55 (t : List (List Int)) (c : List Int) (k : Int) : Option Int := if okC t c ∧ (0 ≤ k ∧ k < c.length) then some (fixD t c k.toNat) else none
theorem KB55 : FnOk Try.prog 55 (F55 B55) := ok55 B53 B68c87 KB53 KB68c87 B55 fun t c k r h => ⟨0, by
 simp only [B55] at h
 split at h
 ·rename_i hh
  obtain ⟨hc, hk⟩ := hh
  obtain ⟨k, rfl⟩ : ∃ q : Nat, k = q := ⟨k.toNat, by omega⟩
  have hL := lat_of hc.1.2
  have h12 := hc.2.2
  have htk : ∀ d ∈ c.take k, rg t d := fun d hd => allR_at hc.2.1 d (List.mem_of_mem_take hd)
  have hs := aft_rg hL (rg0 hL) htk
  have hr : (aft t 0 (c.take k)).toNat < t.length := by unfold rg at hs; omega
  have hlen := hL.row _ hr
  have h10 := hL.len
  have hrow : ∀ x ∈ t.getD (aft t 0 (c.take k)).toNat [], rg t x := fun y hy => by
   obtain ⟨i, hi, e⟩ := mem_getD hy 0
   have := hL.bd hs (d := (i : Int)) ⟨by omega, by omega⟩
   rw [tb, Int.toNat_natCast, e] at this
   exact this
  rw [← h, m55, chk_dec (by omega), Int.toNat_natCast, B53, if_pos ⟨hc.1.2, rg0 hL, allR_of htk, by rw [List.length_take]; omega⟩, Option.bind_some, chk_dec (show 0 ≤ aft t 0 (c.take k) ∧ aft t 0 (c.take k) < (t.length : Int) from hs), B68c87, if_pos ⟨hc.1.2, ⟨allR_of hrow, by omega⟩, hc.2.1, by omega, hk⟩, Option.bind_some, fixD, show ((k : Int) + 1).toNat = k + 1 by omega]
 ·cases h⟩
def fixL (t : List (List Int)) (c : List Int) : Nat → List (Int × Int × Unit)
 | 0 => []
 | k + 1 => fixL t c k ++ [((k : Int), fixD t c k, ())]
theorem fixL_len (t : List (List Int)) (c : List Int) : ∀ k, (fixL t c k).length = k
 | 0 => rfl
 | k + 1 => by simp [fixL, fixL_len t c k]
def B22 (t : List (List Int)) (c : List Int) : Option (List (Int × Int × Unit) × Int) := if okK t c ∧ aft t 0 c ≠ 0 then some (fixL t c c.length, 0) else none
theorem KB22 : FnOk Try.prog 22 (F22 B22) := ok22 B54 B55 KB54 KB55 B22 fun t c r h => ⟨20, by
 simp only [B22] at h
 split at h
 ·rename_i hh
  obtain ⟨hk, hne⟩ := hh
  have h12 := hk.1.2.2
  rw [← h, m22, B54, if_pos hk, Option.bind_some, if_neg hne, show ((0 : Int) != 0) = false from rfl, cond_false]
  refine countP' 0 (c.length : Int) (by omega) (fun n z i => l22a B54 B55 20 t c n i z) (fun i z => z = fixL t c i.toNat) (fun x => x = some (fixL t c c.length, 0)) (fun n z i a b hI ih => ?_) (fun n z hI => ?_) 20 [] (by omega) rfl
  ·subst hI
   obtain ⟨k, rfl⟩ : ∃ q : Nat, i = q := ⟨i.toNat, by omega⟩
   have hkl : k < c.length := by omega
   have e := ih _ rfl
   rw [show ((k : Int) + 1).toNat = k + 1 by omega] at e
   simp only [l22a, ixA hkl, cond_true, Int.toNat_natCast]
   rw [B55, if_pos ⟨hk.1, by omega⟩, Option.bind_some, chk_of (small_of (by rw [fixL_len]; omega) (by decide)), w64_small (x := (k : Int) + 1) (by omega)]
   exact e
  ·subst hI
   simp only [l22a, ixE, cond_false, Int.toNat_natCast]
 ·cases h⟩
def e5b (a13 : (List (List Int)) → Option (Int)) (a18 : (List (List Int)) → Int → Option (List (Int × List Int × Unit) × Int)) (a19 : (List (List Int)) → Int → (List (Int × List Int × Unit)) → Option (Int)) (a20 : (List (List Int)) → (List Int) → Option (Int × Int)) (a21 : (List (List Int)) → (List Int) → Option (Int)) (a22 : (List (List Int)) → (List Int) → Option (List (Int × Int × Unit) × Int)) (a9 : Option (Bool)) (N : Nat) (nn : Int) (digits1 : List Int) (i7_a : Int) (work6_a : List (List Int)) (rec_l5a : Int → (List (List Int)) → Option (Bool)) : Nat → Int → (List Int) → Option (Bool)
 | 0, _, _ => none
 | n + 1, k9_b, l8_b => cond (decide (k9_b < nn)) (chk (small (l8_b.length + 1) 8) ((e5b a13 a18 a19 a20 a21 a22 a9 N nn digits1 i7_a work6_a rec_l5a n (w64 (k9_b + (1 : Int))) (l8_b ++ ([(1 : Int)] : List Int)))))
   (chk (small (work6_a.length + 1) 24) ((rec_l5a (w64 (i7_a + (1 : Int))) (work6_a ++ ([l8_b] : List (List Int))))))
def e5e (a13 : (List (List Int)) → Option (Int)) (a18 : (List (List Int)) → Int → Option (List (Int × List Int × Unit) × Int)) (a19 : (List (List Int)) → Int → (List (Int × List Int × Unit)) → Option (Int)) (a20 : (List (List Int)) → (List Int) → Option (Int × Int)) (a21 : (List (List Int)) → (List Int) → Option (Int)) (a22 : (List (List Int)) → (List Int) → Option (List (Int × Int × Unit) × Int)) (a9 : Option (Bool)) (N : Nat) (nn : Int) (digits1 : List Int) (r1 : List (Int × List Int × Unit) × Int) (t62_c : Int) (t84_d : Int) (rec_l5d : Int → (List (List Int)) → Option (Bool)) : Nat → Int → (List (List Int)) → Option (Bool)
 | 0, _, _ => none
 | n + 1, t89_e, o59_e => cond (decide (t89_e < ((((r1.1.getD t62_c.toNat ((0 : Int), (([] : List Int), ()))).2).1).length : Int))) (chk (decide (0 ≤ t89_e ∧ t89_e < ((((r1.1.getD t62_c.toNat ((0 : Int), (([] : List Int), ()))).2).1).length : Int))) (chk (decide (0 ≤ t89_e ∧ t89_e < (o59_e.length : Int))) (chk (small ((o59_e.getD t89_e.toNat ([] : List Int)).length + 1) 8) (chk (decide (0 ≤ t89_e ∧ t89_e < (o59_e.length : Int))) (chk (decide (t89_e.toNat = t89_e.toNat)) ((e5e a13 a18 a19 a20 a21 a22 a9 N nn digits1 r1 t62_c t84_d rec_l5d n (w64 (t89_e + (1 : Int))) (o59_e.set t89_e.toNat ((o59_e.getD t89_e.toNat ([] : List Int)) ++ ([(((r1.1.getD t62_c.toNat ((0 : Int), (([] : List Int), ()))).2).1).getD t89_e.toNat (0 : Int)] : List Int))))))))))
   ((rec_l5d (w64 (t84_d + (1 : Int))) o59_e))
def e5d (a13 : (List (List Int)) → Option (Int)) (a18 : (List (List Int)) → Int → Option (List (Int × List Int × Unit) × Int)) (a19 : (List (List Int)) → Int → (List (Int × List Int × Unit)) → Option (Int)) (a20 : (List (List Int)) → (List Int) → Option (Int × Int)) (a21 : (List (List Int)) → (List Int) → Option (Int)) (a22 : (List (List Int)) → (List Int) → Option (List (Int × Int × Unit) × Int)) (a9 : Option (Bool)) (N : Nat) (nn : Int) (digits1 : List Int) (r1 : List (Int × List Int × Unit) × Int) (t62_c : Int) (rec_l5c : Int → (List (List Int)) → Option (Bool)) : Nat → Int → (List (List Int)) → Option (Bool)
 | 0, _, _ => none
 | n + 1, t84_d, o59_d => cond (decide (t84_d < ((r1.1.getD t62_c.toNat ((0 : Int), (([] : List Int), ()))).1))) ((e5e a13 a18 a19 a20 a21 a22 a9 N nn digits1 r1 t62_c t84_d (fun y0 y1 => (e5d a13 a18 a19 a20 a21 a22 a9 N nn digits1 r1 t62_c rec_l5c n y0 y1)) N (0 : Int) o59_d))
   ((rec_l5c (w64 (t62_c + (1 : Int))) o59_d))
def e5f (a13 : (List (List Int)) → Option (Int)) (a18 : (List (List Int)) → Int → Option (List (Int × List Int × Unit) × Int)) (a19 : (List (List Int)) → Int → (List (Int × List Int × Unit)) → Option (Int)) (a20 : (List (List Int)) → (List Int) → Option (Int × Int)) (a21 : (List (List Int)) → (List Int) → Option (Int)) (a22 : (List (List Int)) → (List Int) → Option (List (Int × Int × Unit) × Int)) (a9 : Option (Bool)) (N : Nat) (nn : Int) (digits1 : List Int) (o59_c : List (List Int)) : Nat → Int → (List Int) → Option (Bool)
 | 0, _, _ => none
 | n + 1, i18_f, l17_f => cond (decide (i18_f < (digits1.length : Int))) (cond (decide (i18_f < (9 : Int))) (chk (decide (0 ≤ i18_f ∧ i18_f < (digits1.length : Int))) (chk (decide (nn ≠ (0 : Int))) (chk (small (l17_f.length + 1) 8) ((e5f a13 a18 a19 a20 a21 a22 a9 N nn digits1 o59_c n (w64 (i18_f + (1 : Int))) (l17_f ++ ([Int.tmod (w64 (digits1.getD i18_f.toNat (0 : Int))) nn] : List Int)))))))
   (cond ((l17_f.length : Int) == (0 : Int)) (chk (small (l17_f.length + 1) 8) ((a20 o59_c (l17_f ++ ([(0 : Int)] : List Int))).bind fun r4 =>
   chk (small ((l17_f ++ ([(0 : Int)] : List Int)).length + 1) 8) (cond (r4.2 != (0 : Int)) (some false)
   ((a21 o59_c ((l17_f ++ ([(0 : Int)] : List Int)) ++ ([r4.1] : List Int))).bind fun r5 =>
   cond (r5 != (0 : Int)) (some false)
   (chk (decide (0 ≤ (0 : Int) ∧ (0 : Int) < (((l17_f ++ ([(0 : Int)] : List Int)) ++ ([r4.1] : List Int)).length : Int))) (chk (decide (nn ≠ (0 : Int))) (chk (decide (0 ≤ (0 : Int) ∧ (0 : Int) < (((l17_f ++ ([(0 : Int)] : List Int)) ++ ([r4.1] : List Int)).length : Int))) ((a22 o59_c (((l17_f ++ ([(0 : Int)] : List Int)) ++ ([r4.1] : List Int)).set 0 (Int.tmod (w64 ((((l17_f ++ ([(0 : Int)] : List Int)) ++ ([r4.1] : List Int)).getD 0 (0 : Int)) + (1 : Int))) nn))).bind fun r6 =>
   (a21 o59_c (((l17_f ++ ([(0 : Int)] : List Int)) ++ ([r4.1] : List Int)).set 0 (Int.tmod (w64 ((((l17_f ++ ([(0 : Int)] : List Int)) ++ ([r4.1] : List Int)).getD 0 (0 : Int)) + (1 : Int))) nn))).bind fun r7 =>
   cond (r7 == (13 : Int)) (cond (r6.2 == (0 : Int)) (cond ((r6.1.length : Int) == ((((l17_f ++ ([(0 : Int)] : List Int)) ++ ([r4.1] : List Int)).set 0 (Int.tmod (w64 ((((l17_f ++ ([(0 : Int)] : List Int)) ++ ([r4.1] : List Int)).getD 0 (0 : Int)) + (1 : Int))) nn)).length : Int)) ((a9).bind fun r8 =>
   some r8)
   (some false))
   (some false))
   (some false)))))))))
   ((a20 o59_c l17_f).bind fun r9 =>
   chk (small (l17_f.length + 1) 8) (cond (r9.2 != (0 : Int)) (some false)
   ((a21 o59_c (l17_f ++ ([r9.1] : List Int))).bind fun r10 =>
   cond (r10 != (0 : Int)) (some false)
   (chk (decide (0 ≤ (0 : Int) ∧ (0 : Int) < ((l17_f ++ ([r9.1] : List Int)).length : Int))) (chk (decide (nn ≠ (0 : Int))) (chk (decide (0 ≤ (0 : Int) ∧ (0 : Int) < ((l17_f ++ ([r9.1] : List Int)).length : Int))) ((a22 o59_c ((l17_f ++ ([r9.1] : List Int)).set 0 (Int.tmod (w64 (((l17_f ++ ([r9.1] : List Int)).getD 0 (0 : Int)) + (1 : Int))) nn))).bind fun r11 =>
   (a21 o59_c ((l17_f ++ ([r9.1] : List Int)).set 0 (Int.tmod (w64 (((l17_f ++ ([r9.1] : List Int)).getD 0 (0 : Int)) + (1 : Int))) nn))).bind fun r12 =>
   cond (r12 == (13 : Int)) (cond (r11.2 == (0 : Int)) (cond ((r11.1.length : Int) == (((l17_f ++ ([r9.1] : List Int)).set 0 (Int.tmod (w64 (((l17_f ++ ([r9.1] : List Int)).getD 0 (0 : Int)) + (1 : Int))) nn)).length : Int)) ((a9).bind fun r13 =>
   some r13)
   (some false))
   (some false))
   (some false))))))))))
   (cond ((l17_f.length : Int) == (0 : Int)) (chk (small (l17_f.length + 1) 8) ((a20 o59_c (l17_f ++ ([(0 : Int)] : List Int))).bind fun r14 =>
   chk (small ((l17_f ++ ([(0 : Int)] : List Int)).length + 1) 8) (cond (r14.2 != (0 : Int)) (some false)
   ((a21 o59_c ((l17_f ++ ([(0 : Int)] : List Int)) ++ ([r14.1] : List Int))).bind fun r15 =>
   cond (r15 != (0 : Int)) (some false)
   (chk (decide (0 ≤ (0 : Int) ∧ (0 : Int) < (((l17_f ++ ([(0 : Int)] : List Int)) ++ ([r14.1] : List Int)).length : Int))) (chk (decide (nn ≠ (0 : Int))) (chk (decide (0 ≤ (0 : Int) ∧ (0 : Int) < (((l17_f ++ ([(0 : Int)] : List Int)) ++ ([r14.1] : List Int)).length : Int))) ((a22 o59_c (((l17_f ++ ([(0 : Int)] : List Int)) ++ ([r14.1] : List Int)).set 0 (Int.tmod (w64 ((((l17_f ++ ([(0 : Int)] : List Int)) ++ ([r14.1] : List Int)).getD 0 (0 : Int)) + (1 : Int))) nn))).bind fun r16 =>
   (a21 o59_c (((l17_f ++ ([(0 : Int)] : List Int)) ++ ([r14.1] : List Int)).set 0 (Int.tmod (w64 ((((l17_f ++ ([(0 : Int)] : List Int)) ++ ([r14.1] : List Int)).getD 0 (0 : Int)) + (1 : Int))) nn))).bind fun r17 =>
   cond (r17 == (13 : Int)) (cond (r16.2 == (0 : Int)) (cond ((r16.1.length : Int) == ((((l17_f ++ ([(0 : Int)] : List Int)) ++ ([r14.1] : List Int)).set 0 (Int.tmod (w64 ((((l17_f ++ ([(0 : Int)] : List Int)) ++ ([r14.1] : List Int)).getD 0 (0 : Int)) + (1 : Int))) nn)).length : Int)) ((a9).bind fun r18 =>
   some r18)
   (some false))
   (some false))
   (some false)))))))))
   ((a20 o59_c l17_f).bind fun r19 =>
   chk (small (l17_f.length + 1) 8) (cond (r19.2 != (0 : Int)) (some false)
   ((a21 o59_c (l17_f ++ ([r19.1] : List Int))).bind fun r20 =>
   cond (r20 != (0 : Int)) (some false)
   (chk (decide (0 ≤ (0 : Int) ∧ (0 : Int) < ((l17_f ++ ([r19.1] : List Int)).length : Int))) (chk (decide (nn ≠ (0 : Int))) (chk (decide (0 ≤ (0 : Int) ∧ (0 : Int) < ((l17_f ++ ([r19.1] : List Int)).length : Int))) ((a22 o59_c ((l17_f ++ ([r19.1] : List Int)).set 0 (Int.tmod (w64 (((l17_f ++ ([r19.1] : List Int)).getD 0 (0 : Int)) + (1 : Int))) nn))).bind fun r21 =>
   (a21 o59_c ((l17_f ++ ([r19.1] : List Int)).set 0 (Int.tmod (w64 (((l17_f ++ ([r19.1] : List Int)).getD 0 (0 : Int)) + (1 : Int))) nn))).bind fun r22 =>
   cond (r22 == (13 : Int)) (cond (r21.2 == (0 : Int)) (cond ((r21.1.length : Int) == (((l17_f ++ ([r19.1] : List Int)).set 0 (Int.tmod (w64 (((l17_f ++ ([r19.1] : List Int)).getD 0 (0 : Int)) + (1 : Int))) nn)).length : Int)) ((a9).bind fun r23 =>
   some r23)
   (some false))
   (some false))
   (some false)))))))))
def e5c (a13 : (List (List Int)) → Option (Int)) (a18 : (List (List Int)) → Int → Option (List (Int × List Int × Unit) × Int)) (a19 : (List (List Int)) → Int → (List (Int × List Int × Unit)) → Option (Int)) (a20 : (List (List Int)) → (List Int) → Option (Int × Int)) (a21 : (List (List Int)) → (List Int) → Option (Int)) (a22 : (List (List Int)) → (List Int) → Option (List (Int × Int × Unit) × Int)) (a9 : Option (Bool)) (N : Nat) (nn : Int) (digits1 : List Int) (r1 : List (Int × List Int × Unit) × Int) : Nat → Int → (List (List Int)) → Option (Bool)
 | 0, _, _ => none
 | n + 1, t62_c, o59_c => cond (decide (t62_c < (r1.1.length : Int))) (chk (decide (0 ≤ t62_c ∧ t62_c < (r1.1.length : Int))) (cond (decide (((r1.1.getD t62_c.toNat ((0 : Int), (([] : List Int), ()))).1) < (1 : Int))) (some false)
   (cond (decide (((r1.1.getD t62_c.toNat ((0 : Int), (([] : List Int), ()))).1) > nn)) (some false)
   (cond (((((r1.1.getD t62_c.toNat ((0 : Int), (([] : List Int), ()))).2).1).length : Int) != nn) (some false)
   ((e5d a13 a18 a19 a20 a21 a22 a9 N nn digits1 r1 t62_c (fun y0 y1 => (e5c a13 a18 a19 a20 a21 a22 a9 N nn digits1 r1 n y0 y1)) N (0 : Int) o59_c))))))
   ((a13 o59_c).bind fun r3 =>
   cond (r3 != (0 : Int)) (some false)
   ((e5f a13 a18 a19 a20 a21 a22 a9 N nn digits1 o59_c N (0 : Int) ([] : List Int))))
def e5a (a13 : (List (List Int)) → Option (Int)) (a18 : (List (List Int)) → Int → Option (List (Int × List Int × Unit) × Int)) (a19 : (List (List Int)) → Int → (List (Int × List Int × Unit)) → Option (Int)) (a20 : (List (List Int)) → (List Int) → Option (Int × Int)) (a21 : (List (List Int)) → (List Int) → Option (Int)) (a22 : (List (List Int)) → (List Int) → Option (List (Int × Int × Unit) × Int)) (a9 : Option (Bool)) (N : Nat) (nn : Int) (digits1 : List Int) : Nat → Int → (List (List Int)) → Option (Bool)
 | 0, _, _ => none
 | n + 1, i7_a, work6_a => cond (decide (i7_a < nn)) ((e5b a13 a18 a19 a20 a21 a22 a9 N nn digits1 i7_a work6_a (fun y0 y1 => (e5a a13 a18 a19 a20 a21 a22 a9 N nn digits1 n y0 y1)) N (0 : Int) ([] : List Int)))
   ((a18 work6_a nn).bind fun r1 =>
   cond (r1.2 != (0 : Int)) (some false)
   ((a19 work6_a nn r1.1).bind fun r2 =>
   cond (r2 != (0 : Int)) (some false)
   (chk (mkOk nn nn 24) ((e5c a13 a18 a19 a20 a21 a22 a9 N nn digits1 r1 N (0 : Int) (List.replicate (nn.toNat) ([] : List Int)))))))
theorem e5_eq (a13 : (List (List Int)) → Option (Int)) (a18 : (List (List Int)) → Int → Option (List (Int × List Int × Unit) × Int)) (a19 : (List (List Int)) → Int → (List (Int × List Int × Unit)) → Option (Int)) (a20 : (List (List Int)) → (List Int) → Option (Int × Int)) (a21 : (List (List Int)) → (List Int) → Option (Int)) (a22 : (List (List Int)) → (List Int) → Option (List (Int × Int × Unit) × Int)) (a9 : Option Bool) (N : Nat) (side : Int) (l : List Int) : l5a a13 a18 a19 a20 a21 a22 a9 N side l = e5a a13 a18 a19 a20 a21 a22 a9 N (w64 ((2 : Int) + (Int.tmod (w64 side) (5 : Int)))) l := by kernel_rfl
theorem m5_e (a13 : (List (List Int)) → Option (Int)) (a18 : (List (List Int)) → Int → Option (List (Int × List Int × Unit) × Int)) (a19 : (List (List Int)) → Int → (List (Int × List Int × Unit)) → Option (Int)) (a20 : (List (List Int)) → (List Int) → Option (Int × Int)) (a21 : (List (List Int)) → (List Int) → Option (Int)) (a22 : (List (List Int)) → (List Int) → Option (List (Int × Int × Unit) × Int)) (a9 : Option Bool) (N : Nat) (side : Int) (l : List Int) : m5 a13 a18 a19 a20 a21 a22 a9 N side l = e5a a13 a18 a19 a20 a21 a22 a9 N (w64 ((2 : Int) + (Int.tmod (w64 side) (5 : Int)))) l N 0 [] := by rw [m5, e5_eq]
def tab2 : List (List Int) := [[1, 0], [0, 1]]
theorem plan2 : A18 ([[1, 1], [1, 1]] : List (List Int)) 2 = some ([(1, [1, 0], ()), (1, [0, 1], ())], 0) := by kernel_rfl
theorem pre2 (a20 : (List (List Int)) → (List Int) → Option (Int × Int)) (a21 : (List (List Int)) → (List Int) → Option (Int)) (a22 : (List (List Int)) → (List Int) → Option (List (Int × Int × Unit) × Int)) (a9 : Option Bool) (l : List Int) :
  e5a A13 A18 A19 a20 a21 a22 a9 60 2 l 60 0 [] = e5f A13 A18 A19 a20 a21 a22 a9 60 2 l tab2 60 0 [] := by kernel_rfl
theorem good2 : good tab2 := ⟨by kernel_rfl, by kernel_rfl⟩
def tab3 : List (List Int) := [[2, 0, 1], [1, 2, 0], [0, 1, 2]]
theorem pre3 (a20 : (List (List Int)) → (List Int) → Option (Int × Int)) (a21 : (List (List Int)) → (List Int) → Option (Int)) (a22 : (List (List Int)) → (List Int) → Option (List (Int × Int × Unit) × Int)) (a9 : Option Bool) (l : List Int) :
  e5a A13 A18 A19 a20 a21 a22 a9 60 3 l 60 0 [] = e5f A13 A18 A19 a20 a21 a22 a9 60 3 l tab3 60 0 [] := by kernel_rfl
theorem good3 : good tab3 := ⟨by kernel_rfl, by kernel_rfl⟩
def tab4 : List (List Int) := [[3, 2, 1, 0], [2, 0, 3, 1], [1, 3, 0, 2], [0, 1, 2, 3]]
theorem pre4 (a20 : (List (List Int)) → (List Int) → Option (Int × Int)) (a21 : (List (List Int)) → (List Int) → Option (Int)) (a22 : (List (List Int)) → (List Int) → Option (List (Int × Int × Unit) × Int)) (a9 : Option Bool) (l : List Int) :
  e5a A13 A18 A19 a20 a21 a22 a9 60 4 l 60 0 [] = e5f A13 A18 A19 a20 a21 a22 a9 60 4 l tab4 60 0 [] := by kernel_rfl
theorem good4 : good tab4 := ⟨by kernel_rfl, by kernel_rfl⟩
def tab5 : List (List Int) := [[4, 3, 1, 0, 2], [3, 4, 0, 2, 1], [2, 0, 4, 1, 3], [1, 2, 3, 4, 0], [0, 1, 2, 3, 4]]
theorem pre5 (a20 : (List (List Int)) → (List Int) → Option (Int × Int)) (a21 : (List (List Int)) → (List Int) → Option (Int)) (a22 : (List (List Int)) → (List Int) → Option (List (Int × Int × Unit) × Int)) (a9 : Option Bool) (l : List Int) :
  e5a A13 A18 A19 a20 a21 a22 a9 60 5 l 60 0 [] = e5f A13 A18 A19 a20 a21 a22 a9 60 5 l tab5 60 0 [] := by kernel_rfl
theorem good5 : good tab5 := ⟨by kernel_rfl, by kernel_rfl⟩
def tab6 : List (List Int) := [[5, 3, 4, 0, 2, 1], [4, 5, 1, 2, 0, 3], [3, 4, 0, 5, 1, 2], [2, 0, 5, 1, 3, 4], [1, 2, 3, 4, 5, 0], [0, 1, 2, 3, 4, 5]]
theorem pre6 (a20 : (List (List Int)) → (List Int) → Option (Int × Int)) (a21 : (List (List Int)) → (List Int) → Option (Int)) (a22 : (List (List Int)) → (List Int) → Option (List (Int × Int × Unit) × Int)) (a9 : Option Bool) (l : List Int) :
  e5a A13 A18 A19 a20 a21 a22 a9 60 6 l 60 0 [] = e5f A13 A18 A19 a20 a21 a22 a9 60 6 l tab6 60 0 [] := by kernel_rfl
theorem good6 : good tab6 := ⟨by kernel_rfl, by kernel_rfl⟩
theorem tmod_emod {a b : Int} (ha : 0 ≤ a) : Int.tmod a b = a % b := Int.tmod_eq_emod_of_nonneg ha
theorem next_ne {n x : Int} (hn : 2 ≤ n ∧ n ≤ 10) (hx : 0 ≤ x ∧ x < n) : (0 ≤ Int.tmod (w64 (x + 1)) n ∧ Int.tmod (w64 (x + 1)) n < n) ∧ Int.tmod (w64 (x + 1)) n ≠ x := by
 rw [w64_small (by omega), tmod_emod (by omega)]
 by_cases e : x + 1 < n
 ·rw [Int.emod_eq_of_lt (by omega) e]; omega
 ·have e2 : x + 1 = n := by omega
  rw [e2, Int.emod_self]; omega
theorem tail_ok {t : List (List Int)} (hg : good t) {l : List Int} (hl : ∀ d ∈ l, rg t d) (h1 : 1 ≤ l.length ∧ l.length ≤ 10) :
  ∃ d, B20 t l = some (d, 0) ∧ B21 t (l ++ [d]) = some 0 ∧ (∃ r, B22 t ((l ++ [d]).set 0 (Int.tmod (w64 ((l ++ [d]).getD 0 0 + 1)) (t.length : Int))) = some (r, 0) ∧ r.length = ((l ++ [d]).set 0 (Int.tmod (w64 ((l ++ [d]).getD 0 0 + 1)) (t.length : Int))).length) ∧
   B21 t ((l ++ [d]).set 0 (Int.tmod (w64 ((l ++ [d]).getD 0 0 + 1)) (t.length : Int))) = some 13 := by
 have hL := lat_of hg.2
 have hlen := hL.len
 obtain ⟨c1, c2⟩ := chkD_ok hL hl
 have hc : ∀ e ∈ l ++ [chkD t l], rg t e := fun e he => by
  rcases List.mem_append.1 he with q | q
  ·exact hl e q
  ·rw [List.mem_singleton.1 q]; exact c1
 have hk : okK t (l ++ [chkD t l]) := ⟨⟨hg, allR_of hc, by simp; omega⟩, by simp; omega⟩
 have h0 : aft t 0 (l ++ [chkD t l]) = 0 := by rw [aft_append]; exact c2
 obtain ⟨x, r, hxr⟩ : ∃ x r, l ++ [chkD t l] = x :: r := by
  cases l with
  | nil => simp at h1
  | cons x r => exact ⟨x, r ++ [chkD t (x :: r)], rfl⟩
 refine ⟨chkD t l, by rw [B20, if_pos ⟨hg, allR_of hl, by omega⟩], by rw [B21, if_pos hk, if_pos h0], ?_⟩
 rw [hxr] at hk h0 hc ⊢
 have hx : rg t x := hc x (by simp)
 obtain ⟨n1, n2⟩ := next_ne (n := (t.length : Int)) (x := x) (by omega) hx
 have hset : (x :: r).set 0 (Int.tmod (w64 ((x :: r).getD 0 0 + 1)) (t.length : Int)) = Int.tmod (w64 (x + 1)) (t.length : Int) :: r := rfl
 rw [hset]
 generalize Int.tmod (w64 (x + 1)) (t.length : Int) = y at n1 n2
 have hy : ∀ e ∈ y :: r, rg t e := fun e he => by
  rcases List.mem_cons.1 he with q | q
  ·rw [q]; exact n1
  ·exact hc e (by simp [q])
 have hk2 : okK t (y :: r) := ⟨⟨hg, allR_of hy, by have := hk.1.2.2; simpa using this⟩, by have := hk.2; simpa using this⟩
 have hne : aft t 0 (y :: r) ≠ 0 := fun e => by
  have e2 : aft t (tb t 0 y) r = aft t (tb t 0 x) r := e.trans h0.symm
  have e3 := aft_inj hL (hL.bd (rg0 hL) n1) (hL.bd (rg0 hL) hx) (fun e he => hc e (by simp [he])) e2
  exact n2 (hL.ri (rg0 hL) n1 hx e3)
 exact ⟨⟨_, by rw [B22, if_pos ⟨hk2, hne⟩], fixL_len _ _ _⟩, by rw [B21, if_pos hk2, if_neg hne]⟩
theorem e5f_ok {t : List (List Int)} (hg : good t) {l : List Int} (hl : ∀ x ∈ l, 0 ≤ x ∧ x ≤ 255) :
  ∀ (m i : Nat) (z : List Int), i ≤ 9 → 9 < m + i → z.length = i → (∀ d ∈ z, rg t d) → e5f A13 A18 A19 B20 B21 B22 (some true) 60 (t.length : Int) l t m (i : Int) z = some true := by
 have hL := lat_of hg.2
 have hn := hL.len
 intro m
 induction m with
 | zero => intro i z h1 h2; omega
 | succ m ih =>
  intro i z h1 h2 h3 hz
  have fin : ∀ z : List Int, (∀ d ∈ z, rg t d) → 1 ≤ z.length ∧ z.length ≤ 10 → ((B20 t z).bind fun r9 =>
   chk (small (z.length + 1) 8) (cond (r9.2 != (0 : Int)) (some false)
   ((B21 t (z ++ ([r9.1] : List Int))).bind fun r10 =>
   cond (r10 != (0 : Int)) (some false)
   (chk (decide (0 ≤ (0 : Int) ∧ (0 : Int) < ((z ++ ([r9.1] : List Int)).length : Int))) (chk (decide ((t.length : Int) ≠ (0 : Int))) (chk (decide (0 ≤ (0 : Int) ∧ (0 : Int) < ((z ++ ([r9.1] : List Int)).length : Int))) ((B22 t ((z ++ ([r9.1] : List Int)).set 0 (Int.tmod (w64 (((z ++ ([r9.1] : List Int)).getD 0 (0 : Int)) + (1 : Int))) (t.length : Int)))).bind fun r11 =>
   (B21 t ((z ++ ([r9.1] : List Int)).set 0 (Int.tmod (w64 (((z ++ ([r9.1] : List Int)).getD 0 (0 : Int)) + (1 : Int))) (t.length : Int)))).bind fun r12 =>
   cond (r12 == (13 : Int)) (cond (r11.2 == (0 : Int)) (cond ((r11.1.length : Int) == (((z ++ ([r9.1] : List Int)).set 0 (Int.tmod (w64 (((z ++ ([r9.1] : List Int)).getD 0 (0 : Int)) + (1 : Int))) (t.length : Int))).length : Int)) ((some true : Option Bool).bind fun r13 =>
   some r13)
   (some false))
   (some false))
   (some false)))))))) = some true := fun z hz h1 => by
   obtain ⟨d, e1, e2, ⟨r, e3, e4⟩, e5⟩ := tail_ok hg hz h1
   rw [e1, Option.bind_some]
   simp only [e2, e3, e5, Option.bind_some]
   rw [chk_of (small_of (by omega) (by decide)), chk_dec (by simp), chk_dec (by omega), chk_dec (by simp), e4]
   simp
  rw [e5f]
  have fe : z.length = 0 → z = [] := List.eq_nil_of_length_eq_zero
  have step : ∀ x, rg t x → (∀ d ∈ z ++ [x], rg t d) ∧ (z ++ [x]).length = i + 1 := fun x hx => ⟨fun d hd => by
   rcases List.mem_append.1 hd with q | q
   ·exact hz d q
   ·rw [List.mem_singleton.1 q]; exact hx, by simp [h3]⟩
  have h0 : rg t 0 := rg0 hL
  have f0 := fin (z ++ [0]) (step 0 h0).1 (by rw [(step 0 h0).2]; omega)
  by_cases q : (i : Int) < (l.length : Int)
  ·rw [decide_eq_true q, cond_true]
   by_cases q9 : (i : Int) < 9
   ·have hi : i < l.length := by omega
    have hx := hl _ (getD_mem (d := (0 : Int)) hi)
    have hr : rg t (Int.tmod (w64 (l.getD i 0)) (t.length : Int)) := by
     rw [w64_small (by omega), tmod_emod hx.1]
     exact ⟨Int.emod_nonneg _ (by omega), Int.emod_lt_of_pos _ (by omega)⟩
    simp only [decide_eq_true q9, cond_true, ixB hi, chk_true, Int.toNat_natCast]
    rw [chk_dec (by omega), chk_of (small_of (by omega) (by decide)), w64_small (x := (i : Int) + 1) (by omega)]
    exact ih (i + 1) _ (by omega) (by omega) (step _ hr).2 (step _ hr).1
   ·rw [decide_eq_false q9, cond_false]
    by_cases hz0 : z.length = 0
    ·rw [show ((z.length : Int) == (0 : Int)) = true by simp [hz0], cond_true, chk_of (small_of (by omega) (by decide))]
     exact f0
    ·rw [show ((z.length : Int) == (0 : Int)) = false by simp [hz0], cond_false]
     exact fin z hz (by omega)
  ·rw [decide_eq_false q, cond_false]
   by_cases hz0 : z.length = 0
   ·rw [show ((z.length : Int) == (0 : Int)) = true by simp [hz0], cond_true, chk_of (small_of (by omega) (by decide))]
    exact f0
   ·rw [show ((z.length : Int) == (0 : Int)) = false by simp [hz0], cond_false]
    exact fin z hz (by omega)
def B5 (side : Int) (l : List Int) : Option Bool := if (0 ≤ side ∧ side ≤ 255) ∧ (∀ x ∈ l, 0 ≤ x ∧ x ≤ 255) then some true else none
theorem KB5 : FnOk Try.prog 5 (F5 B5) := ok5 A13 A18 A19 B20 B21 B22 (some true) K13 K18 K19 KB20 KB21 KB22 K9t B5 fun side l r h => ⟨60, by
 simp only [B5] at h
 split at h
 ·rename_i hh
  obtain ⟨hs, hl⟩ := hh
  have hside : w64 ((2 : Int) + Int.tmod (w64 side) (5 : Int)) = 2 + side % 5 := by
   rw [w64_small (x := side) (by omega), tmod_emod hs.1, w64_small (by omega)]
  rw [← h, m5_e, hside]
  obtain e | e | e | e | e : side % 5 = 0 ∨ side % 5 = 1 ∨ side % 5 = 2 ∨ side % 5 = 3 ∨ side % 5 = 4 := by omega
  ·rw [e]; exact (pre2 B20 B21 B22 (some true) l).trans (e5f_ok good2 hl 60 0 [] (by omega) (by omega) rfl (by simp))
  ·rw [e]; exact (pre3 B20 B21 B22 (some true) l).trans (e5f_ok good3 hl 60 0 [] (by omega) (by omega) rfl (by simp))
  ·rw [e]; exact (pre4 B20 B21 B22 (some true) l).trans (e5f_ok good4 hl 60 0 [] (by omega) (by omega) rfl (by simp))
  ·rw [e]; exact (pre5 B20 B21 B22 (some true) l).trans (e5f_ok good5 hl 60 0 [] (by omega) (by omega) rfl (by simp))
  ·rw [e]; exact (pre6 B20 B21 B22 (some true) l).trans (e5f_ok good6 hl 60 0 [] (by omega) (by omega) rfl (by simp))
 ·cases h⟩
end Go.Proofs.Ytplbdongegfdnaa
