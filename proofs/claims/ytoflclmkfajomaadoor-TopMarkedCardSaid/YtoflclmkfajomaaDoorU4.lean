/-
 Tables for check digits: Check accepts those with each number once in each row and column; tables by numbers are such.
-/
import Derived.Test.YtoflclmkfajomaaDoorV0
namespace Go.Proofs.YtoflclmkfajomaaDoor.Sr
open Go.RowKit
set_option linter.unusedVariables false

def B33 (n : Int) : Option (List Int) := if 0 ≤ n ∧ n ≤ 100000 then some [] else none
theorem KB33 : FnOk Tryd.prog 33 (F33c B33) := ok33c B33 fun n r h => ⟨0, by
 simp only [B33] at h
 split at h
 ·rename_i hn
  rw [← h, m33c, decide_eq_false (show ¬ n < 0 by omega), cond_false, w64_small (by omega)]
  by_cases e : n - 0 > 0
  ·rw [decide_eq_true e, cond_true, chk_of (by simp [mkOk]; omega), chk_dec (by omega)]; rfl
  ·rw [decide_eq_false e, cond_false]
 ·cases h⟩
def okLs (s : List (List Int)) : Bool := decide (s.length ≤ 100) && s.all fun l => decide (l.length ≤ 100)
theorem okLs_at {s : List (List Int)} (h : okLs s = true) : s.length ≤ 100 ∧ ∀ l ∈ s, l.length ≤ 100 := by simpa [okLs] using h
theorem flat_len : ∀ {s : List (List Int)}, (∀ l ∈ s, l.length ≤ 100) → s.flatten.length ≤ 100 * s.length
 | [], _ => by simp
 | x :: r, h => by
  have h1 := h x (by simp)
  have h2 := flat_len (s := r) fun y hy => h y (by simp [hy])
  simp only [List.flatten_cons, List.length_append, List.length_cons]
  omega
def B16 (s : List (List Int)) : Option (List Int) := if okLs s = true then some s.flatten else none
theorem KB16 : FnOk Tryd.prog 16 (F16 B16) := ok16 B33 KB33 B16 fun s r h => ⟨101, by
 simp only [B16] at h
 split at h
 ·rename_i hs
  obtain ⟨h1, h2⟩ := okLs_at hs
  rw [← h, m16]
  have tk : ∀ k, k < s.length → (s.take (k + 1)).flatten = (s.take k).flatten ++ s.getD k [] := fun k hk => by
   rw [take_succ' hk rfl, List.flatten_append, List.flatten_cons, List.flatten_nil, List.append_nil]
  have bd : ∀ k, k ≤ s.length → (s.take k).flatten.length ≤ 10000 := fun k hk => by
   have := flat_len (s := s.take k) fun l hl => h2 l (List.mem_of_mem_take hl)
   rw [List.length_take] at this; omega
  refine countP' 0 (s.length : Int) (by omega) (fun n z t => l16a B33 101 s n z t) (fun t z => z = ((s.take t.toNat).flatten.length : Int)) (fun r => r = some s.flatten) (fun n z t a b hI ih => ?_) (fun n z hI => ?_) 101 0 (by omega) rfl
  ·subst hI
   obtain ⟨k, rfl⟩ : ∃ q : Nat, t = q := ⟨t.toNat, by omega⟩
   have hk : k < s.length := by omega
   have e := ih _ rfl
   have b1 := bd (k + 1) hk
   rw [tk k hk, List.length_append] at b1
   rw [show ((k : Int) + 1).toNat = k + 1 by omega, tk k hk, List.length_append, Int.natCast_add] at e
   simp only [l16a, ixA hk, ixB hk, cond_true, chk_true, Int.toNat_natCast]
   have hw : w64 (((s.take k).flatten.length : Int) + ((s.getD k []).length : Int)) = ((s.take k).flatten.length : Int) + ((s.getD k []).length : Int) := w64_small (by omega)
   simp only [hw]
   rw [decide_eq_false (show ¬ ((s.take k).flatten.length : Int) + ((s.getD k []).length : Int) < 0 by omega), cond_false, w64_small (x := (k : Int) + 1) (by omega)]
   exact e
  ·subst hI
   simp only [l16a, ixE, cond_false, Int.toNat_natCast, List.take_length]
   have b1 := bd s.length (Nat.le_refl _)
   rw [List.take_length] at b1
   rw [B33, if_pos (by omega), Option.bind_some]
   refine countP' 0 (s.length : Int) (by omega) (fun n z t => l16b B33 101 s n t z) (fun t z => z = (s.take t.toNat).flatten) (fun r => r = some s.flatten) (fun n z t a b hI ih => ?_) (fun n z hI => ?_) 101 [] (by omega) rfl
   ·subst hI
    obtain ⟨k, rfl⟩ : ∃ q : Nat, t = q := ⟨t.toNat, by omega⟩
    have hk : k < s.length := by omega
    have e := ih _ rfl
    have b2 := bd (k + 1) hk
    rw [tk k hk, List.length_append] at b2
    rw [show ((k : Int) + 1).toNat = k + 1 by omega, tk k hk] at e
    simp only [l16b, ixA hk, ixB hk, cond_true, chk_true, Int.toNat_natCast]
    rw [chk_of (small_of (by omega) (by decide)), w64_small (x := (k : Int) + 1) (by omega)]
    exact e
   ·subst hI
    simp only [l16b, ixE, cond_false, Int.toNat_natCast, List.take_length]
 ·cases h⟩
theorem memG {α : Type} {l : List α} {x : α} (h : x ∈ l) (d : α) : ∃ i, i < l.length ∧ l.getD i d = x := by
 obtain ⟨i, hi, rfl⟩ := List.getElem_of_mem h
 exact ⟨i, hi, getD_at hi⟩
def tb (t : List (List Int)) (s d : Int) : Int := (t.getD s.toNat []).getD d.toNat 0
def latB (t : List (List Int)) : Bool :=
 decide (2 ≤ t.length ∧ t.length ≤ 10) && t.all (fun r => decide (r.length = t.length) && r.all fun x => decide (0 ≤ x ∧ x < t.length)) &&
  (List.range t.length).all fun s => (List.range t.length).all fun d => (List.range t.length).all fun e =>
   (decide ((t.getD s []).getD d 0 ≠ (t.getD s []).getD e 0) || decide (d = e)) && (decide ((t.getD d []).getD s 0 ≠ (t.getD e []).getD s 0) || decide (d = e))
def rg (t : List (List Int)) (x : Int) : Prop := 0 ≤ x ∧ x < t.length
structure Lat (t : List (List Int)) : Prop where
 len : 2 ≤ t.length ∧ t.length ≤ 10
 row : ∀ k : Nat, k < t.length → (t.getD k []).length = t.length
 bd : ∀ {s d : Int}, rg t s → rg t d → rg t (tb t s d)
 ri : ∀ {s d e : Int}, rg t s → rg t d → rg t e → tb t s d = tb t s e → d = e
 ci : ∀ {s d e : Int}, rg t s → rg t d → rg t e → tb t d s = tb t e s → d = e
theorem lat_of {t : List (List Int)} (h : latB t = true) : Lat t := by
 simp only [latB, Bool.and_eq_true, decide_eq_true_eq, List.all_eq_true, List.mem_range, Bool.or_eq_true] at h
 obtain ⟨⟨h1, h2⟩, h3⟩ := h
 have row : ∀ k : Nat, k < t.length → (t.getD k []).length = t.length := fun k hk => (h2 _ (getD_mem hk)).1
 refine ⟨h1, row, fun {s d} hs hd => ?_, fun {s d e} hs hd he hh => ?_, fun {s d e} hs hd he hh => ?_⟩
 ·unfold rg at *
  have hk : s.toNat < t.length := by omega
  exact (h2 _ (getD_mem (d := []) hk)).2 _ (getD_mem (by rw [row _ hk]; omega))
 ·unfold rg at *
  rcases (h3 s.toNat (by omega) d.toNat (by omega) e.toNat (by omega)).1 with q | q
  ·exact absurd hh q
  ·omega
 ·unfold rg at *
  rcases (h3 s.toNat (by omega) d.toNat (by omega) e.toNat (by omega)).2 with q | q
  ·exact absurd hh q
  ·omega
theorem lat_has {t : List (List Int)} (h : Lat t) {s : Int} (hs : rg t s) {x : Int} (hx : rg t x) : x ∈ t.getD s.toNat [] := by
 have hk : s.toNat < t.length := by unfold rg at hs; omega
 have hlen := h.row _ hk
 have hin : ∀ y ∈ t.getD s.toNat [], rg t y := fun y hy => by
  obtain ⟨i, hi, e⟩ := memG hy 0
  have := h.bd hs (d := (i : Int)) ⟨by omega, by omega⟩
  rw [tb, Int.toNat_natCast, e] at this
  exact this
 have hnd : (t.getD s.toNat []).Nodup := List.pairwise_iff_getElem.2 fun i j hi hj hij hh => by
  have := h.ri hs (d := (i : Int)) (e := (j : Int)) ⟨by omega, by omega⟩ ⟨by omega, by omega⟩ (by
   simp only [tb, Int.toNat_natCast]; rw [getD_at hi, getD_at hj]; exact hh)
  omega
 apply Classical.byContradiction
 intro hc
 have hnd2 : (x :: t.getD s.toNat []).Nodup := List.nodup_cons.2 ⟨hc, hnd⟩
 have hsub : ∀ y ∈ x :: t.getD s.toNat [], y ∈ (List.range t.length).map fun i : Nat => (i : Int) := fun y hy => by
  have hy' : rg t y := by
   rcases List.mem_cons.1 hy with e | e
   ·rw [e]; exact hx
   ·exact hin y e
  unfold rg at hy'
  exact List.mem_map.2 ⟨y.toNat, List.mem_range.2 (by omega), by omega⟩
 have := hnd2.length_le_of_subset hsub
 simp only [List.length_cons, List.length_map, List.length_range] at this; omega
def B12 (lo n hi : Int) : Option Bool := some (decide (lo ≤ n ∧ n ≤ hi))
theorem KB12 : FnOk Tryd.prog 12 (F12 B12) := ok12 B12 fun lo n hi r h => ⟨0, by
 rw [← h, m12, B12]
 by_cases e : lo ≤ n
 ·rw [decide_eq_true e, cond_true]; simp [e]
 ·rw [decide_eq_false e, cond_false]; simp [e]⟩
theorem rg0 {t : List (List Int)} (h : Lat t) : rg t 0 := by have := h.len; unfold rg; omega
def fx {α : Type} (p : α → Bool) : Int → List α → Int
 | _, [] => -1
 | t, x :: xs => cond (p x) t (fx p (t + 1) xs)
theorem fx_at {p : Int → Bool} : ∀ {l : List Int} {k : Int}, (∃ x ∈ l, p x = true) → ∃ i : Nat, i < l.length ∧ fx p k l = k + i ∧ p (l.getD i 0) = true
 | [], _, h => by simp at h
 | x :: r, k, h => by
  rw [fx]
  cases e : p x with
  | true => exact ⟨0, by simp, by simp, by simpa using e⟩
  | false =>
   obtain ⟨y, hy, hp⟩ := h
   rcases List.mem_cons.1 hy with q | q
   ·rw [q, e] at hp; cases hp
   ·obtain ⟨i, h1, h2, h3⟩ := fx_at (k := k + 1) ⟨y, q, hp⟩
    exact ⟨i + 1, by simpa using h1, by rw [cond_false, h2]; omega, by simpa using h3⟩
def B14c (l : List Int) (p : Int) : Option (Bool × Int) := some ((l.length : Int) != p, p)
theorem KB14c : FnOk Tryd.prog 14 (F14c B14c) := ok14c B14c fun l p r h => ⟨0, h⟩
def eqL (s : List (List Int)) (p : Int) : Bool := decide (s.length ≤ 100) && s.all fun l => decide ((l.length : Int) = p)
def B31c14 (s : List (List Int)) (p : Int) : Option (Int × Int) := if eqL s p = true then some (-1, p) else none
theorem KB31c14 : FnOk Tryd.prog 31 (F31c14 B31c14) := ok31c14 B14c KB14c B31c14 fun s p r h => ⟨101, by
 simp only [B31c14] at h
 split at h
 ·rename_i hh
  simp only [eqL, Bool.and_eq_true, decide_eq_true_eq, List.all_eq_true] at hh
  obtain ⟨h1, h2⟩ := hh
  rw [← h, m31c14]
  refine rangeIx s [] (fun n (_ : Unit) i => l31c14a B14c 101 s n i p) (fun _ rest _ => ∀ l ∈ rest, (l.length : Int) = p) (fun _ _ _ => some (-1, p)) (fun n z i d rest hi hx hI ih => ?_) (fun n z hI => ?_) 101 () (by omega) h2
  ·have hd := hI d (by simp)
   simp only [l31c14a, ixA hi, ixB hi, cond_true, chk_true, Int.toNat_natCast, hx, ixW hi (by omega), B14c, Option.bind_some, hd, bne_self_eq_false, cond_false]
   exact ih () fun e he => hI e (by simp [he])
  ·simp only [l31c14a, ixE, cond_false]
 ·cases h⟩
def B13c14 (s : List (List Int)) (p : Int) : Option (Bool × Int) := if eqL s p = true then some (false, p) else none
theorem KB13c14 : FnOk Tryd.prog 13 (F13c14 B13c14) := ok13c14 B31c14 KB31c14 B13c14 fun s p r h => ⟨0, by
 simp only [B13c14] at h
 split at h
 ·rename_i hh; rw [← h, m13c14, B31c14, if_pos hh, Option.bind_some]; rfl
 ·cases h⟩
def B17c (x p : Int) : Option (Bool × Int) := if 0 ≤ p ∧ p ≤ 100 then some (!decide (0 ≤ x ∧ x ≤ p - 1), p) else none
theorem KB17c : FnOk Tryd.prog 17 (F17c B17c) := ok17c B12 KB12 B17c fun x p r h => ⟨0, by
 simp only [B17c] at h
 split at h
 ·rename_i hh; rw [← h, m17c, B12, Option.bind_some, w64_small (by omega)]
 ·cases h⟩
def insL (s : List Int) (p : Int) : Bool := decide (s.length ≤ 100) && s.all fun x => decide (0 ≤ x ∧ x ≤ p - 1)
def B32c17 (s : List Int) (p : Int) : Option (Int × Int) := if (0 ≤ p ∧ p ≤ 100) ∧ insL s p = true then some (-1, p) else none
theorem KB32c17 : FnOk Tryd.prog 32 (F32c17 B32c17) := ok32c17 B17c KB17c B32c17 fun s p r h => ⟨101, by
 simp only [B32c17] at h
 split at h
 ·rename_i hh
  obtain ⟨h0, hh⟩ := hh
  simp only [insL, Bool.and_eq_true, decide_eq_true_eq, List.all_eq_true] at hh
  obtain ⟨h1, h2⟩ := hh
  rw [← h, m32c17]
  refine rangeIx s 0 (fun n (_ : Unit) i => l32c17a B17c 101 s n i p) (fun _ rest _ => ∀ x ∈ rest, 0 ≤ x ∧ x ≤ p - 1) (fun _ _ _ => some (-1, p)) (fun n z i d rest hi hx hI ih => ?_) (fun n z hI => ?_) 101 () (by omega) h2
  ·have hd := hI d (by simp)
   simp only [l32c17a, ixA hi, ixB hi, cond_true, chk_true, Int.toNat_natCast, hx, ixW hi (by omega)]
   rw [B17c, if_pos h0, Option.bind_some, decide_eq_true hd]
   exact ih () fun e he => hI e (by simp [he])
  ·simp only [l32c17a, ixE, cond_false]
 ·cases h⟩
def B15c17 (s : List Int) (p : Int) : Option (Bool × Int) := if (0 ≤ p ∧ p ≤ 100) ∧ insL s p = true then some (false, p) else none
theorem KB15c17 : FnOk Tryd.prog 15 (F15c17 B15c17) := ok15c17 B32c17 KB32c17 B15c17 fun s p r h => ⟨0, by
 simp only [B15c17] at h
 split at h
 ·rename_i hh; rw [← h, m15c17, B32c17, if_pos hh, Option.bind_some]; rfl
 ·cases h⟩
theorem mset {l : List Bool} {i j : Nat} (hi : i < l.length) (h : (l.set i true).getD j false = true) : j = i ∨ l.getD j false = true := by
 by_cases e : i = j
 ·exact .inl e.symm
 ·rw [List.getD_eq_getElem?_getD, List.getElem?_set, if_neg e, ← List.getD_eq_getElem?_getD] at h
  exact .inr h
def B18 (t : List (List Int)) : Option Bool := if latB t = true then some false else none
theorem KB18 : FnOk Tryd.prog 18 (F18 B18) := ok18 B18 fun t r h => ⟨20, by
 simp only [B18] at h
 split at h
 ·rename_i hh
  have hL := lat_of hh
  have hlen := hL.len
  rw [← h, m18]
  refine countP' 0 (t.length : Int) (by omega) (fun n (z : Bool) i => l18a 20 t n z i) (fun _ z => z = false) (fun x => x = some false) (fun n z i a b hI ih => ?_) (fun n z hI => ?_) 20 false (by omega) rfl
  ·subst hI
   obtain ⟨s, rfl⟩ : ∃ q : Nat, i = q := ⟨i.toNat, by omega⟩
   have hs : s < t.length := by omega
   have hrow := hL.row s hs
   simp only [l18a, ixA hs, cond_true]
   have ent : ∀ d, d < t.length → (0 ≤ (t.getD s []).getD d 0 ∧ (t.getD s []).getD d 0 < t.length) ∧ (0 ≤ (t.getD d []).getD s 0 ∧ (t.getD d []).getD s 0 < t.length) := fun d hd => by
    have e1 := hL.bd (s := (s : Int)) (d := (d : Int)) ⟨by omega, by omega⟩ ⟨by omega, by omega⟩
    have e2 := hL.bd (s := (d : Int)) (d := (s : Int)) ⟨by omega, by omega⟩ ⟨by omega, by omega⟩
    exact ⟨e1, e2⟩
   refine countP' 0 (t.length : Int) (by omega) (fun m (z : List Bool × List Bool) j => l18b 20 t (s : Int) (fun y0 y1 => l18a 20 t n y0 y1) m false j [z.1] [z.2])
    (fun j z => (z.1.length = 10 ∧ z.2.length = 10) ∧ (∀ x, z.1.getD x false = true → ∃ d, d < j.toNat ∧ d < t.length ∧ ((t.getD s []).getD d 0).toNat = x) ∧ ∀ x, z.2.getD x false = true → ∃ d, d < j.toNat ∧ d < t.length ∧ ((t.getD d []).getD s 0).toNat = x) (fun x => x = some false)
    (fun m z j a b hI ih2 => ?_) (fun m z hI => ?_) 20 ([false, false, false, false, false, false, false, false, false, false], [false, false, false, false, false, false, false, false, false, false]) (by omega) ⟨⟨rfl, rfl⟩, (fun x hx => by
     rcases x with _ | _ | _ | _ | _ | _ | _ | _ | _ | _ | _ <;> cases hx), fun x hx => by
     rcases x with _ | _ | _ | _ | _ | _ | _ | _ | _ | _ | _ <;> cases hx⟩
   ·obtain ⟨d, rfl⟩ : ∃ q : Nat, j = q := ⟨j.toNat, by omega⟩
    have hd : d < t.length := by omega
    obtain ⟨R, C⟩ := z
    obtain ⟨⟨i1, i2⟩, i3, i4⟩ := hI
    simp only at i1 i2 i3 i4
    rw [Int.toNat_natCast] at i3 i4
    rw [show ((d : Int) + 1).toNat = d + 1 by omega] at ih2
    have hrd := hL.row d hd
    obtain ⟨e1, e2⟩ := ent d hd
    have hs' : s < (t.getD d []).length := by rw [hrd]; exact hs
    have hd' : d < (t.getD s []).length := by rw [hrow]; exact hd
    simp only [l18b, ixA hd, ixB hd, ixB hs, ixB hs', ixB hd', cond_true, chk_true, Int.toNat_natCast, List.getD_cons_zero, List.set_cons_zero]
    rw [chk_dec (by omega), chk_dec (by omega), chk_dec (by omega), chk_dec (by omega)]
    have c1 : R.getD ((t.getD s []).getD d 0).toNat false = false := by
     cases q : R.getD ((t.getD s []).getD d 0).toNat false with
     | false => rfl
     | true =>
      obtain ⟨d', g1, g2, g3⟩ := i3 _ q
      have e3 := (ent d' g2).1
      have := hL.ri (s := (s : Int)) (d := (d : Int)) (e := (d' : Int)) ⟨by omega, by omega⟩ ⟨by omega, by omega⟩ ⟨by omega, by omega⟩ (by
       simp only [tb, Int.toNat_natCast]; omega)
      omega
    have c2 : C.getD ((t.getD d []).getD s 0).toNat false = false := by
     cases q : C.getD ((t.getD d []).getD s 0).toNat false with
     | false => rfl
     | true =>
      obtain ⟨d', g1, g2, g3⟩ := i4 _ q
      have e3 := (ent d' g2).2
      have := hL.ci (s := (s : Int)) (d := (d : Int)) (e := (d' : Int)) ⟨by omega, by omega⟩ ⟨by omega, by omega⟩ ⟨by omega, by omega⟩ (by
       simp only [tb, Int.toNat_natCast]; omega)
      omega
    rw [c1, cond_false, c2, cond_false, chk_of (by simp only [Bool.and_eq_true, decide_eq_true_eq, and_true]; omega), chk_of (by simp only [Bool.and_eq_true, decide_eq_true_eq, and_true]; omega), w64_small (x := (d : Int) + 1) (by omega)]
    refine ih2 (R.set _ true, C.set _ true) ⟨⟨by rw [List.length_set]; exact i1, by rw [List.length_set]; exact i2⟩, fun x hx => ?_, fun x hx => ?_⟩
    ·rcases mset (by rw [i1]; omega) hx with q | q
     ·exact ⟨d, by omega, hd, q.symm⟩
     ·obtain ⟨d', g1, g2, g3⟩ := i3 x q; exact ⟨d', by omega, g2, g3⟩
    ·rcases mset (by rw [i2]; omega) hx with q | q
     ·exact ⟨d, by omega, hd, q.symm⟩
     ·obtain ⟨d', g1, g2, g3⟩ := i4 x q; exact ⟨d', by omega, g2, g3⟩
   ·simp only [l18b, ixE, cond_false]
    rw [w64_small (by omega)]
    exact ih false rfl
  ·subst hI
   simp only [l18a, ixE, cond_false]
 ·cases h⟩
def B5 (t : List (List Int)) : Option Int := if latB t = true then some 0 else none
theorem KB5 : FnOk Tryd.prog 5 (F5 B5) := ok5 B12 B13c14 B15c17 B16 B18 KB12 KB13c14 KB15c17 KB16 KB18 B5 fun t r h => ⟨0, by
 simp only [B5] at h
 split at h
 ·rename_i hh
  have hL := lat_of hh
  have hlen := hL.len
  have hrow : ∀ l ∈ t, l.length = t.length := fun l hl => by
   obtain ⟨i, hi, rfl⟩ := memG hl []
   exact hL.row i hi
  have h34 : okLs t = true := by
   simp only [okLs, Bool.and_eq_true, decide_eq_true_eq, List.all_eq_true]
   exact ⟨by omega, fun l hl => by rw [hrow l hl]; omega⟩
  have hfl : t.flatten.length ≤ 100 := by
   have : ∀ {s : List (List Int)} {k : Nat}, (∀ l ∈ s, l.length = k) → s.flatten.length = k * s.length := fun {s k} => by
    induction s with
    | nil => simp
    | cons x r ih =>
     intro hh
     rw [List.flatten_cons, List.length_append, ih fun l hl => hh l (by simp [hl]), hh x (by simp), List.length_cons, Nat.mul_add]; omega
   rw [this hrow]
   have := Nat.mul_le_mul hlen.2 hlen.2
   omega
  have h33 : (0 ≤ (t.length : Int) ∧ (t.length : Int) ≤ 100) ∧ insL t.flatten (t.length : Int) = true := by
   refine ⟨by omega, ?_⟩
   simp only [insL, Bool.and_eq_true, decide_eq_true_eq, List.all_eq_true]
   refine ⟨hfl, fun x hx => ?_⟩
   obtain ⟨l, hl, hx⟩ := List.mem_flatten.1 hx
   obtain ⟨i, hi, rfl⟩ := memG hl []
   obtain ⟨j, hj, rfl⟩ := memG hx 0
   rw [hL.row i hi] at hj
   have := hL.bd (s := (i : Int)) (d := (j : Int)) ⟨by omega, by omega⟩ ⟨by omega, by omega⟩
   simp only [rg, tb, Int.toNat_natCast] at this
   omega
  rw [← h, m5, B12, Option.bind_some, decide_eq_true (show (2 : Int) ≤ t.length ∧ (t.length : Int) ≤ 10 by omega)]
  simp only [Bool.not_true, cond_false]
  rw [B13c14, if_pos (by simp only [eqL, Bool.and_eq_true, decide_eq_true_eq, List.all_eq_true]; exact ⟨by omega, fun l hl => by rw [hrow l hl]⟩), Option.bind_some]
  simp only [cond_false]
  rw [B16, if_pos h34, Option.bind_some, B15c17, if_pos h33, Option.bind_some]
  simp only [cond_false]
  rw [B18, if_pos hh, Option.bind_some, cond_false]
 ·cases h⟩
def rowF (n : Nat) (p m : List Int) (s k : Nat) : List Int := (List.range k).map fun d : Nat => m.getD (((p.getD s 0 + (d : Int)) % (n : Int)).toNat) 0
theorem rowF_succ (n : Nat) (p m : List Int) (s k : Nat) : rowF n p m s (k + 1) = rowF n p m s k ++ [m.getD (((p.getD s 0 + (k : Int)) % (n : Int)).toNat) 0] := by
 rw [rowF, List.range_succ, List.map_append]; rfl
theorem rowF_at {n : Nat} {p m : List Int} {s d k : Nat} (h : d < k) : (rowF n p m s k).getD d 0 = m.getD (((p.getD s 0 + (d : Int)) % (n : Int)).toNat) 0 := by
 rw [getD_at (by simpa [rowF] using h)]; simp [rowF]
def tabF (n : Nat) (p m : List Int) : List (List Int) := (List.range n).map fun s => rowF n p m s n
def B4 (n : Int) (q1 q2 : List Int) : Option (List (List Int)) := m4 B11 60 n q1 q2
theorem KB4 : FnOk Tryd.prog 4 (F4 B4) := ok4 B11 KB11 B4 fun n q1 q2 r h => ⟨60, h⟩
theorem sget {l : List (List Int)} {i j : Nat} {x : List Int} (hi : i < l.length) : (l.set i x).getD j [] = if i = j then x else l.getD j [] := by
 rw [List.getD_eq_getElem?_getD, List.getElem?_set, List.getD_eq_getElem?_getD]
 by_cases e : i = j
 ·subst e; simp [hi]
 ·simp [e]
theorem pnd {n : Nat} {p : List Int} (hp : p.Perm (allI n)) : p.length = n ∧ (∀ k, k < n → 0 ≤ p.getD k 0 ∧ p.getD k 0 < n) ∧ ∀ i j, i < n → j < n → p.getD i 0 = p.getD j 0 → i = j := by
 have hl : p.length = n := by rw [hp.length_eq]; simp [allI]
 have hnd : p.Nodup := hp.nodup_iff.2 (List.pairwise_iff_getElem.2 fun i j hi hj hij => by simp [allI]; omega)
 refine ⟨hl, fun k hk => ?_, fun i j hi hj h => ?_⟩
 ·have hm : p.getD k 0 ∈ allI n := hp.mem_iff.1 (getD_mem (by omega))
  simp only [allI, List.mem_map, List.mem_range'] at hm
  obtain ⟨x, ⟨y, h1, h2⟩, h3⟩ := hm
  omega
 ·rw [getD_at (by omega), getD_at (by omega)] at h
  rcases Nat.lt_trichotomy i j with q | q | q
  ·exact absurd h (List.pairwise_iff_getElem.1 hnd i j (by omega) (by omega) q)
  ·exact q
  ·exact absurd h.symm (List.pairwise_iff_getElem.1 hnd j i (by omega) (by omega) q)
theorem lat_tabF {n : Nat} (hn : 2 ≤ n ∧ n ≤ 10) {p m : List Int} (hp : p.Perm (allI n)) (hm : m.Perm (allI n)) : (tabF n p m).length = n ∧ latB (tabF n p m) = true := by
 have hl : (tabF n p m).length = n := by simp [tabF]
 obtain ⟨p1, p2, p3⟩ := pnd hp
 obtain ⟨m1, m2, m3⟩ := pnd hm
 have hrow : ∀ s, s < n → (tabF n p m).getD s [] = rowF n p m s n := fun s hs => by
  rw [getD_at (by rw [hl]; exact hs)]; simp [tabF]
 have hix : ∀ s d, s < n → ((p.getD s 0 + (d : Int)) % (n : Int)).toNat < n := fun s d hs => by
  have := Int.emod_lt_of_pos (p.getD s 0 + (d : Int)) (show (0 : Int) < n by omega)
  have := Int.emod_nonneg (p.getD s 0 + (d : Int)) (show (n : Int) ≠ 0 by omega)
  omega
 have hent : ∀ s d, s < n → d < n → ((tabF n p m).getD s []).getD d 0 = m.getD (((p.getD s 0 + (d : Int)) % (n : Int)).toNat) 0 := fun s d hs hd => by rw [hrow s hs, rowF_at hd]
 -- equal numbers stand at equal places
 have key : ∀ s s' d d', s < n → s' < n → m.getD (((p.getD s 0 + (d : Int)) % (n : Int)).toNat) 0 = m.getD (((p.getD s' 0 + (d' : Int)) % (n : Int)).toNat) 0 → (p.getD s 0 + (d : Int)) % (n : Int) = (p.getD s' 0 + (d' : Int)) % (n : Int) := fun s s' d d' hs hs' h => by
  have h1 := m3 _ _ (hix s d hs) (hix s' d' hs') h
  have := Int.emod_nonneg (p.getD s 0 + (d : Int)) (show (n : Int) ≠ 0 by omega)
  have := Int.emod_nonneg (p.getD s' 0 + (d' : Int)) (show (n : Int) ≠ 0 by omega)
  omega
 -- two small numbers that are equal but for whole turns
 have turn : ∀ x a b : Int, 0 ≤ a → a < n → 0 ≤ b → b < n → (x + a) % (n : Int) = (x + b) % (n : Int) → a = b := fun x a b a0 a1 b0 b1 h => by
  have h2 : (a - b) % (n : Int) = 0 := by
   have := Int.emod_emod_of_dvd
   have e : a - b = (x + a) - (x + b) := by omega
   rw [e, Int.sub_emod, h, Int.sub_self, Int.zero_emod]
  obtain ⟨c, hc⟩ := Int.dvd_of_emod_eq_zero h2
  have hc0 : c = 0 := by
   rcases Int.lt_trichotomy c 0 with q | q | q
   ·have : (n : Int) * c ≤ (n : Int) * (-1) := Int.mul_le_mul_of_nonneg_left (by omega) (by omega)
    omega
   ·exact q
   ·have : (n : Int) * 1 ≤ (n : Int) * c := Int.mul_le_mul_of_nonneg_left (by omega) (by omega)
    omega
  rw [hc0, Int.mul_zero] at hc; omega
 refine ⟨hl, ?_⟩
 simp only [latB, hl, Bool.and_eq_true, decide_eq_true_eq, List.all_eq_true, List.mem_range, Bool.or_eq_true]
 refine ⟨⟨hn, fun r hr => ?_⟩, fun s hs d hd e he => ⟨?_, ?_⟩⟩
 ·simp only [tabF, List.mem_map, List.mem_range] at hr
  obtain ⟨s, hs, rfl⟩ := hr
  refine ⟨by simp [rowF], fun x hx => ?_⟩
  simp only [rowF, List.mem_map, List.mem_range] at hx
  obtain ⟨d, hd, rfl⟩ := hx
  exact m2 _ (hix s d hs)
 ·rw [hent s d hs hd, hent s e hs he]
  by_cases q : d = e
  ·exact .inr q
  ·exact .inl fun h => q (by have := turn _ _ _ (by omega) (by omega) (by omega) (by omega) (key s s d e hs hs h); omega)
 ·rw [hent d s hd hs, hent e s he hs]
  by_cases q : d = e
  ·exact .inr q
  ·refine .inl fun h => q (p3 d e hd he ?_)
   have h2 := key d e s s hd he h
   rw [Int.add_comm (p.getD d 0), Int.add_comm (p.getD e 0)] at h2
   exact turn _ _ _ (p2 d hd).1 (p2 d hd).2 (p2 e he).1 (p2 e he).2 h2
theorem B12_ok {n : Nat} (hn : 2 ≤ n ∧ n ≤ 6) {q1 q2 : List Int} (h1 : True ∧ ∀ x ∈ q1, 0 ≤ x ∧ x ≤ 255) (h2 : True ∧ ∀ x ∈ q2, 0 ≤ x ∧ x ≤ 255) : ∃ t, B4 n q1 q2 = some t ∧ t.length = n ∧ latB t = true := by
 obtain ⟨p, hp, pp⟩ := B6_ok (n := n) (by omega) h1
 obtain ⟨m, hm, mm⟩ := B6_ok (n := n) (by omega) h2
 obtain ⟨p1, p2, p3⟩ := pnd pp
 obtain ⟨m1, m2, m3⟩ := pnd mm
 obtain ⟨l1, l2⟩ := lat_tabF (n := n) (by omega) pp mm
 refine ⟨tabF n p m, ?_, l1, l2⟩
 rw [B4, m4, hp, Option.bind_some, hm, Option.bind_some, chk_of (by simp [mkOk]; omega)]
 refine countP' 0 (n : Int) (by omega) (fun k (z : List (List Int)) i => l4a B11 60 (n : Int) p m k i z) (fun i z => z = (List.range i.toNat).map (fun s => rowF n p m s n) ++ List.replicate (n - i.toNat) []) (fun x => x = some (tabF n p m)) (fun k z i a b hI ih => ?_) (fun k z hI => ?_) 60 _ (by omega) (by simp)
 ·obtain ⟨s, rfl⟩ : ∃ q : Nat, i = q := ⟨i.toNat, by omega⟩
  have hs : s < n := by omega
  rw [Int.toNat_natCast] at hI
  rw [show ((s : Int) + 1).toNat = s + 1 by omega] at ih
  have hz : z.length = n := by rw [hI]; simp; omega
  have hz0 : z.getD s [] = [] := by
   rw [hI, List.getD_eq_getElem?_getD, List.getElem?_append_right (by simp)]
   obtain ⟨j, hj⟩ : ∃ j, n - s = j + 1 := ⟨n - s - 1, by omega⟩
   rw [hj, List.replicate_succ]; simp
  have hfin : z.set s (rowF n p m s n) = (List.range (s + 1)).map (fun s => rowF n p m s n) ++ List.replicate (n - (s + 1)) [] := by
   rw [hI, List.set_append_right _ _ (by simp)]
   obtain ⟨j, hj⟩ : ∃ j, n - s = j + 1 := ⟨n - s - 1, by omega⟩
   rw [hj, show n - (s + 1) = j by omega, List.length_map, List.length_range, Nat.sub_self, List.replicate_succ, List.set_cons_zero, List.range_succ, List.map_append, List.append_assoc]; rfl
  simp only [l4a, Int.toNat_natCast, List.length_replicate, ixA hs, cond_true]
  refine countP' 0 (n : Int) (by omega) (fun k2 (z2 : List (List Int)) d => l4b B11 60 (n : Int) p m (s : Int) (fun y0 y1 => l4a B11 60 (n : Int) p m k y0 y1) k2 d z2) (fun d z2 => z2 = z.set s (rowF n p m s d.toNat)) (fun x => x = some (tabF n p m)) (fun k2 z2 d a b hI2 ih2 => ?_) (fun k2 z2 hI2 => ?_) 60 z (by omega) (by
   simp only [rowF, Int.toNat_zero, List.range_zero, List.map_nil]
   have : z.set s (z.getD s []) = z := by rw [getD_at (by omega), List.set_getElem_self]
   rw [hz0] at this; exact this.symm)
  ·obtain ⟨c, rfl⟩ : ∃ q : Nat, d = q := ⟨d.toNat, by omega⟩
   have hc : c < n := by omega
   rw [Int.toNat_natCast] at hI2
   rw [show ((c : Int) + 1).toNat = c + 1 by omega] at ih2
   subst hI2
   have hps := p2 s hs
   have hw : w64 (p.getD s 0 + (c : Int)) = p.getD s 0 + (c : Int) := w64_small (by omega)
   have hnn := Int.emod_nonneg (p.getD s 0 + (c : Int)) (show (n : Int) ≠ 0 by omega)
   have hlt := Int.emod_lt_of_pos (p.getD s 0 + (c : Int)) (show (0 : Int) < n by omega)
   have hsz : s < (z.set s (rowF n p m s c)).length := by rw [List.length_set]; omega
   have hsp : s < p.length := by omega
   simp only [l4b, ixA hc, cond_true, ixB hsz, ixB hsp, chk_true, Int.toNat_natCast, hw]
   rw [tmod_emod (by omega), chk_dec (by omega), chk_dec (by omega), sget (by omega), if_pos rfl, chk_of (small_of (by simp [rowF]; omega) (by decide)), chk_of (by simp), List.set_set, ← rowF_succ, w64_small (x := (c : Int) + 1) (by omega)]
   exact ih2 _ rfl
  ·subst hI2
   rw [Int.toNat_natCast]
   simp only [l4b, ixE, cond_false]
   rw [w64_small (by omega), hfin]
   exact ih _ rfl
 ·rw [Int.toNat_natCast, Nat.sub_self, List.replicate_zero, List.append_nil] at hI
  subst hI
  simp only [l4a, Int.toNat_natCast, List.length_replicate, ixE, cond_false]
  rfl
end Go.Proofs.YtoflclmkfajomaaDoor.Sr
