/-
 Tables for check digits: what their small functions answer for tables that are accepted.
-/
import Derived.Test.YtoflclmkfajomaaDoorU4
import Derived.Test.YtoflclmkfajomaaDoorLKM
namespace Go.Proofs.YtoflclmkfajomaaDoor.Sd
open Go.RowKit
set_option linter.unusedVariables false

theorem getD_at {α : Type} {l : List α} {i : Nat} {d : α} (h : i < l.length) : l.getD i d = l[i] := by
 rw [List.getD_eq_getElem?_getD, List.getElem?_eq_getElem h]; rfl
theorem getD_mem {α : Type} {l : List α} {i : Nat} {d : α} (h : i < l.length) : l.getD i d ∈ l := by
 rw [getD_at h]; exact List.getElem_mem _
theorem mem_getD {α : Type} {l : List α} {x : α} (h : x ∈ l) (d : α) : ∃ i, i < l.length ∧ l.getD i d = x := by
 obtain ⟨i, hi, rfl⟩ := List.getElem_of_mem h
 exact ⟨i, hi, getD_at hi⟩
def tb (t : List (List Int)) (s d : Int) : Int := (t.getD s.toNat []).getD d.toNat 0
def aft (t : List (List Int)) (s : Int) : List Int → Int
 | [] => s
 | d :: r => aft t (tb t s d) r
def latB (t : List (List Int)) : Bool :=
 decide (2 ≤ t.length ∧ t.length ≤ 10) && t.all (fun r => decide (r.length = t.length) && r.all fun x => decide (0 ≤ x ∧ x < t.length)) &&
  (List.range t.length).all fun s => (List.range t.length).all fun d => (List.range t.length).all fun e =>
   (decide ((t.getD s []).getD d 0 ≠ (t.getD s []).getD e 0) || decide (d = e)) && (decide ((t.getD d []).getD s 0 ≠ (t.getD e []).getD s 0) || decide (d = e))
def rg (t : List (List Int)) (x : Int) : Prop := 0 ≤ x ∧ x < t.length
structure Lat (t : List (List Int)) : Prop where
 len : 2 ≤ t.length ∧ t.length ≤ 10
 row : ∀ k : Nat, k < t.length → (t.getD k []).length = t.length
 bd : ∀ {s d : Int}, rg t s → rg t d → rg t (tb t s d)
 ri : ∀ {s d e : Int}, rg t s → rg t d → rg t e → tb t s d = tb t s e → d = e
 ci : ∀ {s d e : Int}, rg t s → rg t d → rg t e → tb t d s = tb t e s → d = e
theorem lat_of {t : List (List Int)} (h : latB t = true) : Lat t := by
 simp only [latB, Bool.and_eq_true, decide_eq_true_eq, List.all_eq_true, List.mem_range, Bool.or_eq_true] at h
 obtain ⟨⟨h1, h2⟩, h3⟩ := h
 have row : ∀ k : Nat, k < t.length → (t.getD k []).length = t.length := fun k hk => (h2 _ (getD_mem hk)).1
 refine ⟨h1, row, fun {s d} hs hd => ?_, fun {s d e} hs hd he hh => ?_, fun {s d e} hs hd he hh => ?_⟩
 ·unfold rg at *
  have hk : s.toNat < t.length := by omega
  exact (h2 _ (getD_mem (d := []) hk)).2 _ (getD_mem (by rw [row _ hk]; omega))
 ·unfold rg at *
  rcases (h3 s.toNat (by omega) d.toNat (by omega) e.toNat (by omega)).1 with q | q
  ·exact absurd hh q
  ·omega
 ·unfold rg at *
  rcases (h3 s.toNat (by omega) d.toNat (by omega) e.toNat (by omega)).2 with q | q
  ·exact absurd hh q
  ·omega
theorem aft_rg {t : List (List Int)} (h : Lat t) : ∀ {l : List Int} {s : Int}, rg t s → (∀ d ∈ l, rg t d) → rg t (aft t s l)
 | [], s, hs, _ => hs
 | d :: r, s, hs, hl => show rg t (aft t (tb t s d) r) from aft_rg h (h.bd hs (hl d (by simp))) fun e he => hl e (by simp [he])
theorem aft_inj {t : List (List Int)} (h : Lat t) : ∀ {l : List Int} {s s' : Int}, rg t s → rg t s' → (∀ d ∈ l, rg t d) → aft t s l = aft t s' l → s = s'
 | [], s, s', _, _, _, e => e
 | d :: r, s, s', hs, hs', hl, e => by
  have hd := hl d (by simp)
  exact h.ci hd hs hs' (aft_inj h (h.bd hs hd) (h.bd hs' hd) (fun e he => hl e (by simp [he])) e)
theorem lat_has {t : List (List Int)} (h : Lat t) {s : Int} (hs : rg t s) {x : Int} (hx : rg t x) : x ∈ t.getD s.toNat [] := by
 have hk : s.toNat < t.length := by unfold rg at hs; omega
 have hlen := h.row _ hk
 have hin : ∀ y ∈ t.getD s.toNat [], rg t y := fun y hy => by
  obtain ⟨i, hi, e⟩ := mem_getD hy 0
  have := h.bd hs (d := (i : Int)) ⟨by omega, by omega⟩
  rw [tb, Int.toNat_natCast, e] at this
  exact this
 have hnd : (t.getD s.toNat []).Nodup := List.pairwise_iff_getElem.2 fun i j hi hj hij hh => by
  have := h.ri hs (d := (i : Int)) (e := (j : Int)) ⟨by omega, by omega⟩ ⟨by omega, by omega⟩ (by
   simp only [tb, Int.toNat_natCast]; rw [getD_at hi, getD_at hj]; exact hh)
  omega
 apply Classical.byContradiction
 intro hc
 have hnd2 : (x :: t.getD s.toNat []).Nodup := List.nodup_cons.2 ⟨hc, hnd⟩
 have hsub : ∀ y ∈ x :: t.getD s.toNat [], y ∈ (List.range t.length).map fun i : Nat => (i : Int) := fun y hy => by
  have hy' : rg t y := by
   rcases List.mem_cons.1 hy with e | e
   ·rw [e]; exact hx
   ·exact hin y e
  unfold rg at hy'
  exact List.mem_map.2 ⟨y.toNat, List.mem_range.2 (by omega), by omega⟩
 have := hnd2.length_le_of_subset hsub
 simp only [List.length_cons, List.length_map, List.length_range] at this; omega
def allR (t : List (List Int)) (l : List Int) : Bool := l.all fun d => decide (0 ≤ d ∧ d < t.length)
theorem allR_at {t : List (List Int)} {l : List Int} (h : allR t l = true) : ∀ d ∈ l, rg t d := by
 simp only [allR, List.all_eq_true, decide_eq_true_eq] at h; exact h
theorem allR_of {t : List (List Int)} {l : List Int} (h : ∀ d ∈ l, rg t d) : allR t l = true := by
 simp only [allR, List.all_eq_true, decide_eq_true_eq]; exact h
def B59c (s d : Int) (t : List (List Int)) : Option (Int × List (List Int)) := if latB t = true ∧ (0 ≤ s ∧ s < t.length) ∧ (0 ≤ d ∧ d < t.length) then some (tb t s d, t) else none
theorem KB59c : FnOk Tryd.prog 59 (F59c B59c) := ok59c B59c fun s d t r h => ⟨0, by
 simp only [B59c] at h
 split at h
 ·rename_i hh
  obtain ⟨h1, h2, h3⟩ := hh
  have hl := (lat_of h1).row s.toNat (by omega)
  rw [← h, m59c, chk_dec h2, chk_dec (by rw [hl]; exact h3)]; rfl
 ·cases h⟩
def B58 (s : Int) (l : List Int) (t : List (List Int)) : Option (Int × List (List Int)) := if latB t = true ∧ (0 ≤ s ∧ s < t.length) ∧ allR t l = true ∧ l.length ≤ 100 then some (aft t s l, t) else none
theorem KB58 : FnOk Tryd.prog 58 (F58c59 B58) := ok58c59 B59c KB59c B58 fun s l t r h => ⟨101, by
 simp only [B58] at h
 split at h
 ·rename_i hh
  obtain ⟨h1, h2, h3, h4⟩ := hh
  have hL := lat_of h1
  rw [← h, m58c59]
  refine rangeIx l 0 (fun n (z : Int) i => l58c59a B59c 101 l n z i t) (fun _ rest z => rg t z ∧ ∀ d ∈ rest, rg t d) (fun _ rest z => some (aft t z rest, t)) (fun n z i d rest hi hx hI ih => ?_) (fun n z hI => ?_) 101 s (by omega) ⟨h2, allR_at h3⟩
  ·obtain ⟨i1, i2⟩ := hI
   have hd := i2 d (by simp)
   simp only [l58c59a, ixA hi, ixB hi, cond_true, chk_true, Int.toNat_natCast, hx, ixW hi (by omega)]
   rw [B59c, if_pos ⟨h1, i1, hd⟩, Option.bind_some]
   exact ih _ ⟨hL.bd i1 hd, fun e he => i2 e (by simp [he])⟩
  ·simp only [l58c59a, ixE, cond_false, aft]
 ·cases h⟩
def B51 (t : List (List Int)) (s : Int) (l : List Int) : Option Int := if latB t = true ∧ (0 ≤ s ∧ s < t.length) ∧ allR t l = true ∧ l.length ≤ 100 then some (aft t s l) else none
theorem KB51 : FnOk Tryd.prog 51 (F51 B51) := ok51 B58 KB58 B51 fun t s l r h => ⟨0, by
 simp only [B51] at h
 split at h
 ·rename_i hh; rw [← h, m51, B58, if_pos hh, Option.bind_some]
 ·cases h⟩
def B12 (lo n hi : Int) : Option Bool := some (decide (lo ≤ n ∧ n ≤ hi))
theorem KB12 : FnOk Tryd.prog 12 (F12 B12) := ok12 B12 fun lo n hi r h => ⟨0, by
 rw [← h, m12, B12]
 by_cases e : lo ≤ n
 ·rw [decide_eq_true e, cond_true]; simp [e]
 ·rw [decide_eq_false e, cond_false]; simp [e]⟩
def B57c (d : Int) (t : List (List Int)) : Option (Bool × List (List Int)) := if t.length ≤ 100 then some (!decide (0 ≤ d ∧ d ≤ (t.length : Int) - 1), t) else none
theorem KB57c : FnOk Tryd.prog 57 (F57c B57c) := ok57c B12 KB12 B57c fun d t r h => ⟨0, by
 simp only [B57c] at h
 split at h
 ·rename_i hh; rw [← h, m57c, B12, Option.bind_some, w64_small (by omega)]
 ·cases h⟩
def B32c57 (l : List Int) (t : List (List Int)) : Option (Int × List (List Int)) := if t.length ≤ 100 ∧ l.length ≤ 100 ∧ allR t l = true then some (-1, t) else none
theorem KB32c57 : FnOk Tryd.prog 32 (F32c57 B32c57) := ok32c57 B57c KB57c B32c57 fun l t r h => ⟨101, by
 simp only [B32c57] at h
 split at h
 ·rename_i hh
  obtain ⟨h1, h2, h3⟩ := hh
  rw [← h, m32c57]
  refine rangeIx l 0 (fun n (_ : Unit) i => l32c57a B57c 101 l n i t) (fun _ rest _ => ∀ d ∈ rest, rg t d) (fun _ _ _ => some (-1, t)) (fun n z i d rest hi hx hI ih => ?_) (fun n z hI => ?_) 101 () (by omega) (allR_at h3)
  ·have hd := hI d (by simp)
   unfold rg at hd
   simp only [l32c57a, ixA hi, ixB hi, cond_true, chk_true, Int.toNat_natCast, hx, ixW hi (by omega)]
   rw [B57c, if_pos h1, Option.bind_some, decide_eq_true (show 0 ≤ d ∧ d ≤ (t.length : Int) - 1 by omega)]
   exact ih () fun e he => hI e (by simp [he])
  ·simp only [l32c57a, ixE, cond_false]
 ·cases h⟩
def B15c57 (l : List Int) (t : List (List Int)) : Option (Bool × List (List Int)) := if t.length ≤ 100 ∧ l.length ≤ 100 ∧ allR t l = true then some (false, t) else none
theorem KB15c57 : FnOk Tryd.prog 15 (F15c57 B15c57) := ok15c57 B32c57 KB32c57 B15c57 fun l t r h => ⟨0, by
 simp only [B15c57] at h
 split at h
 ·rename_i hh; rw [← h, m15c57, B32c57, if_pos hh, Option.bind_some]; rfl
 ·cases h⟩
def good (t : List (List Int)) : Prop := Sr.B5 t = some 0 ∧ latB t = true
instance (t : List (List Int)) : Decidable (good t) := inferInstanceAs (Decidable (_ ∧ _))
def okC (t : List (List Int)) (l : List Int) : Prop := good t ∧ allR t l = true ∧ l.length ≤ 12
instance (t : List (List Int)) (l : List Int) : Decidable (okC t l) := inferInstanceAs (Decidable (_ ∧ _))
def B50 (t : List (List Int)) (l : List Int) : Option Int := if okC t l then some 0 else none
theorem KB50 : FnOk Tryd.prog 50 (F50 B50) := ok50 B15c57 Sr.B5 KB15c57 Sr.KB5 B50 fun t l r h => ⟨0, by
 simp only [B50] at h
 split at h
 ·rename_i hh
  obtain ⟨⟨h0, h1⟩, h2, h3⟩ := hh
  have := (lat_of h1).len
  rw [← h, m50, h0, Option.bind_some, show ((0 : Int) != 0) = false from rfl, cond_false, decide_eq_false (show ¬ (l.length : Int) > 12 by omega), cond_false, B15c57, if_pos ⟨by omega, by omega, h2⟩, Option.bind_some]
  rfl
 ·cases h⟩
def B34 (t : List (List Int)) (l : List Int) : Option (Int × Int) := if okC t l then some (aft t 0 l, 0) else none
theorem rg0 {t : List (List Int)} (h : Lat t) : rg t 0 := by have := h.len; unfold rg; omega
theorem KB34 : FnOk Tryd.prog 34 (F34 B34) := ok34 B50 B51 KB50 KB51 B34 fun t l r h => ⟨0, by
 simp only [B34] at h
 split at h
 ·rename_i hh
  have hL := lat_of hh.1.2
  rw [← h, m34, B50, if_pos hh, Option.bind_some, show ((0 : Int) != 0) = false from rfl, cond_false, B51, if_pos ⟨hh.1.2, rg0 hL, hh.2.1, by have := hh.2.2; omega⟩, Option.bind_some]
 ·cases h⟩
def fx {α : Type} (p : α → Bool) : Int → List α → Int
 | _, [] => -1
 | t, x :: xs => cond (p x) t (fx p (t + 1) xs)
def B35 (s : List Int) (v : Int) : Option Int := if s.length ≤ 100 then some (fx (fun x => v == x) 0 s) else none
theorem KB35 : FnOk Tryd.prog 35 (F35 B35) := ok35 B35 fun s v r h => ⟨101, by
 simp only [B35] at h
 split at h
 ·rename_i hh
  rw [← h, m35]
  refine rangeIx s 0 (fun n (_ : Unit) i => l35a 101 s v n i) (fun _ _ _ => True) (fun t xs _ => some (fx (fun x => v == x) t xs)) (fun n z i d rest hi hx _ ih => ?_) (fun n z _ => ?_) 101 () (by omega) trivial
  ·simp only [l35a, ixA hi, ixB hi, cond_true, chk_true, Int.toNat_natCast, hx, ixW hi (by omega), fx, ih () trivial]
   cases v == d <;> simp
  ·simp only [l35a, ixE, cond_false, fx]
 ·cases h⟩
theorem fx_at {p : Int → Bool} : ∀ {l : List Int} {k : Int}, (∃ x ∈ l, p x = true) → ∃ i : Nat, i < l.length ∧ fx p k l = k + i ∧ p (l.getD i 0) = true
 | [], _, h => by simp at h
 | x :: r, k, h => by
  rw [fx]
  cases e : p x with
  | true => exact ⟨0, by simp, by simp, by simpa using e⟩
  | false =>
   obtain ⟨y, hy, hp⟩ := h
   rcases List.mem_cons.1 hy with q | q
   ·rw [q, e] at hp; cases hp
   ·obtain ⟨i, h1, h2, h3⟩ := fx_at (k := k + 1) ⟨y, q, hp⟩
    exact ⟨i + 1, by simpa using h1, by rw [cond_false, h2]; omega, by simpa using h3⟩
def chkD (t : List (List Int)) (l : List Int) : Int := fx (fun x => 0 == x) 0 (t.getD (aft t 0 l).toNat [])
theorem chkD_ok {t : List (List Int)} {l : List Int} (h : Lat t) (hl : ∀ d ∈ l, rg t d) : rg t (chkD t l) ∧ tb t (aft t 0 l) (chkD t l) = 0 := by
 have hs := aft_rg h (rg0 h) hl
 obtain ⟨i, h1, h2, h3⟩ := fx_at (p := fun x => (0 : Int) == x) (k := 0) ⟨0, lat_has h hs (rg0 h), rfl⟩
 rw [h.row _ (by unfold rg at hs; omega)] at h1
 rw [chkD, h2]
 refine ⟨by unfold rg; omega, ?_⟩
 rw [tb, show (0 + (i : Int)).toNat = i by omega]
 have := of_decide_eq_true h3
 exact this.symm
def B19 (t : List (List Int)) (l : List Int) : Option (Int × Int) := if okC t l then some (chkD t l, 0) else none
theorem KB19 : FnOk Tryd.prog 19 (F19 B19) := ok19 B34 B35 KB34 KB35 B19 fun t l r h => ⟨0, by
 simp only [B19] at h
 split at h
 ·rename_i hh
  have hL := lat_of hh.1.2
  have hs := aft_rg hL (rg0 hL) (allR_at hh.2.1)
  have hk : (aft t 0 l).toNat < t.length := by unfold rg at hs; omega
  rw [← h, m19, B34, if_pos hh, Option.bind_some]
  simp only [show ((0 : Int) != 0) = false from rfl, cond_false]
  rw [chk_dec (show 0 ≤ aft t 0 l ∧ aft t 0 l < (t.length : Int) from hs), B35, if_pos (by rw [hL.row _ hk]; have := hL.len; omega), Option.bind_some]; rfl
 ·cases h⟩
def okK (t : List (List Int)) (l : List Int) : Prop := okC t l ∧ 2 ≤ l.length
instance (t : List (List Int)) (l : List Int) : Decidable (okK t l) := inferInstanceAs (Decidable (_ ∧ _))
end Go.Proofs.YtoflclmkfajomaaDoor.Sd
