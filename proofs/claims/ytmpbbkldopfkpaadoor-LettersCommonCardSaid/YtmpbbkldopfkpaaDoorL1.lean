/-
 Logs whose letters come in any order, in plain Lean: what can be opened, what means the same, all logs that do.
-/
import Derived.Test.YtmpbbkldopfkpaaDoorP0
namespace Go.Proofs.YtmpbbkldopfkpaaDoor
open Go.RowKit
set_option linter.unusedVariables false

abbrev Wd := List UInt8
section
variable (D : UInt8 → UInt8 → Bool)

def tk (x : UInt8) : Wd → Option Wd
 | [] => none
 | y :: r => if y = x then some r else if D y x then none else (tk x r).map (y :: ·)
def rst : Wd → Wd → Option Wd
 | [], b => some b
 | x :: a, b => (tk D x b).bind (rst a)
def prj (x y : UInt8) (a : Wd) : Wd := a.filter fun z => z == x || z == y
def Eqv (a b : Wd) : Prop := ∀ x y, D x y = true → prj x y a = prj x y b
def lin (ks : Wd) : Nat → Wd → List Wd
 | 0, _ => [[]]
 | n + 1, l => ks.flatMap fun x => match tk D x l with
  | some l' => (lin ks n l').map (x :: ·)
  | none => []
def cntW (ks : Wd) : Nat → Wd → Nat
 | 0, _ => 1
 | n + 1, l => (ks.map fun x => match tk D x l with
  | some l' => cntW ks n l'
  | none => 0).sum
end

section
variable {D : UInt8 → UInt8 → Bool}

theorem lin_len (ks : Wd) : ∀ (n : Nat) (l : Wd), (lin D ks n l).length = cntW D ks n l
 | 0, l => rfl
 | n + 1, l => by
  simp only [lin, cntW, List.length_flatMap]
  congr 1
  apply List.map_congr_left
  intro x _
  cases tk D x l with
  | none => rfl
  | some l' => simp [lin_len ks n l']
theorem tk_some {x : UInt8} : ∀ {l l' : Wd}, tk D x l = some l' → ∃ u v, l = u ++ x :: v ∧ l' = u ++ v ∧ ∀ z ∈ u, z ≠ x ∧ D z x = false
 | [], l', h => by cases h
 | y :: r, l', h => by
  simp only [tk] at h
  split at h
  ·rename_i e; obtain rfl := Option.some.inj h; subst e; exact ⟨[], r, rfl, rfl, by simp⟩
  ·rename_i e
   split at h
   ·cases h
   ·rename_i hD
    obtain ⟨l2, h2, rfl⟩ := Option.map_eq_some_iff.1 h
    obtain ⟨u, v, rfl, rfl, h3⟩ := tk_some h2
    refine ⟨y :: u, v, rfl, rfl, fun z hz => ?_⟩
    rcases List.mem_cons.1 hz with rfl | hz
    ·exact ⟨e, by simpa using hD⟩
    ·exact h3 z hz
theorem tk_of {x : UInt8} : ∀ (u v : Wd), (∀ z ∈ u, z ≠ x ∧ D z x = false) → tk D x (u ++ x :: v) = some (u ++ v)
 | [], v, _ => by simp [tk]
 | y :: u, v, h => by
  obtain ⟨h1, h2⟩ := h y (by simp)
  simp only [List.cons_append, tk, if_neg h1, h2, Bool.false_eq_true, if_false, tk_of u v fun z hz => h z (by simp [hz]), Option.map_some]
theorem tk_len {x : UInt8} {l l' : Wd} (h : tk D x l = some l') : l.length = l'.length + 1 := by
 obtain ⟨u, v, rfl, rfl, _⟩ := tk_some h
 simp; omega
theorem tk_mem {x : UInt8} {l l' : Wd} (h : tk D x l = some l') : x ∈ l ∧ ∀ z ∈ l', z ∈ l := by
 obtain ⟨u, v, rfl, rfl, _⟩ := tk_some h
 refine ⟨by simp, fun z hz => ?_⟩
 rcases List.mem_append.1 hz with hz | hz <;> simp [hz]
theorem rst_len : ∀ {a b r : Wd}, rst D a b = some r → b.length = a.length + r.length
 | [], b, r, h => by obtain rfl := Option.some.inj h; simp
 | x :: a, b, r, h => by
  obtain ⟨b', h1, h2⟩ := Option.bind_eq_some_iff.1 h
  have := tk_len h1
  have := rst_len h2
  simp; omega
structure Bnd (D : UInt8 → UInt8 → Bool) : Prop where
 refl : ∀ x, D x x = true
 symm : ∀ x y, D x y = D y x
theorem Eqv.refl (a : Wd) : Eqv D a a := fun _ _ _ => rfl
theorem Eqv.symm {a b : Wd} (h : Eqv D a b) : Eqv D b a := fun x y hD => (h x y hD).symm
theorem Eqv.trans {a b c : Wd} (h : Eqv D a b) (g : Eqv D b c) : Eqv D a c := fun x y hD => (h x y hD).trans (g x y hD)
theorem prj_append (x y : UInt8) (a b : Wd) : prj x y (a ++ b) = prj x y a ++ prj x y b := List.filter_append ..
theorem prj_cons_in {x y z : UInt8} (h : z = x ∨ z = y) (a : Wd) : prj x y (z :: a) = z :: prj x y a := by
 unfold prj
 rw [List.filter_cons_of_pos]
 rcases h with rfl | rfl <;> simp
theorem prj_cons_out {x y z : UInt8} (h1 : z ≠ x) (h2 : z ≠ y) (a : Wd) : prj x y (z :: a) = prj x y a := by
 unfold prj
 rw [List.filter_cons_of_neg]
 simp [h1, h2]
theorem prj_nil_of {x y : UInt8} {a : Wd} (h : ∀ z ∈ a, z ≠ x ∧ z ≠ y) : prj x y a = [] := by
 unfold prj
 rw [List.filter_eq_nil_iff]
 intro z hz
 simp [(h z hz).1, (h z hz).2]
theorem mem_prj {x y z : UInt8} {a : Wd} : z ∈ prj x y a ↔ z ∈ a ∧ (z = x ∨ z = y) := by
 unfold prj
 rw [List.mem_filter]
 simp
theorem Eqv.cons {a b : Wd} (h : Eqv D a b) (x : UInt8) : Eqv D (x :: a) (x :: b) := fun y z hD => by
 have := h y z hD
 unfold prj at this ⊢
 simp only [List.filter_cons]
 split
 ·rw [this]
 ·exact this
theorem Eqv.append {a b c d : Wd} (h : Eqv D a b) (g : Eqv D c d) : Eqv D (a ++ c) (b ++ d) := fun x y hD => by
 rw [prj_append, prj_append, h x y hD, g x y hD]
theorem tk_eqv (hB : Bnd D) {x : UInt8} {l l' : Wd} (h : tk D x l = some l') : Eqv D (x :: l') l := fun y z hD => by
 obtain ⟨u, v, rfl, rfl, h3⟩ := tk_some h
 rw [← List.cons_append, prj_append, prj_append]
 by_cases hx : x = y ∨ x = z
 ·have hu : prj y z u = [] := prj_nil_of fun t ht => by
   obtain ⟨k1, k2⟩ := h3 t ht
   rcases hx with rfl | rfl
   ·exact ⟨k1, fun e => by (subst e; rw [hB.symm, hD] at k2; cases k2)⟩
   ·exact ⟨fun e => by (subst e; rw [hD] at k2; cases k2), k1⟩
  rw [prj_cons_in hx, prj_cons_in hx, hu]
  rfl
 ·rw [prj_cons_out (fun e => hx (.inl e)) (fun e => hx (.inr e)), prj_cons_out (fun e => hx (.inl e)) (fun e => hx (.inr e))]
theorem first_at {x : UInt8} : ∀ {b : Wd}, x ∈ b → ∃ u v, b = u ++ x :: v ∧ x ∉ u
 | y :: b, h => by
  by_cases e : x = y
  ·subst e; exact ⟨[], b, rfl, by simp⟩
  ·obtain ⟨u, v, rfl, hu⟩ := first_at (List.mem_of_ne_of_mem e h)
   exact ⟨y :: u, v, rfl, by simp [e, hu]⟩
theorem Eqv.len (hB : Bnd D) {x : UInt8} {a b : Wd} (h : Eqv D a b) : a.count x = b.count x := by
 have := congrArg (List.count x) (h x x (hB.refl x))
 unfold prj at this
 rw [List.count_filter (by simp), List.count_filter (by simp)] at this
 exact this
theorem Eqv.mem (hB : Bnd D) {x : UInt8} {a b : Wd} (h : Eqv D a b) : x ∈ a ↔ x ∈ b := by
 rw [← List.count_pos_iff, ← List.count_pos_iff, h.len hB]
theorem Eqv.tk (hB : Bnd D) {x : UInt8} {a b : Wd} (h : Eqv D (x :: a) b) : ∃ b', Go.Proofs.YtmpbbkldopfkpaaDoor.tk D x b = some b' ∧ Eqv D a b' := by
 have hx : x ∈ b := (h.mem hB).1 (by simp)
 obtain ⟨u, v, rfl, hu⟩ := first_at hx
 have hD : ∀ z ∈ u, z ≠ x ∧ D z x = false := fun z hz => by
  refine ⟨fun e => hu (e ▸ hz), ?_⟩
  cases hzx : D z x with
  | false => rfl
  | true =>
   exfalso
   have e := h z x hzx
   rw [prj_cons_in (.inr rfl), prj_append] at e
   cases hp : prj z x u with
   | nil => exact List.not_mem_nil (hp ▸ mem_prj.2 ⟨hz, .inl rfl⟩)
   | cons y r =>
    rw [hp] at e
    simp only [List.cons_append, List.cons.injEq] at e
    have : x ∈ u := (mem_prj.1 (show x ∈ prj z x u by rw [hp, e.1]; simp)).1
    exact hu this
 refine ⟨u ++ v, tk_of u v hD, ?_⟩
 have h2 := h.trans (tk_eqv hB (tk_of u v hD)).symm
 intro y z hyz
 have e := h2 y z hyz
 by_cases hxy : x = y ∨ x = z
 ·rw [prj_cons_in hxy, prj_cons_in hxy] at e
  exact (List.cons.inj e).2
 ·rw [prj_cons_out (fun e => hxy (.inl e)) (fun e => hxy (.inr e)), prj_cons_out (fun e => hxy (.inl e)) (fun e => hxy (.inr e))] at e
  exact e
theorem rst_some (hB : Bnd D) : ∀ {a b r : Wd}, rst D a b = some r → Eqv D (a ++ r) b
 | [], b, r, h => by obtain rfl := Option.some.inj h; exact Eqv.refl _
 | x :: a, b, r, h => by
  obtain ⟨b', h1, h2⟩ := Option.bind_eq_some_iff.1 h
  exact ((rst_some hB h2).cons x).trans (tk_eqv hB h1)
theorem rst_of (hB : Bnd D) : ∀ {a b r : Wd}, Eqv D (a ++ r) b → ∃ r', rst D a b = some r' ∧ Eqv D r r'
 | [], b, r, h => ⟨b, rfl, h⟩
 | x :: a, b, r, h => by
  obtain ⟨b', h1, h2⟩ := Eqv.tk hB (show Eqv D (x :: (a ++ r)) b from h)
  obtain ⟨r', h3, h4⟩ := rst_of hB h2
  exact ⟨r', by simp only [rst, h1, Option.bind_some, h3], h4⟩
theorem eqv_nil (hB : Bnd D) {r : Wd} (h : Eqv D [] r) : r = [] := by
 cases r with
 | nil => rfl
 | cons x r => exact absurd ((h.mem hB).2 (List.mem_cons_self (a := x) (l := r))) (by simp)
theorem eqv_rst (hB : Bnd D) {a b : Wd} : Eqv D a b ↔ rst D a b = some [] := by
 constructor
 ·intro h
  obtain ⟨r', h1, h2⟩ := rst_of hB (show Eqv D (a ++ []) b by simpa using h)
  rw [h1, eqv_nil hB h2]
 ·intro h
  have := rst_some hB h
  simpa using this
theorem Eqv.length (hB : Bnd D) {a b : Wd} (h : Eqv D a b) : a.length = b.length := by
 have := rst_len ((eqv_rst hB).1 h)
 simpa using this.symm
theorem mem_lin (hB : Bnd D) (ks : Wd) : ∀ (n : Nat) (l t : Wd), l.length = n → (∀ z ∈ l, z ∈ ks) → (t ∈ lin D ks n l ↔ Eqv D t l)
 | 0, l, t, hl, hk => by
  obtain rfl := List.eq_nil_of_length_eq_zero hl
  simp only [lin, List.mem_singleton]
  exact ⟨fun h => h ▸ Eqv.refl _, fun h => eqv_nil hB h.symm⟩
 | n + 1, l, t, hl, hk => by
  simp only [lin, List.mem_flatMap]
  constructor
  ·rintro ⟨x, hx, h⟩
   cases ht : Go.Proofs.YtmpbbkldopfkpaaDoor.tk D x l with
   | none => rw [ht] at h; simp at h
   | some l' =>
    rw [ht] at h
    obtain ⟨t', h1, rfl⟩ := List.mem_map.1 h
    have hlen := tk_len ht
    have := (mem_lin hB ks n l' t' (by omega) fun z hz => hk z ((tk_mem ht).2 z hz)).1 h1
    exact (this.cons x).trans (tk_eqv hB ht)
  ·intro h
   cases t with
   | nil => have := h.length hB; simp at this; omega
   | cons x t' =>
    obtain ⟨l', h1, h2⟩ := h.tk hB
    have hlen := tk_len h1
    refine ⟨x, hk x (tk_mem h1).1, ?_⟩
    rw [h1]
    exact List.mem_map.2 ⟨t', (mem_lin hB ks n l' t' (by omega) fun z hz => hk z ((tk_mem h1).2 z hz)).2 h2, rfl⟩
end

def Dk (d : List Int) (x y : UInt8) : Bool := ((d.getD (x.toNat - 97) 0).toNat >>> (y.toNat - 97)) % 2 == 1
def abc : Wd := [97, 98, 99, 100, 101, 102]
end Go.Proofs.YtmpbbkldopfkpaaDoor
