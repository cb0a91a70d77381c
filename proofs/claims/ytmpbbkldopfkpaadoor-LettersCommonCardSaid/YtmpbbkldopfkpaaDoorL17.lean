/-
 The greatest common beginning.
-/
import Derived.Test.YtmpbbkldopfkpaaDoorL6
import Derived.Test.YtmpbbkldopfkpaaDoorL13
namespace Go.Proofs.YtmpbbkldopfkpaaDoor
open Go.RowKit
set_option linter.unusedVariables false

section
variable {D : UInt8 → UInt8 → Bool}
theorem tk_cons (x z : UInt8) (p : Wd) : tk D x (z :: p) = if z = x then some p else if D z x then none else (tk D x p).map (z :: ·) := rfl
theorem tk_append_none {x : UInt8} : ∀ {p r l' : Wd}, tk D x p = none → tk D x (p ++ r) = some l' → (∀ z ∈ p, z ≠ x ∧ D z x = false) ∧ ∃ r', tk D x r = some r' ∧ l' = p ++ r'
 | [], r, l', _, h => ⟨(fun z hz => by cases hz), l', h, rfl⟩
 | z :: p, r, l', h0, h => by
  rw [tk_cons] at h0
  rw [List.cons_append, tk_cons] at h
  by_cases e : z = x
  ·rw [if_pos e] at h0; cases h0
  ·rw [if_neg e] at h0 h
   cases hd : D z x with
   | true => rw [hd, if_pos rfl] at h; cases h
   | false =>
    rw [hd, if_neg (by decide)] at h0 h
    obtain ⟨l2, h2, rfl⟩ := Option.map_eq_some_iff.1 h
    obtain ⟨i1, r', i2, rfl⟩ := tk_append_none (Option.map_eq_none_iff.1 h0) h2
    refine ⟨fun y hy => ?_, r', i2, rfl⟩
    rcases List.mem_cons.1 hy with rfl | hy
    ·exact ⟨e, hd⟩
    ·exact i1 y hy
theorem rst_isSome (hB : Bnd D) {p c r : Wd} (h : Eqv D (p ++ r) c) : (rst D p c).isSome = true := by
 obtain ⟨r', h1, _⟩ := rst_of hB h
 rw [h1]; rfl
theorem cmn_gcd (hB : Bnd D) (ks : Wd) : ∀ (n : Nat) (a b p : Wd), a.length ≤ n → (∀ z ∈ a, z ∈ ks) → (rst D p a).isSome = true → (rst D p b).isSome = true → (rst D p (cmn D ks n a b)).isSome = true
 | 0, a, b, p, hl, _, ha, _ => by
  obtain ⟨r, hr⟩ := Option.isSome_iff_exists.1 ha
  have := rst_len hr
  obtain rfl : p = [] := List.eq_nil_of_length_eq_zero (by omega)
  rfl
 | n + 1, a, b, p, hl, hk, ha, hb => by
  obtain ⟨ra, hra⟩ := Option.isSome_iff_exists.1 ha
  obtain ⟨rb, hrb⟩ := Option.isSome_iff_exists.1 hb
  have Ea := rst_some hB hra
  have Eb := rst_some hB hrb
  simp only [cmn]
  cases hp : ks.findSome? fun x => tk2 D x a b with
  | none =>
   cases p with
   | nil => rfl
   | cons x p =>
    obtain ⟨a', h1, _⟩ := Option.bind_eq_some_iff.1 (show (tk D x a).bind (rst D p) = some ra from hra)
    obtain ⟨b', h2, _⟩ := Option.bind_eq_some_iff.1 (show (tk D x b).bind (rst D p) = some rb from hrb)
    have := List.findSome?_eq_none_iff.1 hp x (hk x (tk_mem h1).1)
    simp [tk2, h1, h2] at this
  | some q =>
   obtain ⟨x, hx, h2⟩ := List.exists_of_findSome?_eq_some hp
   obtain ⟨e1, e2, e3⟩ := tk2_some h2
   obtain ⟨x', a', b'⟩ := q
   simp only at e1 e2 e3
   subst e1
   have hl' : a'.length ≤ n := by have := tk_len e2; omega
   have hk' : ∀ z ∈ a', z ∈ ks := fun z hz => hk z ((tk_mem e2).2 z hz)
   simp only
   cases ht : tk D x' p with
   | some p' =>
    have Ep := tk_eqv hB ht
    have one : ∀ {c c' rc : Wd}, tk D x' c = some c' → Eqv D (p ++ rc) c → (rst D p' c').isSome = true := fun {c c' rc} h1 h2 => by
     obtain ⟨c2, h3, h4⟩ := Eqv.tk hB (show Eqv D (x' :: (p' ++ rc)) c from (Ep.append (Eqv.refl rc)).trans h2)
     rw [h1] at h3; obtain rfl := Option.some.inj h3
     exact rst_isSome hB h4
    obtain ⟨rc, hrc⟩ := Option.isSome_iff_exists.1 (cmn_gcd hB ks n a' b' p' hl' hk' (one e2 Ea) (one e3 Eb))
    exact rst_isSome hB ((Ep.symm.append (Eqv.refl rc)).trans ((rst_some hB hrc).cons x'))
   | none =>
    have one : ∀ {c c' rc : Wd}, tk D x' c = some c' → Eqv D (p ++ rc) c → (∀ z ∈ p, z ≠ x' ∧ D z x' = false) ∧ (rst D p c').isSome = true := fun {c c' rc} h1 h2 => by
     obtain ⟨c2, h3, h4⟩ := Eqv.tk hB ((tk_eqv hB h1).trans h2.symm)
     obtain ⟨i1, r', i2, rfl⟩ := tk_append_none ht h3
     exact ⟨i1, rst_isSome hB h4.symm⟩
    obtain ⟨i1, i2⟩ := one e2 Ea
    obtain ⟨rc, hrc⟩ := Option.isSome_iff_exists.1 (cmn_gcd hB ks n a' b' p hl' hk' i2 (one e3 Eb).2)
    have Ex := tk_eqv hB (tk_of (D := D) p rc i1)
    exact rst_isSome hB (Ex.symm.trans ((rst_some hB hrc).cons x'))
theorem cmn_left (ks : Wd) : ∀ (n : Nat) (a b : Wd), (rst D (cmn D ks n a b) a).isSome = true ∧ (rst D (cmn D ks n a b) b).isSome = true
 | 0, a, b => ⟨rfl, rfl⟩
 | n + 1, a, b => by
  simp only [cmn]
  cases hp : ks.findSome? fun x => tk2 D x a b with
  | none => exact ⟨rfl, rfl⟩
  | some q =>
   obtain ⟨x, hx, h2⟩ := List.exists_of_findSome?_eq_some hp
   obtain ⟨e1, e2, e3⟩ := tk2_some h2
   obtain ⟨x', a', b'⟩ := q
   simp only at e1 e2 e3
   subst e1
   obtain ⟨i1, i2⟩ := cmn_left ks n a' b'
   simp only [rst, e2, e3, Option.bind_some]
   exact ⟨i1, i2⟩
theorem find_swap (a b : Wd) : ∀ ks : Wd, (ks.findSome? fun x => tk2 D x b a) = (ks.findSome? fun x => tk2 D x a b).map fun p => (p.1, p.2.2, p.2.1)
 | [] => rfl
 | x :: ks => by
  rw [List.findSome?_cons, List.findSome?_cons, find_swap a b ks]
  have e : tk2 D x b a = (tk2 D x a b).map fun p => (p.1, p.2.2, p.2.1) := by
   unfold tk2
   cases tk D x a <;> cases tk D x b <;> rfl
  rw [e]
  cases tk2 D x a b <;> rfl
theorem find_nil (b : Wd) : ∀ ks : Wd, (ks.findSome? fun x => tk2 D x [] b) = none
 | [] => rfl
 | x :: ks => by
  rw [List.findSome?_cons, tk2_none (.inl rfl)]; exact find_nil b ks
theorem cmn_comm (ks : Wd) : ∀ (n m : Nat) (a b : Wd), a.length ≤ n → b.length ≤ m → cmn D ks n a b = cmn D ks m b a
 | 0, 0, a, b, _, _ => rfl
 | 0, m + 1, a, b, h, _ => by
  obtain rfl : a = [] := List.eq_nil_of_length_eq_zero (by omega)
  simp only [cmn]
  rw [find_swap [] b ks, find_nil b ks]; rfl
 | n + 1, 0, a, b, _, h => by
  obtain rfl : b = [] := List.eq_nil_of_length_eq_zero (by omega)
  simp only [cmn]
  rw [find_swap [] a ks, find_nil a ks]; rfl
 | n + 1, m + 1, a, b, h1, h2 => by
  simp only [cmn]
  rw [find_swap a b ks]
  cases hp : ks.findSome? fun x => tk2 D x a b with
  | none => rfl
  | some q =>
   obtain ⟨x, hx, h3⟩ := List.exists_of_findSome?_eq_some hp
   obtain ⟨e1, e2, e3⟩ := tk2_some h3
   have l1 := tk_len e2
   have l2 := tk_len e3
   simp only [Option.map_some]
   rw [cmn_comm ks n m q.2.1 q.2.2 (by omega) (by omega)]
end

theorem cmo_comm {o : Of} (h0 : errO o = 0) (a b : Wd) : cmo o a b = cmo o b a := cmn_comm abc _ _ a b (Nat.le_refl _) (Nat.le_refl _)
theorem cmo_gcd {o : Of} (h0 : errO o = 0) {a b p : Wd} (ha : ∀ z ∈ a, z ∈ abc) (h1 : (rst (Do o) p a).isSome = true) (h2 : (rst (Do o) p b).isSome = true) : (rst (Do o) p (cmo o a b)).isSome = true :=
 cmn_gcd (Do_bnd h0) abc _ a b p (Nat.le_refl _) ha h1 h2
theorem cmo_left {o : Of} (h0 : errO o = 0) (a b : Wd) : (rst (Do o) (cmo o a b) a).isSome = true ∧ (rst (Do o) (cmo o a b) b).isSome = true := cmn_left abc _ a b
theorem rst_eqv {o : Of} (h0 : errO o = 0) {p p' c c' : Wd} (hp : Eqv (Do o) p p') (hc : Eqv (Do o) c c') (h : (rst (Do o) p c).isSome = true) : (rst (Do o) p' c').isSome = true := by
 obtain ⟨r, hr⟩ := Option.isSome_iff_exists.1 h
 exact rst_isSome (Do_bnd h0) ((hp.symm.append (Eqv.refl r)).trans ((rst_some (Do_bnd h0) hr).trans hc))
theorem cmo_rests {o : Of} (h0 : errO o = 0) {a b c r s : Wd} (ha : ∀ z ∈ a, z ∈ abc) (hc : Eqv (Do o) c (cmo o a b)) (hr : Eqv (Do o) (c ++ r) a) (hs : Eqv (Do o) (c ++ s) b) : cmo o r s = [] := by
 have hB := Do_bnd h0
 cases e : cmo o r s with
 | nil => rfl
 | cons x q =>
  obtain ⟨l1, l2⟩ := cmo_left h0 r s
  rw [e] at l1 l2
  obtain ⟨r1, hr1⟩ := Option.isSome_iff_exists.1 l1
  obtain ⟨s1, hs1⟩ := Option.isSome_iff_exists.1 l2
  have h1 : (rst (Do o) (c ++ x :: q) a).isSome = true := rst_isSome hB (r := r1) (by
   rw [List.append_assoc]; exact ((Eqv.refl c).append (rst_some hB hr1)).trans hr)
  have h2 : (rst (Do o) (c ++ x :: q) b).isSome = true := rst_isSome hB (r := s1) (by
   rw [List.append_assoc]; exact ((Eqv.refl c).append (rst_some hB hs1)).trans hs)
  have h3 := rst_eqv h0 (Eqv.refl _) hc.symm (cmo_gcd h0 ha h1 h2)
  obtain ⟨t, ht⟩ := Option.isSome_iff_exists.1 h3
  have := rst_len ht
  simp only [List.length_append, List.length_cons] at this
  omega
end Go.Proofs.YtmpbbkldopfkpaaDoor
