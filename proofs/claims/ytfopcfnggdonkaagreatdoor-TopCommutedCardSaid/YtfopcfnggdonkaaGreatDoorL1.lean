/-
 Logs whose letters come in any order, in plain Lean: what can be opened, what means the same, all logs that do.
-/
import Derived.Test.YtfopcfnggdonkaaGreatDoorP0
namespace Go.Proofs.YtfopcfnggdonkaaGreatDoor
open Go.RowKit
set_option linter.unusedVariables false
abbrev Wd := List UInt8
section
variable (D : UInt8 -> UInt8 -> Bool)
def tk (x : UInt8) : Wd -> Option Wd
 | [] => none
 | y :: r => if y = x then some r else if D y x then none else (tk x r).map (y :: ·)
def CG : Wd -> Wd -> Option Wd
 | [], b => some b
 | x :: a, b => (tk D x b).bind (CG a)
def iJ (x y : UInt8) (a : Wd) : Wd := a.filter fun z => z == x || z == y
def dM (a b : Wd) : Prop := ∀ x y, D x y = true -> iJ x y a = iJ x y b
end
section
variable {D : UInt8 -> UInt8 -> Bool}
theorem MG {x : UInt8} : ∀ {l l' : Wd}, tk D x l = some l' -> ∃ u v, l = u ++ x :: v /\ l' = u ++ v /\ ∀ z ∈ u, z ≠ x /\ D z x = false
 | [], l', h => by cases h
 | y :: r, l', h => by
  simp only [tk] at h
  split at h
  ·rename_i e; obtain rfl := Option.some.inj h; subst e; exact ⟨[], r, rfl, rfl, by simp⟩
  ·rename_i e
   split at h
   ·cases h
   ·rename_i hD
    obtain ⟨l2, h2, rfl⟩ := Option.map_eq_some_iff.1 h
    obtain ⟨u, v, rfl, rfl, h3⟩ := MG h2
    refine ⟨y :: u, v, rfl, rfl, fun z hz => ?_⟩
    rcases List.mem_cons.1 hz with rfl | hz
    ·exact ⟨e, by simpa using hD⟩
    ·exact h3 z hz
theorem QV {x : UInt8} : ∀ (u v : Wd), (∀ z ∈ u, z ≠ x /\ D z x = false) -> tk D x (u ++ x :: v) = some (u ++ v)
 | [], v, _ => by simp [tk]
 | y :: u, v, h => by
  obtain ⟨h1, h2⟩ := h y (by simp)
  simp only [List.cons_append, tk, if_neg h1, h2, Bool.false_eq_true, if_false, QV u v fun z hz => h z (by simp [hz]), Option.map_some]
theorem aj7 {x : UInt8} {l l' : Wd} (h : tk D x l = some l') : l.length = l'.length + 1 := by
 obtain ⟨u, v, rfl, rfl, _⟩ := MG h
 simp; omega
theorem Vh {x : UInt8} {l l' : Wd} (h : tk D x l = some l') : x ∈ l /\ ∀ z ∈ l', z ∈ l := by
 obtain ⟨u, v, rfl, rfl, _⟩ := MG h
 refine ⟨by simp, fun z hz => ?_⟩
 rcases List.mem_append.1 hz with hz | hz <;> simp [hz]
theorem ai5 : ∀ {a b r : Wd}, CG D a b = some r -> b.length = a.length + r.length
 | [], b, r, h => by obtain rfl := Option.some.inj h; simp
 | x :: a, b, r, h => by
  obtain ⟨b', h1, h2⟩ := Option.bind_eq_some_iff.1 h
  have := aj7 h1
  have := ai5 h2
  simp; omega
structure uJ (D : UInt8 -> UInt8 -> Bool) : Prop where
 refl : ∀ x, D x x = true
 symm : ∀ x y, D x y = D y x
theorem dM.refl (a : Wd) : dM D a a := fun _ _ _ => rfl
theorem dM.symm {a b : Wd} (h : dM D a b) : dM D b a := fun x y hD => (h x y hD).symm
theorem dM.trans {a b c : Wd} (h : dM D a b) (g : dM D b c) : dM D a c := fun x y hD => (h x y hD).trans (g x y hD)
theorem QM (x y : UInt8) (a b : Wd) : iJ x y (a ++ b) = iJ x y a ++ iJ x y b := List.filter_append ..
theorem QN {x y z : UInt8} (h : z = x \/ z = y) (a : Wd) : iJ x y (z :: a) = z :: iJ x y a := by
 unfold iJ
 rw [List.filter_cons_of_pos]
 rcases h with rfl | rfl <;> simp
theorem Fj {x y z : UInt8} (h1 : z ≠ x) (h2 : z ≠ y) (a : Wd) : iJ x y (z :: a) = iJ x y a := by
 unfold iJ
 rw [List.filter_cons_of_neg]
 simp [h1, h2]
theorem Un {x y : UInt8} {a : Wd} (h : ∀ z ∈ a, z ≠ x /\ z ≠ y) : iJ x y a = [] := by
 unfold iJ
 rw [List.filter_eq_nil_iff]
 intro z hz
 simp [(h z hz).1, (h z hz).2]
theorem afB {x y z : UInt8} {a : Wd} : z ∈ iJ x y a ↔ z ∈ a /\ (z = x \/ z = y) := by
 unfold iJ
 rw [List.mem_filter]
 simp
theorem dM.cons {a b : Wd} (h : dM D a b) (x : UInt8) : dM D (x :: a) (x :: b) := fun y z hD => by
 have := h y z hD
 unfold iJ at this ⊢
 simp only [List.filter_cons]
 split
 ·rw [this]
 ·exact this
theorem dM.append {a b c d : Wd} (h : dM D a b) (g : dM D c d) : dM D (a ++ c) (b ++ d) := fun x y hD => by
 rw [QM, QM, h x y hD, g x y hD]
theorem Gy (hB : uJ D) {x : UInt8} {l l' : Wd} (h : tk D x l = some l') : dM D (x :: l') l := fun y z hD => by
 obtain ⟨u, v, rfl, rfl, h3⟩ := MG h
 rw [<- List.cons_append, QM, QM]
 by_cases hx : x = y \/ x = z
 ·have hu : iJ y z u = [] := Un fun t ht => by
   obtain ⟨k1, k2⟩ := h3 t ht
   rcases hx with rfl | rfl
   ·exact ⟨k1, fun e => by (subst e; rw [hB.symm, hD] at k2; cases k2)⟩
   ·exact ⟨fun e => by (subst e; rw [hD] at k2; cases k2), k1⟩
  rw [QN hx, QN hx, hu]
  rfl
 ·rw [Fj (fun e => hx (.inl e)) (fun e => hx (.inr e)), Fj (fun e => hx (.inl e)) (fun e => hx (.inr e))]
theorem ac0 {x : UInt8} : ∀ {b : Wd}, x ∈ b -> ∃ u v, b = u ++ x :: v /\ x ∉ u
 | y :: b, h => by
  by_cases e : x = y
  ·subst e; exact ⟨[], b, rfl, by simp⟩
  ·obtain ⟨u, v, rfl, hu⟩ := ac0 (List.mem_of_ne_of_mem e h)
   exact ⟨y :: u, v, rfl, by simp [e, hu]⟩
theorem dM.len (hB : uJ D) {x : UInt8} {a b : Wd} (h : dM D a b) : a.count x = b.count x := by
 have := congrArg (List.count x) (h x x (hB.refl x))
 unfold iJ at this
 rw [List.count_filter (by simp), List.count_filter (by simp)] at this
 exact this
theorem dM.mem (hB : uJ D) {x : UInt8} {a b : Wd} (h : dM D a b) : x ∈ a ↔ x ∈ b := by
 rw [<- List.count_pos_iff, <- List.count_pos_iff, h.len hB]
theorem dM.tk (hB : uJ D) {x : UInt8} {a b : Wd} (h : dM D (x :: a) b) : ∃ b', Go.Proofs.YtfopcfnggdonkaaGreatDoor.tk D x b = some b' /\ dM D a b' := by
 have hx : x ∈ b := (h.mem hB).1 (by simp)
 obtain ⟨u, v, rfl, hu⟩ := ac0 hx
 have hD : ∀ z ∈ u, z ≠ x /\ D z x = false := fun z hz => by
  refine ⟨fun e => hu (e ▸ hz), ?_⟩
  cases hzx : D z x with
  | false => rfl
  | true =>
   exfalso
   have e := h z x hzx
   rw [QN (.inr rfl), QM] at e
   cases hp : iJ z x u with
   | nil => exact List.not_mem_nil (hp ▸ afB.2 ⟨hz, .inl rfl⟩)
   | cons y r =>
    rw [hp] at e
    simp only [List.cons_append, List.cons.injEq] at e
    have : x ∈ u := (afB.1 (show x ∈ iJ z x u by rw [hp, e.1]; simp)).1
    exact hu this
 refine ⟨u ++ v, QV u v hD, ?_⟩
 have h2 := h.trans (Gy hB (QV u v hD)).symm
 intro y z hyz
 have e := h2 y z hyz
 by_cases hxy : x = y \/ x = z
 ·rw [QN hxy, QN hxy] at e
  exact (List.cons.inj e).2
 ·rw [Fj (fun e => hxy (.inl e)) (fun e => hxy (.inr e)), Fj (fun e => hxy (.inl e)) (fun e => hxy (.inr e))] at e
  exact e
theorem ai7 (hB : uJ D) : ∀ {a b r : Wd}, CG D a b = some r -> dM D (a ++ r) b
 | [], b, r, h => by obtain rfl := Option.some.inj h; exact dM.refl _
 | x :: a, b, r, h => by
  obtain ⟨b', h1, h2⟩ := Option.bind_eq_some_iff.1 h
  exact ((ai7 hB h2).cons x).trans (Gy hB h1)
theorem ai6 (hB : uJ D) : ∀ {a b r : Wd}, dM D (a ++ r) b -> ∃ r', CG D a b = some r' /\ dM D r r'
 | [], b, r, h => ⟨b, rfl, h⟩
 | x :: a, b, r, h => by
  obtain ⟨b', h1, h2⟩ := dM.tk hB (show dM D (x :: (a ++ r)) b from h)
  obtain ⟨r', h3, h4⟩ := ai6 hB h2
  exact ⟨r', by simp only [CG, h1, Option.bind_some, h3], h4⟩
theorem acP (hB : uJ D) {r : Wd} (h : dM D [] r) : r = [] := by
 cases r with
 | nil => rfl
 | cons x r => exact absurd ((h.mem hB).2 (List.mem_cons_self (a := x) (l := r))) (by simp)
theorem Lr (hB : uJ D) {a b : Wd} : dM D a b ↔ CG D a b = some [] := by
 constructor
 ·intro h
  obtain ⟨r', h1, h2⟩ := ai6 hB (show dM D (a ++ []) b by simpa using h)
  rw [h1, acP hB h2]
 ·intro h
  have := ai7 hB h
  simpa using this
theorem dM.length (hB : uJ D) {a b : Wd} (h : dM D a b) : a.length = b.length := by
 have := ai5 ((Lr hB).1 h)
 simpa using this.symm
end
def Dk (d : List Int) (x y : UInt8) : Bool := ((d.getD (x.toNat - 97) 0).toNat >>> (y.toNat - 97)) % 2 == 1
def abc : Wd := [97, 98, 99, 100, 101, 102]
end Go.Proofs.YtfopcfnggdonkaaGreatDoor
