/-
 Lifting Go functions to plain Lean functions, parts Mm Mn Mo N O P Pa Pz.
-/
import Derived.Test.YtfopcfnggdonkaaGreatDoorYB
namespace Go.Proofs.YtfopcfnggdonkaaGreatDoor
open Go.RowKit
set_option linter.unusedVariables false
section
section
variable {P : Program} {c : Cx} {F : Nat -> Prop} {s : TS} {π : Nat -> Pl} {a : Act} {w : World}
theorem I5 (U O : List (Nat × TO)) (i : Nat) : aA (U ++ O) i = match aA U i with
  | some o => some o
  | none => aA O i := by
 induction U with
 | nil => rfl
 | cons p r ih =>
  obtain ⟨j, o⟩ := p
  simp only [List.cons_append, aA]
  by_cases h : i = j
  ·rw [if_pos h, if_pos h]
  ·rw [if_neg h, if_neg h]; exact ih
theorem aF.Gh (hm : aF c F π s a w) {w' : World} {aI : Nat -> Pl} {U : List (Nat × TO)} (h1 : ∀ i, aA U i = none -> aI i = π i)
  (h2 : ∀ i o o', aA s.ob i = some o -> aA U i = some o' -> ∀ G', Step w' G' (π i) (aI i) o o')
  (h3 : ∀ i b, Own aI (aA U) i b -> (∃ j o', aA U j = some o' /\ Own π (aA s.ob) j b) \/ (w.heap.size <= b /\ b < w'.heap.size))
  (h4 : ∀ i j b, Own aI (aA U) i b -> Own aI (aA U) j b -> i = j)
  (h5 : ∀ b, b < w.heap.size -> (∀ j o', aA U j = some o' -> ¬ Own π (aA s.ob) j b) -> w'.heap[b]? = w.heap[b]?)
  (h6 : w.heap.size <= w'.heap.size) (hos : w'.os = w.os /\ w'.tape = w.tape /\ w'.output = w.output)
  (h7 : fK w (Gz F w π (aA s.ob)) π (aA s.ob) w' (Gz F w' aI (aA (U ++ s.ob))) aI (aA (U ++ s.ob)) -> ∀ i o, aA U i = some o -> OR w' (Gz F w' aI (aA (U ++ s.ob))) aI (aA (U ++ s.ob)) i o) : aF c F aI ⟨s.sl, U ++ s.ob⟩ a w' := by
 have own : ∀ i b, Own aI (aA (U ++ s.ob)) i b -> (Own aI (aA U) i b) \/ (aA U i = none /\ Own π (aA s.ob) i b) := fun i b ⟨o, q1, q2⟩ => by
  rw [I5] at q1
  cases hu : aA U i with
  | some o' => rw [hu] at q1; obtain rfl := aB q1; exact .inl ⟨o', hu, q2⟩
  | none => rw [hu] at q1; rw [h1 i hu] at q2; exact .inr ⟨rfl, o, q1, q2⟩
 have fz : eH w (Gz F w π (aA s.ob)) w' (Gz F w' aI (aA (U ++ s.ob))) := fun b ⟨r0, r1, r2⟩ => by
  refine ⟨⟨r0, Nat.lt_of_lt_of_le r1 h6, fun i hi => ?_⟩, h5 b r1 fun j _ _ => r2 j⟩
  rcases own i b hi with q | ⟨_, q⟩
  ·rcases h3 i b q with ⟨j, _, _, q⟩ | q
   ·exact r2 j q
   ·omega
  ·exact r2 i q
 have E : fK w (Gz F w π (aA s.ob)) π (aA s.ob) w' (Gz F w' aI (aA (U ++ s.ob))) aI (aA (U ++ s.ob)) := ⟨fz, fun i o ho => by
  cases hu : aA U i with
  | some o' => exact ⟨o', by rw [I5, hu], h2 i o o' ho hu _⟩
  | none => exact ⟨o, by rw [I5, hu]; exact ho, by rw [h1 i hu]; exact Step.refl o⟩⟩
 have Ue : ∀ i b, aA U i = none -> Own π (aA s.ob) i b -> ∀ j o', aA U j = some o' -> ¬ Own π (aA s.ob) j b := fun i b hu hi j o' hj hj' => by
  have := hm.inj i j b hi hj'
  subst this; rw [hu] at hj; cases hj
 refine hm.go (hm.kept.on hos h6 fun b hb => h5 b (hm.kept.lt hb) fun j _ _ hj => (hm.new j b hj).1 hb) E (fun i o ho => ?_) (fun i j b hi hj => ?_) (fun i b hi => ?_)
 ·rw [I5] at ho
  cases hu : aA U i with
  | some o' => rw [hu] at ho; obtain rfl := aB ho; exact h7 E i o' hu
  | none => rw [hu] at ho; exact (hm.obj i o ho).jR E (h1 i hu) fun b hb => h5 b (hm.new i b ⟨o, ho, hb⟩).2 (Ue i b hu ⟨o, ho, hb⟩)
 ·rcases own i b hi with q | ⟨q0, q⟩ <;> rcases own j b hj with r | ⟨r0, r⟩
  ·exact h4 i j b q r
  ·rcases h3 i b q with ⟨k, o', k1, k2⟩ | ⟨k1, _⟩
   ·exact absurd k2 (Ue j b r0 r k o' k1)
   ·have := (hm.new j b r).2; omega
  ·rcases h3 j b r with ⟨k, o', k1, k2⟩ | ⟨k1, _⟩
   ·exact absurd k2 (Ue i b q0 q k o' k1)
   ·have := (hm.new i b q).2; omega
  ·exact hm.inj i j b q r
 ·rcases own i b hi with q | ⟨_, q⟩
  ·rcases h3 i b q with ⟨k, _, _, k2⟩ | ⟨k1, k2⟩
   ·exact ⟨(hm.new k b k2).1, Nat.lt_of_lt_of_le (hm.new k b k2).2 h6⟩
   ·exact ⟨fun hb => by have := hm.kept.lt hb; omega, k2⟩
  ·exact ⟨(hm.new i b q).1, Nat.lt_of_lt_of_le (hm.new i b q).2 h6⟩
theorem nU.slice {G G' : Nat -> Prop} {p : Pl} {t : DT} {l : List t.den} (h : nU w G p t l) (hz : eH w G w G') (hg : ∀ g, p.g = some g -> G' g) : (DT.sl t).cell l 0 w G' (p.hdr l.length) := by
 rcases h with ⟨h1, rfl⟩ | ⟨g, cur, e, h1, h2, h3, h4, h5, h6⟩
 ·simp only [Pl.hdr, h1]
  exact ⟨none, 0, rfl, Nat.le_refl _, by simp [maxLen], fun _ => rfl, trivial, fun h => by simp at h⟩
 ·simp only [Pl.hdr, h1]
  refine ⟨_, _, rfl, h3, h4, (fun h => by cases h), trivial, fun _ => ⟨g, _, rfl, hg g h1, fun i hi c hc => ?_⟩⟩
  obtain ⟨u, a1, a2, a3⟩ := h6 i hi c hc
  exact ⟨u, by rw [oZ h2]; exact a1, a2, DT.gG hz a3⟩
theorem OR.ae' {G G' : Nat -> Prop} {O : aZ} {id : Nat} {t : DT} {ls : List (List t.den)} (h : OR w G π O id (.aX t ls none)) (hz : eH w G w G') (hg : ∀ b, mM (π id) (.aX t ls none) b -> G' b) : (DT.sl (.sl t)).cell ls 0 w G' ((π id).hdr ls.length) := by
 rcases h with ⟨h1, rfl, _⟩ | ⟨g, cur, e, h1, h2, h3, h4, h5, h6⟩
 ·simp only [Pl.hdr, h1]
  exact ⟨none, 0, rfl, Nat.le_refl _, by simp [maxLen], fun _ => rfl, trivial, fun h => by simp at h⟩
 ·simp only [Pl.hdr, h1]
  refine ⟨_, _, rfl, h3, h4, (fun h => by cases h), trivial, fun _ => ⟨g, _, rfl, hg g (.of h1 rfl), fun i hi c hc => ?_⟩⟩
  obtain rfl : c = 0 := by simp only [DT.size] at hc; omega
  obtain ⟨u, a1, a2, a3, _⟩ := h6.cell i hi
  obtain ⟨b1, b2⟩ := a3 fun r h => by cases h
  refine ⟨u, by rw [oZ h2]; simp only [DT.size, Nat.mul_one, Nat.add_zero]; exact a1, a2, ?_⟩
  rw [b1]
  exact b2.slice hz fun b hb => hg b ⟨rfl, .inr ⟨i, hi, (fun r h => by cases h), hb⟩⟩
theorem aF.atP (h : aF c F π s a w) {d : Nat} {t : DT} {ls : List (List t.den)} (hd : aA s.ob d = some (.aX t ls none)) : aF c F π ⟨s.sl, (d, .bV (.sl t) ls) :: s.ob⟩ a w :=
 h.kill hd rfl fun G' hg hz => ⟨rfl, (h.obj d _ hd).ae' hz hg⟩
theorem nU.pl {G : Nat -> Prop} {p : Pl} {t : DT} {l : List t.den} : nU w G p.iK.pl t l ↔ nU w G p t l := Iff.rfl
theorem adC {α : Type} (l : List α) (i j : Nat) (x d : α) (hi : i < l.length) : (l.set i x).getD j d = if j = i then x else l.getD j d := by
 by_cases h : j = i
 ·subst h; rw [if_pos rfl]; exact Ns l j x d hi
 ·rw [if_neg h]; exact getD_set_ne l i j x d (fun e => h e.symm)
theorem aF.take (hm : aF c F π s a w) {id d i : Nat} {t : DT} {ls : List (List t.den)} (ho : aA s.ob id = some (.aX t ls none)) (hd : aA s.ob d = none) (hi : i < ls.length) :
  ∃ g u, (π id).g = some g /\ w.cell? ⟨g, (π id).q + i, none⟩ = some u /\ aF c F (aQ π d ((π id).sub i).pl) ⟨s.sl, [(d, .row t (ls.getD i [])), (id, .aX t ls (some (i, d)))] ++ s.ob⟩ a w /\ u = (aQ π d ((π id).sub i).pl d).hdr (ls.getD i []).length := by
 have hne : d ≠ id := fun e => by subst e; rw [hd] at ho; cases ho
 have hor := hm.obj id _ ho
 rcases hor with ⟨_, e, _⟩ | ⟨g, cur, e, h1, h2, h3, h4, h5, h6⟩
 ·rw [e] at hi; simp at hi
 have nO : ∀ k r, (none : Option (Nat × Nat)) ≠ some (k, r) := fun k r h => by cases h
 obtain ⟨u, a1, a2, a3, _⟩ := h6.cell i hi
 obtain ⟨a3, a4⟩ := a3 (nO i)
 have GH : aQ π d ((π id).sub i).pl d = ((π id).sub i).pl := by simp [aQ]
 have xW : aQ π d ((π id).sub i).pl id = π id := by simp only [aQ, if_neg (Ne.symm hne)]
 refine ⟨g, u, h1, by rw [oZ h2]; exact a1, ?_, by rw [GH]; exact a3⟩
 have QD : aA [(d, TO.row t (ls.getD i [])), (id, .aX t ls (some (i, d)))] d = some (.row t (ls.getD i [])) := by simp [aA]
 have EC : aA [(d, TO.row t (ls.getD i [])), (id, .aX t ls (some (i, d)))] id = some (.aX t ls (some (i, d))) := by simp [aA, Ne.symm hne]
 have lk : ∀ {j o}, aA [(d, TO.row t (ls.getD i [])), (id, .aX t ls (some (i, d)))] j = some o -> (j = d /\ o = .row t (ls.getD i [])) \/ (j = id /\ j ≠ d /\ o = .aX t ls (some (i, d))) := fun {j o} h => by
  simp only [aA] at h
  by_cases e1 : j = d
  ·rw [if_pos e1] at h; exact .inl ⟨e1, (aB h).symm⟩
  ·rw [if_neg e1] at h
   by_cases e2 : j = id
   ·rw [if_pos e2] at h; exact .inr ⟨e2, e1, (aB h).symm⟩
   ·rw [if_neg e2] at h; cases h
 -- whose blocks
 have own : ∀ {j b}, Own (aQ π d ((π id).sub i).pl) (aA [(d, TO.row t (ls.getD i [])), (id, .aX t ls (some (i, d)))]) j b -> (j = d /\ ((π id).sub i).g = some b) \/ (j = id /\ ((π id).g = some b \/ ∃ k, k < ls.length /\ k ≠ i /\ ((π id).sub k).g = some b)) := fun {j b} ⟨o, q1, q2⟩ => by
  rcases lk q1 with ⟨rfl, rfl⟩ | ⟨rfl, _, rfl⟩
  ·rw [GH] at q2; exact .inl ⟨rfl, q2.g rfl⟩
  ·rw [xW] at q2
   rcases q2.2 with q | ⟨k, k1, k2, k3⟩
   ·exact .inr ⟨rfl, .inl q⟩
   ·exact .inr ⟨rfl, .inr ⟨k, k1, fun e => k2 d (by rw [e]), k3⟩⟩
 have old : ∀ {j b}, Own (aQ π d ((π id).sub i).pl) (aA [(d, TO.row t (ls.getD i [])), (id, .aX t ls (some (i, d)))]) j b -> Own π (aA s.ob) id b := fun {j b} h => by
  rcases own h with ⟨_, q⟩ | ⟨_, q | ⟨k, k1, _, k3⟩⟩
  ·exact ⟨_, ho, rfl, .inr ⟨i, hi, nO i, q⟩⟩
  ·exact ⟨_, ho, rfl, .inl q⟩
  ·exact ⟨_, ho, rfl, .inr ⟨k, k1, nO k, k3⟩⟩
 refine hm.Gh (fun j hj => ?_) (fun j o o' h7 h8 G' => ?_) (fun j b h => .inl ⟨id, _, EC, old h⟩) (fun j k b hj hk => ?_) (fun b _ _ => rfl) (Nat.le_refl _) ⟨rfl, rfl, rfl⟩ (fun E j o hj => ?_)
 ·have : j ≠ d := fun e => by subst e; rw [QD] at hj; cases hj
  simp only [aQ, if_neg this]
 ·rcases lk h8 with ⟨rfl, rfl⟩ | ⟨rfl, _, rfl⟩
  ·rw [hd] at h7; cases h7
  ·rw [ho] at h7; obtain rfl := aB h7
   rw [xW]; exact ⟨rfl, rfl, rfl, rfl, rfl⟩
 ·have key : ∀ {b}, ((π id).sub i).g = some b -> ((π id).g = some b \/ ∃ k, k < ls.length /\ k ≠ i /\ ((π id).sub k).g = some b) -> False := fun {b} q1 q2 => by
   obtain ⟨r1, r2⟩ := h6.apart i b hi (nO i) q1
   rcases q2 with q2 | ⟨k, k1, k2, k3⟩
   ·rw [h1] at q2; exact r1 (aB q2).symm
   ·exact k2 (r2 k k1 (nO k) k3)
  rcases own hj with ⟨q1, q2⟩ | ⟨q1, q2⟩ <;> rcases own hk with ⟨r1, r2⟩ | ⟨r1, r2⟩
  ·rw [q1, r1]
  ·exact (key q2 r2).elim
  ·exact (key r2 q2).elim
  ·rw [q1, r1]
 ·rcases lk hj with ⟨rfl, rfl⟩ | ⟨rfl, _, rfl⟩
  ·refine UU.2 ?_
   rw [GH]; exact a4.move E.fz fun _ _ => rfl
  ·simp only [OR]
   rw [xW]
   refine .inr ⟨g, cur, e, h1, h2, h3, h4, h5, ⟨fun k hk => ?_, fun k r hr => ?_, fun k b hk hn hg => ?_⟩⟩
   ·obtain ⟨z, b1, b2, b3, _⟩ := h6.cell k hk
    obtain ⟨b3, b4⟩ := b3 (nO k)
    refine ⟨z, b1, b2, fun _ => ⟨b3, b4.move E.fz fun _ _ => rfl⟩, fun r hr => ?_⟩
    simp only [aO, bF] at hr
    obtain ⟨rfl, rfl⟩ := hr
    refine ⟨_, by rw [I5, QD], fun t' l' he => ?_⟩
    injection he with e1 e2
    subst e1
    obtain rfl := eq_of_heq e2
    exact ⟨rfl, by rw [GH]; exact b3⟩
   ·simp only [aO, bF] at hr
    obtain ⟨rfl, rfl⟩ := hr
    exact ⟨hi, _, by rw [I5, QD], rfl⟩
   ·obtain ⟨r1, r2⟩ := h6.apart k b hk (nO k) hg
    exact ⟨r1, fun j hj' _ hgj => r2 j hj' (nO j) hgj⟩
theorem aF.settle (hm : aF c F π s a w) {id j r : Nat} {t : DT} {ls : List (List t.den)} {l : List t.den} (ho : aA s.ob id = some (.aX t ls (some (j, r)))) (hr : aA s.ob r = some (.row t l)) :
  aF c F (aQ π id ⟨(π id).g, (π id).q, (π id).cap, fun k => if k = j then (π r).iK else (π id).sub k⟩) ⟨s.sl, [(id, .aX t (ls.set j l) none), (r, .dead)] ++ s.ob⟩ a w := by
 have hne : r ≠ id := fun e => by subst e; rw [hr] at ho; cases ho
 have hor := hm.obj id _ ho
 rcases hor with ⟨_, _, e⟩ | ⟨g, cur, e, h1, h2, h3, h4, h5, h6⟩
 ·cases e
 obtain ⟨hj, _⟩ := h6.LW j r rfl
 have nO : ∀ k, k ≠ j -> ∀ r', (some (j, r) : Option (Nat × Nat)) ≠ some (k, r') := fun k hk r' h => by
  simp only [aO, bF] at h; exact hk h.1.symm
 have nil : ∀ k r', (none : Option (Nat × Nat)) ≠ some (k, r') := fun k r h => by cases h
 obtain ⟨u, a1, a2, _, a4⟩ := h6.cell j hj
 obtain ⟨o, a5, a6⟩ := a4 r rfl
 rw [hr] at a5; obtain rfl := aB a5
 obtain ⟨_, a6⟩ := a6 t l rfl
 have hrow : nU w (Gz F w π (aA s.ob)) (π r) t l := UU.1 (hm.obj r _ hr)
 generalize P5 : aQ π id ⟨(π id).g, (π id).q, (π id).cap, fun k => if k = j then (π r).iK else (π id).sub k⟩ = aI
 have xW : aI id = ⟨(π id).g, (π id).q, (π id).cap, fun k => if k = j then (π r).iK else (π id).sub k⟩ := by rw [<- P5]; simp [aQ]
 have hpo : ∀ k, k ≠ id -> aI k = π k := fun k hk => by rw [<- P5]; simp only [aQ, if_neg hk]
 have EC : aA [(id, TO.aX t (ls.set j l) none), (r, .dead)] id = some (.aX t (ls.set j l) none) := by simp [aA]
 have Qm : aA [(id, TO.aX t (ls.set j l) none), (r, .dead)] r = some .dead := by simp [aA, hne]
 have lk : ∀ {k o}, aA [(id, TO.aX t (ls.set j l) none), (r, .dead)] k = some o -> (id = k /\ o = .aX t (ls.set j l) none) \/ (r = k /\ o = .dead) := fun {k o} h => by
  simp only [aA] at h
  by_cases e1 : k = id
  ·rw [if_pos e1] at h; exact .inl ⟨e1.symm, (aB h).symm⟩
  ·rw [if_neg e1] at h
   by_cases e2 : k = r
   ·rw [if_pos e2] at h; exact .inr ⟨e2.symm, (aB h).symm⟩
   ·rw [if_neg e2] at h; cases h
 have own : ∀ {k b}, Own aI (aA [(id, TO.aX t (ls.set j l) none), (r, .dead)]) k b -> k = id /\ (Own π (aA s.ob) r b \/ Own π (aA s.ob) id b) := fun {k b} ⟨o, q1, q2⟩ => by
  rcases lk q1 with ⟨rfl, rfl⟩ | ⟨rfl, rfl⟩
  ·refine ⟨rfl, ?_⟩
   rw [xW] at q2
   rcases q2.2 with q | ⟨i, i1, _, i3⟩
   ·exact .inr ⟨_, ho, rfl, .inl q⟩
   ·simp only [] at i3
    by_cases e1 : i = j
    ·rw [if_pos e1] at i3; exact .inl ⟨_, hr, rfl, .inl i3⟩
    ·rw [if_neg e1] at i3; exact .inr ⟨_, ho, rfl, .inr ⟨i, by simpa using i1, nO i e1, i3⟩⟩
  ·exact (q2.not rfl).elim
 refine hm.Gh (fun k hk => ?_) (fun k o o' h7 h8 G' => ?_) (fun k b h => ?_) (fun k k' b hk hk' => ?_) (fun b _ _ => rfl) (Nat.le_refl _) ⟨rfl, rfl, rfl⟩ (fun E k o hk => ?_)
 ·refine hpo k fun e => ?_
  subst e; rw [EC] at hk; cases hk
 ·rcases lk h8 with ⟨rfl, rfl⟩ | ⟨rfl, rfl⟩
  ·rw [ho] at h7; obtain rfl := aB h7
   rw [xW]; exact ⟨rfl, rfl, rfl, rfl, by simp⟩
  ·cases o <;> trivial
 ·rcases (own h).2 with q | q
  ·exact .inl ⟨r, _, Qm, q⟩
  ·exact .inl ⟨id, _, EC, q⟩
 ·rw [(own hk).1, (own hk').1]
 ·rcases lk hk with ⟨rfl, rfl⟩ | ⟨rfl, rfl⟩
  ·simp only [OR]
   rw [xW]
   refine .inr ⟨g, cur, e, h1, h2, by simpa using h3, h4, h5, ⟨fun i hi => ?_, (fun i r' h => by cases h), fun i b hi _ hg => ?_⟩⟩
   ·simp only [List.length_set] at hi
    simp only []
    rw [adC ls j i l [] hj]
    by_cases e1 : i = j
    ·subst e1
     simp only [if_true]
     exact ⟨u, a1, a2, fun _ => ⟨a6, hrow.move E.fz fun _ _ => rfl⟩, fun r' h => by cases h⟩
    ·simp only [if_neg e1]
     obtain ⟨z, b1, b2, b3, _⟩ := h6.cell i hi
     obtain ⟨b3, b4⟩ := b3 (nO i e1)
     exact ⟨z, b1, b2, fun _ => ⟨b3, b4.move E.fz fun _ _ => rfl⟩, fun r' h => by cases h⟩
   ·simp only [List.length_set] at hi ⊢
    simp only [] at hg ⊢
    have old : ∀ {k}, k < ls.length -> k ≠ j -> ((π id).sub k).g = some b -> Own π (aA s.ob) id b := fun {k} k1 k2 k3 => ⟨_, ho, rfl, .inr ⟨k, k1, nO k k2, k3⟩⟩
    have BX : (π r).g = some b -> Own π (aA s.ob) r b := fun h => ⟨_, hr, rfl, .inl h⟩
    by_cases e1 : i = j
    ·subst e1
     rw [if_pos rfl] at hg
     refine ⟨fun e2 => hne (hm.inj r id b (BX hg) ⟨_, ho, rfl, .inl (by rw [e2]; exact h1)⟩), fun k hk1 _ hk2 => ?_⟩
     by_cases e3 : k = i
     ·exact e3
     ·rw [if_neg e3] at hk2
      exact absurd (hm.inj r id b (BX hg) (old hk1 e3 hk2)) hne
    ·rw [if_neg e1] at hg
     obtain ⟨r1, r2⟩ := h6.apart i b hi (nO i e1) hg
     refine ⟨r1, fun k hk1 _ hk2 => ?_⟩
     by_cases e3 : k = j
     ·rw [if_pos e3] at hk2
      exact absurd (hm.inj r id b (BX hk2) (old hi e1 hg)) hne
     ·rw [if_neg e3] at hk2
      exact r2 k hk1 (nO k e3) hk2
  ·trivial
theorem aF.putRow (hm : aF c F π s a w) {id r i : Nat} {t : DT} {ls : List (List t.den)} {out : Option (Nat × Nat)} {l : List t.den} (ho : aA s.ob id = some (.aX t ls out)) (hr : aA s.ob r = some (.row t l)) (hi : i < ls.length) (hout : ∀ k r', out = some (k, r') -> k = i) :
  ∃ g cur e, (π id).g = some g /\ jH w g cur e /\ (π id).q + i + 1 <= cur.size /\
   aF c F (aQ π id ⟨(π id).g, (π id).q, (π id).cap, fun k => if k = i then (π r).iK else (π id).sub k⟩) ⟨s.sl, [(id, .aX t (ls.set i l) none), (r, .dead)] ++ s.ob⟩ a (w.setRow g (iK cur ((π id).q + i) [(π r).hdr l.length])) := by
 have hne : r ≠ id := fun e => by subst e; rw [hr] at ho; cases ho
 have hor := hm.obj id _ ho
 rcases hor with ⟨_, e, _⟩ | ⟨g, cur, e, h1, h2, h3, h4, h5, h6⟩
 ·rw [e] at hi; simp at hi
 have hfit : (π id).q + i + 1 <= cur.size := by omega
 refine ⟨g, cur, e, h1, h2, hfit, ?_⟩
 have nO : ∀ k, k ≠ i -> ∀ r', out ≠ some (k, r') := fun k hk r' h => hk (hout k r' h)
 have hrow : nU w (Gz F w π (aA s.ob)) (π r) t l := UU.1 (hm.obj r _ hr)
 have Oo : (π id).q + i + [(π r).hdr l.length].length <= cur.size := by simpa using hfit
 have hblk := EL h2 (uD cur ((π id).q + i) [(π r).hdr l.length] Oo)
 have hoth : ∀ b, b ≠ g -> (w.setRow g (iK cur ((π id).q + i) [(π r).hdr l.length])).heap[b]? = w.heap[b]? := fun b hb => setRow_other w g b _ hb
 have hsize : (w.setRow g (iK cur ((π id).q + i) [(π r).hdr l.length])).heap.size = w.heap.size := by simp
 generalize hW : w.setRow g (iK cur ((π id).q + i) [(π r).hdr l.length]) = w' at hblk hoth hsize ⊢
 have hos : w'.os = w.os /\ w'.tape = w.tape /\ w'.output = w.output := by rw [<- hW]; exact ⟨rfl, rfl, rfl⟩
 generalize P5 : aQ π id ⟨(π id).g, (π id).q, (π id).cap, fun k => if k = i then (π r).iK else (π id).sub k⟩ = aI
 have xW : aI id = ⟨(π id).g, (π id).q, (π id).cap, fun k => if k = i then (π r).iK else (π id).sub k⟩ := by rw [<- P5]; simp [aQ]
 have hpo : ∀ k, k ≠ id -> aI k = π k := fun k hk => by rw [<- P5]; simp only [aQ, if_neg hk]
 have EC : aA [(id, TO.aX t (ls.set i l) none), (r, .dead)] id = some (.aX t (ls.set i l) none) := by simp [aA]
 have Qm : aA [(id, TO.aX t (ls.set i l) none), (r, .dead)] r = some .dead := by simp [aA, hne]
 have lk : ∀ {k o}, aA [(id, TO.aX t (ls.set i l) none), (r, .dead)] k = some o -> (id = k /\ o = .aX t (ls.set i l) none) \/ (r = k /\ o = .dead) := fun {k o} h => by
  simp only [aA] at h
  by_cases e1 : k = id
  ·rw [if_pos e1] at h; exact .inl ⟨e1.symm, (aB h).symm⟩
  ·rw [if_neg e1] at h
   by_cases e2 : k = r
   ·rw [if_pos e2] at h; exact .inr ⟨e2.symm, (aB h).symm⟩
   ·rw [if_neg e2] at h; cases h
 have DV : Own π (aA s.ob) id g := ⟨_, ho, rfl, .inl h1⟩
 have BX : ∀ {b}, (π r).g = some b -> Own π (aA s.ob) r b := fun h => ⟨_, hr, rfl, .inl h⟩
 have old : ∀ {b k}, k < ls.length -> k ≠ i -> ((π id).sub k).g = some b -> Own π (aA s.ob) id b := fun {b k} k1 k2 k3 => ⟨_, ho, rfl, .inr ⟨k, k1, nO k k2, k3⟩⟩
 have own : ∀ {k b}, Own aI (aA [(id, TO.aX t (ls.set i l) none), (r, .dead)]) k b -> k = id /\ (Own π (aA s.ob) r b \/ Own π (aA s.ob) id b) := fun {k b} ⟨o, q1, q2⟩ => by
  rcases lk q1 with ⟨rfl, rfl⟩ | ⟨rfl, rfl⟩
  ·refine ⟨rfl, ?_⟩
   rw [xW] at q2
   rcases q2.2 with q | ⟨i', i1, _, i3⟩
   ·exact .inr ⟨_, ho, rfl, .inl q⟩
   ·simp only [] at i3
    by_cases e1 : i' = i
    ·rw [if_pos e1] at i3; exact .inl (BX i3)
    ·rw [if_neg e1] at i3; exact .inr (old (by simpa using i1) e1 i3)
  ·exact (q2.not rfl).elim
 refine hm.Gh (fun k hk => ?_) (fun k o o' h7 h8 G' => ?_) (fun k b h => ?_) (fun k k' b hk hk' => ?_) (fun b _ hb => hoth b fun e => hb id _ EC (e ▸ DV)) (by omega) hos (fun E k o hk => ?_)
 ·refine hpo k fun e => ?_
  subst e; rw [EC] at hk; cases hk
 ·rcases lk h8 with ⟨rfl, rfl⟩ | ⟨rfl, rfl⟩
  ·rw [ho] at h7; obtain rfl := aB h7
   rw [xW]; exact ⟨rfl, rfl, rfl, rfl, by simp⟩
  ·cases o <;> trivial
 ·rcases (own h).2 with q | q
  ·exact .inl ⟨r, _, Qm, q⟩
  ·exact .inl ⟨id, _, EC, q⟩
 ·rw [(own hk).1, (own hk').1]
 ·rcases lk hk with ⟨rfl, rfl⟩ | ⟨rfl, rfl⟩
  ·simp only [OR]
   rw [xW]
   refine .inr ⟨g, _, e, h1, hblk, by simpa using h3, h4, by rw [uD _ _ _ Oo]; exact h5, ⟨fun k hk => ?_, (fun i r' h => by cases h), fun k b hk _ hg => ?_⟩⟩
   ·simp only [List.length_set] at hk
    simp only []
    rw [adC ls i k l [] hi, IW _ _ _ _ Oo]
    by_cases e1 : k = i
    ·subst e1
     simp only [if_true]
     refine ⟨(π r).hdr l.length, by simp, Pl.FZ _ _, fun _ => ⟨rfl, ?_⟩, fun r' h => by cases h⟩
     exact nU.move (p := (π r)) hrow E.fz fun b hb => hoth b fun e2 => hne (hm.inj r id b (BX hb) (e2 ▸ DV))
    ·simp only [if_neg e1]
     obtain ⟨z, b1, b2, b3, _⟩ := h6.cell k hk
     obtain ⟨b3, b4⟩ := b3 (nO k e1)
     refine ⟨z, ?_, b2, fun _ => ⟨b3, b4.move E.fz fun b hb => hoth b (h6.apart k b hk (nO k e1) hb).1⟩, fun r' h => by cases h⟩
     rw [if_neg (by simp only [List.length_singleton]; omega)]; exact b1
   ·simp only [List.length_set] at hk ⊢
    simp only [] at hg ⊢
    by_cases e1 : k = i
    ·subst e1
     rw [if_pos rfl] at hg
     refine ⟨fun e2 => hne (hm.inj r id b (BX hg) (e2 ▸ DV)), fun k' hk1 _ hk2 => ?_⟩
     by_cases e3 : k' = k
     ·exact e3
     ·rw [if_neg e3] at hk2
      exact absurd (hm.inj r id b (BX hg) (old hk1 e3 hk2)) hne
    ·rw [if_neg e1] at hg
     obtain ⟨r1, r2⟩ := h6.apart k b hk (nO k e1) hg
     refine ⟨r1, fun k' hk1 _ hk2 => ?_⟩
     by_cases e3 : k' = i
     ·rw [if_pos e3] at hk2
      exact absurd (hm.inj r id b (BX hk2) (old hk e1 hg)) hne
     ·rw [if_neg e3] at hk2
      exact r2 k' hk1 (nO k' e3) hk2
  ·trivial
theorem aF.asm (hm : aF c F π s a w) {w' : World} {d : Nat} {K : List Nat} {p : Pl} {t : DT} {ls : List (List t.den)} (hd : aA s.ob d = none) (hK : ∀ k ∈ K, ∃ o, aA s.ob k = some o)
  (hown : ∀ b, mM p (.aX t ls none) b -> (∃ k ∈ K, Own π (aA s.ob) k b) \/ (w.heap.size <= b /\ b < w'.heap.size))
  (hblk : ∀ b, b < w.heap.size -> (∀ k ∈ K, ¬ Own π (aA s.ob) k b) -> w'.heap[b]? = w.heap[b]?) (h6 : w.heap.size <= w'.heap.size) (hos : w'.os = w.os /\ w'.tape = w.tape /\ w'.output = w.output)
  (hor : ∀ G', eH w (Gz F w π (aA s.ob)) w' G' -> (p.g = none /\ ls = []) \/ ∃ g cur e, p.g = some g /\ jH w' g cur e /\ ls.length <= p.cap /\ p.cap <= maxLen /\ p.q + p.cap <= cur.size /\
   (∀ i, i < ls.length -> cur[p.q + i]? = some ((p.sub i).pl.hdr (ls.getD i []).length) /\ nU w' G' (p.sub i).pl t (ls.getD i [])) /\
   ∀ i b, i < ls.length -> (p.sub i).g = some b -> b ≠ g /\ ∀ j, j < ls.length -> (p.sub j).g = some b -> j = i) :
  aF c F (aQ π d p) ⟨s.sl, ((d, .aX t ls none) :: K.map fun k => (k, .dead)) ++ s.ob⟩ a w' := by
 have lkK : ∀ {K : List Nat} {i : Nat} {o : TO}, aA (K.map fun k => (k, TO.dead)) i = some o -> i ∈ K /\ o = .dead := fun {K} => by
  induction K with
  | nil => intro i o h; cases h
  | cons k K ih =>
   intro i o h
   simp only [List.map_cons, aA] at h
   by_cases e : i = k
   ·rw [if_pos e] at h; exact ⟨by simp [e], (aB h).symm⟩
   ·rw [if_neg e] at h; obtain ⟨q1, q2⟩ := ih h; exact ⟨by simp [q1], q2⟩
 have lkM : ∀ {K : List Nat} {i : Nat}, i ∈ K -> aA (K.map fun k => (k, TO.dead)) i = some .dead := fun {K} => by
  induction K with
  | nil => intro i h; cases h
  | cons k K ih =>
   intro i h
   simp only [List.map_cons, aA]
   by_cases e : i = k
   ·rw [if_pos e]
   ·rw [if_neg e]; exact ih (by simpa [e] using h)
 have hdK : ∀ k ∈ K, k ≠ d := fun k hk e => by
  obtain ⟨o, ho⟩ := hK k hk
  rw [e, hd] at ho; cases ho
 have QD : aA ((d, .aX t ls none) :: K.map fun k => (k, TO.dead)) d = some (.aX t ls none) := by simp [aA]
 have lk : ∀ {i : Nat} {o : TO}, aA ((d, .aX t ls none) :: K.map fun k => (k, TO.dead)) i = some o -> (d = i /\ o = .aX t ls none) \/ (i ∈ K /\ o = .dead) := fun {i o} h => by
  simp only [aA] at h
  by_cases e : i = d
  ·rw [if_pos e] at h; exact .inl ⟨e.symm, (aB h).symm⟩
  ·rw [if_neg e] at h; exact .inr (lkK h)
 have GH : aQ π d p d = p := by simp [aQ]
 have own : ∀ {i b}, Own (aQ π d p) (aA ((d, .aX t ls none) :: K.map fun k => (k, TO.dead))) i b -> d = i /\ mM p (.aX t ls none) b := fun {i b} ⟨o, q1, q2⟩ => by
  rcases lk q1 with ⟨rfl, rfl⟩ | ⟨_, rfl⟩
  ·rw [GH] at q2; exact ⟨rfl, q2⟩
  ·exact (q2.not rfl).elim
 have lkU : ∀ k ∈ K, aA ((d, .aX t ls none) :: K.map fun k => (k, TO.dead)) k = some .dead := fun k hk => by
  simp only [aA, if_neg (hdK k hk)]; exact lkM hk
 refine hm.Gh (fun i hi => ?_) (fun i o o' h7 h8 G' => ?_) (fun i b h => ?_) (fun i j b hi hj => (own hi).1.symm.trans (own hj).1) (fun b hb hno => hblk b hb fun k hk => hno k _ (lkU k hk)) h6 hos (fun E i o hi => ?_)
 ·have : i ≠ d := fun e => by subst e; rw [QD] at hi; cases hi
  simp only [aQ, if_neg this]
 ·rcases lk h8 with ⟨rfl, rfl⟩ | ⟨_, rfl⟩
  ·rw [hd] at h7; cases h7
  ·cases o <;> trivial
 ·rcases hown b (own h).2 with ⟨k, hk, q⟩ | q
  ·exact .inl ⟨k, _, lkU k hk, q⟩
  ·exact .inr q
 ·rcases lk hi with ⟨rfl, rfl⟩ | ⟨_, rfl⟩
  ·simp only [OR]
   rw [GH]
   rcases hor _ E.fz with ⟨q1, q2⟩ | ⟨g, cur, e, q1, q2, q3, q4, q5, q6, q7⟩
   ·exact .inl ⟨q1, q2, trivial⟩
   ·refine .inr ⟨g, cur, e, q1, q2, q3, q4, q5, ⟨fun k hk => ?_, (fun k r h => by cases h), fun k b hk _ hg => ?_⟩⟩
    ·obtain ⟨r1, r2⟩ := q6 k hk
     exact ⟨_, r1, Pl.FZ _ _, fun _ => ⟨rfl, r2⟩, fun r h => by cases h⟩
    ·obtain ⟨r1, r2⟩ := q7 k b hk hg
     exact ⟨r1, fun j hj _ hgj => r2 j hj hgj⟩
  ·trivial
theorem adN (p : Pl) (n : Nat) : (p.hdr n).cells = #[p.hdr n] := by unfold Pl.hdr; split <;> rfl
end
def wL (L : aZ) (id : Nat) : Option (List (Nat × TO)) :=
 match L id with
 | some (.aX t ls out) => match out with
  | none => some []
  | some (j, r) => match L r with
   | some (.row t' l) => if h : t' = t then some [(id, .aX t (ls.set j (h ▸ l)) none), (r, .dead)] else none
   | _ => none
 | _ => none
def Eu (U : List (Nat × TO)) (L : aZ) : aZ := fun i => match aA U i with
 | some o => some o
 | none => L i
def iM (TI : Nat -> TD) (TY : Nat -> DT) (fz : Nat -> Bool) (ev : Operand -> TV) (L : aZ) (dst : Option Nat) : Op -> Option Eff
 | .makeSlice T l c => match dst, ev l, ev c, TY T with
  | some d, .dv (.int _) zl, .dv (.int _) zc, .sl (.sl t) => if fz d then (match L d with
   | some _ => none
   | none => if (TI T).kd == 2 && (TI T).elem == 1 && (TI T).ez.cells.toList.all Ad then some ⟨.row d, [(d, .aX t (List.replicate (Int.toNat zl) []) none)], rX zl zc (TI T).eb⟩ else none) else none
  | _, _, _, _ => none
 | .indexAddr T x ix => match ev x, ev ix with
  | .row id, .dv (.int _) z => match L id with
   | some (.aX t ls _) => if (TI T).kd == 2 && (TI T).elem == 1 then some ⟨.ptr id z.toNat [], [], decide (0 <= z /\ z < (ls.length : Int))⟩ else none
   | _ => none
  | _, _ => none
 | .load T p => match dst, ev p with
  | some d, .ptr id i [] => match L id, L d with
   | some (.aX t ls none), none => if (TI T).kd == 2 then some ⟨.row d, [(d, .row t (ls.getD i [])), (id, .aX t ls (some (i, d)))], true⟩ else none
   | _, _ => none
  | _, _ => none
 | .store T p y => match dst, ev p, ev y with
  | none, .ptr id i [], .row r => match L id, L r with
   | some (.aX t ls none), some (.row t' l) => if h : t' = t then (if (TI T).kd == 2 && (TI T).size == 1 then some ⟨.any, [(id, .aX t (ls.set i (h ▸ l)) none), (r, .dead)], true⟩ else none) else none
   | _, _ => none
  | _, _, _ => none
 | .buildSlice T n parts => match dst, TY T, parts.toList with
  | some d, .sl (.sl t), [(0, x)] => if fz d && n == 1 then (match L d, ev x with
   | none, .row r => match L r with
    | some (.row t' l) => if h : t' = t then (if (TI T).kd == 2 && (TI T).elem == 1 then some ⟨.row d, [(d, .aX t [h ▸ l] none), (r, .dead)], true⟩ else none) else none
    | _ => none
   | _, _ => none) else none
  | _, _, _ => none
 | .call cl => match cl.callee, dst, cl.args.toList, cl.argTypes.toList with
  | .builtin .append, some d, [x, y], [T, T'] => if T = T' then (match ev y with
   | .row m => match L m, L d with
    | some (.aX t [l] none), none => (match ev x with
     | .nl => if (TI T).kd == 2 && (TI T).elem == 1 then some ⟨.row d, [(d, .aX t [l] none), (m, .dead)], small 1 (TI T).eb⟩ else none
     | .row id => (match L id with
      | some (.aX t' ls none) => if h : t' = t then (if (TI T).kd == 2 && (TI T).elem == 1 && id != m then some ⟨.row d, [(d, .aX t ((h ▸ ls) ++ [l]) none), (id, .dead), (m, .dead)], small (ls.length + 1) (TI T).eb⟩ else none) else none
      | _ => none)
     | _ => none)
    | _, _ => none
   | _ => none) else none
  | .builtin .len, _, [x], [T] => match ev x with
   | .row id => match L id with
    | some (.aX t ls _) => if (TI T).kd == 2 then some ⟨.dv (.int .i64) (ls.length : Int), [], true⟩ else none
    | _ => none
   | _ => none
  | _, _, _, _ => none
 | _ => none
def TV.pM (L : aZ) : TV -> List Nat
 | .row id => match L id with
  | some (.aX _ _ (some _)) => [id]
  | _ => []
 | .ptr id _ [] => match L id with
  | some (.aX _ _ (some _)) => [id]
  | _ => []
 | _ => []
def zU (TI : Nat -> TD) (ev : Operand -> TV) (L : aZ) (dst : Option Nat) : Op -> Option Eff
 | .store T p y => match dst, ev p, ev y with
  | none, .ptr id i [], .row r => match L id, L r with
   | some (.aX t ls (some (j, r0))), some (.row t' l) => if h : t' = t then (match L r0 with
    | some .dead => if (TI T).kd == 2 && (TI T).size == 1 then some ⟨.any, [(id, .aX t (ls.set i (h ▸ l)) none), (r, .dead)], decide (j = i)⟩ else none
    | _ => none) else none
   | _, _ => none
  | _, _, _ => none
 | _ => none
def awF : Op -> Bool
 | .indexAddr _ _ _ => true
 | .call c => match c.callee with
  | .builtin .len => true
  | _ => false
 | _ => false
def CO (TI : Nat -> TD) (TY : Nat -> DT) (fz : Nat -> Bool) (ev : Operand -> TV) (L : aZ) (dst : Option Nat) (op : Op) : Option Eff :=
 match zU TI ev L dst op with
 | some e => some e
 | none => if awF op then iM TI TY fz ev L dst op else match op.operands.toList.flatMap fun x => (ev x).pM L with
  | [] => iM TI TY fz ev L dst op
  | [id] => match wL L id with
   | some U => match iM TI TY fz ev (Eu U L) dst op with
    | some e => some ⟨e.y, e.u ++ U, e.b⟩
    | none => none
   | none => none
  | _ => none
end
section
section
variable {P : Program} {TI : Nat -> TD} {TY : Nat -> DT} {fz : Nat -> Bool} {c : Cx} {F : Nat -> Prop} {s : TS} {π : Nat -> Pl} {a : Act} {w : World}
theorem ajK (hm : aF c F π s a w) {id : Nat} {U : List (Nat × TO)} (h : wL (aA s.ob) id = some U) : ∃ aI, aF c F aI ⟨s.sl, U ++ s.ob⟩ a w := by
 unfold wL at h
 split at h
 ·rename_i t ls out ho
  split at h
  ·obtain rfl := aB h; exact ⟨π, hm⟩
  ·rename_i j r
   split at h
   ·rename_i t' l hr
    split at h
    ·rename_i e
     subst e
     obtain rfl := aB h
     exact ⟨_, hm.settle ho hr⟩
    ·cases h
   ·cases h
 ·cases h
theorem aBD (U O : List (Nat × TO)) : aA (U ++ O) = Eu U (aA O) := funext fun i => I5 U O i
theorem Ey (hm : aF c F π s a w) {i b : Nat} (h : Own π (aA s.ob) i b) : b < w.heap.size := (hm.new i b h).2
theorem azA (hT : bW P TI) {T : Nat} {x y : Operand} {dst : Option Nat} {ty : TypeId} {pos : String} {after : Array Edge} {g : Option (Nat × Bool)} {e : Eff} (h : iM TI TY fz s.ev (aA s.ob) dst (.makeSlice T x y) = some e) (hb : e.b = true) (hm : aF c F π s a w) : iP P c F s π a w ⟨dst, .makeSlice T x y, ty, pos, after, g⟩ e := by
 simp only [iM] at h
 split at h
 ·rename_i d k1 zl k2 zc t hx hy PT
  split at h
  ·split at h
   ·cases h
   ·rename_i hd
    split at h
    ·rename_i hk
     simp only [aT, beq_iff_eq] at hk
     obtain ⟨⟨q1, q2⟩, q3⟩ := hk
     obtain rfl := aB h
     have hx' : a.eval x = .int k1 zl := hm.xP hx
     have hy' : a.eval y = .int k2 zc := hm.xP hy
     obtain ⟨h0, h1, h2, h3⟩ := Ef (show rX zl zc (TI T).eb = true from hb)
     obtain ⟨e', ie, b1, b2, b3, b4, b5, b6, b7, b8⟩ := (hT T).sl q1
     have hrun := run_make (P := P) w T e' ie (TI T).ez b1 b2 b5 k1 k2 zl zc h0 h1 (by rw [b4]; rw [Int.mul_comm]; exact Int.le_trans h2 (by decide)) (by exact Int.le_trans h3 (by decide))
     have hms : (madeCells (TI T).ez.cells (Int.toNat zc * (TI T).elem)).size = Int.toNat zc * (TI T).elem := size_madeCells _ _
     have avT : (madeCells (TI T).ez.cells (Int.toNat zc * (TI T).elem)).size = Int.toNat zc := by rw [hms, q2, Nat.mul_one]
     have hle : Int.toNat zl <= Int.toNat zc := Int.toNat_le_toNat h1
     have hz : ∀ i (h : i < (TI T).ez.cells.size), (TI T).ez.cells[i] = .slice none 0 0 := fun i hi => by
      have := List.all_eq_true.1 q3 ((TI T).ez.cells[i]) (by simp)
      unfold Ad at this
      split at this
      ·assumption
      ·cases this
     have hget : ∀ i, i < Int.toNat zc -> (madeCells (TI T).ez.cells (Int.toNat zc * (TI T).elem))[i]? = some (.slice none 0 0) := fun i hi => by
      have h1 : 0 < (TI T).ez.cells.size := by rw [b6, q2]; decide
      simp only [madeCells, Array.getElem?_map, q2, Nat.mul_one]
      rw [Array.getElem?_range, if_pos hi]
      have hlt : i % (TI T).ez.cells.size < (TI T).ez.cells.size := Nat.mod_lt _ h1
      simp [hlt, hz]
     have hB : Below w.heap.size w (w.alloc (.cells (madeCells (TI T).ez.cells (Int.toNat zc * (TI T).elem)) e')) := (Below.refl _ _).alloc (Nat.le_refl _) _
     have hlt : w.heap.size < (w.alloc (.cells (madeCells (TI T).ez.cells (Int.toNat zc * (TI T).elem)) e')).heap.size := (Array.getElem?_eq_some_iff.1 (vW w _)).1
     have hR := hm.asm (w' := w.alloc (.cells (madeCells (TI T).ez.cells (Int.toNat zc * (TI T).elem)) e')) (d := d) (K := []) (p := ⟨some w.heap.size, 0, Int.toNat zc, iD⟩) (t := t) (ls := List.replicate (Int.toNat zl) []) hd (fun k hk => by cases hk)
      (fun b hb => by
       rcases hb.2 with q | ⟨i, _, _, q⟩
       ·obtain rfl := aB q; exact .inr ⟨Nat.le_refl _, hlt⟩
       ·cases q) (fun b hb _ => hB.block b hb) hB.size ⟨rfl, rfl, rfl⟩
      (fun G' hz' => .inr ⟨w.heap.size, _, e', rfl, .of (vW w _), by rw [List.length_replicate]; exact hle, by simp only [maxLen]; omega, by rw [avT]; simp, fun i hi => by
       simp only [List.length_replicate] at hi
       rw [ZX, Nat.zero_add]
       exact ⟨hget i (by omega), .inl ⟨rfl, rfl⟩⟩, fun i b hi hg => by cases hg⟩)
     refine ⟨.slice (some ⟨w.heap.size, 0, none⟩) (Int.toNat zl) (Int.toNat zc), _, _, .inl (dZ (e := Instr.makeSlice T (a.eval x) (a.eval y)) rfl ?_), hR, ?_⟩
     ·rw [hx', hy', hrun, b3]
     ·simp [VR, aA, aQ, Pl.hdr]
    ·cases h
  ·cases h
 ·cases h
theorem ay9 (hT : bW P TI) {T : Nat} {x y : Operand} {dst : Option Nat} {ty : TypeId} {pos : String} {after : Array Edge} {g : Option (Nat × Bool)} {e : Eff} (h : iM TI TY fz s.ev (aA s.ob) dst (.indexAddr T x y) = some e) (hb : e.b = true) (hm : aF c F π s a w) : iP P c F s π a w ⟨dst, .indexAddr T x y, ty, pos, after, g⟩ e := by
 simp only [iM] at h
 split at h
 ·rename_i id k z hx hy
  split at h
  ·rename_i t ls out ho
   split at h
   ·rename_i hk
    simp only [aT, beq_iff_eq] at hk
    obtain rfl := aB h
    simp only [fE] at hb
    have hv := hm.ev x
    rw [hx] at hv
    simp only [VR, ho] at hv
    have hy' : a.eval y = .int k z := hm.xP hy
    rcases hm.obj id _ ho with ⟨_, h2, _⟩ | ⟨g0, cur, e0, h1, h2, h3, h4, h5, h6⟩
    ·subst h2
     have q1 : (0 : Int) <= z := hb.1
     have q2 : (0 : Int) > z := hb.2
     omega
    ·unfold Pl.hdr at hv
     rw [h1] at hv
     refine ⟨_, w, π, .inl (dZ (e := Instr.indexAt T (a.eval x) (a.eval y)) rfl (by rw [hv, hy']; exact L9 hT hk.1 hb.1 hb.2)), hm, ?_⟩
     simp only [VR, List.nil_append, ho]
     refine fun _ => ⟨z.toNat, g0, rfl, ?_, h1, by rw [hk.2, Nat.mul_one]⟩
     have q1 : (0 : Int) <= z := hb.1
     have q2 : (ls.length : Int) > z := hb.2
     show Int.toNat z < ls.length
     omega
   ·cases h
  ·cases h
 ·cases h
theorem ay' (hT : bW P TI) {T : Nat} {x : Operand} {dst : Option Nat} {ty : TypeId} {pos : String} {after : Array Edge} {g : Option (Nat × Bool)} {e : Eff} (h : iM TI TY fz s.ev (aA s.ob) dst (.load T x) = some e) (hb : e.b = true) (hm : aF c F π s a w) : iP P c F s π a w ⟨dst, .load T x, ty, pos, after, g⟩ e := by
 simp only [iM] at h
 split at h
 ·rename_i d id i hx
  split at h
  ·rename_i t ls ho hd
   split at h
   ·rename_i hk
    simp only [beq_iff_eq] at hk
    obtain rfl := aB h
    have hv := hm.ev x
    rw [hx] at hv
    simp only [VR, ho] at hv
    obtain ⟨k, g0, h1, h2, h3, h4⟩ := hv rfl
    have h1 : i = k := aB h1
    subst h1
    obtain ⟨g1, u, r1, r2, r3, r4⟩ := hm.take ho hd (show i < ls.length from h2)
    rw [h3] at r1; obtain rfl := aB r1
    refine ⟨u, w, _, .inl (dZ (e := Instr.loadAt T (a.eval x)) rfl (by rw [h4]; exact Uz hT (.inr hk) r2)), r3, ?_⟩
    simp only [VR, List.cons_append, aA, if_true]
    exact r4
   ·cases h
  ·cases h
 ·cases h
theorem ae9 (hT : bW P TI) {T : Nat} {x y : Operand} {ty : TypeId} {pos : String} {after : Array Edge} {g : Option (Nat × Bool)} {id i r : Nat} {t : DT} {ls : List (List t.den)} {out : Option (Nat × Nat)} {l : List t.den} (hx : s.ev x = .ptr id i []) (hy : s.ev y = .row r) (ho : aA s.ob id = some (.aX t ls out)) (hr : aA s.ob r = some (.row t l)) (hk : (TI T).kd = 2) (hs : (TI T).size = 1) (hout : ∀ k r', out = some (k, r') -> k = i) (hm : aF c F π s a w) :
  iP P c F s π a w ⟨none, .store T x y, ty, pos, after, g⟩ ⟨.any, [(id, .aX t (ls.set i l) none), (r, .dead)], true⟩ := by
 have hv := hm.ev x
 rw [hx] at hv
 simp only [VR, ho] at hv
 obtain ⟨k, g0, h1, h2, h3, h4⟩ := hv rfl
 have h1 : i = k := aB h1
 subst h1
 obtain ⟨g1, cur, e0, r1, r2, r3, r4⟩ := hm.putRow ho hr (show i < ls.length from h2) hout
 rw [h3] at r1; obtain rfl := aB r1
 have hw := hm.ev y
 rw [hy] at hw
 simp only [VR, hr] at hw
 have hc : (a.eval y).cells = #[(π r).hdr l.length] := by rw [hw]; exact adN _ _
 refine ⟨undef, _, _, .inr ⟨?_, rfl⟩, r4, trivial⟩
 have hrun := run_store (P := P) hT (T := T) (v := a.eval y) (by rw [hk]; decide) (by rw [hc, hs]; rfl) (fun u hu => by
  rw [hc] at hu
  have : u = (π r).hdr l.length := by simpa using hu
  rw [this]; exact Pl.FZ _ _) r2 (k := (π id).q + i) (by rw [hc]; exact r3)
 rw [<- h4] at hrun
 rw [hc] at hrun
 simp [execOp, hrun]
theorem azB (hT : bW P TI) {T : Nat} {x y : Operand} {dst : Option Nat} {ty : TypeId} {pos : String} {after : Array Edge} {g : Option (Nat × Bool)} {e : Eff} (h : iM TI TY fz s.ev (aA s.ob) dst (.store T x y) = some e) (hb : e.b = true) (hm : aF c F π s a w) : iP P c F s π a w ⟨dst, .store T x y, ty, pos, after, g⟩ e := by
 simp only [iM] at h
 split at h
 ·rename_i id i r hx hy
  split at h
  ·rename_i t ls t' l ho hr
   split at h
   ·rename_i e1
    subst e1
    split at h
    ·rename_i hk
     simp only [aT, beq_iff_eq] at hk
     obtain rfl := aB h
     exact ae9 hT hx hy ho hr hk.1 hk.2 (fun k r' h => by cases h) hm
    ·cases h
   ·cases h
  ·cases h
 ·cases h
theorem aDH (hT : bW P TI) {o : Oper} {e : Eff} (h : zU TI s.ev (aA s.ob) o.dst o.op = some e) (hb : e.b = true) (hm : aF c F π s a w) : iP P c F s π a w o e := by
 obtain ⟨dst, op, ty, pos, after, g⟩ := o
 simp only at h
 cases op with
 | store T x y =>
  simp only [zU] at h
  split at h
  ·rename_i id i r hx hy
   split at h
   ·rename_i t ls j r0 t' l ho hr
    split at h
    ·rename_i e1
     subst e1
     split at h
     ·rename_i hr0
      split at h
      ·rename_i hk
       simp only [aT, beq_iff_eq] at hk
       obtain rfl := aB h
       have hb : j = i := of_decide_eq_true hb
       obtain ⟨v, w', aI, q1, q2, q3⟩ := ae9 (ty := ty) (pos := pos) (after := after) (g := g) hT hx hy ho hr hk.1 hk.2 (fun k r' h => by
        simp only [aO, bF] at h; rw [<- h.1]; exact hb) hm
       exact ⟨v, w', aI, q1, q2, q3⟩
      ·cases h
     ·cases h
    ·cases h
   ·cases h
  ·cases h
 | _ => simp [zU] at h
theorem ay7 (hT : bW P TI) {T n : Nat} {parts : Array (Nat × Operand)} {dst : Option Nat} {ty : TypeId} {pos : String} {after : Array Edge} {g : Option (Nat × Bool)} {e : Eff} (h : iM TI TY fz s.ev (aA s.ob) dst (.buildSlice T n parts) = some e) (hb : e.b = true) (hm : aF c F π s a w) : iP P c F s π a w ⟨dst, .buildSlice T n parts, ty, pos, after, g⟩ e := by
 simp only [iM] at h
 split at h
 ·rename_i d t x PT hparts
  split at h
  ·rename_i hfn
   simp only [aT, beq_iff_eq] at hfn
   obtain ⟨_, rfl⟩ := hfn
   split at h
   ·rename_i r hd hx
    split at h
    ·rename_i t' l hr
     split at h
     ·rename_i e1
      subst e1
      split at h
      ·rename_i hk
       simp only [aT, beq_iff_eq] at hk
       obtain ⟨k1, k2⟩ := hk
       obtain rfl := aB h
       have hv := hm.ev x
       rw [hx] at hv
       simp only [VR, hr] at hv
       have zA : (a.eval x).cells = #[(π r).hdr l.length] := by rw [hv]; exact adN _ _
       obtain ⟨e', ie, b1, b2, b3, b4, b5, b6, b7, b8⟩ := (hT T).sl k1
       have hp : (parts.map fun (i, x) => (i, a.eval x)).toList = (List.range 1).zip [a.eval x] := by
        rw [Array.toList_map, hparts]; rfl
       obtain ⟨cur, c1, c2, c3⟩ := run_buildSlice (P := P) (w := w) (us := [a.eval x]) (n := 1) b1 b2 b5 (by rw [b6, b3]) (by omega) (fun u hu => by
        rw [List.mem_singleton.1 hu, zA, b3, k2]; rfl) rfl (by rw [b3, k2]; decide) hp
       have hcell : cur[0]? = some ((π r).hdr l.length) := by
        have := c3 0 (a.eval x) rfl 0 (by rw [b3, k2]; decide)
        rw [zA] at this
        simpa using this
       have hsz : cur.size = 1 := by rw [c2, b3, k2]
       have hrow : nU w (Gz F w π (aA s.ob)) (π r) t' l := UU.1 (hm.obj r _ hr)
       have hB : Below w.heap.size w (w.alloc (.cells cur e')) := (Below.refl _ _).alloc (Nat.le_refl _) _
       have hlt : w.heap.size < (w.alloc (.cells cur e')).heap.size := (Array.getElem?_eq_some_iff.1 (vW w _)).1
       have hor : ∀ {b}, (π r).g = some b -> Own π (aA s.ob) r b := fun h => ⟨_, hr, rfl, .inl h⟩
       have hR := hm.asm (w' := w.alloc (.cells cur e')) (d := d) (K := [r]) (p := ⟨some w.heap.size, 0, 1, fun _ => (π r).iK⟩) (t := t') (ls := [l]) hd (fun k hk => by rw [List.mem_singleton.1 hk]; exact ⟨_, hr⟩)
        (fun b hb => by
         rcases hb.2 with q | ⟨i, _, _, q⟩
         ·obtain rfl := aB q; exact .inr ⟨Nat.le_refl _, hlt⟩
         ·exact .inl ⟨r, by simp, hor q⟩) (fun b hb _ => hB.block b hb) hB.size ⟨rfl, rfl, rfl⟩
        (fun G' hz' => .inr ⟨w.heap.size, cur, e', rfl, .of (vW w _), by simp, by simp [maxLen], by simp [hsz], fun i hi => by
         obtain rfl : i = 0 := by simpa using hi
         exact ⟨hcell, nU.move (p := π r) hrow hz' fun b hb => hB.block b (Ey hm (hor hb))⟩, fun i b hi hg => ⟨fun e2 => by
          have := Ey hm (hor hg); omega, fun j hj _ => by
          simp only [List.length_singleton] at hi hj; omega⟩⟩)
       have hx0 : execOp a.eval ⟨some d, .buildSlice T 1 parts, ty, pos, after, g⟩ = (do pure (.value (<- Instr.buildSlice T 1 (parts.map fun (i, x) => (i, a.eval x))))) := by simp only [execOp]
       have lT : (execOp a.eval ⟨some d, .buildSlice T 1 parts, ty, pos, after, g⟩).run P w = .ok (.value (.slice (some ⟨w.heap.size, 0, none⟩) 1 1)) (w.alloc (.cells cur e')) := by
        rw [hx0]; simp only [Sem.run_bind, c1, Result.andThen_ok, Sem.run_pure]
       refine ⟨_, _, _, .inl lT, hR, ?_⟩
       simp [VR, aA, aQ, Pl.hdr]
      ·cases h
     ·cases h
    ·cases h
   ·cases h
  ·cases h
 ·cases h
end
end
section
section
variable {P : Program} {TI : Nat -> TD} {TY : Nat -> DT} {fz : Nat -> Bool} {c : Cx} {F : Nat -> Prop} {s : TS} {π : Nat -> Pl} {a : Act} {w : World}
theorem ae8 (hm : aF c F π s a w) {w' : World} (hB : Below w.heap.size w w') {cur : Array Value} {e : TypeId} {cap d : Nat} {t : DT} {ls : List (List t.den)} {K : List Nat} {sb : Nat -> FK} (hnew : w'.heap[w.heap.size]? = some (.cells cur e (0, 0))) (hd : aA s.ob d = none) (hK : ∀ k ∈ K, ∃ o, aA s.ob k = some o)
  (hcell : ∀ i, i < ls.length -> cur[i]? = some ((sb i).pl.hdr (ls.getD i []).length)) (hrow : ∀ i, i < ls.length -> nU w (Gz F w π (aA s.ob)) (sb i).pl t (ls.getD i [])) (hsub : ∀ i b, i < ls.length -> (sb i).g = some b -> ∃ k ∈ K, Own π (aA s.ob) k b)
  (hinj : ∀ i j b, i < ls.length -> j < ls.length -> (sb i).g = some b -> (sb j).g = some b -> j = i) (hcap : ls.length <= cap) (hmax : cap <= maxLen) (hsz : cap <= cur.size) :
  aF c F (aQ π d ⟨some w.heap.size, 0, cap, sb⟩) ⟨s.sl, ((d, .aX t ls none) :: K.map fun k => (k, .dead)) ++ s.ob⟩ a w' := by
 have hlt : w.heap.size < w'.heap.size := (Array.getElem?_eq_some_iff.1 hnew).1
 refine hm.asm hd hK (fun b hb => ?_) (fun b hb _ => hB.block b hb) hB.size ⟨hB.os, hB.tape, hB.output⟩ (fun G' hz' => .inr ⟨w.heap.size, cur, e, rfl, .of hnew, hcap, hmax, by simpa using hsz, fun i hi => ?_, fun i b hi hg => ⟨fun e2 => ?_, fun j hj hgj => hinj i j b hi hj hg hgj⟩⟩)
 ·rcases hb.2 with q | ⟨i, hi, _, q⟩
  ·obtain rfl := aB q; exact .inr ⟨Nat.le_refl _, hlt⟩
  ·exact .inl (hsub i b hi q)
 ·refine ⟨by rw [Nat.zero_add]; exact hcell i hi, (hrow i hi).move hz' fun b hb => ?_⟩
  obtain ⟨k, _, hk⟩ := hsub i b hi hb
  exact hB.block b (Ey hm hk)
 ·obtain ⟨k, _, hk⟩ := hsub i b hi hg
  have := Ey hm hk; omega
structure Ir (π : Nat -> Pl) (w : World) (G : Nat -> Prop) (O : aZ) (id : Nat) (t : DT) (ls : List (List t.den)) (v : Value) (cs : List Value) : Prop where
 len : cs.length = ls.length
 get : ∀ i, i < ls.length -> cs[i]? = some (((π id).sub i).pl.hdr (ls.getD i []).length)
 one : ∀ u ∈ cs, u.oneCell' = true
 row : ∀ i, i < ls.length -> nU w G ((π id).sub i).pl t (ls.getD i [])
 own : ∀ i b, i < ls.length -> ((π id).sub i).g = some b -> Own π O id b
 inj : ∀ i j b, i < ls.length -> j < ls.length -> ((π id).sub i).g = some b -> ((π id).sub j).g = some b -> j = i
 val : ((π id).g = none /\ ls = [] /\ v = .slice none 0 0) \/ ∃ g cur e, (π id).g = some g /\ jH w g cur e /\ ls.length <= (π id).cap /\ (π id).cap <= maxLen /\ (π id).q + (π id).cap <= cur.size /\ v = .slice (some ⟨g, (π id).q, none⟩) ls.length (π id).cap /\ (∀ i, i < ls.length -> cur[(π id).q + i]? = cs[i]?) /\ ∀ i b, i < ls.length -> ((π id).sub i).g = some b -> b ≠ g
theorem aF.Sj (hm : aF c F π s a w) {id : Nat} {t : DT} {ls : List (List t.den)} (ho : aA s.ob id = some (.aX t ls none)) {v : Value} (hv : v = (π id).hdr ls.length) :
  ∃ cs, Ir π w (Gz F w π (aA s.ob)) (aA s.ob) id t ls v cs := by
 have nil : ∀ k r', (none : Option (Nat × Nat)) ≠ some (k, r') := fun k r h => by cases h
 refine ⟨(List.range ls.length).map fun i => ((π id).sub i).pl.hdr (ls.getD i []).length, ?_⟩
 have hget : ∀ i, i < ls.length -> ((List.range ls.length).map fun i => ((π id).sub i).pl.hdr (ls.getD i []).length)[i]? = some (((π id).sub i).pl.hdr (ls.getD i []).length) := fun i hi => by
  rw [List.getElem?_map, List.getElem?_range hi]; rfl
 have hone : ∀ u ∈ (List.range ls.length).map fun i => ((π id).sub i).pl.hdr (ls.getD i []).length, u.oneCell' = true := fun u hu => by
  obtain ⟨i, _, rfl⟩ := List.mem_map.1 hu
  exact Pl.FZ _ _
 rcases hm.obj id _ ho with ⟨h1, h2, _⟩ | ⟨g, cur, e, h1, h2, h3, h4, h5, h6⟩
 ·subst h2
  exact ⟨by simp, hget, hone, fun i hi => by simp at hi, fun i b hi => by simp at hi, fun i j b hi => by simp at hi, .inl ⟨h1, rfl, by rw [hv, Pl.hdr, h1]⟩⟩
 ·refine ⟨by simp, hget, hone, fun i hi => ?_, fun i b hi hg => ⟨_, ho, rfl, .inr ⟨i, hi, nil i, hg⟩⟩, fun i j b hi hj h7 h8 => (h6.apart i b hi (nil i) h7).2 j hj (nil j) h8, .inr ⟨g, cur, e, h1, h2, h3, h4, h5, by rw [hv, Pl.hdr, h1], fun i hi => ?_, fun i b hi hg => (h6.apart i b hi (nil i) hg).1⟩⟩
  ·obtain ⟨u, _, _, a3, _⟩ := h6.cell i hi
   exact (a3 (nil i)).2
  ·obtain ⟨u, a1, _, a3, _⟩ := h6.cell i hi
   rw [a1, hget i hi, (a3 (nil i)).1]
theorem Ir.cells {G : Nat -> Prop} {O : aZ} {id : Nat} {t : DT} {ls : List (List t.den)} {v : Value} {cs : List Value} (h : Ir π w G O id t ls v cs) : ∃ p cap, v = .slice p ls.length cap /\ (p = none -> ls = []) /\
  ∀ w' : World, (∀ b o, w.cell? ⟨b, o, none⟩ ≠ none -> w'.cell? ⟨b, o, none⟩ = w.cell? ⟨b, o, none⟩) -> (Builtin.firstCells 1 ls.length v).run P w' = .ok cs.toArray w' := by
 rcases h.val with ⟨_, h2, rfl⟩ | ⟨g, cur, e, h1, h2, h3, h4, h5, rfl, h7, _⟩
 ·subst h2
  have : cs = [] := List.eq_nil_of_length_eq_zero (by rw [h.len]; rfl)
  subst this
  exact ⟨none, 0, rfl, fun _ => rfl, fun w' _ => by simp [Builtin.firstCells]⟩
 ·refine ⟨_, _, rfl, (fun h => by cases h), fun w' hw' => ?_⟩
  refine run_firstCells_some w' 1 ls.length ⟨g, (π id).q, none⟩ ls.length (π id).cap cs (by rw [h.len, Nat.mul_one]) fun j u hu => ?_
  have hj : j < ls.length := by have := (List.getElem?_eq_some_iff.1 hu).1; rw [h.len] at this; exact this
  have hc : w.cell? ⟨g, (π id).q + j, none⟩ = some u := by rw [oZ h2, h7 j hj]; exact hu
  rw [add_lit, hw' g ((π id).q + j) (by rw [hc]; simp), hc]
theorem ay5 (hT : bW P TI) {T ty : Nat} (hk : (TI T).kd = 2) (he : (TI T).elem = 1) {id m d : Nat} {t : DT} {ls : List (List t.den)} {l : List t.den} (hs : small (ls.length + 1) (TI T).eb = true) (hd : aA s.ob d = none) (ho : aA s.ob id = some (.aX t ls none)) (BB : aA s.ob m = some (.aX t [l] none)) (hne : id ≠ m)
  {v vy : Value} (hv : v = (π id).hdr ls.length) (fJ : vy = (π m).hdr 1) (hm : aF c F π s a w) :
  ∃ v' w' aI, (Builtin.append_ #[T, T] ty #[v, vy]).run P w = .ok v' w' /\ aF c F aI ⟨s.sl, [(d, .aX t (ls ++ [l]) none), (id, .dead), (m, .dead)] ++ s.ob⟩ a w' /\ v' = (aI d).hdr (ls.length + 1) := by
 obtain ⟨e, ie, b1, b2, b3, b4, b5, b6, b7, b8⟩ := (hT T).sl hk
 have hsz : ie.size = 1 := b3.trans he
 obtain ⟨s1, s2⟩ := Gq hs
 obtain ⟨cs, hi⟩ := hm.Sj ho hv
 obtain ⟨ds, hj⟩ := hm.Sj BB (v := vy) fJ
 obtain ⟨p, cap, e1, _, f1⟩ := hi.cells (P := P)
 obtain ⟨q, c0, e2, _, f2⟩ := hj.cells (P := P)
 have hds : ds = [((π m).sub 0).pl.hdr l.length] := by
  have h1 := hj.len
  have h2 := hj.get 0 (by simp)
  match ds, h1, h2 with
  | [x], _, h2 => simp only [List.getElem?_cons_zero, aO] at h2; rw [h2]; rfl
 have hKo : ∀ k ∈ [id, m], ∃ o, aA s.ob k = some o := fun k hk => by
  simp only [List.mem_cons, List.not_mem_nil, or_false] at hk
  rcases hk with rfl | rfl
  ·exact ⟨_, ho⟩
  ·exact ⟨_, BB⟩
 let sb : Nat -> FK := fun k => if k < ls.length then (π id).sub k else (π m).sub 0
 have hlen : (ls ++ [l]).length = ls.length + 1 := by simp
 have hgl : ∀ i, i < ls.length -> (ls ++ [l]).getD i [] = ls.getD i [] /\ sb i = (π id).sub i := fun i hi => by
  rw [DR, if_pos hi]; exact ⟨rfl, if_pos hi⟩
 have hgn : (ls ++ [l]).getD ls.length [] = l /\ sb ls.length = (π m).sub 0 := by
  rw [DR, if_neg (Nat.lt_irrefl _), Nat.sub_self]; exact ⟨rfl, if_neg (Nat.lt_irrefl _)⟩
 have hcases : ∀ i, i < (ls ++ [l]).length -> i < ls.length \/ i = ls.length := fun i hi => by rw [hlen] at hi; omega
 have hrow : ∀ i, i < (ls ++ [l]).length -> nU w (Gz F w π (aA s.ob)) (sb i).pl t ((ls ++ [l]).getD i []) := fun i hi' => by
  rcases hcases i hi' with h | rfl
  ·rw [(hgl i h).1, (hgl i h).2]; exact hi.row i h
  ·rw [hgn.1, hgn.2]; exact hj.row 0 (by simp)
 have hsub : ∀ i b, i < (ls ++ [l]).length -> (sb i).g = some b -> ∃ k ∈ [id, m], Own π (aA s.ob) k b := fun i b hi' hg => by
  rcases hcases i hi' with h | rfl
  ·rw [(hgl i h).2] at hg; exact ⟨id, by simp, hi.own i b h hg⟩
  ·rw [hgn.2] at hg; exact ⟨m, by simp, hj.own 0 b (by simp) hg⟩
 have hinj : ∀ i j b, i < (ls ++ [l]).length -> j < (ls ++ [l]).length -> (sb i).g = some b -> (sb j).g = some b -> j = i := fun i j b hi' hj' hg hgj => by
  rcases hcases i hi' with h | rfl <;> rcases hcases j hj' with h' | rfl
  ·rw [(hgl i h).2] at hg; rw [(hgl j h').2] at hgj; exact hi.inj i j b h h' hg hgj
  ·rw [(hgl i h).2] at hg; rw [hgn.2] at hgj
   exact absurd (hm.inj id m b (hi.own i b h hg) (hj.own 0 b (by simp) hgj)) hne
  ·rw [hgn.2] at hg; rw [(hgl j h').2] at hgj
   exact absurd (hm.inj id m b (hi.own j b h' hgj) (hj.own 0 b (by simp) hg)) hne
  ·rfl
 have hcell : ∀ (i : Nat), i < (ls ++ [l]).length -> (cs ++ ds)[i]? = some ((sb i).pl.hdr ((ls ++ [l]).getD i []).length) := fun i hi' => by
  rcases hcases i hi' with h | rfl
  ·rw [List.getElem?_append_left (by rw [hi.len]; exact h), hi.get i h, (hgl i h).1, (hgl i h).2]
  ·rw [List.getElem?_append_right (by rw [hi.len]; exact Nat.le_refl _), hi.len, Nat.sub_self, hds, hgn.1, hgn.2]; rfl
 have grow : cap < ls.length + 1 -> ∃ v' w' aI, (Builtin.append_ #[T, T] ty #[v, vy]).run P w = .ok v' w' /\ aF c F aI ⟨s.sl, [(d, .aX t (ls ++ [l]) none), (id, .dead), (m, .dead)] ++ s.ob⟩ a w' /\ v' = (aI d).hdr (ls.length + 1) := fun hcap => by
  have f1' := f1 w.drew fun _ _ _ => rfl
  have f2' := f2 w.drew fun _ _ _ => rfl
  rw [e1, <- hsz] at f1'
  rw [e2, <- hsz] at f2'
  have hrun := Gl (P := P) (ty := ty) b1 b2 b5 f1' f2' hcap (by simp only [List.length_singleton]; omega) (growslice_fits hcap (by rw [b4]; exact s1))
  have hge := grownCap_ge w (ls.length + 1) cap e
  have hcm : grownCap w (ls.length + 1) cap e <= maxLen := grownCap_le_maxLen w (ls.length + 1) cap e (by simp [maxLen]; omega)
  have PV : (cs.toArray ++ ds.toArray ++ Builtin.zeroCells (TI T).ez.cells (grownCap w (ls.length + 1) cap e - (ls.length + 1))).size = grownCap w (ls.length + 1) cap e := by
   simp only [Array.size_append, List.size_toArray, size_zeroCells, b6, hi.len, hj.len, he, List.length_singleton, Nat.mul_one]
   omega
  rw [e1, e2]
  refine ⟨_, _, _, hrun, ae8 (sb := sb) (K := [id, m]) (cap := grownCap w (ls.length + 1) cap e) hm (w' := w.drew.alloc _) ((Below.refl _ _).drew.alloc (by simp) _) (heap_alloc_new w.drew _) hd hKo (fun i hi' => ?_) hrow hsub hinj (by rw [hlen]; exact hge) hcm (Nat.le_of_eq PV.symm), by simp [aQ, Pl.hdr]⟩
  have hlt : i < (cs ++ ds).length := by rw [List.length_append, hi.len, hj.len, List.length_singleton]; rw [hlen] at hi'; exact hi'
  rw [Array.getElem?_append_left (by simpa using hlt), <- hcell i hi']
  simp
 rcases hi.val with ⟨_, h2, h3⟩ | ⟨g, cur, e', o1, o2, o3, o4, o5, o6, o7, o8⟩
 ·refine grow ?_
  rw [h3] at e1
  simp only [Value.slice.injEq] at e1
  omega
 ·have avE : cap = (π id).cap := by rw [o6] at e1; simp only [Value.slice.injEq] at e1; exact e1.2.2.symm
  by_cases hroom : ls.length + 1 <= (π id).cap
  ·have f2' := f2 w fun _ _ _ => rfl
   rw [e2, <- hsz] at f2'
   have hfit : (π id).q + ls.length * ie.size + ds.length <= cur.size := by rw [hsz, hj.len, Nat.mul_one]; simp only [List.length_singleton]; omega
   have hrun := ai8 (P := P) (ty := ty) b1 b2 (o := (π id).q) (n := ls.length) (cap := (π id).cap) o2 (by rw [hj.len, hsz]; rfl) hj.one f2' hroom hfit
   have hq : (π id).q + ls.length * ie.size = (π id).q + ls.length := by rw [hsz, Nat.mul_one]
   rw [hq] at hrun hfit
   have hheap := EL o2 (uD cur ((π id).q + ls.length) ds hfit)
   have hoth : ∀ b, b ≠ g -> (w.setRow g (iK cur ((π id).q + ls.length) ds)).heap[b]? = w.heap[b]? := fun b hb => setRow_other w g b _ hb
   have hsize : (w.setRow g (iK cur ((π id).q + ls.length) ds)).heap.size = w.heap.size := by simp
   have DV : Own π (aA s.ob) id g := ⟨_, ho, rfl, .inl o1⟩
   refine ⟨_, _, aQ π d ⟨(π id).g, (π id).q, (π id).cap, sb⟩, by rw [o6, e2]; exact hrun, hm.asm (K := [id, m]) hd hKo (fun b hb => ?_) (fun b _ hno => hoth b fun e => hno id (by simp) (e ▸ DV)) (by omega) ⟨rfl, rfl, rfl⟩ (fun G' hz' => .inr ⟨g, _, e', o1, hheap, by rw [hlen]; exact hroom, o4, by rw [uD _ _ _ hfit]; exact o5, fun i hi' => ?_, fun i b hi' hg => ⟨?_, fun j hj' hgj => hinj i j b hi' hj' hg hgj⟩⟩), by simp [aQ, Pl.hdr, o1]⟩
   ·rcases hb.2 with q | ⟨i, hi', _, q⟩
    ·rw [o1] at q; obtain rfl := aB q; exact .inl ⟨id, by simp, DV⟩
    ·exact .inl (hsub i b hi' q)
   ·have hne' : ∀ b, (sb i).g = some b -> b ≠ g := fun b hg => by
     rcases hcases i hi' with h | rfl
     ·rw [(hgl i h).2] at hg; exact o8 i b h hg
     ·rw [hgn.2] at hg
      exact fun e => hne (hm.inj id m b (e ▸ DV) (hj.own 0 b (by simp) hg))
    refine ⟨?_, (hrow i hi').move hz' fun b hb => hoth b (hne' b hb)⟩
    show (iK cur ((π id).q + ls.length) ds)[(π id).q + i]? = _
    rw [<- hcell i hi', IW _ _ _ _ hfit]
    rcases hcases i hi' with h | rfl
    ·rw [if_neg (by omega), List.getElem?_append_left (by rw [hi.len]; exact h)]; exact o7 i h
    ·rw [if_pos (by rw [hj.len]; simp), List.getElem?_append_right (by rw [hi.len]; exact Nat.le_refl _), hi.len]
     congr 1; omega
   ·have hg : (sb i).g = some b := hg
    rcases hcases i hi' with h | rfl
    ·rw [(hgl i h).2] at hg; exact o8 i b h hg
    ·rw [hgn.2] at hg
     exact fun e => hne (hm.inj id m b (e ▸ DV) (hj.own 0 b (by simp) hg))
  ·exact grow (by omega)
theorem ay6 (hT : bW P TI) {T ty : Nat} (hk : (TI T).kd = 2) (he : (TI T).elem = 1) {m d : Nat} {t : DT} {l : List t.den} (hs : small 1 (TI T).eb = true) (hd : aA s.ob d = none) (BB : aA s.ob m = some (.aX t [l] none))
  {vy : Value} (fJ : vy = (π m).hdr 1) (hm : aF c F π s a w) :
  ∃ v' w' aI, (Builtin.append_ #[T, T] ty #[.slice none 0 0, vy]).run P w = .ok v' w' /\ aF c F aI ⟨s.sl, [(d, .aX t [l] none), (m, .dead)] ++ s.ob⟩ a w' /\ v' = (aI d).hdr 1 := by
 obtain ⟨e, ie, b1, b2, b3, b4, b5, b6, b7, b8⟩ := (hT T).sl hk
 have hsz : ie.size = 1 := b3.trans he
 obtain ⟨s1, s2⟩ := Gq hs
 obtain ⟨ds, hj⟩ := hm.Sj BB (v := vy) fJ
 obtain ⟨q, c0, e2, _, f2⟩ := hj.cells (P := P)
 have f1' : (Builtin.firstCells ie.size 0 (.slice none 0 0)).run P w.drew = .ok ([] : List Value).toArray w.drew := by simp [Builtin.firstCells]
 have f2' := f2 w.drew fun _ _ _ => rfl
 rw [e2, <- hsz] at f2'
 have hrun := Gl (P := P) (ty := ty) (n := 0) (cap := 0) b1 b2 b5 f1' f2' (by simp) (by simp only [List.length_singleton]; omega) (growslice_fits (by simp) (by rw [b4]; simpa using s1))
 have hge := grownCap_ge w (0 + [l].length) 0 e
 have hcm : grownCap w (0 + [l].length) 0 e <= maxLen := grownCap_le_maxLen w (0 + [l].length) 0 e (by simp [maxLen])
 have PV : ((([] : List Value).toArray ++ ds.toArray ++ Builtin.zeroCells (TI T).ez.cells (grownCap w (0 + [l].length) 0 e - (0 + [l].length)))).size = grownCap w (0 + [l].length) 0 e := by
  simp only [Array.size_append, List.size_toArray, size_zeroCells, b6, hj.len, he, List.length_singleton, List.length_nil, Nat.mul_one]
  simp only [List.length_singleton] at hge
  omega
 rw [e2]
 refine ⟨_, _, _, hrun, ae8 (sb := (π m).sub) (K := [m]) (cap := grownCap w (0 + [l].length) 0 e) hm (w' := w.drew.alloc _) ((Below.refl _ _).drew.alloc (by simp) _) (heap_alloc_new w.drew _) hd (fun k hk => by rw [List.mem_singleton.1 hk]; exact ⟨_, BB⟩) (fun i hi' => ?_) hj.row (fun i b hi' hg => ⟨m, by simp, hj.own i b hi' hg⟩) hj.inj (by simpa using hge) hcm (by rw [PV]; exact Nat.le_refl _), by simp [aQ, Pl.hdr]⟩
 have hlt : i < ds.length := by rw [hj.len]; exact hi'
 rw [Array.getElem?_append_left (by simpa using hlt), <- hj.get i hi']
 simp
theorem ay8 (hT : bW P TI) {cl : Call} {dst : Option Nat} {ty : TypeId} {pos : String} {after : Array Edge} {g : Option (Nat × Bool)} {e : Eff} (h : iM TI TY fz s.ev (aA s.ob) dst (.call cl) = some e) (hb : e.b = true) (hm : aF c F π s a w) : iP P c F s π a w ⟨dst, .call cl, ty, pos, after, g⟩ e := by
 simp only [iM] at h
 obtain ⟨callee, args, ats⟩ := cl
 simp only at h
 split at h
 ·rename_i d x y T T' hxs hts
  split at h
  ·rename_i heq
   subst heq
   have ha : args = #[x, y] := by apply Array.ext'; simpa using hxs
   have ht : ats = #[T, T] := by apply Array.ext'; simpa using hts
   subst ha; subst ht
   have lT : ∀ {v : Value} {w' : World}, (Builtin.append_ #[T, T] ty #[a.eval x, a.eval y]).run P w = .ok v w' -> (execOp a.eval ⟨some d, .call { callee := .builtin .append, args := #[x, y], argTypes := #[T, T] }, ty, pos, after, g⟩).run P w = .ok (.value v) w' := fun h =>
    dZ (e := Builtin.append_ #[T, T] ty #[a.eval x, a.eval y]) (by rw [BigFrame.execOp_builtin, BigFrame.builtin_append]; simp) h
   have fM := hm.ev x
   have fJ := hm.ev y
   split at h
   ·rename_i m hy
    rw [hy] at fJ
    split at h
    ·rename_i t l BB hd
     simp only [VR, BB] at fJ
     split at h
     ·rename_i hx
      rw [hx] at fM
      split at h
      ·rename_i hk
       simp only [aT, beq_iff_eq] at hk
       obtain rfl := aB h
       obtain ⟨v', w', aI, r1, r2, r3⟩ := ay6 (ty := ty) hT hk.1 hk.2 hb hd BB fJ hm
       have fM : a.eval x = .slice none 0 0 := fM
       rw [<- fM] at r1
       refine ⟨v', w', aI, .inl (lT r1), r2, ?_⟩
       simp only [VR, List.cons_append, aA, if_true]
       exact r3
      ·cases h
     ·rename_i id hx
      rw [hx] at fM
      split at h
      ·rename_i t' ls ho
       split at h
       ·rename_i e1
        subst e1
        split at h
        ·rename_i hk
         simp only [aT, beq_iff_eq, bne_iff_ne, ne_eq] at hk
         obtain rfl := aB h
         simp only [VR, ho] at fM
         obtain ⟨v', w', aI, r1, r2, r3⟩ := ay5 (ty := ty) hT hk.1.1 hk.1.2 hb hd ho BB hk.2 fM fJ hm
         refine ⟨v', w', aI, .inl (lT r1), r2, ?_⟩
         simp only [VR, List.cons_append, aA, if_true, List.length_append, List.length_singleton]
         exact r3
        ·cases h
       ·cases h
      ·cases h
     ·cases h
    ·cases h
   ·cases h
  ·cases h
 ·rename_i x T hxs hts
  have ha : args = #[x] := by apply Array.ext'; simpa using hxs
  have ht : ats = #[T] := by apply Array.ext'; simpa using hts
  subst ha; subst ht
  have fM := hm.ev x
  split at h
  ·rename_i id hx
   rw [hx] at fM
   split at h
   ·rename_i t ls out ho
    split at h
    ·rename_i hk
     simp only [beq_iff_eq] at hk
     obtain rfl := aB h
     simp only [VR, ho] at fM
     obtain ⟨e0, ie, b1, _⟩ := (hT T).sl hk
     obtain ⟨p, cap, e1⟩ : ∃ p cap, a.eval x = .slice p ls.length cap := by
      rcases hm.obj id _ ho with ⟨h1, h2, _⟩ | ⟨g, cur, e, h1, _⟩
      ·subst h2; exact ⟨none, 0, by rw [fM, Pl.hdr, h1]; rfl⟩
      ·exact ⟨_, _, by rw [fM, Pl.hdr, h1]⟩
     exact ⟨_, w, π, .inl (dZ (e := Builtin.len_ #[T] ty #[a.eval x]) (by rw [BigFrame.execOp_builtin, BigFrame.builtin_len]; simp) (by rw [e1]; simp [Builtin.len_, run_underlying b1, goInt])), hm, rfl⟩
    ·cases h
   ·cases h
  ·cases h
 ·cases h
theorem QW (hT : bW P TI) {o : Oper} {e : Eff} (h : iM TI TY fz s.ev (aA s.ob) o.dst o.op = some e) (hb : e.b = true) (hm : aF c F π s a w) : iP P c F s π a w o e := by
 obtain ⟨dst, op, ty, pos, after, g⟩ := o
 simp only at h
 cases op with
 | makeSlice T x y => exact azA hT h hb hm
 | indexAddr T x y => exact ay9 hT h hb hm
 | load T x => exact ay' hT h hb hm
 | store T x y => exact azB hT h hb hm
 | buildSlice T n parts => exact ay7 hT h hb hm
 | call cl => exact ay8 hT h hb hm
 | _ => simp [iM] at h
theorem aFH (hT : bW P TI) {o : Oper} {e : Eff} (h : CO TI TY fz s.ev (aA s.ob) o.dst o.op = some e) (hb : e.b = true) (hm : aF c F π s a w) : iP P c F s π a w o e := by
 unfold CO at h
 split at h
 ·rename_i e' he
  obtain rfl := aB h
  exact aDH hT he hb hm
 ·split at h
  ·exact QW hT h hb hm
  split at h
  ·exact QW hT h hb hm
  ·split at h
   ·rename_i U hU
    split at h
    ·rename_i e' he
     obtain rfl := aB h
     obtain ⟨iE, hm1⟩ := ajK hm hU
     rw [<- aBD] at he
     obtain ⟨v, w', aI, q1, q2, q3⟩ := QW (s := ⟨s.sl, U ++ s.ob⟩) hT he hb hm1
     refine ⟨v, w', aI, q1, ?_, ?_⟩
     ·simp only [List.append_assoc]; exact q2
     ·simp only [List.append_assoc]; exact q3
    ·cases h
   ·cases h
  ·cases h
end
end
section
def KO : TO -> Option TO
 | .row t l => some (.bV t l)
 | .aX t ls none => some (.bV (.sl t) ls)
 | _ => none
def iH (L : aZ) (ids : List Nat) : List (Nat × TO) := ids.filterMap fun id => match L id with
 | some o => (KO o).map fun o' => (id, o')
 | _ => none
theorem ac7 {o o' : TO} (h : KO o = some o') : ((∃ t l, o = .row t l /\ o' = .bV t l) \/ ∃ t ls, o = .aX t ls none /\ o' = .bV (.sl t) ls) /\ o'.live = false := by
 cases o with
 | row t l => obtain rfl := aB h; exact ⟨.inl ⟨t, l, rfl, rfl⟩, rfl⟩
 | aX t ls out => cases out with
  | none => obtain rfl := aB h; exact ⟨.inr ⟨t, ls, rfl, rfl⟩, rfl⟩
  | some p => cases h
 | _ => cases h
def eQ (U : List (Nat × TO)) (L : aZ) : aZ := fun i => match aA U i with
 | some o => some o
 | none => L i
theorem EN (U O : List (Nat × TO)) : aA (U ++ O) = eQ U (aA O) := by
 funext i
 induction U with
 | nil => rfl
 | cons p r ih =>
  obtain ⟨j, o⟩ := p
  simp only [List.cons_append, eQ, aA]
  by_cases h : i = j
  ·rw [if_pos h, if_pos h]
  ·rw [if_neg h, if_neg h]; exact ih
theorem PR {L : aZ} : ∀ {ids : List Nat} {i : Nat} {o : TO}, aA (iH L ids) i = some o -> ∃ o0, L i = some o0 /\ KO o0 = some o
 | [], i, o, h => by cases h
 | id :: r, i, o, h => by
  simp only [iH, List.filterMap_cons] at h
  split at h
  ·exact PR (ids := r) h
  ·rename_i p hp
   split at hp
   ·rename_i o0 hl
    obtain ⟨o1, h1, rfl⟩ := Option.map_eq_some_iff.1 hp
    rw [dI] at h
    by_cases e : i = id
    ·rw [if_pos e] at h; subst e; obtain rfl := aB h; exact ⟨o0, hl, h1⟩
    ·rw [if_neg e] at h; exact PR (ids := r) h
   ·cases hp
theorem aF.KO {c : Cx} {F : Nat -> Prop} {w : World} {π : Nat -> Pl} {s : TS} {a : Act} (h : aF c F π s a w) {d : Nat} {o o' : TO} (hd : aA s.ob d = some o) (hf : Go.Proofs.YtfopcfnggdonkaaGreatDoor.KO o = some o') : aF c F π ⟨s.sl, (d, o') :: s.ob⟩ a w := by
 obtain ⟨⟨t, l, rfl, rfl⟩ | ⟨t, ls, rfl, rfl⟩, _⟩ := ac7 hf
 ·exact h.freeze hd
 ·exact h.atP hd
theorem aF.iH {c : Cx} {F : Nat -> Prop} {s : TS} {π : Nat -> Pl} {a : Act} {w : World} (h : aF c F π s a w) : ∀ ids : List Nat, aF c F π ⟨s.sl, Go.Proofs.YtfopcfnggdonkaaGreatDoor.iH (aA s.ob) ids ++ s.ob⟩ a w
 | [] => h
 | id :: r => by
  have ih := aF.iH h r
  simp only [Go.Proofs.YtfopcfnggdonkaaGreatDoor.iH, List.filterMap_cons]
  split
  ·exact ih
  ·rename_i p hp
   split at hp
   ·rename_i o0 hl
    obtain ⟨o1, hf, rfl⟩ := Option.map_eq_some_iff.1 hp
    have hlk : aA (Go.Proofs.YtfopcfnggdonkaaGreatDoor.iH (aA s.ob) r ++ s.ob) id = match aA (Go.Proofs.YtfopcfnggdonkaaGreatDoor.iH (aA s.ob) r) id with | some o => some o | none => aA s.ob id := by rw [EN]; rfl
    cases hq : aA (Go.Proofs.YtfopcfnggdonkaaGreatDoor.iH (aA s.ob) r) id with
    | none =>
     rw [hq] at hlk
     simp only at hlk
     rw [hl] at hlk
     exact ih.KO hlk hf
    | some o =>
     rw [hq] at hlk
     simp only at hlk
     obtain ⟨o2, h1, h2⟩ := PR hq
     rw [hl] at h1
     obtain rfl := aB h1
     rw [hf] at h2; obtain rfl := aB h2
     refine ih.same rfl ?_
     funext i
     show aA ((id, o1) :: (Go.Proofs.YtfopcfnggdonkaaGreatDoor.iH (aA s.ob) r ++ s.ob)) i = _
     rw [dI]
     by_cases e : i = id
     ·rw [if_pos e, e]; exact hlk.symm
     ·rw [if_neg e]
   ·cases hp
def TV.mV : TV -> List Nat
 | .row id => [id]
 | .gZ id _ _ => [id]
 | _ => []
def needs (ev : Operand -> TV) (L : aZ) : Op -> List Nat
 | .buildSlice _ _ parts => parts.toList.flatMap fun p => (ev p.2).mV
 | .build _ parts => parts.toList.flatMap fun p => (ev p.2).mV
 | .store _ p y => match ev p with
  | .ptr id _ q => match L id, q with
   | some (.aP fs), [j] => if (fs.getD j .any).aeE then (ev y).mV else []
   | _, _ => (ev y).mV
  | _ => []
 | .load _ p => match ev p with
  | .ptr id _ [] => match L id with
   | some (.aP fs) => fs.flatMap TV.mV
   | _ => []
  | _ => []
 | .mapUpdate _ _ k y => (ev k).mV ++ (ev y).mV
 | .insert _ _ k y => (ev k).mV ++ (ev y).mV
 | .slice _ x _ _ _ => match ev x with
  | .row id => match L id with
   | some (.aX _ _ none) => [id]
   | _ => []
  | _ => []
 | _ => []
inductive Md where
 | obj
 | aJ (t : DT)
 | own (t : DT)
structure Env where
 TI : Nat -> TD
 TY : Nat -> DT
 rc : Nat -> Option (List (Option DT))
 fz : Nat -> Bool
 tw : Nat -> Option Nat
 sig : Nat -> List TV -> Option (List Md)
 phi : {α : Type} -> Nat -> List TV -> List (Nat × TO) -> (TV -> List (Nat × TO) -> Option α) -> Option α
 seq : TV -> Option (Bool × ((t : DT) × List t.den))
def chk {α : Type} (b : Bool) (r : Option α) : Option α := cond b r none
def QX (E : Env) (ev : Operand -> TV) (L : aZ) (dst : Option Nat) (T : Nat) (x : Operand) (lo hi mx : Option Operand) : Option Eff :=
 match dst, mx with
 | some d, none => if E.fz d then (match L d, ev x, jD ev lo, jD ev hi with
  | none, .row id, some a, some b => match L id with
   | some (.row t l) => if (E.TI T).kd == 2 && (E.TI T).elem == t.size then some ⟨.row d, [(d, .row t (yV l a b)), (id, .dead)], pF l.length a b⟩ else none
   | _ => none
  | _, _, _, _ => none) else none
 | _, _ => none
def TV.asC (x : TV) (t : DT) : Option (t.den × Bool) :=
 match x with
 | .dv u z => (TV.dv u z).as (fun _ => none) t
 | .nl => TV.nl.as (fun _ => none) t
 | _ => none
def oQ (E : Env) (ev : Operand -> TV) (L : aZ) (dst : Option Nat) : Op -> Option Eff
 | .call c => match c.callee, dst, c.args.toList, c.argTypes.toList with
  | .builtin .append, some d, [x, y], [T, T'] => if E.fz d && decide (T = T') then (match L d with
   | some _ => none
   | none => match ev x with
    | .dv (.jQ t) l => match (ev y).data L with
     | some ⟨t', m⟩ => if h : t' = t then (if (E.TI T).kd == 2 && (E.TI T).elem == t.size then
       some ⟨.row d, [(d, .bV t (l ++ h ▸ m))], small (l.length + m.length) (E.TI T).eb⟩ else none) else none
     | none => none
    | _ => none) else none
  | _, _, _, _ => none
 | .slice T x lo hi mx => QX E ev L dst T x lo hi mx
 | .box T x => match dst with
  | some d => if E.fz d then (match (ev x).as L (E.TY T) with
   | some (y, b) => if (E.TY T).plain then some ⟨.dv (.fp (E.TY T)) (some y), [], b⟩ else none
   | none => none) else none
  | none => none
 | .assign x => match dst.bind E.rc with
  | some [some t] => match TV.asC (ev x) t with
   | some (y, b) => if t.plain then some ⟨.dv t y, [], b⟩ else none
   | none => none
  | _ => none
 | _ => none
def EO (E : Env) (ev : Operand -> TV) (L : aZ) (dst : Option Nat) (op : Op) : Option Eff :=
 match op, dst with
 | .makeSlice T x y, some d => if E.fz d then iM E.TI E.TY E.fz ev L (some d) (.makeSlice T x y) else none
 | .buildSlice T n parts, some d => if E.fz d then iM E.TI E.TY E.fz ev L (some d) (.buildSlice T n parts) else none
 | _, _ => none
def xO (E : Env) (o : Oper) (ev : Operand -> TV) (L : aZ) : Option Eff :=
 match tst E.TI E.TY E.rc ev L o.dst o.op with
 | some e => some e
 | none =>
 match EO E ev L o.dst o.op with
 | some e => some e
 | none =>
 let U0 := iH L (needs ev L o.op)
 let L1 := eQ U0 L
 match oQ E ev L1 o.dst o.op with
 | some e => some ⟨e.y, e.u ++ U0, e.b⟩
 | none => match gU E.TI ev L1 o.op with
  | some (y, b) => some ⟨y, U0, b⟩
  | none => match lL E.TI E.TY ev L1 o.op with
   | some (y, b) => some ⟨y, U0, b⟩
   | none => match iW E.TI E.TY E.rc ev L1 o.dst o.op with
    | some e => some ⟨e.y, e.u ++ U0, e.b⟩
    | none => match jL E.TI ev L1 o.dst o.op with
     | some e => some ⟨e.y, e.u ++ U0, e.b⟩
     | none => match pX E.TI ev L1 o.dst o.op with
      | some e => some ⟨e.y, e.u ++ U0, e.b⟩
      | none => CO E.TI E.TY E.fz ev L o.dst o.op
def TV.ids : TV -> List Nat
 | .row id => [id]
 | .gZ id _ _ => [id]
 | .ptr id _ _ => [id]
 | .view id _ _ _ _ _ _ => [id]
 | .fn _ k n f => (List.range (k + n)).flatMap fun j => (f j).ids
 | .cZ n f => (List.range n).flatMap fun j => (f j).ids
 | .st n f => (List.range n).flatMap fun j => (f j).ids
 | _ => []
def TO.ids : TO -> List Nat
 | .aP fs => fs.flatMap TV.ids
 | .aX _ _ (some p) => [p.2]
 | _ => []
def TV.CS (R : List Nat) (x : TV) : Bool := x.ids.all fun i => R.contains i
def TO.CS (R : List Nat) (x : TO) : Bool := x.ids.all fun i => R.contains i
def TV.oO : TV -> Bool
 | .dv t _ => t.lJ
 | .el _ _ _ => false
 | .fn _ k n f => (List.range (k + n)).all fun j => (f j).oO
 | .cZ n f => (List.range n).all fun j => (f j).oO
 | .st n f => (List.range n).all fun j => (f j).oO
 | _ => true
def TO.oO : TO -> Bool
 | .row t _ => t.lJ
 | .aP fs => fs.all TV.oO
 | .map kt vt _ => kt.lJ && vt.lJ
 | .bV _ _ => false
 | .gK _ _ _ => false
 | .iter _ _ _ _ => false
 | .sit _ => true
 | .aX t _ _ => t.lJ
 | .dead => true
def qV : Nat -> aZ -> List Nat -> List Nat -> List Nat
 | 0, _, _, acc => acc
 | n + 1, L, [], acc => acc
 | n + 1, L, id :: todo, acc => if acc.contains id then qV n L todo acc else match L id with
  | some o => qV n L (todo ++ o.ids) (acc ++ [id])
  | none => qV n L todo acc
def idx : List Nat -> Nat -> Nat
 | [], _ => 0
 | x :: r, i => if i = x then 0 else idx r i + 1
def lY (R : List Nat) (i : Nat) : Nat := 9000 + idx R i
def uB (R : List Nat) (d : Nat) (j : Nat) : Nat := if 9000 <= j /\ j < 9000 + R.length then R.getD (j - 9000) 0 else 1000000 + 10000 * d + j
def TV.aJ (L : aZ) : TV -> Option ((Σ t : DT, List t.den) × Bool)
 | .view id i p k n a b => match L id with
  | some o => match o.part i p with
   | some ⟨.arr m u, l⟩ => if k == u.size && o.live && n == m then some (⟨u, (l.take b).drop a⟩, decide (b <= l.length)) else none
   | _ => none
  | none => none
 | .row id => match L id with
  | some (.aX t ls none) => some (⟨.sl t, ls⟩, true)
  | _ => ((TV.row id).data L).map fun y => (y, true)
 | x => (x.data L).map fun y => (y, true)
def LC (L : aZ) (x : TV) : (t : DT) -> Option (t.den × Bool)
 | .sl u => match x.aJ L with
  | some (⟨v, l⟩, b) => if h : v = u then some (h ▸ l, b) else none
  | none => x.as L (.sl u)
 | t => x.as L t
def pG (L : aZ) : List Md -> List TV -> Option (List TV × Bool)
 | [], [] => some ([], true)
 | m :: ms, x :: xs => match pG L ms xs with
  | some (l, b) => match m with
   | .obj => some (x :: l, b)
   | .aJ t => match LC L x t with
    | some (y, b') => if t.plain then some (.dv t y :: l, b' && b) else none
    | none => none
   | .own t => match x.as L t with
    | some (y, b') => if t.plain then some (.dv t y :: l, b' && b) else none
    | none => none
  | none => none
 | _, _ => none
def qU : List Md -> List TV -> List Nat
 | .own _ :: ms, x :: xs => x.mV ++ qU ms xs
 | _ :: ms, _ :: xs => qU ms xs
 | _, _ => []
def oN : List Md -> List TV -> List Nat
 | .obj :: ms, x :: xs => x.ids ++ oN ms xs
 | _ :: ms, _ :: xs => oN ms xs
 | _, _ => []
def rV (L : aZ) : List Md -> List TV -> List Nat
 | .aJ _ :: ms, x :: xs => (x.ids.filter fun i => match L i with | some o => o.live | none => false) ++ rV L ms xs
 | _ :: ms, _ :: xs => rV L ms xs
 | _, _ => []
def nodupB : List Nat -> Bool
 | [] => true
 | x :: r => !r.contains x && nodupB r
def TO.awD : TO -> Bool
 | .dead => true
 | _ => false
variable {α : Type}
def kZ (L : aZ) : List Nat -> List (Nat × TO)
 | [] => []
 | id :: r => let U := kZ L r
  (wL (eQ U L) id).getD [] ++ U
def rM : List Md -> List TV -> List Nat
 | .obj :: ms, _ :: xs => rM ms xs
 | _ :: ms, x :: xs => x.mV ++ rM ms xs
 | _, _ => []
def DI (E : Env) (d g : Nat) (xs : List TV) (L : aZ) (k : Eff -> Option α) : Option α :=
 match E.sig g xs with
 | some eG =>
  let S0 := kZ L (rM eG xs)
  let U0 := iH (eQ S0 L) (qU eG xs) ++ S0
  let L1 := eQ U0 L
  match pG L1 eG xs with
  | some (as, b) =>
   let R := qV 60 L1 (oN eG xs) []
   let ln := rV L1 eG xs
   if R.all (fun i => match L1 i with | some o => o.live && !o.pK && o.CS R | none => false) && (oN eG xs).all (fun i => R.contains i) && ln.all (fun i => !R.contains i) && nodupB R then
    chk b (E.phi g (as.map (TV.ren (lY R))) (R.map fun i => (lY R i, ((L1 i).getD .dead).ren (lY R))) fun r O' =>
     if nodupB (O'.map fun p => uB R d p.1) && O'.all (fun p => if 9000 <= p.1 /\ p.1 < 9000 + R.length then p.2.live || p.2.awD else (L1 (uB R d p.1)).isNone) && (ln.isEmpty || (r.oO && O'.all fun p => p.2.oO)) then
      k ⟨r.ren (uB R d), nR (uB R d) O' ++ U0, true⟩ else none)
   else none
  | none => none
 | none => none
def ZU (k n : Nat) (f : Nat -> TV) (xs : List TV) : List TV := ((List.range k).map f) ++ xs ++ ((List.range n).map fun j => f (k + j))
def zC {A B : Type} (y : A ⊕ B) (f : A -> Option α) (g : B -> Option α) : Option α :=
 match y with
 | .inl a => f a
 | .inr b => g b
def KU {A B : Type} (y : A ⊕ B) : Option A := match y with
 | .inl a => some a
 | .inr _ => none
def KW (E : Env) (d : Nat) (name : String) (xs : List TV) (L : aZ) (k : Eff -> Option α) : (s : DT) -> s.den -> Option α
 | .dX T t r, y => zC y
   (fun a => if t.agg then none else match (E.TI T).xY.lookup name with
    | some g => DI E d g (.dv t a :: xs) L k
    | none => none)
   (fun b => KW E d name xs L k r b)
 | _, _ => none
def QR (l : List (Int × Int)) (x0 : Option α) (f : Int × Int -> List (Int × Int) -> Option α) : Option α :=
 match l with
 | [] => x0
 | p :: r => f p r
def eff (E : Env) (o : Oper) (ev : Operand -> TV) (L : aZ) (k : Eff -> Option α) : Option α :=
 match xO E o ev L with
 | some e => chk e.b (k e)
 | none => match o.op with
  | .pick c x y => match ev c with
   | .dv .bool t => cond t (k ⟨ev x, [], true⟩) (k ⟨ev y, [], true⟩)
   | _ => none
  | .next x true => match ev x with
   | .row id => match L id with
    | some (.sit l) => QR l (k ⟨.cZ 1 fun i => ([.dv .bool false] : List TV).getD i .any, [], true⟩) fun p r =>
      k ⟨.cZ 3 fun i => ([.dv .bool true, .dv (.int .i64) p.1, .dv (.int .i32) p.2] : List TV).getD i .any, [(id, .sit r)], true⟩
    | _ => none
   | _ => none
  | .call c => match c.callee with
   | .value x => match ev x with
    | .fn g k' n f => DI E (o.dst.getD 0) g (ZU k' n f (c.args.toList.map ev)) L k
    | _ => none
   | .invoke x name => match ev x with
    | .dv u y => KW E (o.dst.getD 0) name (c.args.toList.map ev) L k u y
    | _ => none
   | _ => none
  | _ => none
def TS.app (s : TS) (d : Option Nat) (e : Eff) : TS := ⟨(s.put d e.y).sl, e.u ++ s.ob⟩
def mW (P : Program) (E : Env) : Prop := ∀ (g : Nat) (args : List TV) (Of : List (Nat × TO)) (α : Type) (k : TV -> List (Nat × TO) -> Option α) (res : α), E.phi g args Of k = some res ->
 ∃ r O', k r O' = some res /\ (∀ (β : Type) (k' : TV -> List (Nat × TO) -> Option β), E.phi g args Of k' = k' r O') /\ jM P g args Of fun r' iQ => r' = r /\ iQ = O'
theorem FO {b : Bool} {x : Option α} {r : α} (h : chk b x = some r) : b = true /\ x = some r := by
 cases b with
 | true => exact ⟨rfl, h⟩
 | false => cases h
section
variable {P : Program} {E : Env} {c : Cx} {F : Nat -> Prop} {s : TS} {π : Nat -> Pl} {a : Act} {w : World}
theorem aF.ao1 (hm : aF c F π s a w) {d : Nat} (hd : aA s.ob d = none) (t : DT) (l : List t.den) : aF c F (aQ π d ⟨none, 0, 0, iD⟩) ⟨s.sl, (d, .bV t l) :: s.ob⟩ a w :=
 hm.ED (Below.refl _ _) hd (fun g hg => by cases hg) trivial
theorem aF.moveRow (hm : aF c F π s a w) {d id : Nat} {t : DT} {l : List t.den} (hd : aA s.ob d = none) (hid : aA s.ob id = some (.row t l)) {g : Nat} (o1 : (π id).g = some g) {lo hi q' : Nat} (h1 : lo <= hi) (h2 : hi <= l.length)
  (hq : (π id).cap ≠ lo -> q' = (π id).q + lo * t.size) (hq0 : (π id).cap = lo -> q' = (π id).q) :
  aF c F (aQ π d ⟨some g, q', (π id).cap - lo, iD⟩) ⟨s.sl, (d, .row t ((l.take hi).drop lo)) :: (id, .dead) :: s.ob⟩ a w := by
 have hne : d ≠ id := fun e => by subst e; rw [hd] at hid; cases hid
 have hor := hm.obj id _ hid
 simp only [OR] at hor
 rcases hor with ⟨QJ, _⟩ | ⟨g', cur, e', QJ, o2, o3, o4, o5, o6⟩
 ·rw [o1] at QJ; cases QJ
 rw [o1] at QJ; obtain rfl := aB QJ
 have hown : Own π (aA s.ob) id g := .of o1 hid rfl
 have own : ∀ i b, Own (aQ π d ⟨some g, q', (π id).cap - lo, iD⟩) (aA ((d, .row t ((l.take hi).drop lo)) :: (id, .dead) :: s.ob)) i b -> (i = d /\ b = g) \/ (i ≠ d /\ i ≠ id /\ Own π (aA s.ob) i b) := fun i b ⟨o', r2, r3⟩ => by
  rw [dI, dI] at r2
  by_cases e1 : i = d
  ·subst e1
   rw [if_pos rfl] at r2; obtain rfl := aB r2
   have r1 := r3.g rfl
   simp only [aQ, if_true, aO] at r1
   exact .inl ⟨rfl, r1.symm⟩
  ·rw [if_neg e1] at r2
   simp only [aQ, if_neg e1] at r3
   by_cases e2 : i = id
   ·rw [if_pos e2] at r2; obtain rfl := aB r2; exact (r3.not rfl).elim
   ·rw [if_neg e2] at r2; exact .inr ⟨e1, e2, o', r2, r3⟩
 have E : fK w (Gz F w π (aA s.ob)) π (aA s.ob) w (Gz F w (aQ π d ⟨some g, q', (π id).cap - lo, iD⟩) (aA ((d, .row t ((l.take hi).drop lo)) :: (id, .dead) :: s.ob))) (aQ π d ⟨some g, q', (π id).cap - lo, iD⟩) (aA ((d, .row t ((l.take hi).drop lo)) :: (id, .dead) :: s.ob)) := by
  refine ⟨fun b ⟨r0, r1, r2⟩ => ⟨⟨r0, r1, fun i hi => ?_⟩, rfl⟩, fun i o ho => ?_⟩
  ·rcases own i b hi with ⟨_, rfl⟩ | ⟨_, _, h⟩
   ·exact r2 id hown
   ·exact r2 i h
  ·have e1 : i ≠ d := fun e => by subst e; rw [hd] at ho; cases ho
   by_cases e2 : i = id
   ·exact ⟨.dead, by rw [dI, if_neg e1, dI, if_pos e2], by simp [Step]⟩
   ·exact ⟨o, by rw [dI, if_neg e1, dI, if_neg e2]; exact ho, by simp only [aQ, if_neg e1]; exact Step.refl o⟩
 refine hm.go (hm.kept.on ⟨rfl, rfl, rfl⟩ (Nat.le_refl _) fun b hb => rfl) E (fun i o ho => ?_) (fun i j b hi hj => ?_) (fun i b hi => ?_)
 ·by_cases e1 : i = d
  ·rw [dI, if_pos e1] at ho
   obtain rfl := aB ho
   subst e1
   have hlen : ((l.take hi).drop lo).length = hi - lo := by simp; omega
   refine .inr ⟨g, cur, e', by simp [aQ], o2, by simp only [aQ, if_true, hlen]; omega, by simp only [aQ, if_true]; omega, ?_, fun j hj cc hcc => ?_⟩
   ·simp only [aQ, if_true]
    by_cases hc : (π id).cap = lo
    ·rw [hq0 hc, hc, Nat.sub_self, Nat.zero_mul]
     have : (π id).q <= (π id).q + (π id).cap * t.size := Nat.le_add_right _ _
     omega
    ·rw [hq hc, Nat.add_assoc, <- Nat.add_mul, show lo + ((π id).cap - lo) = (π id).cap by omega]; exact o5
   ·rw [hlen] at hj
    simp only [aQ, if_true]
    have hc : (π id).cap ≠ lo := by omega
    obtain ⟨u, r1, r2, r3⟩ := o6 (lo + j) (by omega) cc hcc
    refine ⟨u, ?_, r2, ?_⟩
    ·rw [hq hc, <- r1]
     congr 1
     rw [Nat.add_mul]; omega
    ·rw [KP l lo hi j t.dflt h2 (by omega)]; exact DT.gG E.fz r3
  ·rw [dI, if_neg e1, dI] at ho
   by_cases e2 : i = id
   ·rw [if_pos e2] at ho; obtain rfl := aB ho; trivial
   ·rw [if_neg e2] at ho
    exact (hm.obj i o ho).jR E (by simp only [aQ, if_neg e1]) fun b hb => rfl
 ·rcases own i b hi with ⟨r1, r2⟩ | ⟨r1, r2, r3⟩ <;> rcases own j b hj with ⟨r4, r5⟩ | ⟨r4, r5, r6⟩
  ·exact r1.trans r4.symm
  ·exact absurd (hm.inj j id g (r2 ▸ r6) hown) r5
  ·exact absurd (hm.inj i id g (r5 ▸ r3) hown) r2
  ·exact hm.inj i j b r3 r6
 ·rcases own i b hi with ⟨_, rfl⟩ | ⟨_, _, r3⟩
  ·exact hm.new id b hown
  ·exact hm.new i b r3
theorem aF.azE (hm : aF c F π s a w) {d id : Nat} {t : DT} (hd : aA s.ob d = none) (hid : aA s.ob id = some (.row t ([] : List t.den))) (o1 : (π id).g = none) :
  aF c F (aQ π d ⟨none, 0, 0, iD⟩) ⟨s.sl, (d, .row t ([] : List t.den)) :: (id, .dead) :: s.ob⟩ a w := by
 have hne : d ≠ id := fun e => by subst e; rw [hd] at hid; cases hid
 have own : ∀ i b, Own (aQ π d ⟨none, 0, 0, iD⟩) (aA ((d, .row t ([] : List t.den)) :: (id, .dead) :: s.ob)) i b -> (i ≠ d /\ i ≠ id /\ Own π (aA s.ob) i b) := fun i b ⟨o', r2, r3⟩ => by
  rw [dI, dI] at r2
  by_cases e1 : i = d
  ·subst e1
   rw [if_pos rfl] at r2; obtain rfl := aB r2
   have r1 := r3.g rfl
   simp only [aQ, if_true] at r1
   cases r1
  ·rw [if_neg e1] at r2
   simp only [aQ, if_neg e1] at r3
   by_cases e2 : i = id
   ·rw [if_pos e2] at r2; obtain rfl := aB r2; exact (r3.not rfl).elim
   ·rw [if_neg e2] at r2; exact ⟨e1, e2, o', r2, r3⟩
 have E : fK w (Gz F w π (aA s.ob)) π (aA s.ob) w (Gz F w (aQ π d ⟨none, 0, 0, iD⟩) (aA ((d, .row t ([] : List t.den)) :: (id, .dead) :: s.ob))) (aQ π d ⟨none, 0, 0, iD⟩) (aA ((d, .row t ([] : List t.den)) :: (id, .dead) :: s.ob)) := by
  refine ⟨fun b ⟨r0, r1, r2⟩ => ⟨⟨r0, r1, fun i hi => r2 i (own i b hi).2.2⟩, rfl⟩, fun i o ho => ?_⟩
  have e1 : i ≠ d := fun e => by subst e; rw [hd] at ho; cases ho
  by_cases e2 : i = id
  ·exact ⟨.dead, by rw [dI, if_neg e1, dI, if_pos e2], by simp [Step]⟩
  ·exact ⟨o, by rw [dI, if_neg e1, dI, if_neg e2]; exact ho, by simp only [aQ, if_neg e1]; exact Step.refl o⟩
 refine hm.go (hm.kept.on ⟨rfl, rfl, rfl⟩ (Nat.le_refl _) fun b hb => rfl) E (fun i o ho => ?_) (fun i j b hi hj => hm.inj i j b (own i b hi).2.2 (own j b hj).2.2) (fun i b hi => hm.new i b (own i b hi).2.2)
 by_cases e1 : i = d
 ·rw [dI, if_pos e1] at ho
  obtain rfl := aB ho
  exact .inl ⟨by simp [aQ, e1], rfl⟩
 ·rw [dI, if_neg e1, dI] at ho
  by_cases e2 : i = id
  ·rw [if_pos e2] at ho; obtain rfl := aB ho; trivial
  ·rw [if_neg e2] at ho
   exact (hm.obj i o ho).jR E (by simp only [aQ, if_neg e1]) fun b hb => rfl
theorem aFL (hT : bW P E.TI) {T : Nat} {x : Operand} {lo hi mx : Option Operand} {dst : Option Nat} {ty : TypeId} {pos : String} {after : Array Edge} {g : Option (Nat × Bool)} {e : Eff} (h : QX E s.ev (aA s.ob) dst T x lo hi mx = some e) (hb : e.b = true) (hm : aF c F π s a w) :
  iP P c F s π a w ⟨dst, .slice T x lo hi mx, ty, pos, after, g⟩ e := by
 unfold QX at h
 split at h
 ·rename_i d
  split at h
  ·split at h
   ·rename_i id ra rb hd hx h1 h2
    split at h
    ·rename_i t l hid
     split at h
     ·rename_i hk
      simp only [aT, beq_iff_eq] at hk
      obtain rfl := aB h
      have hb : pF l.length ra rb = true := hb
      have hv := hm.ev x
      rw [hx] at hv
      simp only [VR, hid] at hv
      have opt : ∀ {o : Option Operand} {r : Option Int}, jD s.ev o = some r -> (o.map a.eval = none /\ r = none) \/ ∃ k z, o.map a.eval = some (.int k z) /\ r = some z := fun h => by
       rcases Qb hm h with ⟨rfl, rfl⟩ | ⟨x, k, z, rfl, rfl, e⟩
       ·exact .inl ⟨rfl, rfl⟩
       ·exact .inr ⟨k, z, by simp [e], rfl⟩
      have fin : ∀ {v : Value}, (Instr.sliceAt T (a.eval x) (lo.map a.eval) (hi.map a.eval) (Option.map a.eval none)).run P w = .ok v w -> (execOp a.eval ⟨some d, .slice T x lo hi none, ty, pos, after, g⟩).run P w = .ok (.value v) w := fun h => dZ (e := Instr.sliceAt T (a.eval x) (lo.map a.eval) (hi.map a.eval) (Option.map a.eval none)) rfl h
      obtain ⟨el, ie, b1, b2, b3, _⟩ := (hT T).sl hk.1
      obtain ⟨c1, c2, _, _⟩ := yU hb
      rw [YQ]
      rcases hm.obj id _ hid with ⟨o1, o2⟩ | ⟨g0, cur, e', o1, o2, o3, o4, o5, o6⟩
      ·subst o2
       simp only [List.length_nil] at c1 c2 hb
       have hv' : a.eval x = .slice none 0 0 := by rw [hv, Pl.hdr, o1]
       have e1 : hiN 0 rb = 0 := by omega
       have e2 : iI ra = 0 := by omega
       have hR := hm.azE hd hid o1
       have el : (([] : List t.den).take (hiN ([] : List t.den).length rb)).drop (iI ra) = [] := by simp
       rw [el]
       refine ⟨.slice none 0 0, w, _, .inl (fin ?_), hR, by simp [VR, aA, aQ, Pl.hdr]⟩
       have := IJ (P := P) (w := w) b1 b2 (p := none) (n := 0) (Nat.le_refl 0) (opt h1) (opt h2) hb
       rw [hv']
       simp only [e1, e2, Option.map_none, Nat.sub_self] at this
       simpa using this
      ·have hv' : a.eval x = .slice (some ⟨g0, (π id).q, none⟩) l.length (π id).cap := by rw [hv, Pl.hdr, o1]
       have hrun := IJ (P := P) (w := w) b1 b2 (p := some ⟨g0, (π id).q, none⟩) (n := l.length) o3 (opt h1) (opt h2) hb
       by_cases hc : (π id).cap = iI ra
       ·refine ⟨_, w, _, .inl (fin (by rw [hv']; exact hrun)), hm.moveRow (q' := (π id).q) hd hid o1 c1 c2 (fun h => absurd hc h) (fun _ => rfl), ?_⟩
        have hlen : ((l.take (hiN l.length rb)).drop (iI ra)).length = hiN l.length rb - iI ra := by simp; omega
        simp only [VR, List.cons_append, List.nil_append, aA, if_true, aQ, Pl.hdr, hlen, if_pos hc]
       ·refine ⟨_, w, _, .inl (fin (by rw [hv']; exact hrun)), hm.moveRow (q' := (π id).q + iI ra * t.size) hd hid o1 c1 c2 (fun _ => rfl) (fun h => absurd h hc), ?_⟩
        have hlen : ((l.take (hiN l.length rb)).drop (iI ra)).length = hiN l.length rb - iI ra := by simp; omega
        simp only [VR, List.cons_append, List.nil_append, aA, if_true, aQ, Pl.hdr, hlen, if_neg hc, Option.map_some, b3, hk.2, add_lit]
     ·cases h
    ·cases h
   ·cases h
  ·cases h
 ·cases h
theorem aDN (hT : bW P E.TI) {o : Oper} {e : Eff} (h : oQ E s.ev (aA s.ob) o.dst o.op = some e) (hb : e.b = true) (hm : aF c F π s a w) : iP P c F s π a w o e := by
 obtain ⟨dst, op, ty, pos, after, g⟩ := o
 simp only at h
 cases op with
 | call cl =>
  simp only [oQ] at h
  obtain ⟨callee, args, ats⟩ := cl
  simp only at h
  split at h
  ·rename_i d x y T T' hxs hts
   split at h
   ·rename_i heq
    simp only [aT, fE] at heq
    obtain ⟨_, rfl⟩ := heq
    have ha : args = #[x, y] := by apply Array.ext'; simpa using hxs
    have ht : ats = #[T, T] := by apply Array.ext'; simpa using hts
    subst ha; subst ht
    have lT : ∀ {v : Value} {w' : World}, (Builtin.append_ #[T, T] ty #[a.eval x, a.eval y]).run P w = .ok v w' -> (execOp a.eval ⟨some d, .call { callee := .builtin .append, args := #[x, y], argTypes := #[T, T] }, ty, pos, after, g⟩).run P w = .ok (.value v) w' := fun h =>
     dZ (e := Builtin.append_ #[T, T] ty #[a.eval x, a.eval y]) (by rw [BigFrame.execOp_builtin, BigFrame.builtin_append]; simp) h
    have fM := hm.ev x
    have fJ := hm.ev y
    split at h
    ·cases h
    ·rename_i hd
     split at h
     ·rename_i t l hx
      rw [hx] at fM
      split at h
      ·rename_i t' m hy
       split at h
       ·rename_i e2
        subst e2
        split at h
        ·rename_i hk
         simp only [aT, beq_iff_eq] at hk
         obtain rfl := aB h
         obtain ⟨ds, p, c0, h2, e2, f2⟩ := src_ok (P := P) hm hy fJ
         obtain ⟨cs, q, cap, h1, e1, f1⟩ := src_ok (P := P) (t := t') (l := l) hm (x := .dv (.jQ t') l) rfl fM
         have hcc := (DT.val_one (t := .jQ t') rfl).1 fM
         have hcap : cap = l.length := by
          obtain ⟨p', cap', e3, _, _, _, e4, _⟩ := id hcc
          rw [e1] at e3
          simp only [Value.slice.injEq] at e3
          rw [e3.2.2]; exact e4
         obtain ⟨e, ie, b1, b2, b3, b4, b5, b6, b7, b8⟩ := (hT T).sl hk.1
         have hsz := b3.trans hk.2
         by_cases hn : m.length = 0
         ·have hm0 : m = [] := List.eq_nil_of_length_eq_zero hn
          subst hm0
          have f2' := f2 w fun _ _ _ => rfl
          rw [<- hsz, e2] at f2'
          have hds : ds = [] := List.eq_nil_of_length_eq_zero (by rw [h2.len]; simp)
          subst hds
          simp only [List.length_nil] at f2' e2
          refine ⟨a.eval x, w, _, .inl (lT ?_), hm.ao1 hd t' (l ++ []), ?_⟩
          ·rw [e1, e2, hcap]
           cases q with
           | none =>
            obtain ⟨p', cap', e3, _, _, e5, _, _⟩ := id hcc
            rw [e1] at e3
            simp only [Value.slice.injEq] at e3
            obtain ⟨rfl, _, rfl⟩ := e3
            have := e5 rfl
            simp [Builtin.append_, run_underlying b1, sizeOf, typeInfo, b2, Builtin.lenOf, f2']
           | some q => simp [Builtin.append_, run_underlying b1, sizeOf, typeInfo, b2, Builtin.lenOf, f2', storeCells]
          ·simp only [VR, List.singleton_append, aA, if_true]
           rw [List.append_nil]
           have hz : eH w (Gz F w π (aA s.ob)) w (Gz F w (aQ π d ⟨none, 0, 0, iD⟩) (aA ((d, .bV t' l) :: s.ob))) := (fK.new (F := F) (π := π) (p := ⟨none, 0, 0, iD⟩) (o := .bV t' l) (Below.refl _ w) hd fun g hg => by cases hg.g rfl).fz
           exact DT.gG (t := .sl t') (x := l) (j := 0) hz (kC.weak hcc)
         ·have f1' := f1 w.drew fun _ _ _ => rfl
          have f2' := f2 w.drew fun _ _ _ => rfl
          rw [e2] at f2'
          rw [e1] at f1'
          obtain ⟨⟨v', w', aI, g1, g2, g3⟩⟩ := XH (P := P) (ty := ty) hT hk.1 hk.2 hb hm hd h1 h2 f1' f2' (by omega)
          have hlk : aA ((d, .row t' (l ++ m)) :: s.ob) d = some (.row t' (l ++ m)) := by rw [dI, if_pos rfl]
          have g4 := g2.freeze hlk
          have hset : aA ((d, .bV t' (l ++ m)) :: (d, .row t' (l ++ m)) :: s.ob) = aA ((d, .bV t' (l ++ m)) :: s.ob) := by
           funext i
           simp only [dI]
           split <;> rfl
          refine ⟨v', w', aI, .inl (lT (by rw [e1, e2]; exact g1)), g4.same rfl hset.symm, ?_⟩
          have hor := g2.obj d _ hlk
          have hz : eH w' (Gz F w' aI (aA ((d, .row t' (l ++ m)) :: s.ob))) w' (Gz F w' aI (aA ((d, .bV t' (l ++ m)) :: s.ob))) := fun b ⟨r0, r1, r2⟩ => ⟨⟨r0, r1, fun i ⟨o', q2, q3⟩ => by
           rw [dI] at q2
           by_cases e : i = d
           ·rw [if_pos e] at q2; obtain rfl := aB q2; exact (q3.not rfl).elim
           ·rw [if_neg e] at q2; exact r2 i ⟨o', by rw [dI, if_neg e]; exact q2, q3⟩⟩, rfl⟩
          simp only [VR, List.singleton_append, aA, if_true]
          rw [g3]
          exact hor.Uy hz fun g hg => ⟨g2.hF g (g2.new d g (.of hg hlk rfl)).1, (g2.new d g (.of hg hlk rfl)).2, fun i ⟨o', q2', q3⟩ => by
           have q2 : aA ((d, .bV t' (l ++ m)) :: s.ob) i = some o' := q2'
           rw [dI] at q2
           by_cases e : i = d
           ·rw [if_pos e] at q2; obtain rfl := aB q2; exact (q3.not rfl).elim
           ·rw [if_neg e] at q2
            exact e (g2.inj i d g ⟨o', by rw [dI, if_neg e]; exact q2, q3⟩ (.of hg hlk rfl))⟩
        ·cases h
       ·cases h
      ·cases h
     ·cases h
   ·cases h
  ·cases h
 | slice T x lo hi mx => exact aFL hT h hb hm
 | box T x =>
  simp only [oQ] at h
  split at h
  ·rename_i d
   split at h
   ·split at h
    ·rename_i y b hx
     split at h
     ·rename_i hpl
      obtain rfl := aB h
      obtain ⟨v1, v2⟩ := DT.pY hpl (TV.nV hx hb hpl (hm.ev x))
      have hB : Below w.heap.size w (w.alloc (.cells (a.eval x).cells T)) := (Below.refl _ _).alloc (Nat.le_refl _) _
      have hR := hm.later hB
      have E0 := fK.later (F := F) (π := π) (O := aA s.ob) hB
      have hlt : w.heap.size < (w.alloc (.cells (a.eval x).cells T)).heap.size := (Array.getElem?_eq_some_iff.1 (vW w _)).1
      have hno : ∀ id, ¬ Own π (aA s.ob) id w.heap.size := fun id hid => by have := (hm.new id _ hid).2; omega
      have hF : F w.heap.size := hm.hF _ fun hb' => by have := hm.kept.lt hb'; omega
      refine ⟨.pointer (some ⟨w.heap.size, 0, none⟩), _, π, .inl ?_, hR, (DT.val_one (t := .fp (E.TY T)) rfl).2 ⟨w.heap.size, 0, rfl, ⟨hF, hlt, hno⟩, fun cc hcc => ?_⟩⟩
      ·refine dZ (e := Instr.box T (a.eval x)) rfl ?_
       simp [Instr.box, newVar, newRow]
      ·obtain ⟨u, a1, a2, a3⟩ := v2 cc hcc
       exact ⟨u, by rw [aa2 (vW w _), Nat.zero_add]; exact a1, a2, DT.gG E0.fz a3⟩
     ·cases h
    ·cases h
   ·cases h
  ·cases h
 | assign x =>
  simp only [oQ] at h
  split at h
  ·rename_i t hrc
   split at h
   ·rename_i y b hx
    split at h
    ·rename_i hpl
     obtain rfl := aB h
     have hv := hm.ev x
     have hval : t.val y w (Gz F w π (aA s.ob)) (a.eval x) := by
      unfold TV.asC at hx
      split at hx
      ·rename_i u z hx'
       rw [hx'] at hv
       exact TV.nV (L := fun _ => none) (π := π) hx hb hpl hv
      ·rename_i hx'
       rw [hx'] at hv
       exact TV.nV (L := fun _ => none) (π := π) hx hb hpl hv
      ·cases hx
     exact ⟨a.eval x, w, π, .inl rfl, hm, hval⟩
    ·cases h
   ·cases h
  ·cases h
 | _ => simp [oQ] at h
theorem arM (hT : bW P E.TI) {o : Oper} {e : Eff} (h : xO E o s.ev (aA s.ob) = some e) (hb : e.b = true) (hm : aF c F π s a w) : iP P c F s π a w o e := by
 unfold xO at h
 split at h
 ·rename_i e' he
  obtain rfl := aB h
  exact aFT hT he hb hm
 split at h
 ·rename_i e' he
  obtain rfl := aB h
  obtain ⟨dst, op, ty, pos, after, g⟩ := o
  simp only [EO] at he
  split at he
  ·split at he
   ·exact QW hT (o := ⟨_, .makeSlice _ _ _, ty, pos, after, g⟩) he hb hm
   ·cases he
  ·split at he
   ·exact QW hT (o := ⟨_, .buildSlice _ _ _, ty, pos, after, g⟩) he hb hm
   ·cases he
  ·cases he
 have hm1 := hm.iH (needs s.ev (aA s.ob) o.op)
 generalize iH (aA s.ob) (needs s.ev (aA s.ob) o.op) = U0 at h hm1
 simp only [<- EN] at h
 have pure : ∀ {y : TV} {b : Bool}, (∃ v, (execOp a.eval o).run P w = .ok (.value v) w /\ VR w (Gz F w π (aA (U0 ++ s.ob))) π (aA (U0 ++ s.ob)) y v) -> iP P c F s π a w o ⟨y, U0, b⟩ := fun ⟨v, h1, h2⟩ => ⟨v, w, π, .inl h1, hm1, h2⟩
 have lift : ∀ {e' : Eff}, iP P c F ⟨s.sl, U0 ++ s.ob⟩ π a w o e' -> iP P c F s π a w o ⟨e'.y, e'.u ++ U0, e'.b⟩ := fun ⟨v, w', aI, h1, h2, h3⟩ => by
  refine ⟨v, w', aI, h1, ?_, ?_⟩
  ·simp only [List.append_assoc]; exact h2
  ·simp only [List.append_assoc]; exact h3
 split at h
 ·rename_i e' he
  obtain rfl := aB h
  exact lift (aDN (s := ⟨s.sl, U0 ++ s.ob⟩) hT he hb hm1)
 split at h
 ·rename_i y b hv
  obtain rfl := aB h
  exact pure (aF0 (s := ⟨s.sl, U0 ++ s.ob⟩) hT hv hb hm1)
 split at h
 ·rename_i y b hv
  obtain rfl := aB h
  exact pure (aFK (s := ⟨s.sl, U0 ++ s.ob⟩) hT hv hb hm1)
 split at h
 ·rename_i e' he
  obtain rfl := aB h
  refine lift ?_
  obtain ⟨dst, op, ty, pos, after, g⟩ := o
  simp only at he
  cases op with
  | alloc T => exact ao5 (s := ⟨s.sl, U0 ++ s.ob⟩) hT he hm1
  | box T x => exact ap6 (s := ⟨s.sl, U0 ++ s.ob⟩) hT he hb hm1
  | buildSlice T n parts => exact ap' (s := ⟨s.sl, U0 ++ s.ob⟩) hT he hb hm1
  | makeSlice T x y => exact ay1 (s := ⟨s.sl, U0 ++ s.ob⟩) hT he hb hm1
  | build T parts => exact aqA (s := ⟨s.sl, U0 ++ s.ob⟩) hT he hb hm1
  | store T p y => exact aC0 (s := ⟨s.sl, U0 ++ s.ob⟩) hT he hb hm1
  | call cl => exact apE (s := ⟨s.sl, U0 ++ s.ob⟩) hT he hb hm1
  | _ => simp [iW] at he
 split at h
 ·rename_i e' he
  obtain rfl := aB h
  exact lift (aFC (s := ⟨s.sl, U0 ++ s.ob⟩) hT he hb hm1)
 split at h
 ·rename_i e' he
  obtain rfl := aB h
  exact lift (aFW (s := ⟨s.sl, U0 ++ s.ob⟩) hT he hb hm1)
 ·exact aFH hT h hb hm
theorem iP.EH {o : Oper} {e : Eff} (h : ∀ π a w, aF c F π s a w -> iP P c F s π a w o e) : nJ P c F o (fun s' => s' = s.app o.dst e) s := by
 refine nJ.of (s' := s.app o.dst e) (fun a w ⟨π, hm⟩ => ?_) rfl
 obtain ⟨v, w', aI, h1, h2, h3⟩ := h π a w hm
 refine ⟨v, w', h1, aI, ?_⟩
 have := h2.put o.dst h3
 cases hd : o.dst with
 | none => rw [hd] at this; simp only [TS.app, TS.put]; exact this
 | some d => rw [hd] at this; simp only [TS.app, TS.put]; exact this
end
end
section
theorem TV.Q3 {R : Nat -> Prop} : ∀ {x : TV}, (∀ i ∈ x.ids, R i) -> x.within R := by
 intro x
 induction x with
 | row id => intro h; exact h id (by simp [TV.ids])
 | gZ id a b => intro h; exact h id (by simp [TV.ids])
 | ptr id i p => intro h; exact h id (by simp [TV.ids])
 | view id i p k a b => intro h; exact h id (by simp [TV.ids])
 | fn g k n f ih => intro h j hj; exact ih j fun i hi => h i (by simp only [TV.ids, List.mem_flatMap, List.mem_range]; exact ⟨j, hj, hi⟩)
 | cZ n f ih => intro h j hj; exact ih j fun i hi => h i (by simp only [TV.ids, List.mem_flatMap, List.mem_range]; exact ⟨j, hj, hi⟩)
 | st n f ih => intro h j hj; exact ih j fun i hi => h i (by simp only [TV.ids, List.mem_flatMap, List.mem_range]; exact ⟨j, hj, hi⟩)
 | _ => intro _; trivial
theorem TO.Q3 {R : Nat -> Prop} {o : TO} (h : ∀ i ∈ o.ids, R i) : o.within R := by
 cases o with
 | aP fs => exact fun j x hx => TV.Q3 fun i hi => h i (by simp only [TO.ids, List.mem_flatMap]; exact ⟨x, List.mem_of_getElem? hx, hi⟩)
 | aX t ls out => exact fun i r hr => h r (by subst hr; simp [TO.ids])
 | _ => trivial
theorem TV.Gp : ∀ {x : TV}, x.oO = true -> x.sc := by
 intro x
 induction x with
 | dv t y => intro h; exact h
 | el t y p => intro h; simp [TV.oO] at h
 | fn g k n f ih => intro h j hj; simp only [TV.oO, List.all_eq_true, List.mem_range] at h; exact ih j (h j hj)
 | cZ n f ih => intro h j hj; simp only [TV.oO, List.all_eq_true, List.mem_range] at h; exact ih j (h j hj)
 | st n f ih => intro h j hj; simp only [TV.oO, List.all_eq_true, List.mem_range] at h; exact ih j (h j hj)
 | _ => intro _; trivial
theorem TO.Gp {o : TO} (h : o.oO = true) : o.sc := by
 cases o with
 | row t l => exact h
 | aP fs => intro j x hx; simp only [TO.oO, List.all_eq_true] at h; exact TV.Gp (h x (List.mem_of_getElem? hx))
 | map kt vt l => simpa [TO.oO, TO.sc] using h
 | bV t l => simp [TO.oO] at h
 | gK kt vt l => simp [TO.oO] at h
 | iter kt vt l cur => simp [TO.oO] at h
 | sit l => trivial
 | aX t ls out => exact h
 | dead => trivial
theorem Pn : ∀ {R : List Nat} {i : Nat}, i ∈ R -> idx R i < R.length /\ R.getD (idx R i) 0 = i
 | [], i, h => by simp at h
 | x :: r, i, h => by
  simp only [idx]
  by_cases e : i = x
  ·rw [if_pos e]; exact ⟨by simp, by simp [e]⟩
  ·rw [if_neg e]
   obtain ⟨a, b⟩ := Pn (R := r) (by simpa [e] using h)
   exact ⟨by simp; omega, by simpa using b⟩
theorem Ut {R : List Nat} {d i : Nat} (h : i ∈ R) : uB R d (lY R i) = i := by
 obtain ⟨a, b⟩ := Pn h
 unfold uB lY
 rw [if_pos (by omega), show 9000 + idx R i - 9000 = idx R i by omega]
 exact b
theorem aDE {R : List Nat} {i j : Nat} (hi : i ∈ R) (hj : j ∈ R) (h : lY R i = lY R j) : i = j := by
 have := Ut (d := 0) hi
 rw [h, Ut hj] at this
 exact this.symm
theorem Vj (R : List Nat) (f : Nat -> TO) : ∀ (L : List Nat), (∀ i ∈ L, i ∈ R) -> ∀ i ∈ L, aA (L.map fun i => (lY R i, f i)) (lY R i) = some (f i)
 | [], _, i, h => by simp at h
 | x :: r, hL, i, h => by
  simp only [List.map_cons, aA]
  by_cases e : i = x
  ·subst e; rw [if_pos rfl]
  ·rw [if_neg fun e2 => e (aDE (hL i h) (hL x (by simp)) e2)]
   exact Vj R f r (fun j hj => hL j (by simp [hj])) i (by simpa [e] using h)
theorem Vk (R : List Nat) (f : Nat -> TO) : ∀ (L : List Nat) (j : Nat) (o : TO), aA (L.map fun i => (lY R i, f i)) j = some o -> ∃ i ∈ L, lY R i = j
 | [], j, o, h => by cases h
 | x :: r, j, o, h => by
  simp only [List.map_cons, aA] at h
  by_cases e : j = lY R x
  ·exact ⟨x, by simp, e.symm⟩
  ·rw [if_neg e] at h
   obtain ⟨i, a, b⟩ := Vk R f r j o h
   exact ⟨i, by simp [a], b⟩
theorem uG : ∀ {O : List (Nat × TO)} {j : Nat} {o : TO}, aA O j = some o -> (j, o) ∈ O
 | [], j, o, h => by cases h
 | (i, o') :: r, j, o, h => by
  simp only [aA] at h
  split at h
  ·rename_i e; subst e; obtain rfl := aB h; simp
  ·simp [uG h]
theorem agO : ∀ {O : List (Nat × TO)} {f : Nat -> Nat}, nodupB (O.map fun p => f p.1) = true -> ∀ j j' o o', aA O j = some o -> aA O j' = some o' -> f j = f j' -> j = j'
 | [], f, _, j, j', o, o', h, _, _ => by cases h
 | (i, x) :: r, f, h, j, j', o, o', h1, h2, h3 => by
  simp only [List.map_cons, nodupB, aT, Bool.not_eq_true'] at h
  have hmem : ∀ k y, aA r k = some y -> f k ≠ f i := fun k y hk e => by
   have h0 : (r.map fun p => f p.1).contains (f i) = true := by
    rw [List.contains_iff_mem]
    exact List.mem_map.2 ⟨(k, y), uG hk, e⟩
   rw [h0] at h; simp at h
  simp only [aA] at h1 h2
  split at h1 <;> split at h2
  ·rename_i e1 e2; exact e1.trans e2.symm
  ·rename_i e1 e2; subst e1; exact absurd h3.symm (hmem j' o' h2)
  ·rename_i e1 e2; subst e2; exact absurd h3 (hmem j o h1)
  ·exact agO h.2 j j' o o' h1 h2 h3
section
variable {P : Program} {E : Env} {c : Cx} {F : Nat -> Prop} {s : TS} {π : Nat -> Pl} {a : Act} {w : World}
theorem oV.fz {O : aZ} {B : Nat -> Prop} : eH w (Gz F w π O) w (oV F w π O B) := fun b hb => ⟨.inl hb, rfl⟩
theorem axX (hm : aF c F π s a w) {x : TV} {t : DT} {y : t.den} {b : Bool} (h : LC (aA s.ob) x t = some (y, b)) (hb : b = true) (hp : t.plain = true) {v : Value} (hv : VR w (Gz F w π (aA s.ob)) π (aA s.ob) x v) {B : Nat -> Prop} (hB : ∀ i ∈ x.ids, (∃ o, aA s.ob i = some o /\ o.live = true) -> B i) :
  t.val y w (oV F w π (aA s.ob) B) v := by
 have hz : eH w (Gz F w π (aA s.ob)) w (oV F w π (aA s.ob) B) := oV.fz
 have plain : x.as (aA s.ob) t = some (y, b) -> t.val y w (oV F w π (aA s.ob) B) v := fun h => DT.gV hz (TV.nV h hb hp hv)
 cases t with
 | sl u =>
  simp only [LC] at h
  split at h
  ·rename_i v' l b' hl
   split at h
   ·rename_i e
    subst e
    simp only [aO, bF] at h
    obtain ⟨rfl, rfl⟩ := h
    refine (DT.val_one rfl).2 ?_
    have x8 : x.jW (aA s.ob) = some ⟨v', l⟩ -> (DT.sl v').cell l 0 w (oV F w π (aA s.ob) B) v := fun hf => DT.gG hz (TV.KJ hf hv)
    cases x with
    | dv t0 y0 => exact x8 (by
      simp only [TV.aJ] at hl
      obtain ⟨q, hq, he⟩ := Option.map_eq_some_iff.1 hl
      simp only [bF] at he
      obtain ⟨rfl, _⟩ := he
      cases t0 <;> exact hq)
    | row id =>
     simp only [TV.aJ, TV.data] at hl
     simp only [VR] at hv
     cases ho : aA s.ob id with
     | none => rw [ho] at hv; exact hv.elim
     | some o =>
      rw [ho] at hv hl
      cases o with
      | aX t' ls out =>
       cases out with
       | some p => cases hl
       | none =>
        simp only [aO, bF, Sigma.mk.injEq] at hl
        obtain ⟨⟨rfl, hl⟩, _⟩ := hl; obtain rfl := eq_of_heq hl
        simp only at hv
        rw [hv]
        exact (hm.obj id _ ho).ae' hz fun g hg => .inr ⟨id, hB id (by simp [TV.ids]) ⟨_, ho, rfl⟩, _, ho, hg⟩
      | row t' l' =>
       simp only [Option.map_some, aO, bF, Sigma.mk.injEq] at hl
       obtain ⟨⟨rfl, hl⟩, _⟩ := hl; obtain rfl := eq_of_heq hl
       simp only at hv
       rw [hv]
       exact (hm.obj id _ ho).Uy hz fun g hg => .inr ⟨id, hB id (by simp [TV.ids]) ⟨_, ho, rfl⟩, .of hg ho rfl⟩
      | bV t' l' => exact x8 (by
        simp only [Option.map_some, aO, bF] at hl
        simp only [TV.jW, ho]; exact congrArg some hl.1)
      | _ => cases hl
    | gZ id i j =>
     simp only [TV.aJ, TV.data] at hl
     simp only [VR] at hv
     cases ho : aA s.ob id with
     | none => rw [ho] at hv; exact hv.elim
     | some o =>
      rw [ho] at hv hl
      cases o with
      | row t' l' =>
       simp only [Option.map_some, aO, bF, Sigma.mk.injEq] at hl
       obtain ⟨⟨rfl, hl⟩, _⟩ := hl; obtain rfl := eq_of_heq hl
       obtain ⟨h1, h2, p, cp, h3, h4, h5, h6, h7⟩ := hv
       have hlen : ((l'.take j).drop i).length = j - i := by simp; omega
       refine ⟨p, cp, by rw [h3, hlen], by rw [hlen]; exact h4, h5, h6, trivial, fun hn => ?_⟩
       rw [hlen] at hn ⊢
       obtain ⟨g, q1, q2⟩ := h7 (by omega)
       rcases hm.obj id _ ho with ⟨r1, r2⟩ | ⟨g', cur, e, r1, r2, r3, r4, r5, r6⟩
       ·subst r2; simp at h2; omega
       ·rw [q1] at r1; obtain rfl := aB r1
        refine ⟨g, _, q2, .inr ⟨id, hB id (by simp [TV.ids]) ⟨_, ho, rfl⟩, .of q1 ho rfl⟩, fun k hk cc hcc => ?_⟩
        obtain ⟨u, b1, b2, b3⟩ := r6 (i + k) (by omega) cc hcc
        refine ⟨u, by rw [oZ r2, <- b1, Nat.add_mul]; congr 1; omega, b2, ?_⟩
        show DT.cell _ (((l'.take j).drop i).getD k _) cc w _ u
        rw [KP _ _ _ _ _ h2 hk]
        exact DT.gG hz b3
      | bV t' l' => exact x8 (by
        simp only [Option.map_some, aO, bF] at hl
        simp only [TV.jW, ho]; exact congrArg some hl.1)
      | _ => cases hl
    | view id i p k n0 i1 j1 =>
     simp only [TV.aJ] at hl
     cases ho : aA s.ob id with
     | none => rw [ho] at hl; cases hl
     | some o =>
      rw [ho] at hl
      simp only at hl
      split at hl
      ·rename_i m u y0 hpart
       split at hl
       ·rename_i hk
        simp only [aT, beq_iff_eq] at hk
        obtain ⟨⟨rfl, hlv⟩, rfl⟩ := hk
        simp only [aO, bF, Sigma.mk.injEq] at hl
        obtain ⟨⟨rfl, hl⟩, rfl⟩ := hl; obtain rfl := eq_of_heq hl
        have hbl := of_decide_eq_true hb
        simp only [VR, ho] at hv
        obtain ⟨c0, g, pp, q1, q2, q3, q4, q5, q6, q7, q8⟩ := hv hlv
        have Oy : VR w (Gz F w π (aA s.ob)) π (aA s.ob) (.ptr id i p) (.pointer (some ⟨g, (π id).q + c0, none⟩)) := by
         simp only [VR, ho]; exact fun _ => ⟨c0, g, q1, q2, q3, rfl⟩
        obtain ⟨g', k0, r1, r2, r3, r4, r5⟩ := hm.part ho Oy hpart
        rw [q3] at r3; obtain rfl := aB r3
        rw [q1] at r1; obtain rfl := aB r1
        have hlen : ((y0.take j1).drop i1).length = j1 - i1 := by simp; omega
        refine ⟨some pp, n0 - i1, by rw [q7, hlen], by rw [hlen]; omega, by omega, (fun h => by cases h), trivial, fun hn => ?_⟩
        rw [hlen] at hn ⊢
        have hpp := q8 (by omega)
        refine ⟨g, _, by rw [hpp], .inr ⟨id, hB id (by simp [TV.ids]) ⟨_, ho, hlv⟩, .of q3 ho hlv⟩, fun k hk cc hcc => ?_⟩
        have hin : i1 + k < n0 := by omega
        obtain ⟨z, b1, b2, b3⟩ := r5 ((i1 + k) * u.size + cc) (BG hin hcc)
        refine ⟨z, by rw [<- b1, Nat.add_mul]; congr 2; omega, b2, ?_⟩
        show DT.cell _ (((y0.take j1).drop i1).getD k _) cc w _ z
        rw [KP _ _ _ _ _ hbl hk]
        have hpos : 0 < u.size := by omega
        have e1 : ((i1 + k) * u.size + cc) / u.size = i1 + k := by rw [Nat.mul_comm, Nat.mul_add_div hpos, Nat.div_eq_of_lt hcc]; omega
        have e2 : ((i1 + k) * u.size + cc) % u.size = cc := by rw [Nat.mul_comm, Nat.mul_add_mod, Nat.mod_eq_of_lt hcc]
        simp only [DT.cell, e1, e2] at b3
        exact DT.gG hz b3
       ·cases hl
      ·cases hl
    | _ => simp [TV.aJ, TV.data] at hl
   ·cases h
  ·exact plain h
 | _ => exact plain h
theorem abG (hm : aF c F π s a w) {R : List Nat} {B : Nat -> Prop} : ∀ {eG : List Md} {xs as : List TV} {b : Bool} {vs : List Value}, pG (aA s.ob) eG xs = some (as, b) -> b = true -> (∀ i ∈ oN eG xs, i ∈ R) -> (∀ i ∈ rV (aA s.ob) eG xs, B i) -> vs.length = xs.length ->
  (∀ (i : Nat) (x : TV) (v : Value), xs[i]? = some x -> vs[i]? = some v -> VR w (Gz F w π (aA s.ob)) π (aA s.ob) x v) ->
  as.length = xs.length /\ ∀ (i : Nat) (y : TV) (v : Value), as[i]? = some y -> vs[i]? = some v -> y.within (· ∈ R) /\ VR w (oV F w π (aA s.ob) B) π (aA s.ob) y v
 | [], [], as, b, vs, h, hb, _, _, hl, hv => by
  simp only [pG, aO, bF] at h
  obtain ⟨rfl, _⟩ := h
  exact ⟨rfl, fun i y v hy => by simp at hy⟩
 | [], x :: xs, as, b, vs, h, _, _, _, _, _ => by simp [pG] at h
 | m :: ms, [], as, b, vs, h, _, _, _, _, _ => by simp [pG] at h
 | m :: ms, x :: xs, as, b, [], h, _, _, _, hl, _ => by simp at hl
 | m :: ms, x :: xs, as, b, v0 :: vs, h, hb, hO, hL, hl, hv => by
  simp only [pG] at h
  split at h
  ·rename_i l b1 hc
   have hv0 := hv 0 x v0 rfl rfl
   have hz : eH w (Gz F w π (aA s.ob)) w (oV F w π (aA s.ob) B) := oV.fz
   have aB7 : b1 = true -> l.length = xs.length /\ ∀ (i : Nat) (y : TV) (v : Value), l[i]? = some y -> vs[i]? = some v -> y.within (· ∈ R) /\ VR w (oV F w π (aA s.ob) B) π (aA s.ob) y v := fun hb1 =>
    abG hm hc hb1 (fun i hi => hO i (by cases m <;> simp [oN, hi])) (fun i hi => hL i (by cases m <;> simp only [rV] <;> first | exact hi | exact List.mem_append_right _ hi)) (by simpa using hl) fun i x v h1 h2 => hv (i + 1) x v (by simpa using h1) (by simpa using h2)
   have fin : ∀ {y0 : TV}, y0.within (· ∈ R) -> VR w (oV F w π (aA s.ob) B) π (aA s.ob) y0 v0 -> b1 = true -> (y0 :: l).length = (x :: xs).length /\ ∀ (i : Nat) (y : TV) (v : Value), (y0 :: l)[i]? = some y -> (v0 :: vs)[i]? = some v -> y.within (· ∈ R) /\ VR w (oV F w π (aA s.ob) B) π (aA s.ob) y v := fun {y0} h1 h2 hb1 => by
    obtain ⟨r1, r2⟩ := aB7 hb1
    refine ⟨by simp [r1], fun i y v hy hv => ?_⟩
    cases i with
    | zero => simp at hy hv; subst hy; subst hv; exact ⟨h1, h2⟩
    | succ i => simp at hy hv; exact r2 i y v hy hv
   cases m with
   | obj =>
    simp only [aO, bF] at h
    obtain ⟨rfl, rfl⟩ := h
    refine fin (TV.Q3 fun i hi => hO i (by simp [oN, hi])) ?_ hb
    exact VR.jR ⟨hz, fun id o ho => ⟨o, ho, Step.refl o⟩⟩ hv0
   | aJ t =>
    simp only at h
    split at h
    ·rename_i y b2 hy
     split at h
     ·rename_i hp
      simp only [aO, bF] at h
      obtain ⟨rfl, rfl⟩ := h
      simp only [aT] at hb
      refine fin trivial ?_ hb.2
      exact axX hm hy hb.1 hp hv0 fun i hi ⟨o, ho, hlv⟩ => hL i (by simp only [rV, List.mem_append, List.mem_filter]; exact .inl ⟨hi, by rw [ho]; exact hlv⟩)
     ·cases h
    ·cases h
   | own t =>
    simp only at h
    split at h
    ·rename_i y b2 hy
     split at h
     ·rename_i hp
      simp only [aO, bF] at h
      obtain ⟨rfl, rfl⟩ := h
      simp only [aT] at hb
      exact fin trivial (DT.gV hz (TV.nV hy hb.1 hp hv0)) hb.2
     ·cases h
    ·cases h
  ·cases h
theorem abD {L : aZ} : ∀ {eG : List Md} {xs as : List TV} {b : Bool}, pG L eG xs = some (as, b) -> as.length = xs.length
 | [], [], as, b, h => by
  simp only [pG, aO, bF] at h
  obtain ⟨rfl, _⟩ := h; rfl
 | [], x :: xs, as, b, h => by simp [pG] at h
 | m :: ms, [], as, b, h => by simp [pG] at h
 | m :: ms, x :: xs, as, b, h => by
  simp only [pG] at h
  split at h
  ·rename_i l b1 hc
   have := abD hc
   cases m with
   | obj => simp only [aO, bF] at h; obtain ⟨rfl, _⟩ := h; simp [this]
   | aJ t =>
    simp only at h
    split at h
    ·split at h
     ·simp only [aO, bF] at h; obtain ⟨rfl, _⟩ := h; simp [this]
     ·cases h
    ·cases h
   | own t =>
    simp only at h
    split at h
    ·split at h
     ·simp only [aO, bF] at h; obtain ⟨rfl, _⟩ := h; simp [this]
     ·cases h
    ·cases h
  ·cases h
theorem ad2 : ∀ {R : List Nat} {p : Nat}, nodupB R = true -> p < R.length -> idx R (R.getD p 0) = p
 | [], p, _, h => by simp at h
 | x :: r, 0, _, _ => by simp [idx]
 | x :: r, p + 1, h, hp => by
  simp only [nodupB, aT, Bool.not_eq_true'] at h
  have hp' : p < r.length := by simpa using hp
  have e : (x :: r).getD (p + 1) 0 = r.getD p 0 := by simp
  rw [e]
  simp only [idx]
  have hne : r.getD p 0 ≠ x := fun e2 => by
   have : r.getD p 0 = r[p] := by simp [hp']
   have hm : r.contains x = true := by rw [List.contains_iff_mem, <- e2, this]; exact List.getElem_mem hp'
   rw [hm] at h; simp at h
  rw [if_neg hne, ad2 h.2 hp']
theorem aF.kZ (hm : aF c F π s a w) : ∀ ids : List Nat, ∃ aI, aF c F aI ⟨s.sl, Go.Proofs.YtfopcfnggdonkaaGreatDoor.kZ (aA s.ob) ids ++ s.ob⟩ a w
 | [] => ⟨π, hm⟩
 | id :: r => by
  obtain ⟨iE, ih⟩ := aF.kZ hm r
  show ∃ aI, aF c F aI ⟨s.sl, ((wL (eQ (Go.Proofs.YtfopcfnggdonkaaGreatDoor.kZ (aA s.ob) r) (aA s.ob)) id).getD [] ++ Go.Proofs.YtfopcfnggdonkaaGreatDoor.kZ (aA s.ob) r) ++ s.ob⟩ a w
  cases hU : wL (eQ (Go.Proofs.YtfopcfnggdonkaaGreatDoor.kZ (aA s.ob) r) (aA s.ob)) id with
  | none => exact ⟨iE, ih⟩
  | some U =>
   rw [<- EN] at hU
   obtain ⟨dU, h2⟩ := ajK ih hU
   exact ⟨dU, by simp only [Option.getD_some, List.append_assoc]; exact h2⟩
theorem aa1 (hE : mW P E) {o : Oper} {g : Nat} {xs : List TV} {α : Type} {k : Eff -> Option α} {r : α} (h : DI E (o.dst.getD 0) g xs (aA s.ob) k = some r) (vals : Act -> List Value)
  (hxs : ∀ (s' : TS) (π : Nat -> Pl) (a : Act) (w : World), s'.sl = s.sl -> aF c F π s' a w -> (vals a).length = xs.length /\ ∀ (i : Nat) (x : TV) (v : Value), xs[i]? = some x -> (vals a)[i]? = some v -> VR w (Gz F w π (aA s'.ob)) π (aA s'.ob) x v)
  (hrun : ∀ (s' : TS) a w, s'.sl = s.sl -> Rel c F s' a w -> (∀ as w, (callFunc g as).run P w = .ok (.enter g as) w) -> (execOp a.eval o).run P w = .ok (.enter g (vals a).toArray) w) :
  ∃ e, k e = some r /\ (∀ (β : Type) (k' : Eff -> Option β), DI E (o.dst.getD 0) g xs (aA s.ob) k' = k' e) /\ nJ P c F o (fun s' => s' = s.app o.dst e) s := by
 unfold DI at h ⊢
 cases hs : E.sig g xs with
 | none => rw [hs] at h; cases h
 | some eG =>
  rw [hs] at h
  simp only at h ⊢
  generalize hU : iH (eQ (kZ (aA s.ob) (rM eG xs)) (aA s.ob)) (qU eG xs) ++ kZ (aA s.ob) (rM eG xs) = U0 at h ⊢
  simp only [<- EN] at h ⊢
  cases hc : pG (aA (U0 ++ s.ob)) eG xs with
  | none => rw [hc] at h; cases h
  | some q =>
   obtain ⟨as, b⟩ := q
   rw [hc] at h
   simp only at h ⊢
   generalize hR : qV 60 (aA (U0 ++ s.ob)) (oN eG xs) [] = R at h ⊢
   split at h
   ·rename_i hcond
    simp only [aT, List.all_eq_true] at hcond
    obtain ⟨⟨⟨k1, k2⟩, k3⟩, k4⟩ := hcond
    obtain ⟨hb, h⟩ := FO h
    subst hb
    obtain ⟨rv, O', h1, h2, h3⟩ := hE _ _ _ _ _ _ h
    split at h1
    ·rename_i hg
     simp only [aT, List.all_eq_true] at hg
     obtain ⟨⟨g1, g2⟩, g3⟩ := hg
     refine ⟨_, h1, fun β k' => ?_, ?_⟩
     ·rw [if_pos (by simp only [aT, List.all_eq_true]; exact ⟨⟨⟨k1, k2⟩, k3⟩, k4⟩)]
      show E.phi _ _ _ _ = _
      rw [h2]
      rw [if_pos (by simp only [aT, List.all_eq_true]; exact ⟨⟨g1, g2⟩, g3⟩)]
     ·-- the call itself
      let s1 : TS := ⟨s.sl, U0 ++ s.ob⟩
      have hmem : ∀ {i : Nat}, R.contains i = true ↔ i ∈ R := fun {i} => List.contains_iff_mem
      have hkey : ∀ i ∈ R, ∃ o', aA s1.ob i = some o' /\ o'.live = true /\ o'.within (· ∈ R) := fun i hi => by
       have := k1 i hi
       cases ho : aA (U0 ++ s.ob) i with
       | none => rw [ho] at this; cases this
       | some o' =>
        rw [ho] at this
        simp only [aT, TO.CS, List.all_eq_true] at this
        refine ⟨o', rfl, this.1.1, ?_⟩
        exact (TO.Q3 fun j hj => hmem.1 (this.2 j hj))
      have hw1 : ∀ a w, Rel c F s a w -> Rel c F s1 a w := fun a w ⟨π, hm⟩ => by
       obtain ⟨iE, hm1⟩ := hm.kZ (rM eG xs)
       have := hm1.iH (qU eG xs)
       simp only [EN, <- List.append_assoc] at this
       rw [hU] at this
       exact ⟨iE, this⟩
      have hW : nJ P c F o (fun s' => s' = ⟨(s1.put o.dst (rv.ren (uB R (o.dst.getD 0)))).sl, nR (uB R (o.dst.getD 0)) O' ++ s1.ob⟩) s1 := by
       refine nJ.call h3 (uB R (o.dst.getD 0)) (lY R) (· ∈ R) (· ∈ rV (aA (U0 ++ s.ob)) eG xs) vals ?_ ?_ ?_ ?_ ?_ ?_ ?_ ?_ ?_ ?_
       ·exact fun a w hr he => hrun s1 a w rfl hr he
       ·exact fun a w ⟨π, hm⟩ => by rw [List.length_map, abD hc]; exact (hxs s1 π a w rfl hm).1
       ·exact fun i hi => by
         obtain ⟨o', a1, a2, a3⟩ := hkey i hi
         refine ⟨o', a1, a2, a3, ?_, Ut hi⟩
         have := Vj R (fun i => ((aA (U0 ++ s.ob) i).getD .dead).ren (lY R)) R (fun _ h => h) i hi
         rw [this]
         have a1' : aA (U0 ++ s.ob) i = some o' := a1
         rw [a1']; rfl
       ·exact fun j o' hj => Vk R (fun i => ((aA (U0 ++ s.ob) i).getD .dead).ren (lY R)) R j o' hj
       ·exact fun i hi hi2 => by
         have := k3 i hi
         simp only [Bool.not_eq_true'] at this
         rw [hmem.2 hi2] at this; cases this
       ·intro π a w hm i x v hx hv
        obtain ⟨e1, e2⟩ := hxs s1 π a w rfl hm
        obtain ⟨c1, c2⟩ := abG (R := R) (B := (· ∈ rV (aA (U0 ++ s.ob)) eG xs)) hm hc rfl (fun i hi => hmem.1 (k2 i hi)) (fun i hi => hi) e1 e2
        simp only [List.getElem?_map, Option.map_eq_some_iff] at hx
        obtain ⟨y, hy, rfl⟩ := hx
        obtain ⟨d1, d2⟩ := c2 i y v hy hv
        exact ⟨y, rfl, d1, d2⟩
       ·exact agO g1
       ·exact fun j o' hj hn => by
         have := g2 (j, o') (uG hj)
         simp only at this
         split at this
         ·rename_i hin
          exfalso
          have hlt : j - 9000 < R.length := by omega
          have hi : R.getD (j - 9000) 0 ∈ R := by
           have : R.getD (j - 9000) 0 = R[j - 9000] := by simp [hlt]
           rw [this]; exact List.getElem_mem hlt
          have e1 : lY R (R.getD (j - 9000) 0) = j := by
           unfold lY; rw [ad2 k4 hlt]; omega
          have := Vj R (fun i => ((aA (U0 ++ s.ob) i).getD .dead).ren (lY R)) R (fun _ h => h) _ hi
          rw [e1] at this
          rw [hn] at this; cases this
         ·simpa using this
       ·exact fun j o1 o' hj hj' => by
         obtain ⟨i, hi, e⟩ := Vk R _ R j o1 hj
         have hlt := (Pn hi).1
         have := g2 (j, o') (uG hj')
         simp only at this
         rw [if_pos (by unfold lY at e; omega)] at this
         simp only [Bool.or_eq_true] at this
         rcases this with h | h
         ·exact .inl h
         ·cases o' <;> first | exact .inr rfl | cases h
       ·simp only [Bool.or_eq_true] at g3
        rcases g3 with g3 | g3
        ·left
         intro i hi
         rw [List.isEmpty_iff.1 g3] at hi
         simp at hi
        ·simp only [aT, List.all_eq_true] at g3
         exact .inr ⟨TV.Gp g3.1, fun j o' hj => TO.Gp (g3.2 (j, o') (uG hj))⟩
      intro nn a w next Q hr hn
      refine hW nn a w next Q (hw1 a w hr) fun s' a' w' hs' hr' => hn s' a' w' ?_ hr'
      rw [hs']
      show _ = s.app o.dst _
      simp only [TS.app, List.append_assoc]
      cases o.dst <;> rfl
    ·cases h1
   ·cases h
theorem aCH {f : FuncId} (he : ∀ (as : Array Value) (w : World), (callFunc f as).run P w = .ok (.enter f as) w) {o : Oper} {x : Operand} {xs : Array Operand} {ts : Array TypeId} (ho : o.op = .call { callee := .value x, args := xs, argTypes := ts }) (a : Act) (w : World) {fs cs : Array Value} (hx : a.eval x = .func (.func f) fs cs) :
  (execOp a.eval o).run P w = .ok (.enter f (fs.toList ++ xs.toList.map a.eval ++ cs.toList).toArray) w := by
 obtain ⟨dst, op, ty, pos, after, guard⟩ := o
 simp only at ho
 subst ho
 have h1 : execOp a.eval ⟨dst, .call { callee := .value x, args := xs, argTypes := ts }, ty, pos, after, guard⟩ = (do let d <- Deferred.ofValue (a.eval x) (xs.map a.eval); invoke d.target d.args) := rfl
 rw [h1, hx]
 have h2 : (Deferred.ofValue (.func (.func f) fs cs) (xs.map a.eval)) = pure { target := .fn (.func f) cs, args := fs ++ xs.map a.eval } := rfl
 rw [h2]
 simp only [Sem.run_bind, Sem.run_pure, Result.andThen_ok]
 show (callFunc f (fs ++ xs.map a.eval ++ cs)).run P w = _
 rw [he]
 congr 2
 apply Array.ext'
 simp
theorem aCG (hT : bW P E.TI) {T : TypeId} {name : String} {g : FuncId} (hm : (E.TI T).xY.lookup name = some g) (he : ∀ (as : Array Value) (w : World), (callFunc g as).run P w = .ok (.enter g as) w) {o : Oper} {x : Operand} {xs : Array Operand} {ts : Array TypeId} (ho : o.op = .call { callee := .invoke x name, args := xs, argTypes := ts }) (a : Act) (w : World) {u : Value} (hx : a.eval x = .iface T u) :
  (execOp a.eval o).run P w = .ok (.enter g (u :: xs.toList.map a.eval).toArray) w := by
 obtain ⟨dst, op, ty, pos, after, guard⟩ := o
 simp only at ho
 subst ho
 have h1 : execOp a.eval ⟨dst, .call { callee := .invoke x name, args := xs, argTypes := ts }, ty, pos, after, guard⟩ = (do let d <- (pure { target := .fn (.method name) #[], args := #[a.eval x] ++ xs.map a.eval } : Sem Deferred); invoke d.target d.args) := rfl
 rw [h1, hx]
 simp only [Sem.run_bind, Sem.run_pure, Result.andThen_ok]
 have h2 : ∀ (A : Array Value), A[0]? = some (Value.iface T u) -> invoke (.fn (.method name) #[]) A = callMethod (Value.iface T u) name (A.extract 1 A.size) := fun A hA => by
  simp only [invoke, hA]
 have h4 : (#[Value.iface T u] ++ xs.map a.eval).extract 1 (#[Value.iface T u] ++ xs.map a.eval).size = xs.map a.eval := by
  apply Array.ext'
  simp [List.extract]
  exact List.take_of_length_le (by simp)
 rw [h2 _ (by rw [Array.getElem?_append_left (by simp)]; rfl), h4]
 have h3 : ∃ n, P.types.size + Made.depth = n + 1 := ⟨P.types.size + 99, rfl⟩
 obtain ⟨n, hn⟩ := h3
 simp only [callMethod, Sem.run_bind, run_program, Result.andThen_ok, hn, (hT T).xY name g hm]
 rw [he]
 congr 2
 apply Array.ext'
 simp
theorem ZJ (hT : bW P E.TI) (hE : mW P E) {o : Oper} {α : Type} {k : Eff -> Option α} {r : α} (h : eff E o s.ev (aA s.ob) k = some r) :
  ∃ e, k e = some r /\ (∀ (β : Type) (k' : Eff -> Option β), eff E o s.ev (aA s.ob) k' = k' e) /\ nJ P c F o (fun s' => s' = s.app o.dst e) s := by
 unfold eff at h ⊢
 cases he : xO E o s.ev (aA s.ob) with
 | some e =>
  rw [he] at h
  simp only at h ⊢
  obtain ⟨hb, h⟩ := FO h
  exact ⟨e, h, fun β k' => by rw [hb]; rfl, iP.EH fun π a w hm => arM hT he hb hm⟩
 | none =>
  rw [he] at h
  simp only at h ⊢
  obtain ⟨dst, op, ty, pos, after, guard⟩ := o
  simp only at h ⊢
  cases op with
  | pick q x y =>
   simp only at h ⊢
   cases hq : s.ev q with
   | dv t b =>
    rw [hq] at h
    cases t with
    | bool =>
     simp only at h ⊢
     have fin : ∀ (z : Operand), (∀ π a w, aF c F π s a w -> (execOp a.eval ⟨dst, .pick q x y, ty, pos, after, guard⟩).run P w = .ok (.value (a.eval z)) w) -> nJ P c F ⟨dst, .pick q x y, ty, pos, after, guard⟩ (fun s' => s' = s.app dst ⟨s.ev z, [], true⟩) s := fun z hz =>
      iP.EH (o := ⟨dst, .pick q x y, ty, pos, after, guard⟩) fun π a w hm => ⟨_, w, π, .inl (hz π a w hm), hm, hm.ev z⟩
     cases b with
     | true =>
      refine ⟨⟨s.ev x, [], true⟩, h, fun β k' => rfl, fin x fun π a w hm => ?_⟩
      have hq' : a.eval q = .bool true := hm.xP hq
      simp [execOp, hq', asBool]
     | false =>
      refine ⟨⟨s.ev y, [], true⟩, h, fun β k' => rfl, fin y fun π a w hm => ?_⟩
      have hq' : a.eval q = .bool false := hm.xP hq
      simp [execOp, hq', asBool]
    | _ => cases h
   | _ => rw [hq] at h; cases h
  | next x is =>
   cases is with
   | false => cases h
   | true =>
   simp only at h ⊢
   cases hq : s.ev x with
   | row id =>
    rw [hq] at h
    simp only at h ⊢
    cases ho : aA s.ob id with
    | none => rw [ho] at h; cases h
    | some o =>
     rw [ho] at h
     cases o with
     | sit l =>
      simp only at h ⊢
      cases l with
      | nil =>
       refine ⟨_, h, fun β k' => rfl, iP.EH (o := ⟨dst, .next x true, ty, pos, after, guard⟩) fun π a w hm => ?_⟩
       have hv := hm.ev x
       rw [hq] at hv
       exact ⟨_, w, π, .inl (dZ (e := Instr.next (a.eval x) true ty) rfl ((ajR hm ho hv ty).1 rfl)), hm, ⟨#[.bool false], rfl, rfl, fun j hj => by
        obtain rfl : j = 0 := by omega
        exact ⟨_, rfl, rfl⟩⟩⟩
      | cons p r =>
       refine ⟨_, h, fun β k' => rfl, iP.EH (o := ⟨dst, .next x true, ty, pos, after, guard⟩) fun π a w hm => ?_⟩
       have hv := hm.ev x
       rw [hq] at hv
       obtain ⟨w', h1, h2⟩ := (ajR hm ho hv ty).2 p r rfl
       exact ⟨_, w', π, .inl (dZ (e := Instr.next (a.eval x) true ty) rfl h1), h2, ⟨_, rfl, rfl, fun j hj => by
        match j, hj with
        | 0, _ => exact ⟨_, rfl, rfl⟩
        | 1, _ => exact ⟨_, rfl, rfl⟩
        | 2, _ => exact ⟨_, rfl, rfl⟩⟩⟩
     | _ => cases h
   | _ => rw [hq] at h; cases h
  | call cl =>
   obtain ⟨callee, args, ats⟩ := cl
   simp only at h ⊢
   cases callee with
   | value x =>
    simp only at h ⊢
    cases hx : s.ev x with
    | fn g k1 n f =>
     rw [hx] at h
     simp only at h ⊢
     let vals : Act -> List Value := fun a => match a.eval x with | .func _ fs cs => fs.toList ++ args.toList.map a.eval ++ cs.toList | _ => []
     have hfn : ∀ (s' : TS) (π : Nat -> Pl) (a : Act) (w : World), s'.sl = s.sl -> aF c F π s' a w -> ∃ fs cs : Array Value, a.eval x = .func (.func g) fs cs /\ fs.size = k1 /\ cs.size = n /\ (∀ j, j < k1 -> ∃ u, fs[j]? = some u /\ VR w (Gz F w π (aA s'.ob)) π (aA s'.ob) (f j) u) /\ ∀ j, j < n -> ∃ u, cs[j]? = some u /\ VR w (Gz F w π (aA s'.ob)) π (aA s'.ob) (f (k1 + j)) u := fun s' π a w hsl hm => by
      have e1 : s'.ev x = s.ev x := by cases x <;> simp only [TS.ev, hsl]
      have := hm.ev x
      rw [e1, hx] at this
      exact this
     refine aa1 (o := ⟨dst, .call { callee := .value x, args := args, argTypes := ats }, ty, pos, after, guard⟩) hE h vals (fun s' π a w hsl hm => ?_) fun s' a w hsl hr he => ?_
     ·obtain ⟨fs, cs, e1, e2, e3, e4, e5⟩ := hfn s' π a w hsl hm
      have BC : vals a = fs.toList ++ args.toList.map a.eval ++ cs.toList := by simp only [vals, e1]
      refine ⟨by rw [BC]; simp [ZU, e2, e3], fun i z v hz hv => ?_⟩
      rw [BC] at hv
      simp only [ZU] at hz
      by_cases h1 : i < k1
      ·rw [List.append_assoc, List.getElem?_append_left (by simpa using h1)] at hz
       rw [List.append_assoc, List.getElem?_append_left (by simp [e2]; omega)] at hv
       obtain ⟨u, a1, a2⟩ := e4 i h1
       rw [Array.getElem?_toList, a1] at hv
       obtain rfl := aB hv
       rw [List.getElem?_map, List.getElem?_range h1] at hz
       simp only [Option.map_some, aO] at hz
       subst hz; exact a2
      ·by_cases h2 : i < k1 + args.size
       ·rw [List.append_assoc, List.getElem?_append_right (by simp; omega), List.getElem?_append_left (by simp; omega)] at hz
        rw [List.append_assoc, List.getElem?_append_right (by simp [e2]; omega), List.getElem?_append_left (by simp [e2]; omega)] at hv
        simp only [List.length_map, List.length_range, List.getElem?_map, Option.map_eq_some_iff] at hz
        simp only [Array.length_toList, e2, List.getElem?_map, Option.map_eq_some_iff] at hv
        obtain ⟨y1, hy1, rfl⟩ := hz
        obtain ⟨y2, hy2, rfl⟩ := hv
        rw [hy1] at hy2; obtain rfl := aB hy2
        have e1 : s'.ev y1 = s.ev y1 := by cases y1 <;> simp only [TS.ev, hsl]
        rw [<- e1]; exact hm.ev y1
       ·rw [List.getElem?_append_right (by simp; omega)] at hz
        rw [List.getElem?_append_right (by simp [e2]; omega)] at hv
        simp only [List.length_append, List.length_map, List.length_range, Array.length_toList] at hz hv
        rw [e2] at hv
        have hlt : i - (k1 + args.size) < n := by
         have := (List.getElem?_eq_some_iff.1 hz).1
         simpa using this
        obtain ⟨u, a1, a2⟩ := e5 _ hlt
        rw [Array.getElem?_toList, a1] at hv
        obtain rfl := aB hv
        rw [List.getElem?_map, List.getElem?_range hlt] at hz
        simp only [Option.map_some, aO] at hz
        subst hz; exact a2
     ·obtain ⟨π, hm⟩ := hr
      obtain ⟨fs, cs, e1, _⟩ := hfn s' π a w hsl hm
      have BC : vals a = fs.toList ++ args.toList.map a.eval ++ cs.toList := by simp only [vals, e1]
      rw [BC]
      exact aCH he rfl a w e1
    | _ => rw [hx] at h; cases h
   | invoke x name =>
    simp only at h ⊢
    cases hx : s.ev x with
    | dv u y =>
     rw [hx] at h
     simp only at h ⊢
     have key : ∀ (u : DT) (y : u.den), KW E (dst.getD 0) name (args.toList.map s.ev) (aA s.ob) k u y = some r ->
       (∀ (s' : TS) (π : Nat -> Pl) (a : Act) (w : World), s'.sl = s.sl -> aF c F π s' a w -> u.cell y 0 w (Gz F w π (aA s'.ob)) (a.eval x)) ->
       ∃ e, k e = some r /\ (∀ (β : Type) (k' : Eff -> Option β), KW E (dst.getD 0) name (args.toList.map s.ev) (aA s.ob) k' u y = k' e) /\ nJ P c F ⟨dst, .call { callee := .invoke x name, args := args, argTypes := ats }, ty, pos, after, guard⟩ (fun s' => s' = s.app dst e) s := by
      intro u
      induction u with
      | dX T t u' _ ih =>
       intro y h hv
       cases y with
       | inr b => exact ih b h hv
       | inl b =>
        simp only [KW, zC] at h ⊢
        split at h
        ·cases h
        rename_i hag
        have hag : t.agg = false := by simpa using hag
        simp only [hag, Bool.false_eq_true, if_false]
        split at h
        ·rename_i g hg
         have hb : ∀ (s' : TS) (π : Nat -> Pl) (a : Act) (w : World), s'.sl = s.sl -> aF c F π s' a w -> ∃ z, a.eval x = .iface T z /\ t.val b w (Gz F w π (aA s'.ob)) z := fun s' π a w e1 e2 => by
          obtain ⟨z, h1, _, h3⟩ := hv s' π a w e1 e2
          exact ⟨z, h1, (DT.val_one hag).2 h3⟩
         let vals : Act -> List Value := fun a => match a.eval x with | .iface _ z => z :: args.toList.map a.eval | _ => []
         refine aa1 (o := ⟨dst, .call { callee := .invoke x name, args := args, argTypes := ats }, ty, pos, after, guard⟩) hE h vals (fun s' π a w hsl hm => ?_) fun s' a w hsl hr he => ?_
         ·obtain ⟨z, e1, e2⟩ := hb s' π a w hsl hm
          have BC : vals a = z :: args.toList.map a.eval := by simp only [vals, e1]
          refine ⟨by rw [BC]; simp, fun i p v hp hv => ?_⟩
          rw [BC] at hv
          cases i with
          | zero => simp at hp hv; subst hp; subst hv; exact e2
          | succ i =>
           simp only [List.getElem?_cons_succ, List.getElem?_map, Option.map_eq_some_iff] at hp hv
           obtain ⟨y1, hy1, rfl⟩ := hp
           obtain ⟨y2, hy2, rfl⟩ := hv
           rw [hy1] at hy2; obtain rfl := aB hy2
           have e1 : s'.ev y1 = s.ev y1 := by cases y1 <;> simp only [TS.ev, hsl]
           rw [<- e1]; exact hm.ev y1
         ·obtain ⟨π, hm⟩ := hr
          obtain ⟨z, e1, _⟩ := hb s' π a w hsl hm
          have BC : vals a = z :: args.toList.map a.eval := by simp only [vals, e1]
          rw [BC]
          exact aCG hT hg he rfl a w e1
        ·cases h
      | _ => intro y h; cases h
     refine key u y h fun s' π a w hsl hm => ?_
     have e1 : s'.ev x = s.ev x := by cases x <;> simp only [TS.ev, hsl]
     have := hm.ev x
     rw [e1, hx] at this
     cases u with
     | dX T t u' => exact (DT.val_one rfl).1 this
     | _ => cases h
    | _ => rw [hx] at h; cases h
   | _ => cases h
  | _ => cases h
end
end
section
inductive Place where
 | slot (i : Nat)
 | fV (id j : Nat)
 deriving DecidableEq
structure Norm where
 keep : List Nat
 xZ : List Nat
 rows : List (Place × Nat × DT)
 dat : List (Nat × DT)
def Place.tv (s : TS) : Place -> TV
 | .slot i => s.sl.getD i .any
 | .fV id j => match aA s.ob id with
  | some (.aP fs) => fs.getD j .any
  | _ => .any
def TO.rm : TO -> Bool
 | .row _ _ => true
 | .map _ _ _ => true
 | .aX _ _ none => true
 | _ => false
def EE : DT -> TO
 | .cZ (.sl u) => .aX u [] none
 | t => .row t []
theorem Td (t : DT) : (∃ u, EE t = .row u []) \/ ∃ u, EE t = .aX u [] none := by
 unfold EE
 split
 ·exact .inr ⟨_, rfl⟩
 ·exact .inl ⟨_, rfl⟩
def Ux (L : aZ) (x : TV) (t : DT) : Option (Option Nat × TO) :=
 match x with
 | .row id => match L id with
  | some (.row t' l) => if t' = t then some (some id, .row t' l) else none
  | some (.map kt vt l) => if t = .cZ (.pair kt vt) then some (some id, .map kt vt l) else none
  | some (.aX u ls none) => if t = .cZ (.sl u) then some (some id, .aX u ls none) else none
  | _ => none
 | .nl => some (none, EE t)
 | _ => none
def IX (s : TS) : List (Place × Nat × DT) -> Option (List (Nat × Option Nat × TO))
 | [] => some []
 | (x, id, t) :: r => match Ux (aA s.ob) (x.tv s) t with
  | some (q, o) => match IX s r with
   | some L => some ((id, q, o) :: L)
   | none => none
  | none => none
theorem ai3 {L : aZ} {x : TV} {t : DT} {q : Option Nat} {o : TO} (h : Ux L x t = some (q, o)) : (∃ id, x = .row id /\ q = some id /\ L id = some o /\ o.rm = true) \/ (x = .nl /\ q = none /\ o = EE t) := by
 unfold Ux at h
 split at h
 ·rename_i id
  split at h
  ·rename_i t' l ho
   split at h
   ·simp only [aO, bF] at h
    obtain ⟨rfl, rfl⟩ := h
    exact .inl ⟨id, rfl, rfl, ho, rfl⟩
   ·cases h
  ·rename_i kt vt l ho
   split at h
   ·simp only [aO, bF] at h
    obtain ⟨rfl, rfl⟩ := h
    exact .inl ⟨id, rfl, rfl, ho, rfl⟩
   ·cases h
  ·rename_i u ls ho
   split at h
   ·simp only [aO, bF] at h
    obtain ⟨rfl, rfl⟩ := h
    exact .inl ⟨id, rfl, rfl, ho, rfl⟩
   ·cases h
  ·cases h
 ·simp only [aO, bF] at h
  obtain ⟨rfl, rfl⟩ := h
  exact .inr ⟨rfl, rfl, rfl⟩
 ·cases h
def newAt (rows : List (Place × Nat × DT)) (p : Place) : Option Nat := (rows.find? fun q => q.1 == p).map (·.2.1)
def rY (nm : Norm) (p : Place) (x : TV) : TV :=
 match newAt nm.rows p with
 | some id => .row id
 | none => if x.CS nm.xZ then x else .any
def uX (nm : Norm) (id : Nat) : Nat -> List TV -> List TV
 | _, [] => []
 | j, x :: r => rY nm (.fV id j) x :: uX nm id (j + 1) r
def adH (mv : Nat -> Option Nat) : TV -> TV
 | .gZ id a b => match mv id with
  | some n => .gZ n a b
  | none => .any
 | _ => .any
def Ej (nm : Norm) (mv : Nat -> Option Nat) (i : Nat) (x : TV) : TV :=
 match newAt nm.rows (.slot i) with
 | some id => .row id
 | none => if nm.keep.contains i && x.CS nm.xZ then x else if nm.keep.contains i then adH mv x else .any
def EG (nm : Norm) (mv : Nat -> Option Nat) : Nat -> List TV -> List TV
 | _, [] => []
 | i, x :: r => Ej nm mv i x :: EG nm mv (i + 1) r
def LK (A : List (Nat × Option Nat × TO)) (id : Nat) : Option Nat :=
 match A with
 | [] => none
 | p :: r => if p.2.1 = some id then some p.1 else LK r id
theorem afJ : ∀ {A : List (Nat × Option Nat × TO)} {id n : Nat}, LK A id = some n -> ∃ p ∈ A, p.1 = n /\ p.2.1 = some id
 | [], id, n, h => by cases h
 | p :: r, id, n, h => by
  simp only [LK] at h
  split at h
  ·rename_i e; obtain rfl := aB h; exact ⟨p, by simp, rfl, e⟩
  ·obtain ⟨q, h1, h2⟩ := afJ h; exact ⟨q, by simp [h1], h2⟩
def GN (s : TS) (nm : Norm) (moved : List Nat) : List Nat -> Option (List (Nat × Option Nat × TO))
 | [] => some []
 | id :: r => match aA s.ob id with
  | some (.aX _ _ (some _)) => none
  | some o => match GN s nm moved r with
   | some L => some ((if moved.contains id then (id, none, .dead) else (id, some id, match o with | .aP fs => .aP (uX nm id 0 fs) | o => o)) :: L)
   | none => none
  | none => none
def Fg (i : Nat) : Bool := 9000 <= i && i < 10000
def tZ (pp : List Nat) (i : Nat) : Bool := Fg i || pp.contains i
def TS.LU (pp : List Nat) (nm : Norm) (s : TS) : Option TS :=
 match IX s nm.rows with
 | some A => match GN s nm (A.filterMap (·.2.1)) nm.xZ with
  | some B => if nodupB ((A ++ B).map (·.1)) && nodupB ((A ++ B).filterMap (·.2.1)) && nm.rows.all (fun p => (match p.1 with | .slot i => decide (i < s.sl.length) | .fV id j => nm.xZ.contains id && !(A.filterMap (·.2.1)).contains id && (match aA s.ob id with | some (.aP fs) => decide (j < fs.length) && decide ((fs.getD j .any).size = 1) && (fs.getD j .any).Eh | _ => false)) && !tZ pp p.2.1) && s.ob.all (fun p => !tZ pp p.1 || nm.xZ.contains p.1)
   then some ⟨EG nm (LK A) 0 s.sl, (A ++ B).map fun p => (p.1, p.2.2)⟩ else none
  | none => none
 | none => none
theorem agR (nm : Norm) (mv : Nat -> Option Nat) : ∀ (l : List TV) (i j : Nat), (EG nm mv i l)[j]? = (l[j]?).map (Ej nm mv (i + j))
 | [], i, j => by simp [EG]
 | x :: r, i, 0 => by simp [EG]
 | x :: r, i, j + 1 => by
  simp only [EG, List.getElem?_cons_succ]
  rw [agR nm mv r (i + 1) j]
  congr 2
  omega
theorem LV (nm : Norm) (id : Nat) : ∀ (l : List TV) (i j : Nat), (uX nm id i l)[j]? = (l[j]?).map (rY nm (.fV id (i + j)))
 | [], i, j => by simp [uX]
 | x :: r, i, 0 => by simp [uX]
 | x :: r, i, j + 1 => by
  simp only [uX, List.getElem?_cons_succ]
  rw [LV nm id r (i + 1) j]
  congr 3
  omega
theorem Ud (nm : Norm) (mv : Nat -> Option Nat) : ∀ (l : List TV) (i : Nat), (EG nm mv i l).length = l.length
 | [], i => rfl
 | x :: r, i => by simp [EG, Ud nm mv r (i + 1)]
theorem QH (nm : Norm) (id : Nat) : ∀ (l : List TV) (i : Nat), (uX nm id i l).length = l.length
 | [], i => rfl
 | x :: r, i => by simp [uX, QH nm id r (i + 1)]
theorem Vf {s : TS} : ∀ {l : List (Place × Nat × DT)} {A : List (Nat × Option Nat × TO)}, IX s l = some A -> ∀ q ∈ l, ∃ o, (q.2.1, (match q.1.tv s with | .row id => some id | _ => none), o) ∈ A /\ ((∃ id, q.1.tv s = .row id /\ aA s.ob id = some o /\ o.rm = true) \/ (q.1.tv s = .nl /\ o = EE q.2.2))
 | [], A, h => by simp
 | (x, id, t) :: r, A, h => by
  simp only [IX] at h
  split at h
  ·rename_i q o hq
   split at h
   ·rename_i L hL
    obtain rfl := aB h
    intro p hp
    rcases List.mem_cons.1 hp with rfl | hp
    ·refine ⟨o, ?_⟩
     rcases ai3 hq with ⟨P6, e0, rfl, e1, e2⟩ | ⟨e0, rfl, e1⟩
     ·exact ⟨by rw [e0]; simp, .inl ⟨P6, e0, e1, e2⟩⟩
     ·exact ⟨by rw [e0]; simp, .inr ⟨e0, e1⟩⟩
    ·obtain ⟨l', h1, h2⟩ := Vf hL p hp
     exact ⟨l', by simp [h1], h2⟩
   ·cases h
  ·cases h
theorem Gt {s : TS} : ∀ {l : List (Place × Nat × DT)} {A : List (Nat × Option Nat × TO)}, IX s l = some A -> ∀ p ∈ A, (∃ q ∈ l, q.2.1 = p.1) /\ ((∃ old, p.2.1 = some old /\ aA s.ob old = some p.2.2 /\ p.2.2.rm = true) \/ (p.2.1 = none /\ ∃ t, p.2.2 = EE t))
 | [], A, h => by simp only [IX, aO] at h; subst h; simp
 | (x, id, t) :: r, A, h => by
  simp only [IX] at h
  split at h
  ·rename_i q o hq
   split at h
   ·rename_i L hL
    obtain rfl := aB h
    intro p hp
    rcases List.mem_cons.1 hp with rfl | hp
    ·refine ⟨⟨(x, id, t), by simp, rfl⟩, ?_⟩
     rcases ai3 hq with ⟨P6, e0, rfl, e1, e2⟩ | ⟨e0, rfl, e1⟩
     ·exact .inl ⟨P6, rfl, e1, e2⟩
     ·exact .inr ⟨rfl, t, e1⟩
    ·obtain ⟨⟨q', h0, h1⟩, h2⟩ := Gt hL p hp
     exact ⟨⟨q', by simp [h0], h1⟩, h2⟩
   ·cases h
  ·cases h
theorem aeK {s : TS} {nm : Norm} {moved : List Nat} : ∀ {l : List Nat} {B : List (Nat × Option Nat × TO)}, GN s nm moved l = some B -> ∀ id ∈ l, ∃ o, aA s.ob id = some o /\ (if moved.contains id then (id, none, TO.dead) else (id, some id, match o with | .aP fs => .aP (uX nm id 0 fs) | o => o)) ∈ B
 | [], B, h => by simp
 | id :: r, B, h => by
  simp only [GN] at h
  split at h
  ·cases h
  ·rename_i o _ ho
   split at h
   ·rename_i L hL
    obtain rfl := aB h
    intro j hj
    rcases List.mem_cons.1 hj with rfl | hj
    ·exact ⟨o, ho, List.mem_cons_self⟩
    ·obtain ⟨o', h1, h2⟩ := aeK hL j hj
     exact ⟨o', h1, List.mem_cons_of_mem _ h2⟩
   ·cases h
  ·cases h
theorem Qg {s : TS} {nm : Norm} {moved : List Nat} : ∀ {l : List Nat} {B : List (Nat × Option Nat × TO)}, GN s nm moved l = some B -> ∀ p ∈ B, p.1 ∈ l /\ ∃ o, aA s.ob p.1 = some o /\ ((moved.contains p.1 = true /\ p.2 = (none, .dead)) \/ (moved.contains p.1 = false /\ p.2 = (some p.1, match o with | .aP fs => .aP (uX nm p.1 0 fs) | o => o))) /\ ∀ t ls p, o ≠ .aX t ls (some p)
 | [], B, h => by simp only [GN, aO] at h; subst h; simp
 | id :: r, B, h => by
  simp only [GN] at h
  split at h
  ·cases h
  ·rename_i o hno ho
   split at h
   ·rename_i L hL
    obtain rfl := aB h
    intro p hp
    rcases List.mem_cons.1 hp with rfl | hp
    ·have hno' : ∀ t ls p, o ≠ .aX t ls (some p) := fun t ls p e => hno t ls p (by rw [e])
     cases hc : moved.contains id with
     | true => exact ⟨by simp, o, by simpa using ho, .inl ⟨by simpa using hc, by simp⟩, hno'⟩
     | false => exact ⟨by simp, o, by simpa using ho, .inr ⟨by simpa using hc, by simp⟩, hno'⟩
    ·obtain ⟨h1, h2⟩ := Qg hL p hp
     exact ⟨by simp [h1], h2⟩
   ·cases h
  ·cases h
def sV : List (Nat × Option Nat × TO) -> Nat -> Option (Option Nat × TO)
 | [], _ => none
 | (i, q) :: r, j => if j = i then some q else sV r j
theorem asO (C : List (Nat × Option Nat × TO)) (i : Nat) : aA (C.map fun p => (p.1, p.2.2)) i = (sV C i).map (·.2) := by
 induction C with
 | nil => rfl
 | cons p r ih =>
  obtain ⟨j, q⟩ := p
  simp only [List.map_cons, aA, sV]
  split
  ·rfl
  ·exact ih
theorem Lm {C : List (Nat × Option Nat × TO)} {i : Nat} {q : Option Nat × TO} (h : sV C i = some q) : (i, q) ∈ C := by
 induction C with
 | nil => cases h
 | cons p r ih =>
  obtain ⟨j, q'⟩ := p
  simp only [sV] at h
  split at h
  ·rename_i e; subst e; obtain rfl := aB h; simp
  ·simp [ih h]
theorem ZO : ∀ {C : List (Nat × Option Nat × TO)}, nodupB (C.map (·.1)) = true -> ∀ {p : Nat × Option Nat × TO}, p ∈ C -> sV C p.1 = some p.2
 | [], _, p, h => by simp at h
 | (j, q) :: r, hn, p, h => by
  simp only [List.map_cons, nodupB, aT, Bool.not_eq_true'] at hn
  rcases List.mem_cons.1 h with rfl | h
  ·simp [sV]
  ·have hne : p.1 ≠ j := fun e => by
    have : (r.map (·.1)).contains j = true := by rw [List.contains_iff_mem]; exact List.mem_map.2 ⟨p, h, e⟩
    rw [this] at hn; simp at hn
   simp only [sV, if_neg hne]
   exact ZO hn.2 h
theorem Ll : ∀ {C : List (Nat × Option Nat × TO)}, nodupB (C.filterMap (·.2.1)) = true -> nodupB (C.map (·.1)) = true -> ∀ {p q : Nat × Option Nat × TO} {old : Nat}, p ∈ C -> q ∈ C -> p.2.1 = some old -> q.2.1 = some old -> p.1 = q.1
 | [], _, _, p, q, old, h, _, _, _ => by simp at h
 | x :: r, hn, hm, p, q, old, hp, hq, e1, e2 => by
  simp only [List.map_cons, nodupB, aT] at hm
  simp only [List.filterMap_cons] at hn
  have cont : ∀ {y : Nat × Option Nat × TO}, y ∈ r -> y.2.1 = some old -> (r.filterMap (·.2.1)).contains old = true := fun hy e => by
   rw [List.contains_iff_mem]; exact List.mem_filterMap.2 ⟨_, hy, e⟩
  cases hx : x.2.1 with
  | none =>
   rw [hx] at hn
   rcases List.mem_cons.1 hp with rfl | hp
   ·rw [hx] at e1; cases e1
   ·rcases List.mem_cons.1 hq with rfl | hq
    ·rw [hx] at e2; cases e2
    ·exact Ll hn hm.2 hp hq e1 e2
  | some z =>
   rw [hx] at hn
   simp only [nodupB, aT, Bool.not_eq_true'] at hn
   rcases List.mem_cons.1 hp with hp' | hp' <;> rcases List.mem_cons.1 hq with hq' | hq'
   ·rw [hp', hq']
   ·rw [hp', hx] at e1; obtain rfl := aB e1
    rw [cont hq' e2] at hn; simp at hn
   ·rw [hq', hx] at e2; obtain rfl := aB e2
    rw [cont hp' e1] at hn; simp at hn
   ·exact Ll hn.2 hm.2 hp' hq' e1 e2
theorem aCO {nm : Norm} {p : Place} {x : TV} (h : newAt nm.rows p = none) : (rY nm p x).size = x.size /\ ∀ o q c, x.gI o q = some c -> x.lH q -> (rY nm p x).gI o q = some c /\ (rY nm p x).lH q := by
 unfold rY
 rw [h]
 simp only
 split
 ·exact ⟨rfl, fun _ _ _ a b => ⟨a, b⟩⟩
 ·rename_i hn
  cases x with
  | dv t y => exact absurd (by simp [TV.CS, TV.ids]) hn
  | _ => exact ⟨rfl, fun _ _ _ a b => ⟨a, b⟩⟩
theorem aC4 {nm : Norm} {p : Place} {x : TV} (h : (rY nm p x).size = x.size) : (rY nm p x).tag = x.tag := by
 unfold rY at h ⊢
 split
 ·rename_i n hn
  rw [hn] at h
  rw [IZ (x := x) (by have : 1 = x.size := h; omega)]; rfl
 ·split
  ·rfl
  ·rename_i hn
   cases x with
   | dv t y => exact absurd (by simp [TV.CS, TV.ids]) hn
   | _ => rfl
theorem aC3 {nm : Norm} {id : Nat} {fs : List TV} (h : ∀ (j : Nat) (x : TV), fs[j]? = some x -> (rY nm (.fV id j) x).size = x.size) : kP (uX nm id 0 fs) = kP fs := by
 unfold kP
 rw [List.getLast?_eq_getElem?, List.getLast?_eq_getElem?, QH, LV, Nat.zero_add]
 cases hx : fs[fs.length - 1]? with
 | none => rfl
 | some x => simp [aC4 (h _ _ hx)]
theorem Sz {rows : List (Place × Nat × DT)} {p : Place} {n : Nat} (h : newAt rows p = some n) : ∃ q ∈ rows, q.1 = p /\ q.2.1 = n := by
 unfold newAt at h
 obtain ⟨q, hq, rfl⟩ := Option.map_eq_some_iff.1 h
 exact ⟨q, List.mem_of_find?_eq_some hq, by simpa using List.find?_some hq, rfl⟩
theorem akP {R : List Nat} {x : TV} (h : x.CS R = true) : x.within (· ∈ R) := by
 simp only [TV.CS, List.all_eq_true, List.contains_iff_mem] at h
 exact TV.Q3 h
section
variable {P : Program} {c : Cx} {F : Nat -> Prop} {s : TS} {π : Nat -> Pl} {a : Act} {w : World}
theorem agQ {pp : List Nat} (dR : ∀ id p, c.pin id = some p -> tZ pp id = true) {nm : Norm} {s' : TS} (h : s.LU pp nm = some s') (hm : aF c F π s a w) : ∃ aI, aF c F aI s' a w := by
 unfold TS.LU at h
 split at h
 ·rename_i A hA
  split at h
  ·rename_i B hB
   split at h
   ·rename_i hcond
    obtain rfl := aB h
    simp only [aT] at hcond
    obtain ⟨⟨⟨n1, n2⟩, n3⟩, n4⟩ := hcond
    simp only [List.all_eq_true, aT, Bool.not_eq_true', Bool.or_eq_true] at n3 n4
    generalize hC : A ++ B = C at n1 n2 ⊢
    let O' := aA (C.map fun p => (p.1, p.2.2))
    have FX : ∀ i, O' i = (sV C i).map (·.2) := asO C
    let aI : Nat -> Pl := fun i => match sV C i with | some (some old, _) => π old | _ => ⟨none, 0, 0, iD⟩
    -- what an entry is
    have hent : ∀ {i : Nat} {q : Option Nat × TO}, sV C i = some q -> ((i, q) ∈ A \/ (i, q) ∈ B) := fun h => by
     have := Lm h
     rw [<- hC] at this
     exact List.mem_append.1 this
    have hsrc : ∀ {i : Nat} {q : Option Nat × TO} {old : Nat}, sV C i = some q -> q.1 = some old -> ∃ o, aA s.ob old = some o /\ (q.2.live = o.live) /\ (∀ t ls p, o ≠ .aX t ls (some p)) /\ ((o.rm = true /\ q.2 = o) \/ (i = old /\ i ∈ nm.xZ /\ q.2 = match o with | .aP fs => .aP (uX nm i 0 fs) | o => o)) := fun {i q old} he hq => by
     rcases hent he with h | h
     ·obtain ⟨_, e2⟩ := Gt hA _ h
      rcases e2 with ⟨old', e3, e4, e5⟩ | ⟨e3, _⟩
      ·simp only at e3 e4 e5
       rw [hq] at e3; obtain rfl := aB e3
       exact ⟨_, e4, rfl, (fun t ls p e => by rw [e] at e5; cases e5), .inl ⟨e5, rfl⟩⟩
      ·simp only at e3; rw [hq] at e3; cases e3
     ·obtain ⟨e0, o, e1, e2, ZN⟩ := Qg hB _ h
      rcases e2 with ⟨_, e3⟩ | ⟨_, e3⟩
      ·simp only at e3; rw [e3] at hq; cases hq
      ·simp only at e3 e1 e0
       rw [e3] at hq
       obtain rfl := aB hq
       exact ⟨o, e1, by rw [e3]; cases o <;> rfl, ZN, .inr ⟨rfl, e0, by rw [e3]⟩⟩
    have hno : ∀ {i : Nat} {q : Option Nat × TO}, sV C i = some q -> q.1 = none -> (∃ t, q.2 = EE t) \/ q.2 = .dead := fun {i q} he hq => by
     rcases hent he with h | h
     ·obtain ⟨_, e2⟩ := Gt hA _ h
      rcases e2 with ⟨old', e3, _⟩ | ⟨_, t, e1⟩
      ·simp only at e3; rw [hq] at e3; cases e3
      ·exact .inl ⟨t, e1⟩
     ·obtain ⟨e0, o, e1, e2, _⟩ := Qg hB _ h
      rcases e2 with ⟨_, e3⟩ | ⟨_, e3⟩
      ·exact .inr (by simp only at e3; rw [e3])
      ·simp only at e3; rw [e3] at hq; cases hq
    have own : ∀ {i g : Nat}, Own aI O' i g -> ∃ old q, sV C i = some q /\ q.1 = some old /\ Own π (aA s.ob) old g := fun {i g} ⟨o1, h2, h1⟩ => by
     rw [FX] at h2
     obtain ⟨q, he, rfl⟩ := Option.map_eq_some_iff.1 h2
     cases hq : q.1 with
     | none =>
      exfalso
      have : aI i = ⟨none, 0, 0, iD⟩ := by simp only [aI, he]; obtain ⟨q1, q2⟩ := q; simp only at hq; subst hq; rfl
      rw [this] at h1
      rcases hno he hq with ⟨t, e⟩ | e
      ·rw [e] at h1
       rcases Td t with ⟨u, e2⟩ | ⟨u, e2⟩ <;> rw [e2] at h1
       ·cases h1.g rfl
       ·rcases h1.2 with h | ⟨k, hk, _⟩
        ·cases h
        ·simp at hk
      ·rw [e] at h1; exact h1.not rfl
     | some old =>
      obtain ⟨o, e1, e2, _, e3⟩ := hsrc he hq
      have : aI i = π old := by simp only [aI, he]; obtain ⟨q1, q2⟩ := q; simp only at hq; subst hq; rfl
      rw [this] at h1
      refine ⟨old, q, he, hq, o, e1, ?_⟩
      rcases e3 with ⟨_, e4⟩ | ⟨_, _, e4⟩
      ·rw [<- e4]; exact h1
      ·rw [e4] at h1
       cases o with
       | aP fs => exact .of (h1.g rfl) rfl
       | _ => exact h1
    have fz : eH w (Gz F w π (aA s.ob)) w (Gz F w aI O') := fun b ⟨h0, h1, h2⟩ => ⟨⟨h0, h1, fun i hi => by
     obtain ⟨old, q, _, _, h3⟩ := own hi
     exact h2 old h3⟩, rfl⟩
    -- kept objects go on
    have hkeep : ∀ id o, id ∈ nm.xZ -> aA s.ob id = some o -> ∃ o', O' id = some o' /\ Step w (Gz F w aI O') (π id) (aI id) o o' := fun id o hid ho => by
     obtain ⟨o1, e1, e2⟩ := aeK hB id hid
     rw [ho] at e1; obtain rfl := aB e1
     have hmem : ∀ {x}, x ∈ B -> x ∈ C := fun h => by rw [<- hC]; exact List.mem_append_right _ h
     have he := ZO n1 (hmem e2)
     by_cases hmv : (A.filterMap (·.2.1)).contains id = true
     ·simp only [hmv, if_true] at he
      exact ⟨.dead, by rw [FX, he]; rfl, by cases o <;> trivial⟩
     ·simp only [hmv, Bool.false_eq_true, if_false] at he
      have hpi : aI id = π id := by simp only [aI, he]
      refine ⟨_, by rw [FX, he]; rfl, ?_⟩
      rw [hpi]
      cases o with
      | aP fs =>
       refine ⟨rfl, QH nm id fs 0, fun j x hx => ?_⟩
       refine ⟨_, by rw [LV, hx]; rfl, ?_⟩
       rw [Nat.zero_add]
       cases hna : newAt nm.rows (.fV id j) with
       | none => exact aCO hna
       | some n =>
        obtain ⟨q, q1, q2, q3⟩ := Sz hna
        have := (n3 q q1).1
        rw [q2] at this
        simp only [aT, Bool.not_eq_true', ho, fE] at this
        have hfd : fs.getD j .any = x := by simp [List.getD, hx]
        rw [hfd] at this
        have hsz : x.size = 1 := this.2.1.2
        have adT := this.2.2
        have : rY nm (.fV id j) x = .row n := by simp only [rY, hna]
        rw [this]
        refine ⟨hsz.symm, fun o p c h1 _ => ?_⟩
        have hp : p = [] /\ c = o := by
         cases x with
         | dv t z =>
          simp only [TV.Eh, Bool.not_eq_true'] at adT
          simp only [TV.gI] at h1
          obtain ⟨L, hL, hc⟩ := Option.map_eq_some_iff.1 h1
          have : p = [] := by
           cases p with
           | nil => rfl
           | cons i p => cases t <;> first | (simp [DT.agg] at adT; done) | simp [DT.at] at hL
          subst this
          rw [DT.at_nil] at hL; obtain rfl := aB hL
          exact ⟨rfl, by simpa using hc.symm⟩
         | _ =>
          simp only [TV.gI] at h1
          cases p with
          | nil => exact ⟨rfl, by simpa using h1.symm⟩
          | cons i p => cases h1
        obtain ⟨rfl, rfl⟩ := hp
        exact ⟨rfl, trivial⟩
      | row t l => exact ⟨rfl, rfl, rfl⟩
      | map kt vt l => rfl
      | iter kt vt l cur => rfl
      | sit l => rfl
      | bV t l => rfl
      | gK kt vt l => rfl
      | aX t ls out => exact ⟨rfl, rfl, rfl, rfl, rfl⟩
      | dead => trivial
    -- rows at places
    have hrow : ∀ {p : Place} {n : Nat} {v : Value}, newAt nm.rows p = some n -> VR w (Gz F w π (aA s.ob)) π (aA s.ob) (p.tv s) v -> VR w (Gz F w aI O') aI O' (.row n) v := fun {p n v} hna hv => by
     obtain ⟨q, q1, rfl, rfl⟩ := Sz hna
     obtain ⟨l', e1, e2⟩ := Vf hA q q1
     have he := ZO n1 (show _ ∈ C from by rw [<- hC]; exact List.mem_append_left _ e1)
     simp only at he
     simp only [VR, FX, he, Option.map_some]
     rcases e2 with ⟨id, e3, e4, e5⟩ | ⟨e3, rfl⟩
     ·rw [e3] at hv he
      simp only [VR, e4] at hv
      simp only [aI, he]
      cases l' <;> first | exact hv | (simp [TO.rm] at e5; done)
     ·rw [e3] at hv he
      have hv' : v = .slice none 0 0 := hv
      rcases Td q.2.2 with ⟨u, e2⟩ | ⟨u, e2⟩
      ·rw [e2] at he ⊢
       simp only [aI, he]
       rw [hv']; rfl
      ·rw [e2] at he ⊢
       simp only [aI, he]
       rw [hv']; rfl
    refine ⟨aI, hm.kept, hm.hF, hm.defers, by rw [Ud]; exact hm.size, fun i x hx => ?_, fun id o ho => ?_, fun i j g hi hj => ?_, fun id g hg => ?_, fun id p o0 hp => ?_, hm.pI.mono fz⟩
    ·rw [agR, Nat.zero_add] at hx
     obtain ⟨y, hy, rfl⟩ := Option.map_eq_some_iff.1 hx
     have hv := hm.slot i y hy
     show VR w (Gz F w aI O') aI O' (Ej nm (LK A) i y) _
     unfold Ej
     cases hna : newAt nm.rows (.slot i) with
     | some n =>
      refine hrow hna ?_
      have : Place.tv s (.slot i) = y := by simp [Place.tv, List.getD, hy]
      rw [this]; exact hv
     | none =>
      simp only
      split
      ·rename_i hk
       simp only [aT] at hk
       exact VR.KG (· ∈ nm.xZ) fz hkeep (akP hk.2) hv
      ·split
       ·cases y with
        | gZ P6 a0 b0 =>
         simp only [adH]
         cases hmo : LK A P6 with
         | none => trivial
         | some n =>
          obtain ⟨pe, p1, rfl, p3⟩ := afJ hmo
          obtain ⟨_, e2⟩ := Gt hA _ p1
          rcases e2 with ⟨old, e3, e4, e5⟩ | ⟨e3, _⟩
          ·rw [p3] at e3; obtain rfl := aB e3
           have he := ZO n1 (show _ ∈ C from by rw [<- hC]; exact List.mem_append_left _ p1)
           simp only [VR, e4] at hv
           obtain ⟨pe1, pe2, pe3⟩ := pe
           simp only at p3 e5 he hv ⊢
           subst p3
           simp only [VR, FX, he, Option.map_some, aI]
           cases pe3 <;> first | exact hv | trivial
          ·rw [p3] at e3; cases e3
        | _ => trivial
       ·trivial
    ·have ho' : O' id = some o := ho
     rw [FX] at ho'
     obtain ⟨q, he, rfl⟩ := Option.map_eq_some_iff.1 ho'
     show OR w (Gz F w aI O') aI O' id q.2
     cases hq : q.1 with
     | none =>
      have hpn : aI id = ⟨none, 0, 0, iD⟩ := by simp only [aI, he]; obtain ⟨q1, q2⟩ := q; simp only at hq; subst hq; rfl
      rcases hno he hq with ⟨t, e⟩ | e
      ·rw [e]
       rcases Td t with ⟨u, e2⟩ | ⟨u, e2⟩ <;> rw [e2]
       ·exact .inl ⟨by rw [hpn], rfl⟩
       ·exact .inl ⟨by rw [hpn], rfl, rfl⟩
      ·rw [e]; trivial
     | some old =>
      obtain ⟨o1, e1, e2, ZN, e3⟩ := hsrc he hq
      have hpi : aI id = π old := by simp only [aI, he]; obtain ⟨q1, q2⟩ := q; simp only at hq; subst hq; rfl
      have hor := hm.obj old o1 e1
      have rowOk : ∀ {t : DT} {l : List t.den}, OR w (Gz F w π (aA s.ob)) π (aA s.ob) old (.row t l) -> OR w (Gz F w aI O') aI O' id (.row t l) := fun {t l} h => by
       simp only [OR] at h ⊢
       rw [hpi]
       rcases h with h | ⟨g, cur, e, h1, h2, h3, h4, h5, h6⟩
       ·exact .inl h
       ·refine .inr ⟨g, cur, e, h1, h2, h3, h4, h5, fun i hi cc hcc => ?_⟩
        obtain ⟨u, b1, b2, b3⟩ := h6 i hi cc hcc
        exact ⟨u, b1, b2, DT.gG fz b3⟩
      have ae6 : ∀ {kt vt : DT} {l : List (kt.den × vt.den)}, OR w (Gz F w π (aA s.ob)) π (aA s.ob) old (.map kt vt l) -> OR w (Gz F w aI O') aI O' id (.map kt vt l) := fun {kt vt l} h => by
       simp only [OR] at h ⊢
       rw [hpi]
       obtain ⟨g, es, ck, h1, h2, h3, h4, h5, h6⟩ := h
       refine ⟨g, es, ck, h1, h2, h3, h4, h5, fun i e he => ?_⟩
       obtain ⟨x, b1, b2, b3⟩ := h6 i e he
       exact ⟨x, b1, DT.gV fz b2, DT.gV fz b3⟩
      have ae7 : ∀ {t : DT} {ls : List (List t.den)}, OR w (Gz F w π (aA s.ob)) π (aA s.ob) old (.aX t ls none) -> OR w (Gz F w aI O') aI O' id (.aX t ls none) := fun {t ls} h => by
       simp only [OR] at h ⊢
       rw [hpi]
       rcases h with h | ⟨g, cur, e, h1, h2, h3, h4, h5, h6⟩
       ·exact .inl h
       ·refine .inr ⟨g, cur, e, h1, h2, h3, h4, h5, ⟨fun i hi => ?_, (fun i r h => by cases h), h6.apart⟩⟩
        obtain ⟨u, b1, b2, b3, _⟩ := h6.cell i hi
        exact ⟨u, b1, b2, fun ho => ⟨(b3 ho).1, (b3 ho).2.move fz fun _ _ => rfl⟩, fun r h => by cases h⟩
      rcases e3 with ⟨erm, e4⟩ | ⟨rfl, hid, e4⟩
      ·rw [e4]
       cases o1 with
       | aX t ls out => cases out with
        | none => exact ae7 hor
        | some p => exact absurd rfl (ZN t ls p)
       | row t l => exact rowOk hor
       | map kt vt l => exact ae6 hor
       | _ => simp [TO.rm] at erm
      ·rw [e4]
       cases o1 with
       | aX t ls out => cases out with
        | none => exact ae7 hor
        | some p => exact absurd rfl (ZN t ls p)
       | row t l => exact rowOk hor
       | map kt vt l => exact ae6 hor
       | iter kt vt l cur =>
        simp only [OR] at hor ⊢
        rw [hpi]
        obtain ⟨r, h1, h2⟩ := hor
        exact ⟨r, h1, h2.mono fz rfl⟩
       | sit l =>
        simp only [OR] at hor ⊢
        rw [hpi]
        exact hor
       | bV t l => trivial
       | gK kt vt l => trivial
       | dead => trivial
       | aP fs =>
        simp only [OR] at hor ⊢
        rw [hpi]
        obtain ⟨g, cur, e, h1, h2, h3⟩ := hor
        have Ph : ∀ j x, fs[j]? = some x -> (rY nm (.fV id j) x).size = x.size := fun j x hx => by
         obtain ⟨o', b1, b2⟩ := hkeep id (.aP fs) hid e1
         rw [FX, he] at b1
         simp only [Option.map_some, aO] at b1
         rw [<- b1, e4] at b2
         obtain ⟨_, _, b3⟩ := b2
         obtain ⟨y, c1, c2, _⟩ := b3 j x hx
         rw [LV, hx, Nat.zero_add] at c1
         simp only [Option.map_some, aO] at c1
         rw [c1]; exact c2
        have Z8 : ∀ j, aK (uX nm id 0 fs) j = aK fs j := Ep (QH nm id fs 0) fun j x hx => ⟨_, by rw [LV, hx]; rfl, by rw [Nat.zero_add]; exact Ph j x hx⟩
        refine ⟨g, cur, e, h1, ⟨h2.1, h2.2.on (aC3 Ph) rfl (by rw [Z8, QH])⟩, fun j x hx cc hcc => ?_⟩
        rw [LV, Nat.zero_add] at hx
        obtain ⟨y, hy, rfl⟩ := Option.map_eq_some_iff.1 hx
        rw [Ph j y hy] at hcc
        obtain ⟨u, b1, b2, b3⟩ := h3 j y hy cc hcc
        refine ⟨u, by rw [Z8]; exact b1, b2, ?_⟩
        show (rY nm (.fV id j) y).kM w (Gz F w aI O') aI O' cc u
        unfold rY
        cases hna : newAt nm.rows (.fV id j) with
        | some n =>
         simp only
         have htv : Place.tv s (.fV id j) = y := by simp [Place.tv, e1, List.getD, hy]
         obtain ⟨q', q1, q2, q3⟩ := Sz hna
         obtain ⟨l', _, e6⟩ := Vf hA q' q1
         rw [q2, htv] at e6
         have fJ : VR w (Gz F w π (aA s.ob)) π (aA s.ob) y u := by
          rcases e6 with ⟨id', rfl, _⟩ | ⟨rfl, _⟩ <;> exact b3
         exact hrow hna (by rw [htv]; exact fJ)
        | none =>
         simp only
         split
         ·rename_i hk
          have hw := akP hk
          cases y with
          | dv t z => exact DT.gG fz b3
          | _ => exact VR.KG (· ∈ nm.xZ) fz hkeep hw b3
         ·trivial
    ·obtain ⟨o1, q1, a1, a2, a3⟩ := own hi
     obtain ⟨o2, q2, b1, b2, b3⟩ := own hj
     have := hm.inj o1 o2 g a3 b3
     subst this
     exact Ll n2 n1 (Lm a1) (Lm b1) a2 b2
    ·obtain ⟨old, q, _, _, h3⟩ := own hg
     exact hm.new old g h3
    ·obtain ⟨o, ho, hl⟩ := hm.pin id p o0 hp
     have hin : id ∈ nm.xZ := by
      rcases n4 (id, o) (uG ho) with h | h
      ·have := dR id _ hp; simp only at h; rw [this] at h; cases h
      ·simpa using h
     obtain ⟨o', h1, h2⟩ := hkeep id o hin ho
     refine ⟨o', h1, fun hlv => ?_⟩
     obtain ⟨h3, h4, h5⟩ := h2.shp hlv (hl (h2.live hlv)).2.LQ.2
     exact ⟨h4.trans (hl h3).1, (hl h3).2.trans h5⟩
   ·cases h
  ·cases h
 ·cases h
theorem aF.adJ (hm : aF c F π s a w) {id g : Nat} {o o' : TO} (ho : aA s.ob id = some o) (hl : o.live = true) (hl' : o'.live = false) (hg : (π id).g = some g) : Gz F w π (aA ((id, o') :: s.ob)) g :=
 ⟨hm.hF g (hm.new id g (.of hg ho hl)).1, (hm.new id g (.of hg ho hl)).2, fun j ⟨o1, h2, h1⟩ => by
  rw [dI] at h2
  by_cases e : j = id
  ·rw [if_pos e] at h2; obtain rfl := aB h2; exact h1.not hl'
  ·rw [if_neg e] at h2
   exact e (hm.inj j id g ⟨o1, h2, h1⟩ (.of hg ho hl))⟩
theorem aF.ai1 (hm : aF c F π s a w) {i : Nat} {x : TV} (hx : VR w (Gz F w π (aA s.ob)) π (aA s.ob) x (a.tmps.getD i undef)) : aF c F π ⟨s.sl.set i x, s.ob⟩ a w :=
 ⟨hm.kept, hm.hF, hm.defers, by simpa using hm.size, fun j y hy => by
  simp only [List.getElem?_set] at hy
  by_cases e : i = j
  ·subst e
   simp only [if_true] at hy
   split at hy
   ·obtain rfl := aB hy; exact hx
   ·cases hy
  ·rw [if_neg e] at hy; exact hm.slot j y hy, hm.obj, hm.inj, hm.new, hm.pin, hm.pI⟩
def cutAt (i : Nat) (s : TS) : TS :=
 match s.sl.getD i .any with
 | .gZ id a b => match aA s.ob id with
  | some (.row t l) => ⟨s.sl.set i (.dv (.sl t) ((l.take b).drop a)), (id, .bV t l) :: s.ob⟩
  | _ => s
 | _ => s
def zJ : DT -> Nat
 | .pair _ b => zJ b + 1
 | _ => 0
def OZ (L : aZ) (t : DT) : Nat -> List TV -> Option (List t.den)
 | 0, fs => match fs with
  | [] => some []
  | _ => none
 | n + 1, fs => match rG L t (fs.take (zJ t)) with
  | some (y, true) => (OZ L t n (fs.drop (zJ t))).map fun l => y :: l
  | _ => none
def KA (i : Nat) (t : DT) (s : TS) : TS :=
 match s.sl.getD i .any with
 | .view id 0 [] k n 0 n' => match aA s.ob id with
  | some (.aP fs) => match OZ (eQ (iH (aA s.ob) (fs.flatMap TV.mV)) (aA s.ob)) t n fs with
   | some l => if k = t.size /\ n' = n then ⟨s.sl.set i (.dv (.sl t) l), (id, .dead) :: (iH (aA s.ob) (fs.flatMap TV.mV) ++ s.ob)⟩ else s
   | none => s
  | _ => s
 | _ => s
def O5 : List (Nat × DT) -> TS -> TS
 | [], s => s
 | (i, .sl t) :: r, s => O5 r (KA i t (cutAt i s))
 | (i, _) :: r, s => O5 r (cutAt i s)
theorem abC (hm : aF c F π s a w) (i : Nat) : aF c F π (cutAt i s) a w := by
 unfold cutAt
 split
 ·rename_i id p q hi
  split
  ·rename_i t l ho
   have hv := hm.IU i
   rw [hi] at hv
   simp only [VR, ho] at hv
   obtain ⟨h1, h2, p0, cp, h3, h4, h5, h6, h7⟩ := hv
   refine aF.ai1 (s := ⟨s.sl, (id, .bV t l) :: s.ob⟩) (hm.freeze ho) ?_
   have hlen : ((l.take q).drop p).length = q - p := by simp; omega
   refine (DT.val_one (t := .sl t) rfl).2 ?_
   show kC (fun _ _ _ => True) t.size ((l.take q).drop p).length _ w _ _
   rw [hlen]
   refine ⟨p0, cp, h3, h4, h5, h6, trivial, fun hn => ?_⟩
   obtain ⟨g, hg, e1⟩ := h7 (by omega)
   have hor := hm.obj id _ ho
   simp only [OR] at hor
   rcases hor with ⟨hn', _⟩ | ⟨g', cur, e, k1, k2, k3, k4, k5, k6⟩
   ·rw [hg] at hn'; cases hn'
   ·rw [hg] at k1; obtain rfl := aB k1
    have FW := hm.adJ (o' := .bV t l) ho rfl rfl hg
    have hz : eH w (Gz F w π (aA s.ob)) w (Gz F w π (aA ((id, .bV t l) :: s.ob))) := fun b hb => ⟨⟨hb.1, hb.2.1, fun j ⟨o1, r2, r3⟩ => by
     rw [dI] at r2
     by_cases e : j = id
     ·rw [if_pos e] at r2; obtain rfl := aB r2; exact r3.not rfl
     ·rw [if_neg e] at r2; exact hb.2.2 j ⟨o1, r2, r3⟩⟩, rfl⟩
    refine ⟨g, _, e1, FW, fun j hj cc hc => ?_⟩
    obtain ⟨u, a1, a2, a3⟩ := k6 (p + j) (by omega) cc hc
    refine ⟨u, ?_, a2, ?_⟩
    ·rw [oZ k2]
     rw [show (π id).q + p * t.size + j * t.size + cc = (π id).q + (p + j) * t.size + cc by rw [Nat.add_mul]; omega]
     exact a1
    ·show t.cell (((l.take q).drop p).getD j t.dflt) cc w _ u
     rw [KP l p q j t.dflt h2 (by omega)]
     exact DT.gG hz a3
  ·exact hm
 ·exact hm
theorem apI {L : aZ} : ∀ {t : DT} {fs : List TV} {y : t.den} {b : Bool}, rG L t fs = some (y, b) -> fs.length = zJ t /\ aK fs (zJ t) = t.size := by
 intro t
 induction t with
 | unit => intro fs y b h; cases fs with
  | nil => exact ⟨rfl, rfl⟩
  | cons x r => simp [rG] at h
 | pair p q ihp ihq =>
  intro fs y b h
  cases fs with
  | nil => simp [rG] at h
  | cons x r =>
   simp only [rG] at h
   split at h
   ·split at h
    ·rename_i hr
     split at h
     ·rename_i hk
      simp only [aT, beq_iff_eq] at hk
      obtain ⟨h1, h2⟩ := ihq hr
      exact ⟨by simp [zJ, h1], by simp only [zJ, aK, DT.size, h2, hk.1]⟩
     ·cases h
    ·cases h
   ·cases h
 | _ => intro fs y b h; cases fs <;> simp [rG] at h
theorem aaN {w : World} {G : Nat -> Prop} {π : Nat -> Pl} {O : aZ} {t : DT} : ∀ {n : Nat} {fs : List TV} {l : List t.den} {cells : Nat -> Option Value}, OZ O t n fs = some l -> (∀ (j : Nat) (x : TV), fs[j]? = some x -> ∀ cc, cc < x.size -> ∃ u, cells (aK fs j + cc) = some u /\ u.oneCell' = true /\ x.kM w G π O cc u) ->
  l.length = n /\ ∀ e, e < n -> ∀ cc, cc < t.size -> ∃ u, cells (e * t.size + cc) = some u /\ u.oneCell' = true /\ t.cell (l.getD e t.dflt) cc w G u
 | 0, fs, l, cells, h, _ => by
  simp only [OZ] at h
  split at h
  ·obtain rfl := aB h; exact ⟨rfl, fun e he => by omega⟩
  ·cases h
 | n + 1, fs, l, cells, h, hc => by
  simp only [OZ] at h
  split at h
  ·rename_i y hy
   obtain ⟨l', hl, rfl⟩ := Option.map_eq_some_iff.1 h
   obtain ⟨s1, s2⟩ := apI hy
   have hlen : zJ t <= fs.length := by rw [List.length_take] at s1; omega
   have hoff : aK fs (zJ t) = t.size := by rw [<- s2, BU _ _ _ (Nat.le_refl _)]
   obtain ⟨r1, r2⟩ := aaN (cells := fun q => cells (t.size + q)) hl fun j x hx cc hcc => by
    rw [List.getElem?_drop] at hx
    obtain ⟨u, a1, a2⟩ := hc (zJ t + j) x hx cc hcc
    refine ⟨u, ?_, a2⟩
    rw [H9 _ _ _ hlen, hoff] at a1
    rw [<- a1]; congr 1; omega
   refine ⟨by simp [r1], fun e he cc hcc => ?_⟩
   cases e with
   | zero =>
    have := aaO (w := w) (G := G) (π := π) (cells := cells) hy rfl (fun j x hx cc hcc => by
     rw [List.getElem?_take] at hx
     split at hx
     ·rename_i hj
      rw [BU _ _ _ (Nat.le_of_lt hj)]
      exact hc j x hx cc hcc
     ·cases hx) cc hcc
    obtain ⟨u, a1, a2, a3⟩ := this
    exact ⟨u, by rw [Nat.zero_mul, Nat.zero_add]; exact a1, a2, a3⟩
   | succ e =>
    obtain ⟨u, a1, a2, a3⟩ := r2 e (by omega) cc hcc
    exact ⟨u, by rw [<- a1]; congr 1; rw [Nat.add_mul]; omega, a2, a3⟩
  ·cases h
theorem aq5 (hm : aF c F π s a w) (i : Nat) (t : DT) : aF c F π (KA i t s) a w := by
 unfold KA
 split
 ·rename_i id k n n' hi
  split
  ·rename_i fs ho
   split
   ·rename_i l hl
    split
    ·rename_i hc
     obtain ⟨rfl, rfl⟩ := hc
     have hm1 := hm.iH (fs.flatMap TV.mV)
     have hlk : aA (iH (aA s.ob) (fs.flatMap TV.mV) ++ s.ob) = eQ (iH (aA s.ob) (fs.flatMap TV.mV)) (aA s.ob) := EN _ _
     have hUn : aA (iH (aA s.ob) (fs.flatMap TV.mV)) id = none := by
      cases h : aA (iH (aA s.ob) (fs.flatMap TV.mV)) id with
      | none => rfl
      | some o =>
       obtain ⟨o0, h1, h2⟩ := PR h
       rw [ho] at h1; obtain rfl := aB h1; cases h2
     generalize iH (aA s.ob) (fs.flatMap TV.mV) = U at hm1 hlk hl hUn ⊢
     have ho1 : aA (U ++ s.ob) id = some (.aP fs) := by
      rw [hlk]; unfold eQ; rw [hUn]; exact ho
     have hv := hm1.IU i
     simp only at hv
     rw [hi] at hv
     simp only [VR, ho1] at hv
     obtain ⟨c0, g, pp, q1, q2, q3, q4, q5, q6, q7, q8⟩ := hv rfl
     simp only [TO.loc, aO] at q1
     subst q1
     obtain ⟨g', cur, e, r1, r2, r3⟩ := hm1.obj id _ ho1
     rw [q3] at r1; obtain rfl := aB r1
     rw [<- hlk] at hl
     obtain ⟨z1, z2⟩ := aaN (w := w) (G := Gz F w π (aA (U ++ s.ob))) (π := π) (cells := fun q => cur[(π id).q + q]?) hl fun j x hx cc hcc => by
      obtain ⟨u, a1, a2⟩ := r3 j x hx cc hcc
      exact ⟨u, by rw [<- a1]; congr 1; omega, a2⟩
     have hm2 : aF c F π ⟨s.sl, (id, .dead) :: (U ++ s.ob)⟩ a w := hm1.dead ho1
     have FW := hm1.adJ (o' := .dead) ho1 rfl rfl q3
     have hz : eH w (Gz F w π (aA (U ++ s.ob))) w (Gz F w π (aA ((id, .dead) :: (U ++ s.ob)))) := adI hm1 ho1
     refine aF.ai1 (s := ⟨s.sl, (id, .dead) :: (U ++ s.ob)⟩) hm2 ((DT.val_one (t := .sl t) rfl).2 ?_)
     show kC (fun _ _ _ => True) t.size l.length _ w _ _
     rw [z1]
     refine ⟨some pp, n', by rw [q7]; simp, Nat.le_refl _, q6, (fun h => by cases h), trivial, fun hn => ?_⟩
     obtain rfl := q8 hn
     refine ⟨g, (π id).q, by simp only [Nat.add_zero, Nat.zero_mul], FW, fun j hj cc hc => ?_⟩
     obtain ⟨u, a1, a2, a3⟩ := z2 j hj cc hc
     refine ⟨u, ?_, a2, DT.gG hz a3⟩
     rw [oZ r2.1, <- a1]
     congr 1
     omega
    ·exact hm
   ·exact hm
  ·exact hm
 ·exact hm
theorem Jo : ∀ {lK : List (Nat × DT)} {s : TS}, aF c F π s a w -> aF c F π (O5 lK s) a w
 | [], s, hm => hm
 | (i, t) :: r, s, hm => by
  cases t <;> first | exact Jo (lK := r) (aq5 (abC hm i) i _) | exact Jo (lK := r) (abC hm i)
def aBC (O : List (Nat × TO)) : List Nat := O.filterMap fun p => match p.2 with
 | .aX _ _ (some _) => some p.1
 | _ => none
def TS.settle (s : TS) : TS :=
 match aBC s.ob with
 | [] => s
 | ids => ⟨s.sl, kZ (aA s.ob) ids ++ s.ob⟩
theorem ajL (hm : aF c F π s a w) : ∃ aI, aF c F aI s.settle a w := by
 unfold TS.settle
 split
 ·exact ⟨π, hm⟩
 ·exact hm.kZ _
def EK : List (Nat × DT) -> TS -> Option (TS × Bool)
 | [], s => some (s, true)
 | (i, t) :: r, s => if t.plain then (match (s.sl.getD i .any).as (aA s.ob) t with
  | some (y, b) => match EK r ⟨s.sl.set i (.dv t y), s.ob⟩ with
   | some (s', b') => some (s', b && b')
   | none => none
  | none => none) else none
def QY (lK : List (Nat × DT)) (s : TS) : Option (TS × Bool) :=
 let s1 := O5 lK s.settle
 EK lK ⟨s1.sl, iH (aA s1.ob) (lK.flatMap fun p => (s1.sl.getD p.1 .any).mV) ++ s1.ob⟩
theorem ajF : ∀ {lK : List (Nat × DT)} {s s' : TS} {b : Bool}, EK lK s = some (s', b) -> b = true -> aF c F π s a w -> aF c F π s' a w
 | [], s, s', b, h, _, hm => by
  simp only [EK, aO, bF] at h
  obtain ⟨rfl, _⟩ := h
  exact hm
 | (i, t) :: r, s, s', b, h, hb, hm => by
  simp only [EK] at h
  split at h
  ·rename_i hp
   split at h
   ·rename_i y b1 hy
    split at h
    ·rename_i s2 b2 hr
     simp only [aO, bF] at h
     obtain ⟨rfl, rfl⟩ := h
     simp only [aT] at hb
     refine ajF hr hb.2 ⟨hm.kept, hm.hF, hm.defers, by simpa using hm.size, fun j x hx => ?_, hm.obj, hm.inj, hm.new, hm.pin, hm.pI⟩
     simp only [List.getElem?_set] at hx
     by_cases e : i = j
     ·subst e
      simp only [if_true] at hx
      split at hx
      ·obtain rfl := aB hx
       exact TV.nV hy hb.1 hp (hm.IU i)
      ·cases hx
     ·rw [if_neg e] at hx; exact hm.slot j x hx
    ·cases h
   ·cases h
  ·cases h
theorem akA {lK : List (Nat × DT)} {s s' : TS} {b : Bool} (h : QY lK s = some (s', b)) (hb : b = true) (hm : aF c F π s a w) : ∃ aI, aF c F aI s' a w := by
 obtain ⟨iE, hm1⟩ := ajL hm
 exact ⟨iE, ajF h hb ((Jo (lK := lK) hm1).iH _)⟩
def TS.Uc (pp : List Nat) (nm : Norm) (s : TS) : Option TS :=
 match nm.dat with
 | [] => s.LU pp nm
 | _ => match QY nm.dat s with
  | some (s0, true) => s0.LU pp nm
  | _ => none
def TS.pR (pp : List Nat) (nm : Norm) (s : TS) : Option TS := s.settle.Uc pp nm
def TS.norm (nm : Norm) (s : TS) : Option TS := s.pR [] nm
theorem agS {pp : List Nat} (dR : ∀ id p, c.pin id = some p -> tZ pp id = true) {nm : Norm} {s' : TS} (h : s.pR pp nm = some s') (hm : aF c F π s a w) : ∃ aI, aF c F aI s' a w := by
 obtain ⟨iE, hm1⟩ := ajL hm
 unfold TS.pR TS.Uc at h
 split at h
 ·exact agQ dR h hm1
 ·split at h
  ·rename_i s0 h0
   obtain ⟨dU, hm2⟩ := akA h0 rfl hm1
   exact agQ dR h hm2
  ·cases h
theorem aF.ext (hm : aF c F π s a w) {x : TV} {v : Value} (hx : VR w (Gz F w π (aA s.ob)) π (aA s.ob) x v) : aF c F π ⟨s.sl ++ [x], s.ob⟩ { a with tmps := a.tmps.push v } w := by
 refine ⟨hm.kept, hm.hF, hm.defers, by simp [hm.size], fun j y hy => ?_, hm.obj, hm.inj, hm.new, hm.pin, hm.pI⟩
 rw [List.getElem?_append] at hy
 split at hy
 ·rename_i hlt
  have hlt' : j < a.tmps.size := by rw [hm.size]; exact hlt
  have e : (a.tmps.push v).getD j undef = a.tmps.getD j undef := by
   simp only [Array.getD_eq_getD_getElem?, Array.getElem?_push]
   rw [if_neg (by omega)]
  rw [e]; exact hm.slot j y hy
 ·rename_i hge
  have e0 : j = s.sl.length := by
   have := (List.getElem?_eq_some_iff.1 hy).1
   simp at this; omega
  subst e0
  simp at hy
  subst hy
  have e : (a.tmps.push v).getD s.sl.length undef = v := by
   simp only [Array.getD_eq_getD_getElem?, Array.getElem?_push, hm.size]
   simp
  rw [e]; exact hx
def EJ (TI : Nat -> TD) (s : TS) : List ResultVar -> Option (List TV)
 | [] => some []
 | .tmp t :: r => (EJ TI s r).map fun l => s.sl.getD t .any :: l
 | .cell t T :: r => match (match (s.sl.getD t .any).ld (TI T) (aA s.ob) with
   | some x => some x
   | none => IY (TI T) (aA s.ob) (s.sl.getD t .any)) with
  | some x => (EJ TI s r).map fun l => x :: l
  | none => none
theorem aCE {P : Program} {T : TypeId} {v v' : Value} {w : World} (h : (Instr.loadAt T v).run P w = .ok v' w) : (do loadVar T (<- asAddr v)).run P w = .ok v' w := by
 cases v with
 | pointer o => cases o with
  | none => simp [Instr.loadAt, Instr.sureAddr] at h
  | some a => exact h
 | _ => simp [Instr.loadAt, Instr.sureAddr] at h
def rdV (P : Program) (tmps : Array Value) (w : World) : ResultVar -> Value -> Prop
 | .tmp t, v => v = tmps.getD t undef
 | .cell t T, v => (do loadVar T (<- asAddr (tmps.getD t undef))).run P w = .ok v w
theorem Us {P : Program} {TI : Nat -> TD} (hT : bW P TI) (hm : aF c F π s a w) : ∀ {rs : List ResultVar} {l : List TV}, EJ TI s rs = some l -> ∃ vs : List Value, vs.length = l.length /\ vs.length = rs.length /\
  (∀ (i : Nat) (r : ResultVar) (v : Value), rs[i]? = some r -> vs[i]? = some v -> rdV P a.tmps w r v) /\ ∀ (i : Nat) (x : TV) (v : Value), l[i]? = some x -> vs[i]? = some v -> VR w (Gz F w π (aA s.ob)) π (aA s.ob) x v
 | [], l, h => by
  simp only [EJ, aO] at h; subst h
  exact ⟨[], rfl, rfl, fun i r v h => by simp at h, fun i x v h => by simp at h⟩
 | .tmp t :: r, l, h => by
  simp only [EJ, Option.map_eq_some_iff] at h
  obtain ⟨l', h1, rfl⟩ := h
  obtain ⟨vs, a1, a2, a3, a4⟩ := Us hT hm h1
  refine ⟨a.tmps.getD t undef :: vs, by simp [a1], by simp [a2], fun i q v hq hv => ?_, fun i x v hx hv => ?_⟩
  ·cases i with
   | zero => obtain rfl := aB hq; obtain rfl := aB hv; rfl
   | succ i => exact a3 i q v (by simpa using hq) (by simpa using hv)
  ·cases i with
   | zero => obtain rfl := aB hx; obtain rfl := aB hv; exact hm.IU t
   | succ i => exact a4 i x v (by simpa using hx) (by simpa using hv)
 | .cell t T :: r, l, h => by
  simp only [EJ] at h
  split at h
  ·rename_i y hy
   simp only [Option.map_eq_some_iff] at h
   obtain ⟨l', h1, rfl⟩ := h
   obtain ⟨vs, a1, a2, a3, a4⟩ := Us hT hm h1
   obtain ⟨v0, b1, b2⟩ : ∃ v', (Instr.loadAt T (a.tmps.getD t undef)).run P w = .ok v' w /\ VR w (Gz F w π (aA s.ob)) π (aA s.ob) y v' := by
    split at hy
    ·rename_i x hx
     obtain rfl := aB hy
     exact TV.aeW (P := P) hT hm hx (hm.IU t)
    ·exact ajV (P := P) hT hm hy (hm.IU t)
   refine ⟨v0 :: vs, by simp [a1], by simp [a2], fun i q v hq hv => ?_, fun i x v hx hv => ?_⟩
   ·cases i with
    | zero => obtain rfl := aB hq; obtain rfl := aB hv; exact aCE b1
    | succ i => exact a3 i q v (by simpa using hq) (by simpa using hv)
   ·cases i with
    | zero => obtain rfl := aB hx; obtain rfl := aB hv; exact b2
    | succ i => exact a4 i x v (by simpa using hx) (by simpa using hv)
  ·cases h
end
end
section
section
variable {P : Program} {c : Cx} {F : Nat -> Prop} {s : TS}
def twin (E : Env) (o : Oper) (s : TS) : Option (TS × TS × Bool) := none
theorem aF2 {E : Env} (hT : bW P E.TI) {o : Oper} {s1 s2 : TS} {b : Bool} (h : twin E o s = some (s1, s2, b)) (hb : b = true) : nJ P c F o (fun s' => s' = s1 \/ s' = s2) s := by cases h
end
end
section
def elz (id : Nat) (p0 : List Nat) (t : DT) (y : t.den) (x : TV) : TV :=
 match x with
 | .ptr i a p => if i = id then (if a = 0 /\ p = p0 then .el t y [] else .any) else x
 | _ => if x.ids.contains id then .any else x
def TO.boxed : TO -> Option ((t : DT) × t.den × List Nat)
 | .aP [.dv t y] => some ⟨t, y, [0]⟩
 | .row t [y] => some ⟨t, y, []⟩
 | _ => none
def TS.Je (pp : List Nat) (id : Nat) (s : TS) : Option TS :=
 match (aA s.ob id).bind TO.boxed with
 | some ⟨t, y, p0⟩ => if !tZ pp id && s.ob.all (fun p => p.1 == id || !p.2.ids.contains id) then some ⟨s.sl.map (elz id p0 t y), s.ob.filter fun p => p.1 != id⟩ else none
 | _ => none
def TS.X7 (pp : List Nat) : List Nat -> TS -> Option TS
 | [], s => some s
 | id :: r, s => match s.Je pp id with
  | some s1 => TS.X7 pp r s1
  | none => none
theorem aj9 (id : Nat) : ∀ (O : List (Nat × TO)) (i : Nat), aA (O.filter fun p => p.1 != id) i = if i = id then none else aA O i
 | [], i => by simp [aA]
 | (j, o) :: r, i => by
  have ih := aj9 id r i
  by_cases hj : j = id
  ·subst hj
   simp only [List.filter_cons, bne_self_eq_false, Bool.false_eq_true, if_false, ih, dI]
   by_cases e : i = j
   ·simp [e]
   ·simp [e]
  ·have : (j != id) = true := by simpa using hj
   simp only [List.filter_cons, this, if_true, dI, ih]
   by_cases e : i = j
   ·subst e; simp [hj]
   ·simp [e]
theorem aGD {id : Nat} : ∀ {x : TV}, (∀ i ∈ x.ids, i ≠ id) -> x.within (· ≠ id) := by
 intro x
 induction x with
 | row i => intro h; exact h i (by simp [TV.ids])
 | gZ i a b => intro h; exact h i (by simp [TV.ids])
 | ptr i a p => intro h; exact h i (by simp [TV.ids])
 | view i a p k n b c => intro h; exact h i (by simp [TV.ids])
 | fn g k n f ih => intro h j hj; exact ih j fun i hi => h i (by simp only [TV.ids, List.mem_flatMap, List.mem_range]; exact ⟨j, hj, hi⟩)
 | cZ n f ih => intro h j hj; exact ih j fun i hi => h i (by simp only [TV.ids, List.mem_flatMap, List.mem_range]; exact ⟨j, hj, hi⟩)
 | st n f ih => intro h j hj; exact ih j fun i hi => h i (by simp only [TV.ids, List.mem_flatMap, List.mem_range]; exact ⟨j, hj, hi⟩)
 | _ => intro _; trivial
theorem azG {l : List Nat} {id : Nat} (h : l.contains id = false) : ∀ i ∈ l, i ≠ id := fun i hi e => by
 subst e
 rw [List.contains_iff_mem.2 hi] at h; cases h
section
variable {c : Cx} {F : Nat -> Prop} {s : TS} {π : Nat -> Pl} {a : Act} {w : World}
theorem TO.ap7 {id : Nat} {o : TO} {t : DT} {y : t.den} {p0 : List Nat} (h : o.boxed = some ⟨t, y, p0⟩) (ho : aA s.ob id = some o) (hm : aF c F π s a w) : o.live = true /\ ∃ g cur e, (π id).g = some g /\ jH w g cur e /\
  (∀ cc, cc < t.size -> ∃ u, cur[(π id).q + cc]? = some u /\ u.oneCell' = true /\ t.cell y cc w (Gz F w π (aA s.ob)) u) /\ ∀ v, VR w (Gz F w π (aA s.ob)) π (aA s.ob) (.ptr id 0 p0) v -> v = .pointer (some ⟨g, (π id).q, none⟩) := by
 unfold TO.boxed at h
 split at h
 ·rename_i t' y'
  simp only [aO, Sigma.mk.injEq] at h
  obtain ⟨rfl, h⟩ := h
  obtain ⟨rfl, rfl⟩ := Prod.mk.inj (eq_of_heq h)
  obtain ⟨g, cur, e, hg, hw, hc⟩ := hm.obj id _ ho
  refine ⟨rfl, g, cur, e, hg, hw.1, fun cc hcc => ?_, fun v hv => ?_⟩
  ·obtain ⟨u, u1, u2, u3⟩ := hc 0 (.dv t' y') rfl cc hcc
   exact ⟨u, by rw [<- u1]; simp [aK], u2, u3⟩
  ·obtain ⟨cc, g1, k1, k2, k3, k4⟩ := (by simpa only [VR, ho] using hv : TO.live (.aP [.dv t' y']) = true -> _) rfl
   have k1' : TV.gI (.dv t' y') (aK [TV.dv t' y'] 0) [] = some cc := k1
   simp only [TV.gI, DT.at_nil, Option.map_some, aK, aO] at k1'
   have hcc : cc = 0 := by have : 0 + 0 = cc := k1'; omega
   rw [hg] at k3; obtain rfl := aB k3
   subst hcc
   exact k4
 ·rename_i t' y'
  simp only [aO, Sigma.mk.injEq] at h
  obtain ⟨rfl, h⟩ := h
  obtain ⟨rfl, rfl⟩ := Prod.mk.inj (eq_of_heq h)
  rcases hm.obj id _ ho with h1 | ⟨g, cur, e, hg, hw, _, _, _, hc⟩
  ·cases h1.2
  refine ⟨rfl, g, cur, e, hg, hw, fun cc hcc => ?_, fun v hv => ?_⟩
  ·obtain ⟨u, u1, u2, u3⟩ := hc 0 (by simp) cc hcc
   exact ⟨u, by rw [<- u1]; simp, u2, u3⟩
  ·obtain ⟨cc, g1, k1, k2, k3, k4⟩ := (by simpa only [VR, ho] using hv : TO.live (.row t' [y']) = true -> _) rfl
   have k1' : (t'.at []).map (fun L => 0 * t'.size + L.off) = some cc := k1
   simp only [DT.at_nil, Option.map_some, aO] at k1'
   have hcc : cc = 0 := by have : 0 * t'.size + 0 = cc := k1'; omega
   rw [hg] at k3; obtain rfl := aB k3
   subst hcc
   exact k4
 ·cases h
theorem ap5 {pp : List Nat} (dR : ∀ id p, c.pin id = some p -> tZ pp id = true) {id : Nat} {s' : TS} (h : s.Je pp id = some s') (hm : aF c F π s a w) : aF c F π s' a w := by
 unfold TS.Je at h
 split at h
 ·rename_i t y p0 ho'
  obtain ⟨o0, ho, hbx⟩ := Option.bind_eq_some_iff.1 ho'
  obtain ⟨hlive, g, cur, e, hg, hw, hc, Oy⟩ := TO.ap7 hbx ho hm
  split at h
  ·rename_i hb
   obtain rfl := aB h
   simp only [aT, Bool.not_eq_true', List.all_eq_true, Bool.or_eq_true, beq_iff_eq] at hb
   obtain ⟨hnp, adQ⟩ := hb
   have hlk := aj9 id s.ob
   have own : ∀ i g, Own π (aA (s.ob.filter fun p => p.1 != id)) i g -> i ≠ id /\ Own π (aA s.ob) i g := fun i g ⟨o, h2, h1⟩ => by
    rw [hlk] at h2
    by_cases e : i = id
    ·rw [if_pos e] at h2; cases h2
    ·rw [if_neg e] at h2; exact ⟨e, o, h2, h1⟩
   have fz : eH w (Gz F w π (aA s.ob)) w (Gz F w π (aA (s.ob.filter fun p => p.1 != id))) := fun b ⟨h0, h1, h2⟩ => ⟨⟨h0, h1, fun i hi => h2 i (own i b hi).2⟩, rfl⟩
   have hob : ∀ i o, i ≠ id -> aA s.ob i = some o -> ∃ o', aA (s.ob.filter fun p => p.1 != id) i = some o' /\ Step w (Gz F w π (aA (s.ob.filter fun p => p.1 != id))) (π i) (π i) o o' := fun i o hi ho' => ⟨o, by rw [hlk, if_neg hi]; exact ho', Step.refl o⟩
   have keep : ∀ {x : TV} {v : Value}, x.ids.contains id = false -> VR w (Gz F w π (aA s.ob)) π (aA s.ob) x v -> VR w (Gz F w π (aA (s.ob.filter fun p => p.1 != id))) π (aA (s.ob.filter fun p => p.1 != id)) x v := fun {x v} hx hv =>
    VR.KG (· ≠ id) fz hob (aGD (azG hx)) hv
   -- the box
   have hown : Own π (aA s.ob) id g := .of hg ho hlive
   have FW : Gz F w π (aA (s.ob.filter fun p => p.1 != id)) g := ⟨hm.hF g (hm.new id g hown).1, (hm.new id g hown).2, fun i hi => by
    obtain ⟨h1, h2⟩ := own i g hi
    exact h1 (hm.inj i id g h2 hown)⟩
   refine ⟨hm.kept, hm.hF, hm.defers, by simpa using hm.size, fun i x hx => ?_, fun i o hi => ?_, fun i j g' hi hj => hm.inj i j g' (own i g' hi).2 (own j g' hj).2, fun i g' hi => hm.new i g' (own i g' hi).2, fun i p o0 hp => ?_, hm.pI.mono fz⟩
   ·simp only [List.getElem?_map, Option.map_eq_some_iff] at hx
    obtain ⟨x0, hx0, rfl⟩ := hx
    have hv := hm.slot i x0 hx0
    have gen : ∀ {x0 : TV}, VR w (Gz F w π (aA s.ob)) π (aA s.ob) x0 (a.tmps.getD i undef) -> VR w (Gz F w π (aA (s.ob.filter fun p => p.1 != id))) π (aA (s.ob.filter fun p => p.1 != id)) (if x0.ids.contains id then .any else x0) (a.tmps.getD i undef) := fun {x0} hv => by
     cases hc' : x0.ids.contains id with
     | true => simp only [if_true]; trivial
     | false => simp only [Bool.false_eq_true, if_false]; exact keep hc' hv
    cases x0 with
    | ptr i1 a1 p1 =>
     simp only [elz]
     by_cases e1 : i1 = id
     ·rw [if_pos e1]
      subst e1
      split
      ·-- the pointer to the box
       rename_i hap
       obtain ⟨rfl, rfl⟩ := hap
       refine ⟨g, (π i1).q, _, DT.at_nil t, DT.uS t, Oy _ hv, FW, fun cix avF => ?_⟩
       obtain ⟨u, u1, u2, u3⟩ := hc cix avF
       refine ⟨u, ?_, u2, DT.gG fz u3⟩
       rw [oZ hw, <- u1]
      ·trivial
     ·rw [if_neg e1]
      exact keep (by simp only [TV.ids, List.contains_cons, List.contains_nil, Bool.or_false, beq_eq_false_iff_ne]; exact fun q => e1 q.symm) hv
    | _ => exact gen hv
   ·rw [hlk] at hi
    by_cases e1 : i = id
    ·rw [if_pos e1] at hi; cases hi
    ·rw [if_neg e1] at hi
     have h1 := hm.obj i o hi
     cases o with
     | row t' l =>
      rcases h1 with h1 | ⟨g1, O4, e2, a1, a2, a3, a4, a5, a6⟩
      ·exact .inl h1
      ·refine .inr ⟨g1, O4, e2, a1, a2, a3, a4, a5, fun j hj cc hcc => ?_⟩
       obtain ⟨u, b1, b2, b3⟩ := a6 j hj cc hcc
       exact ⟨u, b1, b2, DT.gG fz b3⟩
     | aP fs =>
      obtain ⟨g1, O4, e2, a1, a2, a3⟩ := h1
      refine ⟨g1, O4, e2, a1, a2, fun j x hx cc hcc => ?_⟩
      obtain ⟨u, b1, b2, b3⟩ := a3 j x hx cc hcc
      refine ⟨u, b1, b2, ?_⟩
      have hmem : (i, TO.aP fs) ∈ s.ob := uG hi
      have hn : (TO.aP fs).ids.contains id = false := by
       rcases adQ (i, .aP fs) hmem with h | h
       ·exact absurd h e1
       ·simpa using h
      have Z9 : x.ids.contains id = false := by
       cases hc' : x.ids.contains id with
       | false => rfl
       | true =>
        exfalso
        have : (TO.aP fs).ids.contains id = true := by
         simp only [List.contains_iff_mem, TO.ids, List.mem_flatMap]
         exact ⟨x, List.mem_of_getElem? hx, List.contains_iff_mem.1 hc'⟩
        rw [hn] at this; cases this
      cases x with
      | dv t' y' => exact DT.gG fz b3
      | _ => exact keep Z9 b3
     | map kt vt l =>
      obtain ⟨g1, es, ck, a1, a2, a3, a4, a5, a6⟩ := h1
      refine ⟨g1, es, ck, a1, a2, a3, a4, a5, fun j e2 he => ?_⟩
      obtain ⟨x, b1, b2, b3⟩ := a6 j e2 he
      exact ⟨x, b1, DT.gV fz b2, DT.gV fz b3⟩
     | iter kt vt l cur =>
      obtain ⟨r, a1, a2⟩ := h1
      exact ⟨r, a1, a2.mono fz rfl⟩
     | sit l => exact h1
     | aX t' ls out =>
      have hmem : (i, TO.aX t' ls out) ∈ s.ob := uG hi
      have hn : (TO.aX t' ls out).ids.contains id = false := by
       rcases adQ (i, .aX t' ls out) hmem with h | h
       ·exact absurd h e1
       ·simpa using h
      have hrn : ∀ k r, out = some (k, r) -> r ≠ id := fun k r hr e2 => by
       subst hr; subst e2
       simp [TO.ids] at hn
      rcases h1 with h1 | ⟨g1, O4, e2, a1, a2, a3, a4, a5, a6⟩
      ·exact .inl h1
      ·refine .inr ⟨g1, O4, e2, a1, a2, a3, a4, a5, ⟨fun j hj => ?_, fun j r hr => ?_, a6.apart⟩⟩
       ·obtain ⟨u, b1, b2, b3, b4⟩ := a6.cell j hj
        refine ⟨u, b1, b2, fun ho => ⟨(b3 ho).1, (b3 ho).2.move fz fun _ _ => rfl⟩, fun r hr => ?_⟩
        obtain ⟨o', c1, c2⟩ := b4 r hr
        exact ⟨o', by rw [hlk, if_neg (hrn j r hr)]; exact c1, c2⟩
       ·obtain ⟨q1, o', q2, q3⟩ := a6.LW j r hr
        exact ⟨q1, o', by rw [hlk, if_neg (hrn j r hr)]; exact q2, q3⟩
     | bV t' l => trivial
     | gK kt vt l => trivial
     | dead => trivial
   ·obtain ⟨o, h1, h2⟩ := hm.pin i p o0 hp
    have hi : i ≠ id := fun e1 => by
     subst e1
     rw [dR i _ hp] at hnp; cases hnp
    exact ⟨o, by rw [hlk, if_neg hi]; exact h1, h2⟩
  ·cases h
 ·cases h
theorem aaX {pp : List Nat} (dR : ∀ id p, c.pin id = some p -> tZ pp id = true) : ∀ {ids : List Nat} {s s' : TS}, s.X7 pp ids = some s' -> aF c F π s a w -> aF c F π s' a w
 | [], s, s', h, hm => by
  obtain rfl := aB h; exact hm
 | id :: r, s, s', h, hm => by
  simp only [TS.X7] at h
  split at h
  ·rename_i s1 h1; exact aaX dR h (ap5 dR h1 hm)
  ·cases h
end
end
end Go.Proofs.YtfopcfnggdonkaaGreatDoor
