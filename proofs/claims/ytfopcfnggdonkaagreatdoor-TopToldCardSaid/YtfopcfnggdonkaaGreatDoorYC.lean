/-
 Lifting Go functions to plain Lean functions, parts Mm Mn Mo N O P Pa Pz.
-/
import Derived.Test.YtfopcfnggdonkaaGreatDoorYB
namespace Go.Proofs.YtfopcfnggdonkaaGreatDoor
open Go.RowKit
set_option linter.unusedVariables false
section
section
variable {P : Program} {c : Cx} {F : Nat -> Prop} {s : TS} {π : Nat -> Pl} {a : Act} {w : World}
theorem KJ (U O : List (Nat × TO)) (i : Nat) : aA (U ++ O) i = match aA U i with
  | some o => some o
  | none => aA O i := by
 induction U with
 | nil => rfl
 | cons p r ih =>
  obtain ⟨j, o⟩ := p
  simp only [List.cons_append, aA]
  by_cases h : i = j
  ·rw [if_pos h, if_pos h]
  ·rw [if_neg h, if_neg h]; exact ih
theorem aI.Js (hm : aI c F π s a w) {w' : World} {aJ : Nat -> Pl} {U : List (Nat × TO)} (h1 : ∀ i, aA U i = none -> aJ i = π i)
  (h2 : ∀ i o o', aA s.ob i = some o -> aA U i = some o' -> ∀ G', Step w' G' (π i) (aJ i) o o')
  (h3 : ∀ i b, Own aJ (aA U) i b -> (∃ j o', aA U j = some o' /\ Own π (aA s.ob) j b) \/ (w.heap.size <= b /\ b < w'.heap.size))
  (h4 : ∀ i j b, Own aJ (aA U) i b -> Own aJ (aA U) j b -> i = j)
  (h5 : ∀ b, b < w.heap.size -> (∀ j o', aA U j = some o' -> ¬ Own π (aA s.ob) j b) -> w'.heap[b]? = w.heap[b]?)
  (h6 : w.heap.size <= w'.heap.size) (hos : w'.os = w.os /\ w'.tape = w.tape /\ w'.output = w.output)
  (h7 : gK w (Gz F w π (aA s.ob)) π (aA s.ob) w' (Gz F w' aJ (aA (U ++ s.ob))) aJ (aA (U ++ s.ob)) -> ∀ i o, aA U i = some o -> OR w' (Gz F w' aJ (aA (U ++ s.ob))) aJ (aA (U ++ s.ob)) i o) : aI c F aJ ⟨s.sl, U ++ s.ob⟩ a w' := by
 have own : ∀ i b, Own aJ (aA (U ++ s.ob)) i b -> (Own aJ (aA U) i b) \/ (aA U i = none /\ Own π (aA s.ob) i b) := fun i b ⟨o, q1, q2⟩ => by
  rw [KJ] at q1
  cases hu : aA U i with
  | some o' => rw [hu] at q1; obtain rfl := aC q1; exact .inl ⟨o', hu, q2⟩
  | none => rw [hu] at q1; rw [h1 i hu] at q2; exact .inr ⟨rfl, o, q1, q2⟩
 have fz : fG w (Gz F w π (aA s.ob)) w' (Gz F w' aJ (aA (U ++ s.ob))) := fun b ⟨r0, r1, r2⟩ => by
  refine ⟨⟨r0, Nat.lt_of_lt_of_le r1 h6, fun i hi => ?_⟩, h5 b r1 fun j _ _ => r2 j⟩
  rcases own i b hi with q | ⟨_, q⟩
  ·rcases h3 i b q with ⟨j, _, _, q⟩ | q
   ·exact r2 j q
   ·omega
  ·exact r2 i q
 have E : gK w (Gz F w π (aA s.ob)) π (aA s.ob) w' (Gz F w' aJ (aA (U ++ s.ob))) aJ (aA (U ++ s.ob)) := ⟨fz, fun i o ho => by
  cases hu : aA U i with
  | some o' => exact ⟨o', by rw [KJ, hu], h2 i o o' ho hu _⟩
  | none => exact ⟨o, by rw [KJ, hu]; exact ho, by rw [h1 i hu]; exact Step.refl o⟩⟩
 have Ye : ∀ i b, aA U i = none -> Own π (aA s.ob) i b -> ∀ j o', aA U j = some o' -> ¬ Own π (aA s.ob) j b := fun i b hu hi j o' hj hj' => by
  have := hm.inj i j b hi hj'
  subst this; rw [hu] at hj; cases hj
 refine hm.go (hm.kept.on hos h6 fun b hb => h5 b (hm.kept.lt hb) fun j _ _ hj => (hm.new j b hj).1 hb) E (fun i o ho => ?_) (fun i j b hi hj => ?_) (fun i b hi => ?_)
 ·rw [KJ] at ho
  cases hu : aA U i with
  | some o' => rw [hu] at ho; obtain rfl := aC ho; exact h7 E i o' hu
  | none => rw [hu] at ho; exact (hm.obj i o ho).lY E (h1 i hu) fun b hb => h5 b (hm.new i b ⟨o, ho, hb⟩).2 (Ye i b hu ⟨o, ho, hb⟩)
 ·rcases own i b hi with q | ⟨q0, q⟩ <;> rcases own j b hj with r | ⟨r0, r⟩
  ·exact h4 i j b q r
  ·rcases h3 i b q with ⟨k, o', k1, k2⟩ | ⟨k1, _⟩
   ·exact absurd k2 (Ye j b r0 r k o' k1)
   ·have := (hm.new j b r).2; omega
  ·rcases h3 j b r with ⟨k, o', k1, k2⟩ | ⟨k1, _⟩
   ·exact absurd k2 (Ye i b q0 q k o' k1)
   ·have := (hm.new i b q).2; omega
  ·exact hm.inj i j b q r
 ·rcases own i b hi with q | ⟨_, q⟩
  ·rcases h3 i b q with ⟨k, _, _, k2⟩ | ⟨k1, k2⟩
   ·exact ⟨(hm.new k b k2).1, Nat.lt_of_lt_of_le (hm.new k b k2).2 h6⟩
   ·exact ⟨fun hb => by have := hm.kept.lt hb; omega, k2⟩
  ·exact ⟨(hm.new i b q).1, Nat.lt_of_lt_of_le (hm.new i b q).2 h6⟩
theorem qJ.slice {G G' : Nat -> Prop} {p : Pl} {t : DT} {l : List t.den} (h : qJ w G p t l) (hz : fG w G w G') (hg : ∀ g, p.g = some g -> G' g) : (DT.sl t).cell l 0 w G' (p.hdr l.length) := by
 rcases h with ⟨h1, rfl⟩ | ⟨g, cur, e, h1, h2, h3, h4, h5, h6⟩
 ·simp only [Pl.hdr, h1]
  exact ⟨none, 0, rfl, Nat.le_refl _, by simp [maxLen], fun _ => rfl, trivial, fun h => by simp at h⟩
 ·simp only [Pl.hdr, h1]
  refine ⟨_, _, rfl, h3, h4, (fun h => by cases h), trivial, fun _ => ⟨g, _, rfl, hg g h1, fun i hi c hc => ?_⟩⟩
  obtain ⟨u, a1, a2, a3⟩ := h6 i hi c hc
  exact ⟨u, by rw [tH h2]; exact a1, a2, DT.iE hz a3⟩
theorem OR.agR {G G' : Nat -> Prop} {O : bF} {id : Nat} {t : DT} {ls : List (List t.den)} (h : OR w G π O id (.bD t ls none)) (hz : fG w G w G') (hg : ∀ b, o9 (π id) (.bD t ls none) b -> G' b) : (DT.sl (.sl t)).cell ls 0 w G' ((π id).hdr ls.length) := by
 rcases h with ⟨h1, rfl, _⟩ | ⟨g, cur, e, h1, h2, h3, h4, h5, h6⟩
 ·simp only [Pl.hdr, h1]
  exact ⟨none, 0, rfl, Nat.le_refl _, by simp [maxLen], fun _ => rfl, trivial, fun h => by simp at h⟩
 ·simp only [Pl.hdr, h1]
  refine ⟨_, _, rfl, h3, h4, (fun h => by cases h), trivial, fun _ => ⟨g, _, rfl, hg g (.of h1 rfl), fun i hi c hc => ?_⟩⟩
  obtain rfl : c = 0 := by simp only [DT.size] at hc; omega
  obtain ⟨u, a1, a2, a3, _⟩ := h6.cell i hi
  obtain ⟨b1, b2⟩ := a3 fun r h => by cases h
  refine ⟨u, by rw [tH h2]; simp only [DT.size, Nat.mul_one, Nat.add_zero]; exact a1, a2, ?_⟩
  rw [b1]
  exact b2.slice hz fun b hb => hg b ⟨rfl, .inr ⟨i, hi, (fun r h => by cases h), hb⟩⟩
theorem aI.au8 (h : aI c F π s a w) {d : Nat} {t : DT} {ls : List (List t.den)} (hd : aA s.ob d = some (.bD t ls none)) : aI c F π ⟨s.sl, (d, .dG (.sl t) ls) :: s.ob⟩ a w :=
 h.kill hd rfl fun G' hg hz => ⟨rfl, (h.obj d _ hd).agR hz hg⟩
theorem qJ.pl {G : Nat -> Prop} {p : Pl} {t : DT} {l : List t.den} : qJ w G p.jB.pl t l ↔ qJ w G p t l := Iff.rfl
theorem ae2 {α : Type} (l : List α) (i j : Nat) (x d : α) (hi : i < l.length) : (l.set i x).getD j d = if j = i then x else l.getD j d := by
 by_cases h : j = i
 ·subst h; rw [if_pos rfl]; exact Rw l j x d hi
 ·rw [if_neg h]; exact getD_set_ne l i j x d (fun e => h e.symm)
theorem aI.take (hm : aI c F π s a w) {id d i : Nat} {t : DT} {ls : List (List t.den)} (ho : aA s.ob id = some (.bD t ls none)) (hd : aA s.ob d = none) (hi : i < ls.length) :
  ∃ g u, (π id).g = some g /\ w.cell? ⟨g, (π id).q + i, none⟩ = some u /\ aI c F (aW π d ((π id).sub i).pl) ⟨s.sl, [(d, .row t (ls.getD i [])), (id, .bD t ls (some (i, d)))] ++ s.ob⟩ a w /\ u = (aW π d ((π id).sub i).pl d).hdr (ls.getD i []).length := by
 have hne : d ≠ id := fun e => by subst e; rw [hd] at ho; cases ho
 have hor := hm.obj id _ ho
 rcases hor with ⟨_, e, _⟩ | ⟨g, cur, e, h1, h2, h3, h4, h5, h6⟩
 ·rw [e] at hi; simp at hi
 have qA : ∀ k r, (none : Option (Nat × Nat)) ≠ some (k, r) := fun k r h => by cases h
 obtain ⟨u, a1, a2, a3, _⟩ := h6.cell i hi
 obtain ⟨a3, a4⟩ := a3 (qA i)
 have JE : aW π d ((π id).sub i).pl d = ((π id).sub i).pl := by simp [aW]
 have zG : aW π d ((π id).sub i).pl id = π id := by simp only [aW, if_neg (Ne.symm hne)]
 refine ⟨g, u, h1, by rw [tH h2]; exact a1, ?_, by rw [JE]; exact a3⟩
 have UM : aA [(d, TO.row t (ls.getD i [])), (id, .bD t ls (some (i, d)))] d = some (.row t (ls.getD i [])) := by simp [aA]
 have GH : aA [(d, TO.row t (ls.getD i [])), (id, .bD t ls (some (i, d)))] id = some (.bD t ls (some (i, d))) := by simp [aA, Ne.symm hne]
 have lk : ∀ {j o}, aA [(d, TO.row t (ls.getD i [])), (id, .bD t ls (some (i, d)))] j = some o -> (j = d /\ o = .row t (ls.getD i [])) \/ (j = id /\ j ≠ d /\ o = .bD t ls (some (i, d))) := fun {j o} h => by
  simp only [aA] at h
  by_cases e1 : j = d
  ·rw [if_pos e1] at h; exact .inl ⟨e1, (aC h).symm⟩
  ·rw [if_neg e1] at h
   by_cases e2 : j = id
   ·rw [if_pos e2] at h; exact .inr ⟨e2, e1, (aC h).symm⟩
   ·rw [if_neg e2] at h; cases h
 -- whose blocks
 have own : ∀ {j b}, Own (aW π d ((π id).sub i).pl) (aA [(d, TO.row t (ls.getD i [])), (id, .bD t ls (some (i, d)))]) j b -> (j = d /\ ((π id).sub i).g = some b) \/ (j = id /\ ((π id).g = some b \/ ∃ k, k < ls.length /\ k ≠ i /\ ((π id).sub k).g = some b)) := fun {j b} ⟨o, q1, q2⟩ => by
  rcases lk q1 with ⟨rfl, rfl⟩ | ⟨rfl, _, rfl⟩
  ·rw [JE] at q2; exact .inl ⟨rfl, q2.g rfl⟩
  ·rw [zG] at q2
   rcases q2.2 with q | ⟨k, k1, k2, k3⟩
   ·exact .inr ⟨rfl, .inl q⟩
   ·exact .inr ⟨rfl, .inr ⟨k, k1, fun e => k2 d (by rw [e]), k3⟩⟩
 have old : ∀ {j b}, Own (aW π d ((π id).sub i).pl) (aA [(d, TO.row t (ls.getD i [])), (id, .bD t ls (some (i, d)))]) j b -> Own π (aA s.ob) id b := fun {j b} h => by
  rcases own h with ⟨_, q⟩ | ⟨_, q | ⟨k, k1, _, k3⟩⟩
  ·exact ⟨_, ho, rfl, .inr ⟨i, hi, qA i, q⟩⟩
  ·exact ⟨_, ho, rfl, .inl q⟩
  ·exact ⟨_, ho, rfl, .inr ⟨k, k1, qA k, k3⟩⟩
 refine hm.Js (fun j hj => ?_) (fun j o o' h7 h8 G' => ?_) (fun j b h => .inl ⟨id, _, GH, old h⟩) (fun j k b hj hk => ?_) (fun b _ _ => rfl) (Nat.le_refl _) ⟨rfl, rfl, rfl⟩ (fun E j o hj => ?_)
 ·have : j ≠ d := fun e => by subst e; rw [UM] at hj; cases hj
  simp only [aW, if_neg this]
 ·rcases lk h8 with ⟨rfl, rfl⟩ | ⟨rfl, _, rfl⟩
  ·rw [hd] at h7; cases h7
  ·rw [ho] at h7; obtain rfl := aC h7
   rw [zG]; exact ⟨rfl, rfl, rfl, rfl, rfl⟩
 ·have key : ∀ {b}, ((π id).sub i).g = some b -> ((π id).g = some b \/ ∃ k, k < ls.length /\ k ≠ i /\ ((π id).sub k).g = some b) -> False := fun {b} q1 q2 => by
   obtain ⟨r1, r2⟩ := h6.apart i b hi (qA i) q1
   rcases q2 with q2 | ⟨k, k1, k2, k3⟩
   ·rw [h1] at q2; exact r1 (aC q2).symm
   ·exact k2 (r2 k k1 (qA k) k3)
  rcases own hj with ⟨q1, q2⟩ | ⟨q1, q2⟩ <;> rcases own hk with ⟨r1, r2⟩ | ⟨r1, r2⟩
  ·rw [q1, r1]
  ·exact (key q2 r2).elim
  ·exact (key r2 q2).elim
  ·rw [q1, r1]
 ·rcases lk hj with ⟨rfl, rfl⟩ | ⟨rfl, _, rfl⟩
  ·refine XR.2 ?_
   rw [JE]; exact a4.move E.fz fun _ _ => rfl
  ·simp only [OR]
   rw [zG]
   refine .inr ⟨g, cur, e, h1, h2, h3, h4, h5, ⟨fun k hk => ?_, fun k r hr => ?_, fun k b hk hn hg => ?_⟩⟩
   ·obtain ⟨z, b1, b2, b3, _⟩ := h6.cell k hk
    obtain ⟨b3, b4⟩ := b3 (qA k)
    refine ⟨z, b1, b2, fun _ => ⟨b3, b4.move E.fz fun _ _ => rfl⟩, fun r hr => ?_⟩
    simp only [aS, bJ] at hr
    obtain ⟨rfl, rfl⟩ := hr
    refine ⟨_, by rw [KJ, UM], fun t' l' he => ?_⟩
    injection he with e1 e2
    subst e1
    obtain rfl := eq_of_heq e2
    exact ⟨rfl, by rw [JE]; exact b3⟩
   ·simp only [aS, bJ] at hr
    obtain ⟨rfl, rfl⟩ := hr
    exact ⟨hi, _, by rw [KJ, UM], rfl⟩
   ·obtain ⟨r1, r2⟩ := h6.apart k b hk (qA k) hg
    exact ⟨r1, fun j hj' _ hgj => r2 j hj' (qA j) hgj⟩
theorem aI.settle (hm : aI c F π s a w) {id j r : Nat} {t : DT} {ls : List (List t.den)} {l : List t.den} (ho : aA s.ob id = some (.bD t ls (some (j, r)))) (hr : aA s.ob r = some (.row t l)) :
  aI c F (aW π id ⟨(π id).g, (π id).q, (π id).cap, fun k => if k = j then (π r).jB else (π id).sub k⟩) ⟨s.sl, [(id, .bD t (ls.set j l) none), (r, .dead)] ++ s.ob⟩ a w := by
 have hne : r ≠ id := fun e => by subst e; rw [hr] at ho; cases ho
 have hor := hm.obj id _ ho
 rcases hor with ⟨_, _, e⟩ | ⟨g, cur, e, h1, h2, h3, h4, h5, h6⟩
 ·cases e
 obtain ⟨hj, _⟩ := h6.OI j r rfl
 have qA : ∀ k, k ≠ j -> ∀ r', (some (j, r) : Option (Nat × Nat)) ≠ some (k, r') := fun k hk r' h => by
  simp only [aS, bJ] at h; exact hk h.1.symm
 have nil : ∀ k r', (none : Option (Nat × Nat)) ≠ some (k, r') := fun k r h => by cases h
 obtain ⟨u, a1, a2, _, a4⟩ := h6.cell j hj
 obtain ⟨o, a5, a6⟩ := a4 r rfl
 rw [hr] at a5; obtain rfl := aC a5
 obtain ⟨_, a6⟩ := a6 t l rfl
 have hrow : qJ w (Gz F w π (aA s.ob)) (π r) t l := XR.1 (hm.obj r _ hr)
 generalize UC : aW π id ⟨(π id).g, (π id).q, (π id).cap, fun k => if k = j then (π r).jB else (π id).sub k⟩ = aJ
 have zG : aJ id = ⟨(π id).g, (π id).q, (π id).cap, fun k => if k = j then (π r).jB else (π id).sub k⟩ := by rw [<- UC]; simp [aW]
 have hpo : ∀ k, k ≠ id -> aJ k = π k := fun k hk => by rw [<- UC]; simp only [aW, if_neg hk]
 have GH : aA [(id, TO.bD t (ls.set j l) none), (r, .dead)] id = some (.bD t (ls.set j l) none) := by simp [aA]
 have Vf : aA [(id, TO.bD t (ls.set j l) none), (r, .dead)] r = some .dead := by simp [aA, hne]
 have lk : ∀ {k o}, aA [(id, TO.bD t (ls.set j l) none), (r, .dead)] k = some o -> (id = k /\ o = .bD t (ls.set j l) none) \/ (r = k /\ o = .dead) := fun {k o} h => by
  simp only [aA] at h
  by_cases e1 : k = id
  ·rw [if_pos e1] at h; exact .inl ⟨e1.symm, (aC h).symm⟩
  ·rw [if_neg e1] at h
   by_cases e2 : k = r
   ·rw [if_pos e2] at h; exact .inr ⟨e2.symm, (aC h).symm⟩
   ·rw [if_neg e2] at h; cases h
 have own : ∀ {k b}, Own aJ (aA [(id, TO.bD t (ls.set j l) none), (r, .dead)]) k b -> k = id /\ (Own π (aA s.ob) r b \/ Own π (aA s.ob) id b) := fun {k b} ⟨o, q1, q2⟩ => by
  rcases lk q1 with ⟨rfl, rfl⟩ | ⟨rfl, rfl⟩
  ·refine ⟨rfl, ?_⟩
   rw [zG] at q2
   rcases q2.2 with q | ⟨i, i1, _, i3⟩
   ·exact .inr ⟨_, ho, rfl, .inl q⟩
   ·simp only [] at i3
    by_cases e1 : i = j
    ·rw [if_pos e1] at i3; exact .inl ⟨_, hr, rfl, .inl i3⟩
    ·rw [if_neg e1] at i3; exact .inr ⟨_, ho, rfl, .inr ⟨i, by simpa using i1, qA i e1, i3⟩⟩
  ·exact (q2.not rfl).elim
 refine hm.Js (fun k hk => ?_) (fun k o o' h7 h8 G' => ?_) (fun k b h => ?_) (fun k k' b hk hk' => ?_) (fun b _ _ => rfl) (Nat.le_refl _) ⟨rfl, rfl, rfl⟩ (fun E k o hk => ?_)
 ·refine hpo k fun e => ?_
  subst e; rw [GH] at hk; cases hk
 ·rcases lk h8 with ⟨rfl, rfl⟩ | ⟨rfl, rfl⟩
  ·rw [ho] at h7; obtain rfl := aC h7
   rw [zG]; exact ⟨rfl, rfl, rfl, rfl, by simp⟩
  ·cases o <;> trivial
 ·rcases (own h).2 with q | q
  ·exact .inl ⟨r, _, Vf, q⟩
  ·exact .inl ⟨id, _, GH, q⟩
 ·rw [(own hk).1, (own hk').1]
 ·rcases lk hk with ⟨rfl, rfl⟩ | ⟨rfl, rfl⟩
  ·simp only [OR]
   rw [zG]
   refine .inr ⟨g, cur, e, h1, h2, by simpa using h3, h4, h5, ⟨fun i hi => ?_, (fun i r' h => by cases h), fun i b hi _ hg => ?_⟩⟩
   ·simp only [List.length_set] at hi
    simp only []
    rw [ae2 ls j i l [] hj]
    by_cases e1 : i = j
    ·subst e1
     simp only [if_true]
     exact ⟨u, a1, a2, fun _ => ⟨a6, hrow.move E.fz fun _ _ => rfl⟩, fun r' h => by cases h⟩
    ·simp only [if_neg e1]
     obtain ⟨z, b1, b2, b3, _⟩ := h6.cell i hi
     obtain ⟨b3, b4⟩ := b3 (qA i e1)
     exact ⟨z, b1, b2, fun _ => ⟨b3, b4.move E.fz fun _ _ => rfl⟩, fun r' h => by cases h⟩
   ·simp only [List.length_set] at hi ⊢
    simp only [] at hg ⊢
    have old : ∀ {k}, k < ls.length -> k ≠ j -> ((π id).sub k).g = some b -> Own π (aA s.ob) id b := fun {k} k1 k2 k3 => ⟨_, ho, rfl, .inr ⟨k, k1, qA k k2, k3⟩⟩
    have EM : (π r).g = some b -> Own π (aA s.ob) r b := fun h => ⟨_, hr, rfl, .inl h⟩
    by_cases e1 : i = j
    ·subst e1
     rw [if_pos rfl] at hg
     refine ⟨fun e2 => hne (hm.inj r id b (EM hg) ⟨_, ho, rfl, .inl (by rw [e2]; exact h1)⟩), fun k hk1 _ hk2 => ?_⟩
     by_cases e3 : k = i
     ·exact e3
     ·rw [if_neg e3] at hk2
      exact absurd (hm.inj r id b (EM hg) (old hk1 e3 hk2)) hne
    ·rw [if_neg e1] at hg
     obtain ⟨r1, r2⟩ := h6.apart i b hi (qA i e1) hg
     refine ⟨r1, fun k hk1 _ hk2 => ?_⟩
     by_cases e3 : k = j
     ·rw [if_pos e3] at hk2
      exact absurd (hm.inj r id b (EM hk2) (old hi e1 hg)) hne
     ·rw [if_neg e3] at hk2
      exact r2 k hk1 (qA k e3) hk2
  ·trivial
theorem aI.putRow (hm : aI c F π s a w) {id r i : Nat} {t : DT} {ls : List (List t.den)} {out : Option (Nat × Nat)} {l : List t.den} (ho : aA s.ob id = some (.bD t ls out)) (hr : aA s.ob r = some (.row t l)) (hi : i < ls.length) (hout : ∀ k r', out = some (k, r') -> k = i) :
  ∃ g cur e, (π id).g = some g /\ kQ w g cur e /\ (π id).q + i + 1 <= cur.size /\
   aI c F (aW π id ⟨(π id).g, (π id).q, (π id).cap, fun k => if k = i then (π r).jB else (π id).sub k⟩) ⟨s.sl, [(id, .bD t (ls.set i l) none), (r, .dead)] ++ s.ob⟩ a (w.setRow g (jB cur ((π id).q + i) [(π r).hdr l.length])) := by
 have hne : r ≠ id := fun e => by subst e; rw [hr] at ho; cases ho
 have hor := hm.obj id _ ho
 rcases hor with ⟨_, e, _⟩ | ⟨g, cur, e, h1, h2, h3, h4, h5, h6⟩
 ·rw [e] at hi; simp at hi
 have hfit : (π id).q + i + 1 <= cur.size := by omega
 refine ⟨g, cur, e, h1, h2, hfit, ?_⟩
 have qA : ∀ k, k ≠ i -> ∀ r', out ≠ some (k, r') := fun k hk r' h => hk (hout k r' h)
 have hrow : qJ w (Gz F w π (aA s.ob)) (π r) t l := XR.1 (hm.obj r _ hr)
 have Tq : (π id).q + i + [(π r).hdr l.length].length <= cur.size := by simpa using hfit
 have hblk := GZ h2 (vX cur ((π id).q + i) [(π r).hdr l.length] Tq)
 have hoth : ∀ b, b ≠ g -> (w.setRow g (jB cur ((π id).q + i) [(π r).hdr l.length])).heap[b]? = w.heap[b]? := fun b hb => setRow_other w g b _ hb
 have hsize : (w.setRow g (jB cur ((π id).q + i) [(π r).hdr l.length])).heap.size = w.heap.size := by simp
 generalize hW : w.setRow g (jB cur ((π id).q + i) [(π r).hdr l.length]) = w' at hblk hoth hsize ⊢
 have hos : w'.os = w.os /\ w'.tape = w.tape /\ w'.output = w.output := by rw [<- hW]; exact ⟨rfl, rfl, rfl⟩
 generalize UC : aW π id ⟨(π id).g, (π id).q, (π id).cap, fun k => if k = i then (π r).jB else (π id).sub k⟩ = aJ
 have zG : aJ id = ⟨(π id).g, (π id).q, (π id).cap, fun k => if k = i then (π r).jB else (π id).sub k⟩ := by rw [<- UC]; simp [aW]
 have hpo : ∀ k, k ≠ id -> aJ k = π k := fun k hk => by rw [<- UC]; simp only [aW, if_neg hk]
 have GH : aA [(id, TO.bD t (ls.set i l) none), (r, .dead)] id = some (.bD t (ls.set i l) none) := by simp [aA]
 have Vf : aA [(id, TO.bD t (ls.set i l) none), (r, .dead)] r = some .dead := by simp [aA, hne]
 have lk : ∀ {k o}, aA [(id, TO.bD t (ls.set i l) none), (r, .dead)] k = some o -> (id = k /\ o = .bD t (ls.set i l) none) \/ (r = k /\ o = .dead) := fun {k o} h => by
  simp only [aA] at h
  by_cases e1 : k = id
  ·rw [if_pos e1] at h; exact .inl ⟨e1.symm, (aC h).symm⟩
  ·rw [if_neg e1] at h
   by_cases e2 : k = r
   ·rw [if_pos e2] at h; exact .inr ⟨e2.symm, (aC h).symm⟩
   ·rw [if_neg e2] at h; cases h
 have FV : Own π (aA s.ob) id g := ⟨_, ho, rfl, .inl h1⟩
 have EM : ∀ {b}, (π r).g = some b -> Own π (aA s.ob) r b := fun h => ⟨_, hr, rfl, .inl h⟩
 have old : ∀ {b k}, k < ls.length -> k ≠ i -> ((π id).sub k).g = some b -> Own π (aA s.ob) id b := fun {b k} k1 k2 k3 => ⟨_, ho, rfl, .inr ⟨k, k1, qA k k2, k3⟩⟩
 have own : ∀ {k b}, Own aJ (aA [(id, TO.bD t (ls.set i l) none), (r, .dead)]) k b -> k = id /\ (Own π (aA s.ob) r b \/ Own π (aA s.ob) id b) := fun {k b} ⟨o, q1, q2⟩ => by
  rcases lk q1 with ⟨rfl, rfl⟩ | ⟨rfl, rfl⟩
  ·refine ⟨rfl, ?_⟩
   rw [zG] at q2
   rcases q2.2 with q | ⟨i', i1, _, i3⟩
   ·exact .inr ⟨_, ho, rfl, .inl q⟩
   ·simp only [] at i3
    by_cases e1 : i' = i
    ·rw [if_pos e1] at i3; exact .inl (EM i3)
    ·rw [if_neg e1] at i3; exact .inr (old (by simpa using i1) e1 i3)
  ·exact (q2.not rfl).elim
 refine hm.Js (fun k hk => ?_) (fun k o o' h7 h8 G' => ?_) (fun k b h => ?_) (fun k k' b hk hk' => ?_) (fun b _ hb => hoth b fun e => hb id _ GH (e ▸ FV)) (by omega) hos (fun E k o hk => ?_)
 ·refine hpo k fun e => ?_
  subst e; rw [GH] at hk; cases hk
 ·rcases lk h8 with ⟨rfl, rfl⟩ | ⟨rfl, rfl⟩
  ·rw [ho] at h7; obtain rfl := aC h7
   rw [zG]; exact ⟨rfl, rfl, rfl, rfl, by simp⟩
  ·cases o <;> trivial
 ·rcases (own h).2 with q | q
  ·exact .inl ⟨r, _, Vf, q⟩
  ·exact .inl ⟨id, _, GH, q⟩
 ·rw [(own hk).1, (own hk').1]
 ·rcases lk hk with ⟨rfl, rfl⟩ | ⟨rfl, rfl⟩
  ·simp only [OR]
   rw [zG]
   refine .inr ⟨g, _, e, h1, hblk, by simpa using h3, h4, by rw [vX _ _ _ Tq]; exact h5, ⟨fun k hk => ?_, (fun i r' h => by cases h), fun k b hk _ hg => ?_⟩⟩
   ·simp only [List.length_set] at hk
    simp only []
    rw [ae2 ls i k l [] hi, KD _ _ _ _ Tq]
    by_cases e1 : k = i
    ·subst e1
     simp only [if_true]
     refine ⟨(π r).hdr l.length, by simp, Pl.JC _ _, fun _ => ⟨rfl, ?_⟩, fun r' h => by cases h⟩
     exact qJ.move (p := (π r)) hrow E.fz fun b hb => hoth b fun e2 => hne (hm.inj r id b (EM hb) (e2 ▸ FV))
    ·simp only [if_neg e1]
     obtain ⟨z, b1, b2, b3, _⟩ := h6.cell k hk
     obtain ⟨b3, b4⟩ := b3 (qA k e1)
     refine ⟨z, ?_, b2, fun _ => ⟨b3, b4.move E.fz fun b hb => hoth b (h6.apart k b hk (qA k e1) hb).1⟩, fun r' h => by cases h⟩
     rw [if_neg (by simp only [List.length_singleton]; omega)]; exact b1
   ·simp only [List.length_set] at hk ⊢
    simp only [] at hg ⊢
    by_cases e1 : k = i
    ·subst e1
     rw [if_pos rfl] at hg
     refine ⟨fun e2 => hne (hm.inj r id b (EM hg) (e2 ▸ FV)), fun k' hk1 _ hk2 => ?_⟩
     by_cases e3 : k' = k
     ·exact e3
     ·rw [if_neg e3] at hk2
      exact absurd (hm.inj r id b (EM hg) (old hk1 e3 hk2)) hne
    ·rw [if_neg e1] at hg
     obtain ⟨r1, r2⟩ := h6.apart k b hk (qA k e1) hg
     refine ⟨r1, fun k' hk1 _ hk2 => ?_⟩
     by_cases e3 : k' = i
     ·rw [if_pos e3] at hk2
      exact absurd (hm.inj r id b (EM hk2) (old hk e1 hg)) hne
     ·rw [if_neg e3] at hk2
      exact r2 k' hk1 (qA k' e3) hk2
  ·trivial
theorem aI.asm (hm : aI c F π s a w) {w' : World} {d : Nat} {K : List Nat} {p : Pl} {t : DT} {ls : List (List t.den)} (hd : aA s.ob d = none) (hK : ∀ k ∈ K, ∃ o, aA s.ob k = some o)
  (hown : ∀ b, o9 p (.bD t ls none) b -> (∃ k ∈ K, Own π (aA s.ob) k b) \/ (w.heap.size <= b /\ b < w'.heap.size))
  (hblk : ∀ b, b < w.heap.size -> (∀ k ∈ K, ¬ Own π (aA s.ob) k b) -> w'.heap[b]? = w.heap[b]?) (h6 : w.heap.size <= w'.heap.size) (hos : w'.os = w.os /\ w'.tape = w.tape /\ w'.output = w.output)
  (hor : ∀ G', fG w (Gz F w π (aA s.ob)) w' G' -> (p.g = none /\ ls = []) \/ ∃ g cur e, p.g = some g /\ kQ w' g cur e /\ ls.length <= p.cap /\ p.cap <= maxLen /\ p.q + p.cap <= cur.size /\
   (∀ i, i < ls.length -> cur[p.q + i]? = some ((p.sub i).pl.hdr (ls.getD i []).length) /\ qJ w' G' (p.sub i).pl t (ls.getD i [])) /\
   ∀ i b, i < ls.length -> (p.sub i).g = some b -> b ≠ g /\ ∀ j, j < ls.length -> (p.sub j).g = some b -> j = i) :
  aI c F (aW π d p) ⟨s.sl, ((d, .bD t ls none) :: K.map fun k => (k, .dead)) ++ s.ob⟩ a w' := by
 have lkK : ∀ {K : List Nat} {i : Nat} {o : TO}, aA (K.map fun k => (k, TO.dead)) i = some o -> i ∈ K /\ o = .dead := fun {K} => by
  induction K with
  | nil => intro i o h; cases h
  | cons k K ih =>
   intro i o h
   simp only [List.map_cons, aA] at h
   by_cases e : i = k
   ·rw [if_pos e] at h; exact ⟨by simp [e], (aC h).symm⟩
   ·rw [if_neg e] at h; obtain ⟨q1, q2⟩ := ih h; exact ⟨by simp [q1], q2⟩
 have lkM : ∀ {K : List Nat} {i : Nat}, i ∈ K -> aA (K.map fun k => (k, TO.dead)) i = some .dead := fun {K} => by
  induction K with
  | nil => intro i h; cases h
  | cons k K ih =>
   intro i h
   simp only [List.map_cons, aA]
   by_cases e : i = k
   ·rw [if_pos e]
   ·rw [if_neg e]; exact ih (by simpa [e] using h)
 have hdK : ∀ k ∈ K, k ≠ d := fun k hk e => by
  obtain ⟨o, ho⟩ := hK k hk
  rw [e, hd] at ho; cases ho
 have UM : aA ((d, .bD t ls none) :: K.map fun k => (k, TO.dead)) d = some (.bD t ls none) := by simp [aA]
 have lk : ∀ {i : Nat} {o : TO}, aA ((d, .bD t ls none) :: K.map fun k => (k, TO.dead)) i = some o -> (d = i /\ o = .bD t ls none) \/ (i ∈ K /\ o = .dead) := fun {i o} h => by
  simp only [aA] at h
  by_cases e : i = d
  ·rw [if_pos e] at h; exact .inl ⟨e.symm, (aC h).symm⟩
  ·rw [if_neg e] at h; exact .inr (lkK h)
 have JE : aW π d p d = p := by simp [aW]
 have own : ∀ {i b}, Own (aW π d p) (aA ((d, .bD t ls none) :: K.map fun k => (k, TO.dead))) i b -> d = i /\ o9 p (.bD t ls none) b := fun {i b} ⟨o, q1, q2⟩ => by
  rcases lk q1 with ⟨rfl, rfl⟩ | ⟨_, rfl⟩
  ·rw [JE] at q2; exact ⟨rfl, q2⟩
  ·exact (q2.not rfl).elim
 have lkU : ∀ k ∈ K, aA ((d, .bD t ls none) :: K.map fun k => (k, TO.dead)) k = some .dead := fun k hk => by
  simp only [aA, if_neg (hdK k hk)]; exact lkM hk
 refine hm.Js (fun i hi => ?_) (fun i o o' h7 h8 G' => ?_) (fun i b h => ?_) (fun i j b hi hj => (own hi).1.symm.trans (own hj).1) (fun b hb hno => hblk b hb fun k hk => hno k _ (lkU k hk)) h6 hos (fun E i o hi => ?_)
 ·have : i ≠ d := fun e => by subst e; rw [UM] at hi; cases hi
  simp only [aW, if_neg this]
 ·rcases lk h8 with ⟨rfl, rfl⟩ | ⟨_, rfl⟩
  ·rw [hd] at h7; cases h7
  ·cases o <;> trivial
 ·rcases hown b (own h).2 with ⟨k, hk, q⟩ | q
  ·exact .inl ⟨k, _, lkU k hk, q⟩
  ·exact .inr q
 ·rcases lk hi with ⟨rfl, rfl⟩ | ⟨_, rfl⟩
  ·simp only [OR]
   rw [JE]
   rcases hor _ E.fz with ⟨q1, q2⟩ | ⟨g, cur, e, q1, q2, q3, q4, q5, q6, q7⟩
   ·exact .inl ⟨q1, q2, trivial⟩
   ·refine .inr ⟨g, cur, e, q1, q2, q3, q4, q5, ⟨fun k hk => ?_, (fun k r h => by cases h), fun k b hk _ hg => ?_⟩⟩
    ·obtain ⟨r1, r2⟩ := q6 k hk
     exact ⟨_, r1, Pl.JC _ _, fun _ => ⟨rfl, r2⟩, fun r h => by cases h⟩
    ·obtain ⟨r1, r2⟩ := q7 k b hk hg
     exact ⟨r1, fun j hj _ hgj => r2 j hj hgj⟩
  ·trivial
theorem afB (p : Pl) (n : Nat) : (p.hdr n).cells = #[p.hdr n] := by unfold Pl.hdr; split <;> rfl
end
def yG (L : bF) (id : Nat) : Option (List (Nat × TO)) :=
 match L id with
 | some (.bD t ls out) => match out with
  | none => some []
  | some (j, r) => match L r with
   | some (.row t' l) => if h : t' = t then some [(id, .bD t (ls.set j (h ▸ l)) none), (r, .dead)] else none
   | _ => none
 | _ => none
def Jh (U : List (Nat × TO)) (L : bF) : bF := fun i => match aA U i with
 | some o => some o
 | none => L i
def jP (TI : Nat -> TD) (TY : Nat -> DT) (fz : Nat -> Bool) (ev : Operand -> TV) (L : bF) (dst : Option Nat) : Op -> Option Eff
 | .makeSlice T l c => match dst, ev l, ev c, TY T with
  | some d, .dv (.int _) zl, .dv (.int _) zc, .sl (.sl t) => if fz d then (match L d with
   | some _ => none
   | none => if (TI T).kd == 2 && (TI T).elem == 1 && (TI T).ez.cells.toList.all Ei then some ⟨.row d, [(d, .bD t (List.replicate (Int.toNat zl) []) none)], wU zl zc (TI T).eb⟩ else none) else none
  | _, _, _, _ => none
 | .indexAddr T x ix => match ev x, ev ix with
  | .row id, .dv (.int _) z => match L id with
   | some (.bD t ls _) => if (TI T).kd == 2 && (TI T).elem == 1 then some ⟨.ptr id z.toNat [], [], decide (0 <= z /\ z < (ls.length : Int))⟩ else none
   | _ => none
  | _, _ => none
 | .load T p => match dst, ev p with
  | some d, .ptr id i [] => match L id, L d with
   | some (.bD t ls none), none => if (TI T).kd == 2 then some ⟨.row d, [(d, .row t (ls.getD i [])), (id, .bD t ls (some (i, d)))], true⟩ else none
   | _, _ => none
  | _, _ => none
 | .store T p y => match dst, ev p, ev y with
  | none, .ptr id i [], .row r => match L id, L r with
   | some (.bD t ls none), some (.row t' l) => if h : t' = t then (if (TI T).kd == 2 && (TI T).size == 1 then some ⟨.any, [(id, .bD t (ls.set i (h ▸ l)) none), (r, .dead)], true⟩ else none) else none
   | _, _ => none
  | _, _, _ => none
 | .buildSlice T n parts => match dst, TY T, parts.toList with
  | some d, .sl (.sl t), [(0, x)] => if fz d && n == 1 then (match L d, ev x with
   | none, .row r => match L r with
    | some (.row t' l) => if h : t' = t then (if (TI T).kd == 2 && (TI T).elem == 1 then some ⟨.row d, [(d, .bD t [h ▸ l] none), (r, .dead)], true⟩ else none) else none
    | _ => none
   | _, _ => none) else none
  | _, _, _ => none
 | .call cl => match cl.callee, dst, cl.args.toList, cl.argTypes.toList with
  | .builtin .append, some d, [x, y], [T, T'] => if T = T' then (match ev y with
   | .row m => match L m, L d with
    | some (.bD t [l] none), none => (match ev x with
     | .nl => if (TI T).kd == 2 && (TI T).elem == 1 then some ⟨.row d, [(d, .bD t [l] none), (m, .dead)], small 1 (TI T).eb⟩ else none
     | .row id => (match L id with
      | some (.bD t' ls none) => if h : t' = t then (if (TI T).kd == 2 && (TI T).elem == 1 && id != m then some ⟨.row d, [(d, .bD t ((h ▸ ls) ++ [l]) none), (id, .dead), (m, .dead)], small (ls.length + 1) (TI T).eb⟩ else none) else none
      | _ => none)
     | _ => none)
    | _, _ => none
   | _ => none) else none
  | .builtin .len, _, [x], [T] => match ev x with
   | .row id => match L id with
    | some (.bD t ls _) => if (TI T).kd == 2 then some ⟨.dv (.int .i64) (ls.length : Int), [], true⟩ else none
    | _ => none
   | _ => none
  | _, _, _, _ => none
 | _ => none
def TV.sF (L : bF) : TV -> List Nat
 | .row id => match L id with
  | some (.bD _ _ (some _)) => [id]
  | _ => []
 | .ptr id _ [] => match L id with
  | some (.bD _ _ (some _)) => [id]
  | _ => []
 | _ => []
def DD (TI : Nat -> TD) (ev : Operand -> TV) (L : bF) (dst : Option Nat) : Op -> Option Eff
 | .store T p y => match dst, ev p, ev y with
  | none, .ptr id i [], .row r => match L id, L r with
   | some (.bD t ls (some (j, r0))), some (.row t' l) => if h : t' = t then (match L r0 with
    | some .dead => if (TI T).kd == 2 && (TI T).size == 1 then some ⟨.any, [(id, .bD t (ls.set i (h ▸ l)) none), (r, .dead)], decide (j = i)⟩ else none
    | _ => none) else none
   | _, _ => none
  | _, _, _ => none
 | _ => none
def axC : Op -> Bool
 | .indexAddr _ _ _ => true
 | .call c => match c.callee with
  | .builtin .len => true
  | _ => false
 | _ => false
def EU (TI : Nat -> TD) (TY : Nat -> DT) (fz : Nat -> Bool) (ev : Operand -> TV) (L : bF) (dst : Option Nat) (op : Op) : Option Eff :=
 match DD TI ev L dst op with
 | some e => some e
 | none => if axC op then jP TI TY fz ev L dst op else match op.operands.toList.flatMap fun x => (ev x).sF L with
  | [] => jP TI TY fz ev L dst op
  | [id] => match yG L id with
   | some U => match jP TI TY fz ev (Jh U L) dst op with
    | some e => some ⟨e.y, e.u ++ U, e.b⟩
    | none => none
   | none => none
  | _ => none
end
section
section
variable {P : Program} {TI : Nat -> TD} {TY : Nat -> DT} {fz : Nat -> Bool} {c : Cx} {F : Nat -> Prop} {s : TS} {π : Nat -> Pl} {a : Act} {w : World}
theorem ak5 (hm : aI c F π s a w) {id : Nat} {U : List (Nat × TO)} (h : yG (aA s.ob) id = some U) : ∃ aJ, aI c F aJ ⟨s.sl, U ++ s.ob⟩ a w := by
 unfold yG at h
 split at h
 ·rename_i t ls out ho
  split at h
  ·obtain rfl := aC h; exact ⟨π, hm⟩
  ·rename_i j r
   split at h
   ·rename_i t' l hr
    split at h
    ·rename_i e
     subst e
     obtain rfl := aC h
     exact ⟨_, hm.settle ho hr⟩
    ·cases h
   ·cases h
 ·cases h
theorem aCJ (U O : List (Nat × TO)) : aA (U ++ O) = Jh U (aA O) := funext fun i => KJ U O i
theorem Jj (hm : aI c F π s a w) {i b : Nat} (h : Own π (aA s.ob) i b) : b < w.heap.size := (hm.new i b h).2
theorem az0 (hT : dI P TI) {T : Nat} {x y : Operand} {dst : Option Nat} {ty : TypeId} {pos : String} {after : Array Edge} {g : Option (Nat × Bool)} {e : Eff} (h : jP TI TY fz s.ev (aA s.ob) dst (.makeSlice T x y) = some e) (hb : e.b = true) (hm : aI c F π s a w) : jR P c F s π a w ⟨dst, .makeSlice T x y, ty, pos, after, g⟩ e := by
 simp only [jP] at h
 split at h
 ·rename_i d k1 zl k2 zc t hx hy TM
  split at h
  ·split at h
   ·cases h
   ·rename_i hd
    split at h
    ·rename_i hk
     simp only [bC, beq_iff_eq] at hk
     obtain ⟨⟨q1, q2⟩, q3⟩ := hk
     obtain rfl := aC h
     have hx' : a.eval x = .int k1 zl := hm.zC hx
     have hy' : a.eval y = .int k2 zc := hm.zC hy
     obtain ⟨h0, h1, h2, h3⟩ := Ir (show wU zl zc (TI T).eb = true from hb)
     obtain ⟨e', ie, b1, b2, b3, b4, b5, b6, b7, b8⟩ := (hT T).sl q1
     have hrun := run_make (P := P) w T e' ie (TI T).ez b1 b2 b5 k1 k2 zl zc h0 h1 (by rw [b4]; rw [Int.mul_comm]; exact Int.le_trans h2 (by decide)) (by exact Int.le_trans h3 (by decide))
     have hms : (madeCells (TI T).ez.cells (Int.toNat zc * (TI T).elem)).size = Int.toNat zc * (TI T).elem := size_madeCells _ _
     have awV : (madeCells (TI T).ez.cells (Int.toNat zc * (TI T).elem)).size = Int.toNat zc := by rw [hms, q2, Nat.mul_one]
     have hle : Int.toNat zl <= Int.toNat zc := Int.toNat_le_toNat h1
     have hz : ∀ i (h : i < (TI T).ez.cells.size), (TI T).ez.cells[i] = .slice none 0 0 := fun i hi => by
      have := List.all_eq_true.1 q3 ((TI T).ez.cells[i]) (by simp)
      unfold Ei at this
      split at this
      ·assumption
      ·cases this
     have hget : ∀ i, i < Int.toNat zc -> (madeCells (TI T).ez.cells (Int.toNat zc * (TI T).elem))[i]? = some (.slice none 0 0) := fun i hi => by
      have h1 : 0 < (TI T).ez.cells.size := by rw [b6, q2]; decide
      simp only [madeCells, Array.getElem?_map, q2, Nat.mul_one]
      rw [Array.getElem?_range, if_pos hi]
      have hlt : i % (TI T).ez.cells.size < (TI T).ez.cells.size := Nat.mod_lt _ h1
      simp [hlt, hz]
     have hB : Below w.heap.size w (w.alloc (.cells (madeCells (TI T).ez.cells (Int.toNat zc * (TI T).elem)) e')) := (Below.refl _ _).alloc (Nat.le_refl _) _
     have hlt : w.heap.size < (w.alloc (.cells (madeCells (TI T).ez.cells (Int.toNat zc * (TI T).elem)) e')).heap.size := (Array.getElem?_eq_some_iff.1 (xR w _)).1
     have hR := hm.asm (w' := w.alloc (.cells (madeCells (TI T).ez.cells (Int.toNat zc * (TI T).elem)) e')) (d := d) (K := []) (p := ⟨some w.heap.size, 0, Int.toNat zc, iU⟩) (t := t) (ls := List.replicate (Int.toNat zl) []) hd (fun k hk => by cases hk)
      (fun b hb => by
       rcases hb.2 with q | ⟨i, _, _, q⟩
       ·obtain rfl := aC q; exact .inr ⟨Nat.le_refl _, hlt⟩
       ·cases q) (fun b hb _ => hB.block b hb) hB.size ⟨rfl, rfl, rfl⟩
      (fun G' hz' => .inr ⟨w.heap.size, _, e', rfl, .of (xR w _), by rw [List.length_replicate]; exact hle, by simp only [maxLen]; omega, by rw [awV]; simp, fun i hi => by
       simp only [List.length_replicate] at hi
       rw [Ec, Nat.zero_add]
       exact ⟨hget i (by omega), .inl ⟨rfl, rfl⟩⟩, fun i b hi hg => by cases hg⟩)
     refine ⟨.slice (some ⟨w.heap.size, 0, none⟩) (Int.toNat zl) (Int.toNat zc), _, _, .inl (eP (e := Instr.makeSlice T (a.eval x) (a.eval y)) rfl ?_), hR, ?_⟩
     ·rw [hx', hy', hrun, b3]
     ·simp [VR, aA, aW, Pl.hdr]
    ·cases h
  ·cases h
 ·cases h
theorem azY (hT : dI P TI) {T : Nat} {x y : Operand} {dst : Option Nat} {ty : TypeId} {pos : String} {after : Array Edge} {g : Option (Nat × Bool)} {e : Eff} (h : jP TI TY fz s.ev (aA s.ob) dst (.indexAddr T x y) = some e) (hb : e.b = true) (hm : aI c F π s a w) : jR P c F s π a w ⟨dst, .indexAddr T x y, ty, pos, after, g⟩ e := by
 simp only [jP] at h
 split at h
 ·rename_i id k z hx hy
  split at h
  ·rename_i t ls out ho
   split at h
   ·rename_i hk
    simp only [bC, beq_iff_eq] at hk
    obtain rfl := aC h
    simp only [fH] at hb
    have hv := hm.ev x
    rw [hx] at hv
    simp only [VR, ho] at hv
    have hy' : a.eval y = .int k z := hm.zC hy
    rcases hm.obj id _ ho with ⟨_, h2, _⟩ | ⟨g0, cur, e0, h1, h2, h3, h4, h5, h6⟩
    ·subst h2
     have q1 : (0 : Int) <= z := hb.1
     have q2 : (0 : Int) > z := hb.2
     omega
    ·unfold Pl.hdr at hv
     rw [h1] at hv
     refine ⟨_, w, π, .inl (eP (e := Instr.indexAt T (a.eval x) (a.eval y)) rfl (by rw [hv, hy']; exact OY hT hk.1 hb.1 hb.2)), hm, ?_⟩
     simp only [VR, List.nil_append, ho]
     refine fun _ => ⟨z.toNat, g0, rfl, ?_, h1, by rw [hk.2, Nat.mul_one]⟩
     have q1 : (0 : Int) <= z := hb.1
     have q2 : (ls.length : Int) > z := hb.2
     show Int.toNat z < ls.length
     omega
   ·cases h
  ·cases h
 ·cases h
theorem azZ (hT : dI P TI) {T : Nat} {x : Operand} {dst : Option Nat} {ty : TypeId} {pos : String} {after : Array Edge} {g : Option (Nat × Bool)} {e : Eff} (h : jP TI TY fz s.ev (aA s.ob) dst (.load T x) = some e) (hb : e.b = true) (hm : aI c F π s a w) : jR P c F s π a w ⟨dst, .load T x, ty, pos, after, g⟩ e := by
 simp only [jP] at h
 split at h
 ·rename_i d id i hx
  split at h
  ·rename_i t ls ho hd
   split at h
   ·rename_i hk
    simp only [beq_iff_eq] at hk
    obtain rfl := aC h
    have hv := hm.ev x
    rw [hx] at hv
    simp only [VR, ho] at hv
    obtain ⟨k, g0, h1, h2, h3, h4⟩ := hv rfl
    have h1 : i = k := aC h1
    subst h1
    obtain ⟨g1, u, r1, r2, r3, r4⟩ := hm.take ho hd (show i < ls.length from h2)
    rw [h3] at r1; obtain rfl := aC r1
    refine ⟨u, w, _, .inl (eP (e := Instr.loadAt T (a.eval x)) rfl (by rw [h4]; exact Yx hT (.inr hk) r2)), r3, ?_⟩
    simp only [VR, List.cons_append, aA, if_true]
    exact r4
   ·cases h
  ·cases h
 ·cases h
theorem agQ (hT : dI P TI) {T : Nat} {x y : Operand} {ty : TypeId} {pos : String} {after : Array Edge} {g : Option (Nat × Bool)} {id i r : Nat} {t : DT} {ls : List (List t.den)} {out : Option (Nat × Nat)} {l : List t.den} (hx : s.ev x = .ptr id i []) (hy : s.ev y = .row r) (ho : aA s.ob id = some (.bD t ls out)) (hr : aA s.ob r = some (.row t l)) (hk : (TI T).kd = 2) (hs : (TI T).size = 1) (hout : ∀ k r', out = some (k, r') -> k = i) (hm : aI c F π s a w) :
  jR P c F s π a w ⟨none, .store T x y, ty, pos, after, g⟩ ⟨.any, [(id, .bD t (ls.set i l) none), (r, .dead)], true⟩ := by
 have hv := hm.ev x
 rw [hx] at hv
 simp only [VR, ho] at hv
 obtain ⟨k, g0, h1, h2, h3, h4⟩ := hv rfl
 have h1 : i = k := aC h1
 subst h1
 obtain ⟨g1, cur, e0, r1, r2, r3, r4⟩ := hm.putRow ho hr (show i < ls.length from h2) hout
 rw [h3] at r1; obtain rfl := aC r1
 have hw := hm.ev y
 rw [hy] at hw
 simp only [VR, hr] at hw
 have hc : (a.eval y).cells = #[(π r).hdr l.length] := by rw [hw]; exact afB _ _
 refine ⟨undef, _, _, .inr ⟨?_, rfl⟩, r4, trivial⟩
 have hrun := run_store (P := P) hT (T := T) (v := a.eval y) (by rw [hk]; decide) (by rw [hc, hs]; rfl) (fun u hu => by
  rw [hc] at hu
  have : u = (π r).hdr l.length := by simpa using hu
  rw [this]; exact Pl.JC _ _) r2 (k := (π id).q + i) (by rw [hc]; exact r3)
 rw [<- h4] at hrun
 rw [hc] at hrun
 simp [execOp, hrun]
theorem az1 (hT : dI P TI) {T : Nat} {x y : Operand} {dst : Option Nat} {ty : TypeId} {pos : String} {after : Array Edge} {g : Option (Nat × Bool)} {e : Eff} (h : jP TI TY fz s.ev (aA s.ob) dst (.store T x y) = some e) (hb : e.b = true) (hm : aI c F π s a w) : jR P c F s π a w ⟨dst, .store T x y, ty, pos, after, g⟩ e := by
 simp only [jP] at h
 split at h
 ·rename_i id i r hx hy
  split at h
  ·rename_i t ls t' l ho hr
   split at h
   ·rename_i e1
    subst e1
    split at h
    ·rename_i hk
     simp only [bC, beq_iff_eq] at hk
     obtain rfl := aC h
     exact agQ hT hx hy ho hr hk.1 hk.2 (fun k r' h => by cases h) hm
    ·cases h
   ·cases h
  ·cases h
 ·cases h
theorem aEH (hT : dI P TI) {o : Oper} {e : Eff} (h : DD TI s.ev (aA s.ob) o.dst o.op = some e) (hb : e.b = true) (hm : aI c F π s a w) : jR P c F s π a w o e := by
 obtain ⟨dst, op, ty, pos, after, g⟩ := o
 simp only at h
 cases op with
 | store T x y =>
  simp only [DD] at h
  split at h
  ·rename_i id i r hx hy
   split at h
   ·rename_i t ls j r0 t' l ho hr
    split at h
    ·rename_i e1
     subst e1
     split at h
     ·rename_i hr0
      split at h
      ·rename_i hk
       simp only [bC, beq_iff_eq] at hk
       obtain rfl := aC h
       have hb : j = i := of_decide_eq_true hb
       obtain ⟨v, w', aJ, q1, q2, q3⟩ := agQ (ty := ty) (pos := pos) (after := after) (g := g) hT hx hy ho hr hk.1 hk.2 (fun k r' h => by
        simp only [aS, bJ] at h; rw [<- h.1]; exact hb) hm
       exact ⟨v, w', aJ, q1, q2, q3⟩
      ·cases h
     ·cases h
    ·cases h
   ·cases h
  ·cases h
 | _ => simp [DD] at h
theorem azW (hT : dI P TI) {T n : Nat} {parts : Array (Nat × Operand)} {dst : Option Nat} {ty : TypeId} {pos : String} {after : Array Edge} {g : Option (Nat × Bool)} {e : Eff} (h : jP TI TY fz s.ev (aA s.ob) dst (.buildSlice T n parts) = some e) (hb : e.b = true) (hm : aI c F π s a w) : jR P c F s π a w ⟨dst, .buildSlice T n parts, ty, pos, after, g⟩ e := by
 simp only [jP] at h
 split at h
 ·rename_i d t x TM hparts
  split at h
  ·rename_i hfn
   simp only [bC, beq_iff_eq] at hfn
   obtain ⟨_, rfl⟩ := hfn
   split at h
   ·rename_i r hd hx
    split at h
    ·rename_i t' l hr
     split at h
     ·rename_i e1
      subst e1
      split at h
      ·rename_i hk
       simp only [bC, beq_iff_eq] at hk
       obtain ⟨k1, k2⟩ := hk
       obtain rfl := aC h
       have hv := hm.ev x
       rw [hx] at hv
       simp only [VR, hr] at hv
       have BQ : (a.eval x).cells = #[(π r).hdr l.length] := by rw [hv]; exact afB _ _
       obtain ⟨e', ie, b1, b2, b3, b4, b5, b6, b7, b8⟩ := (hT T).sl k1
       have hp : (parts.map fun (i, x) => (i, a.eval x)).toList = (List.range 1).zip [a.eval x] := by
        rw [Array.toList_map, hparts]; rfl
       obtain ⟨cur, c1, c2, c3⟩ := run_buildSlice (P := P) (w := w) (us := [a.eval x]) (n := 1) b1 b2 b5 (by rw [b6, b3]) (by omega) (fun u hu => by
        rw [List.mem_singleton.1 hu, BQ, b3, k2]; rfl) rfl (by rw [b3, k2]; decide) hp
       have hcell : cur[0]? = some ((π r).hdr l.length) := by
        have := c3 0 (a.eval x) rfl 0 (by rw [b3, k2]; decide)
        rw [BQ] at this
        simpa using this
       have hsz : cur.size = 1 := by rw [c2, b3, k2]
       have hrow : qJ w (Gz F w π (aA s.ob)) (π r) t' l := XR.1 (hm.obj r _ hr)
       have hB : Below w.heap.size w (w.alloc (.cells cur e')) := (Below.refl _ _).alloc (Nat.le_refl _) _
       have hlt : w.heap.size < (w.alloc (.cells cur e')).heap.size := (Array.getElem?_eq_some_iff.1 (xR w _)).1
       have hor : ∀ {b}, (π r).g = some b -> Own π (aA s.ob) r b := fun h => ⟨_, hr, rfl, .inl h⟩
       have hR := hm.asm (w' := w.alloc (.cells cur e')) (d := d) (K := [r]) (p := ⟨some w.heap.size, 0, 1, fun _ => (π r).jB⟩) (t := t') (ls := [l]) hd (fun k hk => by rw [List.mem_singleton.1 hk]; exact ⟨_, hr⟩)
        (fun b hb => by
         rcases hb.2 with q | ⟨i, _, _, q⟩
         ·obtain rfl := aC q; exact .inr ⟨Nat.le_refl _, hlt⟩
         ·exact .inl ⟨r, by simp, hor q⟩) (fun b hb _ => hB.block b hb) hB.size ⟨rfl, rfl, rfl⟩
        (fun G' hz' => .inr ⟨w.heap.size, cur, e', rfl, .of (xR w _), by simp, by simp [maxLen], by simp [hsz], fun i hi => by
         obtain rfl : i = 0 := by simpa using hi
         exact ⟨hcell, qJ.move (p := π r) hrow hz' fun b hb => hB.block b (Jj hm (hor hb))⟩, fun i b hi hg => ⟨fun e2 => by
          have := Jj hm (hor hg); omega, fun j hj _ => by
          simp only [List.length_singleton] at hi hj; omega⟩⟩)
       have hx0 : execOp a.eval ⟨some d, .buildSlice T 1 parts, ty, pos, after, g⟩ = (do pure (.value (<- Instr.buildSlice T 1 (parts.map fun (i, x) => (i, a.eval x))))) := by simp only [execOp]
       have oL : (execOp a.eval ⟨some d, .buildSlice T 1 parts, ty, pos, after, g⟩).run P w = .ok (.value (.slice (some ⟨w.heap.size, 0, none⟩) 1 1)) (w.alloc (.cells cur e')) := by
        rw [hx0]; simp only [Sem.run_bind, c1, Result.andThen_ok, Sem.run_pure]
       refine ⟨_, _, _, .inl oL, hR, ?_⟩
       simp [VR, aA, aW, Pl.hdr]
      ·cases h
     ·cases h
    ·cases h
   ·cases h
  ·cases h
 ·cases h
end
end
section
section
variable {P : Program} {TI : Nat -> TD} {TY : Nat -> DT} {fz : Nat -> Bool} {c : Cx} {F : Nat -> Prop} {s : TS} {π : Nat -> Pl} {a : Act} {w : World}
theorem agP (hm : aI c F π s a w) {w' : World} (hB : Below w.heap.size w w') {cur : Array Value} {e : TypeId} {cap d : Nat} {t : DT} {ls : List (List t.den)} {K : List Nat} {sb : Nat -> IL} (hnew : w'.heap[w.heap.size]? = some (.cells cur e (0, 0))) (hd : aA s.ob d = none) (hK : ∀ k ∈ K, ∃ o, aA s.ob k = some o)
  (hcell : ∀ i, i < ls.length -> cur[i]? = some ((sb i).pl.hdr (ls.getD i []).length)) (hrow : ∀ i, i < ls.length -> qJ w (Gz F w π (aA s.ob)) (sb i).pl t (ls.getD i [])) (hsub : ∀ i b, i < ls.length -> (sb i).g = some b -> ∃ k ∈ K, Own π (aA s.ob) k b)
  (hinj : ∀ i j b, i < ls.length -> j < ls.length -> (sb i).g = some b -> (sb j).g = some b -> j = i) (hcap : ls.length <= cap) (hmax : cap <= maxLen) (hsz : cap <= cur.size) :
  aI c F (aW π d ⟨some w.heap.size, 0, cap, sb⟩) ⟨s.sl, ((d, .bD t ls none) :: K.map fun k => (k, .dead)) ++ s.ob⟩ a w' := by
 have hlt : w.heap.size < w'.heap.size := (Array.getElem?_eq_some_iff.1 hnew).1
 refine hm.asm hd hK (fun b hb => ?_) (fun b hb _ => hB.block b hb) hB.size ⟨hB.os, hB.tape, hB.output⟩ (fun G' hz' => .inr ⟨w.heap.size, cur, e, rfl, .of hnew, hcap, hmax, by simpa using hsz, fun i hi => ?_, fun i b hi hg => ⟨fun e2 => ?_, fun j hj hgj => hinj i j b hi hj hg hgj⟩⟩)
 ·rcases hb.2 with q | ⟨i, hi, _, q⟩
  ·obtain rfl := aC q; exact .inr ⟨Nat.le_refl _, hlt⟩
  ·exact .inl (hsub i b hi q)
 ·refine ⟨by rw [Nat.zero_add]; exact hcell i hi, (hrow i hi).move hz' fun b hb => ?_⟩
  obtain ⟨k, _, hk⟩ := hsub i b hi hb
  exact hB.block b (Jj hm hk)
 ·obtain ⟨k, _, hk⟩ := hsub i b hi hg
  have := Jj hm hk; omega
structure Nu (π : Nat -> Pl) (w : World) (G : Nat -> Prop) (O : bF) (id : Nat) (t : DT) (ls : List (List t.den)) (v : Value) (cs : List Value) : Prop where
 len : cs.length = ls.length
 get : ∀ i, i < ls.length -> cs[i]? = some (((π id).sub i).pl.hdr (ls.getD i []).length)
 one : ∀ u ∈ cs, u.oneCell' = true
 row : ∀ i, i < ls.length -> qJ w G ((π id).sub i).pl t (ls.getD i [])
 own : ∀ i b, i < ls.length -> ((π id).sub i).g = some b -> Own π O id b
 inj : ∀ i j b, i < ls.length -> j < ls.length -> ((π id).sub i).g = some b -> ((π id).sub j).g = some b -> j = i
 val : ((π id).g = none /\ ls = [] /\ v = .slice none 0 0) \/ ∃ g cur e, (π id).g = some g /\ kQ w g cur e /\ ls.length <= (π id).cap /\ (π id).cap <= maxLen /\ (π id).q + (π id).cap <= cur.size /\ v = .slice (some ⟨g, (π id).q, none⟩) ls.length (π id).cap /\ (∀ i, i < ls.length -> cur[(π id).q + i]? = cs[i]?) /\ ∀ i b, i < ls.length -> ((π id).sub i).g = some b -> b ≠ g
theorem aI.Xc (hm : aI c F π s a w) {id : Nat} {t : DT} {ls : List (List t.den)} (ho : aA s.ob id = some (.bD t ls none)) {v : Value} (hv : v = (π id).hdr ls.length) :
  ∃ cs, Nu π w (Gz F w π (aA s.ob)) (aA s.ob) id t ls v cs := by
 have nil : ∀ k r', (none : Option (Nat × Nat)) ≠ some (k, r') := fun k r h => by cases h
 refine ⟨(List.range ls.length).map fun i => ((π id).sub i).pl.hdr (ls.getD i []).length, ?_⟩
 have hget : ∀ i, i < ls.length -> ((List.range ls.length).map fun i => ((π id).sub i).pl.hdr (ls.getD i []).length)[i]? = some (((π id).sub i).pl.hdr (ls.getD i []).length) := fun i hi => by
  rw [List.getElem?_map, List.getElem?_range hi]; rfl
 have hone : ∀ u ∈ (List.range ls.length).map fun i => ((π id).sub i).pl.hdr (ls.getD i []).length, u.oneCell' = true := fun u hu => by
  obtain ⟨i, _, rfl⟩ := List.mem_map.1 hu
  exact Pl.JC _ _
 rcases hm.obj id _ ho with ⟨h1, h2, _⟩ | ⟨g, cur, e, h1, h2, h3, h4, h5, h6⟩
 ·subst h2
  exact ⟨by simp, hget, hone, fun i hi => by simp at hi, fun i b hi => by simp at hi, fun i j b hi => by simp at hi, .inl ⟨h1, rfl, by rw [hv, Pl.hdr, h1]⟩⟩
 ·refine ⟨by simp, hget, hone, fun i hi => ?_, fun i b hi hg => ⟨_, ho, rfl, .inr ⟨i, hi, nil i, hg⟩⟩, fun i j b hi hj h7 h8 => (h6.apart i b hi (nil i) h7).2 j hj (nil j) h8, .inr ⟨g, cur, e, h1, h2, h3, h4, h5, by rw [hv, Pl.hdr, h1], fun i hi => ?_, fun i b hi hg => (h6.apart i b hi (nil i) hg).1⟩⟩
  ·obtain ⟨u, _, _, a3, _⟩ := h6.cell i hi
   exact (a3 (nil i)).2
  ·obtain ⟨u, a1, _, a3, _⟩ := h6.cell i hi
   rw [a1, hget i hi, (a3 (nil i)).1]
theorem Nu.cells {G : Nat -> Prop} {O : bF} {id : Nat} {t : DT} {ls : List (List t.den)} {v : Value} {cs : List Value} (h : Nu π w G O id t ls v cs) : ∃ p cap, v = .slice p ls.length cap /\ (p = none -> ls = []) /\
  ∀ w' : World, (∀ b o, w.cell? ⟨b, o, none⟩ ≠ none -> w'.cell? ⟨b, o, none⟩ = w.cell? ⟨b, o, none⟩) -> (Builtin.firstCells 1 ls.length v).run P w' = .ok cs.toArray w' := by
 rcases h.val with ⟨_, h2, rfl⟩ | ⟨g, cur, e, h1, h2, h3, h4, h5, rfl, h7, _⟩
 ·subst h2
  have : cs = [] := List.eq_nil_of_length_eq_zero (by rw [h.len]; rfl)
  subst this
  exact ⟨none, 0, rfl, fun _ => rfl, fun w' _ => by simp [Builtin.firstCells]⟩
 ·refine ⟨_, _, rfl, (fun h => by cases h), fun w' hw' => ?_⟩
  refine run_firstCells_some w' 1 ls.length ⟨g, (π id).q, none⟩ ls.length (π id).cap cs (by rw [h.len, Nat.mul_one]) fun j u hu => ?_
  have hj : j < ls.length := by have := (List.getElem?_eq_some_iff.1 hu).1; rw [h.len] at this; exact this
  have hc : w.cell? ⟨g, (π id).q + j, none⟩ = some u := by rw [tH h2, h7 j hj]; exact hu
  rw [add_lit, hw' g ((π id).q + j) (by rw [hc]; simp), hc]
theorem azU (hT : dI P TI) {T ty : Nat} (hk : (TI T).kd = 2) (he : (TI T).elem = 1) {id m d : Nat} {t : DT} {ls : List (List t.den)} {l : List t.den} (hs : small (ls.length + 1) (TI T).eb = true) (hd : aA s.ob d = none) (ho : aA s.ob id = some (.bD t ls none)) (D7 : aA s.ob m = some (.bD t [l] none)) (hne : id ≠ m)
  {v vy : Value} (hv : v = (π id).hdr ls.length) (gB : vy = (π m).hdr 1) (hm : aI c F π s a w) :
  ∃ v' w' aJ, (Builtin.append_ #[T, T] ty #[v, vy]).run P w = .ok v' w' /\ aI c F aJ ⟨s.sl, [(d, .bD t (ls ++ [l]) none), (id, .dead), (m, .dead)] ++ s.ob⟩ a w' /\ v' = (aJ d).hdr (ls.length + 1) := by
 obtain ⟨e, ie, b1, b2, b3, b4, b5, b6, b7, b8⟩ := (hT T).sl hk
 have hsz : ie.size = 1 := b3.trans he
 obtain ⟨s1, s2⟩ := Kq hs
 obtain ⟨cs, hi⟩ := hm.Xc ho hv
 obtain ⟨ds, hj⟩ := hm.Xc D7 (v := vy) gB
 obtain ⟨p, cap, e1, _, f1⟩ := hi.cells (P := P)
 obtain ⟨q, c0, e2, _, f2⟩ := hj.cells (P := P)
 have hds : ds = [((π m).sub 0).pl.hdr l.length] := by
  have h1 := hj.len
  have h2 := hj.get 0 (by simp)
  match ds, h1, h2 with
  | [x], _, h2 => simp only [List.getElem?_cons_zero, aS] at h2; rw [h2]; rfl
 have hKo : ∀ k ∈ [id, m], ∃ o, aA s.ob k = some o := fun k hk => by
  simp only [List.mem_cons, List.not_mem_nil, or_false] at hk
  rcases hk with rfl | rfl
  ·exact ⟨_, ho⟩
  ·exact ⟨_, D7⟩
 let sb : Nat -> IL := fun k => if k < ls.length then (π id).sub k else (π m).sub 0
 have hlen : (ls ++ [l]).length = ls.length + 1 := by simp
 have hgl : ∀ i, i < ls.length -> (ls ++ [l]).getD i [] = ls.getD i [] /\ sb i = (π id).sub i := fun i hi => by
  rw [FU, if_pos hi]; exact ⟨rfl, if_pos hi⟩
 have hgn : (ls ++ [l]).getD ls.length [] = l /\ sb ls.length = (π m).sub 0 := by
  rw [FU, if_neg (Nat.lt_irrefl _), Nat.sub_self]; exact ⟨rfl, if_neg (Nat.lt_irrefl _)⟩
 have hcases : ∀ i, i < (ls ++ [l]).length -> i < ls.length \/ i = ls.length := fun i hi => by rw [hlen] at hi; omega
 have hrow : ∀ i, i < (ls ++ [l]).length -> qJ w (Gz F w π (aA s.ob)) (sb i).pl t ((ls ++ [l]).getD i []) := fun i hi' => by
  rcases hcases i hi' with h | rfl
  ·rw [(hgl i h).1, (hgl i h).2]; exact hi.row i h
  ·rw [hgn.1, hgn.2]; exact hj.row 0 (by simp)
 have hsub : ∀ i b, i < (ls ++ [l]).length -> (sb i).g = some b -> ∃ k ∈ [id, m], Own π (aA s.ob) k b := fun i b hi' hg => by
  rcases hcases i hi' with h | rfl
  ·rw [(hgl i h).2] at hg; exact ⟨id, by simp, hi.own i b h hg⟩
  ·rw [hgn.2] at hg; exact ⟨m, by simp, hj.own 0 b (by simp) hg⟩
 have hinj : ∀ i j b, i < (ls ++ [l]).length -> j < (ls ++ [l]).length -> (sb i).g = some b -> (sb j).g = some b -> j = i := fun i j b hi' hj' hg hgj => by
  rcases hcases i hi' with h | rfl <;> rcases hcases j hj' with h' | rfl
  ·rw [(hgl i h).2] at hg; rw [(hgl j h').2] at hgj; exact hi.inj i j b h h' hg hgj
  ·rw [(hgl i h).2] at hg; rw [hgn.2] at hgj
   exact absurd (hm.inj id m b (hi.own i b h hg) (hj.own 0 b (by simp) hgj)) hne
  ·rw [hgn.2] at hg; rw [(hgl j h').2] at hgj
   exact absurd (hm.inj id m b (hi.own j b h' hgj) (hj.own 0 b (by simp) hg)) hne
  ·rfl
 have hcell : ∀ (i : Nat), i < (ls ++ [l]).length -> (cs ++ ds)[i]? = some ((sb i).pl.hdr ((ls ++ [l]).getD i []).length) := fun i hi' => by
  rcases hcases i hi' with h | rfl
  ·rw [List.getElem?_append_left (by rw [hi.len]; exact h), hi.get i h, (hgl i h).1, (hgl i h).2]
  ·rw [List.getElem?_append_right (by rw [hi.len]; exact Nat.le_refl _), hi.len, Nat.sub_self, hds, hgn.1, hgn.2]; rfl
 have grow : cap < ls.length + 1 -> ∃ v' w' aJ, (Builtin.append_ #[T, T] ty #[v, vy]).run P w = .ok v' w' /\ aI c F aJ ⟨s.sl, [(d, .bD t (ls ++ [l]) none), (id, .dead), (m, .dead)] ++ s.ob⟩ a w' /\ v' = (aJ d).hdr (ls.length + 1) := fun hcap => by
  have f1' := f1 w.drew fun _ _ _ => rfl
  have f2' := f2 w.drew fun _ _ _ => rfl
  rw [e1, <- hsz] at f1'
  rw [e2, <- hsz] at f2'
  have hrun := Jt (P := P) (ty := ty) b1 b2 b5 f1' f2' hcap (by simp only [List.length_singleton]; omega) (growslice_fits hcap (by rw [b4]; exact s1))
  have hge := grownCap_ge w (ls.length + 1) cap e
  have hcm : grownCap w (ls.length + 1) cap e <= maxLen := grownCap_le_maxLen w (ls.length + 1) cap e (by simp [maxLen]; omega)
  have TR : (cs.toArray ++ ds.toArray ++ Builtin.zeroCells (TI T).ez.cells (grownCap w (ls.length + 1) cap e - (ls.length + 1))).size = grownCap w (ls.length + 1) cap e := by
   simp only [Array.size_append, List.size_toArray, size_zeroCells, b6, hi.len, hj.len, he, List.length_singleton, Nat.mul_one]
   omega
  rw [e1, e2]
  refine ⟨_, _, _, hrun, agP (sb := sb) (K := [id, m]) (cap := grownCap w (ls.length + 1) cap e) hm (w' := w.drew.alloc _) ((Below.refl _ _).drew.alloc (by simp) _) (heap_alloc_new w.drew _) hd hKo (fun i hi' => ?_) hrow hsub hinj (by rw [hlen]; exact hge) hcm (Nat.le_of_eq TR.symm), by simp [aW, Pl.hdr]⟩
  have hlt : i < (cs ++ ds).length := by rw [List.length_append, hi.len, hj.len, List.length_singleton]; rw [hlen] at hi'; exact hi'
  rw [Array.getElem?_append_left (by simpa using hlt), <- hcell i hi']
  simp
 rcases hi.val with ⟨_, h2, h3⟩ | ⟨g, cur, e', o1, o2, o3, o4, o5, o6, o7, o8⟩
 ·refine grow ?_
  rw [h3] at e1
  simp only [Value.slice.injEq] at e1
  omega
 ·have awJ : cap = (π id).cap := by rw [o6] at e1; simp only [Value.slice.injEq] at e1; exact e1.2.2.symm
  by_cases hroom : ls.length + 1 <= (π id).cap
  ·have f2' := f2 w fun _ _ _ => rfl
   rw [e2, <- hsz] at f2'
   have hfit : (π id).q + ls.length * ie.size + ds.length <= cur.size := by rw [hsz, hj.len, Nat.mul_one]; simp only [List.length_singleton]; omega
   have hrun := akT (P := P) (ty := ty) b1 b2 (o := (π id).q) (n := ls.length) (cap := (π id).cap) o2 (by rw [hj.len, hsz]; rfl) hj.one f2' hroom hfit
   have hq : (π id).q + ls.length * ie.size = (π id).q + ls.length := by rw [hsz, Nat.mul_one]
   rw [hq] at hrun hfit
   have hheap := GZ o2 (vX cur ((π id).q + ls.length) ds hfit)
   have hoth : ∀ b, b ≠ g -> (w.setRow g (jB cur ((π id).q + ls.length) ds)).heap[b]? = w.heap[b]? := fun b hb => setRow_other w g b _ hb
   have hsize : (w.setRow g (jB cur ((π id).q + ls.length) ds)).heap.size = w.heap.size := by simp
   have FV : Own π (aA s.ob) id g := ⟨_, ho, rfl, .inl o1⟩
   refine ⟨_, _, aW π d ⟨(π id).g, (π id).q, (π id).cap, sb⟩, by rw [o6, e2]; exact hrun, hm.asm (K := [id, m]) hd hKo (fun b hb => ?_) (fun b _ hno => hoth b fun e => hno id (by simp) (e ▸ FV)) (by omega) ⟨rfl, rfl, rfl⟩ (fun G' hz' => .inr ⟨g, _, e', o1, hheap, by rw [hlen]; exact hroom, o4, by rw [vX _ _ _ hfit]; exact o5, fun i hi' => ?_, fun i b hi' hg => ⟨?_, fun j hj' hgj => hinj i j b hi' hj' hg hgj⟩⟩), by simp [aW, Pl.hdr, o1]⟩
   ·rcases hb.2 with q | ⟨i, hi', _, q⟩
    ·rw [o1] at q; obtain rfl := aC q; exact .inl ⟨id, by simp, FV⟩
    ·exact .inl (hsub i b hi' q)
   ·have hne' : ∀ b, (sb i).g = some b -> b ≠ g := fun b hg => by
     rcases hcases i hi' with h | rfl
     ·rw [(hgl i h).2] at hg; exact o8 i b h hg
     ·rw [hgn.2] at hg
      exact fun e => hne (hm.inj id m b (e ▸ FV) (hj.own 0 b (by simp) hg))
    refine ⟨?_, (hrow i hi').move hz' fun b hb => hoth b (hne' b hb)⟩
    show (jB cur ((π id).q + ls.length) ds)[(π id).q + i]? = _
    rw [<- hcell i hi', KD _ _ _ _ hfit]
    rcases hcases i hi' with h | rfl
    ·rw [if_neg (by omega), List.getElem?_append_left (by rw [hi.len]; exact h)]; exact o7 i h
    ·rw [if_pos (by rw [hj.len]; simp), List.getElem?_append_right (by rw [hi.len]; exact Nat.le_refl _), hi.len]
     congr 1; omega
   ·have hg : (sb i).g = some b := hg
    rcases hcases i hi' with h | rfl
    ·rw [(hgl i h).2] at hg; exact o8 i b h hg
    ·rw [hgn.2] at hg
     exact fun e => hne (hm.inj id m b (e ▸ FV) (hj.own 0 b (by simp) hg))
  ·exact grow (by omega)
theorem azV (hT : dI P TI) {T ty : Nat} (hk : (TI T).kd = 2) (he : (TI T).elem = 1) {m d : Nat} {t : DT} {l : List t.den} (hs : small 1 (TI T).eb = true) (hd : aA s.ob d = none) (D7 : aA s.ob m = some (.bD t [l] none))
  {vy : Value} (gB : vy = (π m).hdr 1) (hm : aI c F π s a w) :
  ∃ v' w' aJ, (Builtin.append_ #[T, T] ty #[.slice none 0 0, vy]).run P w = .ok v' w' /\ aI c F aJ ⟨s.sl, [(d, .bD t [l] none), (m, .dead)] ++ s.ob⟩ a w' /\ v' = (aJ d).hdr 1 := by
 obtain ⟨e, ie, b1, b2, b3, b4, b5, b6, b7, b8⟩ := (hT T).sl hk
 have hsz : ie.size = 1 := b3.trans he
 obtain ⟨s1, s2⟩ := Kq hs
 obtain ⟨ds, hj⟩ := hm.Xc D7 (v := vy) gB
 obtain ⟨q, c0, e2, _, f2⟩ := hj.cells (P := P)
 have f1' : (Builtin.firstCells ie.size 0 (.slice none 0 0)).run P w.drew = .ok ([] : List Value).toArray w.drew := by simp [Builtin.firstCells]
 have f2' := f2 w.drew fun _ _ _ => rfl
 rw [e2, <- hsz] at f2'
 have hrun := Jt (P := P) (ty := ty) (n := 0) (cap := 0) b1 b2 b5 f1' f2' (by simp) (by simp only [List.length_singleton]; omega) (growslice_fits (by simp) (by rw [b4]; simpa using s1))
 have hge := grownCap_ge w (0 + [l].length) 0 e
 have hcm : grownCap w (0 + [l].length) 0 e <= maxLen := grownCap_le_maxLen w (0 + [l].length) 0 e (by simp [maxLen])
 have TR : ((([] : List Value).toArray ++ ds.toArray ++ Builtin.zeroCells (TI T).ez.cells (grownCap w (0 + [l].length) 0 e - (0 + [l].length)))).size = grownCap w (0 + [l].length) 0 e := by
  simp only [Array.size_append, List.size_toArray, size_zeroCells, b6, hj.len, he, List.length_singleton, List.length_nil, Nat.mul_one]
  simp only [List.length_singleton] at hge
  omega
 rw [e2]
 refine ⟨_, _, _, hrun, agP (sb := (π m).sub) (K := [m]) (cap := grownCap w (0 + [l].length) 0 e) hm (w' := w.drew.alloc _) ((Below.refl _ _).drew.alloc (by simp) _) (heap_alloc_new w.drew _) hd (fun k hk => by rw [List.mem_singleton.1 hk]; exact ⟨_, D7⟩) (fun i hi' => ?_) hj.row (fun i b hi' hg => ⟨m, by simp, hj.own i b hi' hg⟩) hj.inj (by simpa using hge) hcm (by rw [TR]; exact Nat.le_refl _), by simp [aW, Pl.hdr]⟩
 have hlt : i < ds.length := by rw [hj.len]; exact hi'
 rw [Array.getElem?_append_left (by simpa using hlt), <- hj.get i hi']
 simp
theorem azX (hT : dI P TI) {cl : Call} {dst : Option Nat} {ty : TypeId} {pos : String} {after : Array Edge} {g : Option (Nat × Bool)} {e : Eff} (h : jP TI TY fz s.ev (aA s.ob) dst (.call cl) = some e) (hb : e.b = true) (hm : aI c F π s a w) : jR P c F s π a w ⟨dst, .call cl, ty, pos, after, g⟩ e := by
 simp only [jP] at h
 obtain ⟨callee, args, ats⟩ := cl
 simp only at h
 split at h
 ·rename_i d x y T T' hxs hts
  split at h
  ·rename_i heq
   subst heq
   have ha : args = #[x, y] := by apply Array.ext'; simpa using hxs
   have ht : ats = #[T, T] := by apply Array.ext'; simpa using hts
   subst ha; subst ht
   have oL : ∀ {v : Value} {w' : World}, (Builtin.append_ #[T, T] ty #[a.eval x, a.eval y]).run P w = .ok v w' -> (execOp a.eval ⟨some d, .call { callee := .builtin .append, args := #[x, y], argTypes := #[T, T] }, ty, pos, after, g⟩).run P w = .ok (.value v) w' := fun h =>
    eP (e := Builtin.append_ #[T, T] ty #[a.eval x, a.eval y]) (by rw [BigFrame.execOp_builtin, BigFrame.builtin_append]; simp) h
   have gQ := hm.ev x
   have gB := hm.ev y
   split at h
   ·rename_i m hy
    rw [hy] at gB
    split at h
    ·rename_i t l D7 hd
     simp only [VR, D7] at gB
     split at h
     ·rename_i hx
      rw [hx] at gQ
      split at h
      ·rename_i hk
       simp only [bC, beq_iff_eq] at hk
       obtain rfl := aC h
       obtain ⟨v', w', aJ, r1, r2, r3⟩ := azV (ty := ty) hT hk.1 hk.2 hb hd D7 gB hm
       have gQ : a.eval x = .slice none 0 0 := gQ
       rw [<- gQ] at r1
       refine ⟨v', w', aJ, .inl (oL r1), r2, ?_⟩
       simp only [VR, List.cons_append, aA, if_true]
       exact r3
      ·cases h
     ·rename_i id hx
      rw [hx] at gQ
      split at h
      ·rename_i t' ls ho
       split at h
       ·rename_i e1
        subst e1
        split at h
        ·rename_i hk
         simp only [bC, beq_iff_eq, bne_iff_ne, ne_eq] at hk
         obtain rfl := aC h
         simp only [VR, ho] at gQ
         obtain ⟨v', w', aJ, r1, r2, r3⟩ := azU (ty := ty) hT hk.1.1 hk.1.2 hb hd ho D7 hk.2 gQ gB hm
         refine ⟨v', w', aJ, .inl (oL r1), r2, ?_⟩
         simp only [VR, List.cons_append, aA, if_true, List.length_append, List.length_singleton]
         exact r3
        ·cases h
       ·cases h
      ·cases h
     ·cases h
    ·cases h
   ·cases h
  ·cases h
 ·rename_i x T hxs hts
  have ha : args = #[x] := by apply Array.ext'; simpa using hxs
  have ht : ats = #[T] := by apply Array.ext'; simpa using hts
  subst ha; subst ht
  have gQ := hm.ev x
  split at h
  ·rename_i id hx
   rw [hx] at gQ
   split at h
   ·rename_i t ls out ho
    split at h
    ·rename_i hk
     simp only [beq_iff_eq] at hk
     obtain rfl := aC h
     simp only [VR, ho] at gQ
     obtain ⟨e0, ie, b1, _⟩ := (hT T).sl hk
     obtain ⟨p, cap, e1⟩ : ∃ p cap, a.eval x = .slice p ls.length cap := by
      rcases hm.obj id _ ho with ⟨h1, h2, _⟩ | ⟨g, cur, e, h1, _⟩
      ·subst h2; exact ⟨none, 0, by rw [gQ, Pl.hdr, h1]; rfl⟩
      ·exact ⟨_, _, by rw [gQ, Pl.hdr, h1]⟩
     exact ⟨_, w, π, .inl (eP (e := Builtin.len_ #[T] ty #[a.eval x]) (by rw [BigFrame.execOp_builtin, BigFrame.builtin_len]; simp) (by rw [e1]; simp [Builtin.len_, run_underlying b1, goInt])), hm, rfl⟩
    ·cases h
   ·cases h
  ·cases h
 ·cases h
theorem U8 (hT : dI P TI) {o : Oper} {e : Eff} (h : jP TI TY fz s.ev (aA s.ob) o.dst o.op = some e) (hb : e.b = true) (hm : aI c F π s a w) : jR P c F s π a w o e := by
 obtain ⟨dst, op, ty, pos, after, g⟩ := o
 simp only at h
 cases op with
 | makeSlice T x y => exact az0 hT h hb hm
 | indexAddr T x y => exact azY hT h hb hm
 | load T x => exact azZ hT h hb hm
 | store T x y => exact az1 hT h hb hm
 | buildSlice T n parts => exact azW hT h hb hm
 | call cl => exact azX hT h hb hm
 | _ => simp [jP] at h
theorem aGK (hT : dI P TI) {o : Oper} {e : Eff} (h : EU TI TY fz s.ev (aA s.ob) o.dst o.op = some e) (hb : e.b = true) (hm : aI c F π s a w) : jR P c F s π a w o e := by
 unfold EU at h
 split at h
 ·rename_i e' he
  obtain rfl := aC h
  exact aEH hT he hb hm
 ·split at h
  ·exact U8 hT h hb hm
  split at h
  ·exact U8 hT h hb hm
  ·split at h
   ·rename_i U hU
    split at h
    ·rename_i e' he
     obtain rfl := aC h
     obtain ⟨iY, hm1⟩ := ak5 hm hU
     rw [<- aCJ] at he
     obtain ⟨v, w', aJ, q1, q2, q3⟩ := U8 (s := ⟨s.sl, U ++ s.ob⟩) hT he hb hm1
     refine ⟨v, w', aJ, q1, ?_, ?_⟩
     ·simp only [List.append_assoc]; exact q2
     ·simp only [List.append_assoc]; exact q3
    ·cases h
   ·cases h
  ·cases h
end
end
section
def NJ : TO -> Option TO
 | .row t l => some (.dG t l)
 | .bD t ls none => some (.dG (.sl t) ls)
 | _ => none
def iZ (L : bF) (ids : List Nat) : List (Nat × TO) := ids.filterMap fun id => match L id with
 | some o => (NJ o).map fun o' => (id, o')
 | _ => none
theorem aeY {o o' : TO} (h : NJ o = some o') : ((∃ t l, o = .row t l /\ o' = .dG t l) \/ ∃ t ls, o = .bD t ls none /\ o' = .dG (.sl t) ls) /\ o'.live = false := by
 cases o with
 | row t l => obtain rfl := aC h; exact ⟨.inl ⟨t, l, rfl, rfl⟩, rfl⟩
 | bD t ls out => cases out with
  | none => obtain rfl := aC h; exact ⟨.inr ⟨t, ls, rfl, rfl⟩, rfl⟩
  | some p => cases h
 | _ => cases h
def eX (U : List (Nat × TO)) (L : bF) : bF := fun i => match aA U i with
 | some o => some o
 | none => L i
theorem G5 (U O : List (Nat × TO)) : aA (U ++ O) = eX U (aA O) := by
 funext i
 induction U with
 | nil => rfl
 | cons p r ih =>
  obtain ⟨j, o⟩ := p
  simp only [List.cons_append, eX, aA]
  by_cases h : i = j
  ·rw [if_pos h, if_pos h]
  ·rw [if_neg h, if_neg h]; exact ih
theorem TF {L : bF} : ∀ {ids : List Nat} {i : Nat} {o : TO}, aA (iZ L ids) i = some o -> ∃ o0, L i = some o0 /\ NJ o0 = some o
 | [], i, o, h => by cases h
 | id :: r, i, o, h => by
  simp only [iZ, List.filterMap_cons] at h
  split at h
  ·exact TF (ids := r) h
  ·rename_i p hp
   split at hp
   ·rename_i o0 hl
    obtain ⟨o1, h1, rfl⟩ := Option.map_eq_some_iff.1 hp
    rw [dQ] at h
    by_cases e : i = id
    ·rw [if_pos e] at h; subst e; obtain rfl := aC h; exact ⟨o0, hl, h1⟩
    ·rw [if_neg e] at h; exact TF (ids := r) h
   ·cases hp
theorem aI.NJ {c : Cx} {F : Nat -> Prop} {w : World} {π : Nat -> Pl} {s : TS} {a : Act} (h : aI c F π s a w) {d : Nat} {o o' : TO} (hd : aA s.ob d = some o) (hf : Go.Proofs.YtfopcfnggdonkaaGreatDoor.NJ o = some o') : aI c F π ⟨s.sl, (d, o') :: s.ob⟩ a w := by
 obtain ⟨⟨t, l, rfl, rfl⟩ | ⟨t, ls, rfl, rfl⟩, _⟩ := aeY hf
 ·exact h.freeze hd
 ·exact h.au8 hd
theorem aI.iZ {c : Cx} {F : Nat -> Prop} {s : TS} {π : Nat -> Pl} {a : Act} {w : World} (h : aI c F π s a w) : ∀ ids : List Nat, aI c F π ⟨s.sl, Go.Proofs.YtfopcfnggdonkaaGreatDoor.iZ (aA s.ob) ids ++ s.ob⟩ a w
 | [] => h
 | id :: r => by
  have ih := aI.iZ h r
  simp only [Go.Proofs.YtfopcfnggdonkaaGreatDoor.iZ, List.filterMap_cons]
  split
  ·exact ih
  ·rename_i p hp
   split at hp
   ·rename_i o0 hl
    obtain ⟨o1, hf, rfl⟩ := Option.map_eq_some_iff.1 hp
    have hlk : aA (Go.Proofs.YtfopcfnggdonkaaGreatDoor.iZ (aA s.ob) r ++ s.ob) id = match aA (Go.Proofs.YtfopcfnggdonkaaGreatDoor.iZ (aA s.ob) r) id with | some o => some o | none => aA s.ob id := by rw [G5]; rfl
    cases hq : aA (Go.Proofs.YtfopcfnggdonkaaGreatDoor.iZ (aA s.ob) r) id with
    | none =>
     rw [hq] at hlk
     simp only at hlk
     rw [hl] at hlk
     exact ih.NJ hlk hf
    | some o =>
     rw [hq] at hlk
     simp only at hlk
     obtain ⟨o2, h1, h2⟩ := TF hq
     rw [hl] at h1
     obtain rfl := aC h1
     rw [hf] at h2; obtain rfl := aC h2
     refine ih.same rfl ?_
     funext i
     show aA ((id, o1) :: (Go.Proofs.YtfopcfnggdonkaaGreatDoor.iZ (aA s.ob) r ++ s.ob)) i = _
     rw [dQ]
     by_cases e : i = id
     ·rw [if_pos e, e]; exact hlk.symm
     ·rw [if_neg e]
   ·cases hp
def TV.pI : TV -> List Nat
 | .row id => [id]
 | .iP id _ _ => [id]
 | _ => []
def needs (ev : Operand -> TV) (L : bF) : Op -> List Nat
 | .buildSlice _ _ parts => parts.toList.flatMap fun p => (ev p.2).pI
 | .build _ parts => parts.toList.flatMap fun p => (ev p.2).pI
 | .store _ p y => match ev p with
  | .ptr id _ q => match L id, q with
   | some (.aV fs), [j] => if (fs.getD j .any).afY then (ev y).pI else []
   | _, _ => (ev y).pI
  | _ => []
 | .load _ p => match ev p with
  | .ptr id _ [] => match L id with
   | some (.aV fs) => fs.flatMap TV.pI
   | _ => []
  | _ => []
 | .mapUpdate _ _ k y => (ev k).pI ++ (ev y).pI
 | .insert _ _ k y => (ev k).pI ++ (ev y).pI
 | .slice _ x _ _ _ => match ev x with
  | .row id => match L id with
   | some (.bD _ _ none) => [id]
   | _ => []
  | _ => []
 | _ => []
inductive Md where
 | obj
 | aO (t : DT)
 | own (t : DT)
structure Env where
 TI : Nat -> TD
 TY : Nat -> DT
 rc : Nat -> Option (List (Option DT))
 fz : Nat -> Bool
 tw : Nat -> Option Nat
 sig : Nat -> List TV -> Option (List Md)
 phi : {α : Type} -> Nat -> List TV -> List (Nat × TO) -> (TV -> List (Nat × TO) -> Option α) -> Option α
 seq : TV -> Option (Bool × ((t : DT) × List t.den))
def chk {α : Type} (b : Bool) (r : Option α) : Option α := cond b r none
def U9 (E : Env) (ev : Operand -> TV) (L : bF) (dst : Option Nat) (T : Nat) (x : Operand) (lo hi mx : Option Operand) : Option Eff :=
 match dst, mx with
 | some d, none => if E.fz d then (match L d, ev x, kG ev lo, kG ev hi with
  | none, .row id, some a, some b => match L id with
   | some (.row t l) => if (E.TI T).kd == 2 && (E.TI T).elem == t.size then some ⟨.row d, [(d, .row t (BL l a b)), (id, .dead)], rU l.length a b⟩ else none
   | _ => none
  | _, _, _, _ => none) else none
 | _, _ => none
def TV.asC (x : TV) (t : DT) : Option (t.den × Bool) :=
 match x with
 | .dv u z => (TV.dv u z).as (fun _ => none) t
 | .nl => TV.nl.as (fun _ => none) t
 | _ => none
def rH (E : Env) (ev : Operand -> TV) (L : bF) (dst : Option Nat) : Op -> Option Eff
 | .call c => match c.callee, dst, c.args.toList, c.argTypes.toList with
  | .builtin .append, some d, [x, y], [T, T'] => if E.fz d && decide (T = T') then (match L d with
   | some _ => none
   | none => match ev x with
    | .dv (.jT t) l => match (ev y).data L with
     | some ⟨t', m⟩ => if h : t' = t then (if (E.TI T).kd == 2 && (E.TI T).elem == t.size then
       some ⟨.row d, [(d, .dG t (l ++ h ▸ m))], small (l.length + m.length) (E.TI T).eb⟩ else none) else none
     | none => none
    | _ => none) else none
  | _, _, _, _ => none
 | .slice T x lo hi mx => U9 E ev L dst T x lo hi mx
 | .box T x => match dst with
  | some d => if E.fz d then (match (ev x).as L (E.TY T) with
   | some (y, b) => if (E.TY T).plain then some ⟨.dv (.fp (E.TY T)) (some y), [], b⟩ else none
   | none => none) else none
  | none => none
 | .assign x => match dst.bind E.rc with
  | some [some t] => match TV.asC (ev x) t with
   | some (y, b) => if t.plain then some ⟨.dv t y, [], b⟩ else none
   | none => none
  | _ => none
 | _ => none
def G6 (E : Env) (ev : Operand -> TV) (L : bF) (dst : Option Nat) (op : Op) : Option Eff :=
 match op, dst with
 | .makeSlice T x y, some d => if E.fz d then jP E.TI E.TY E.fz ev L (some d) (.makeSlice T x y) else none
 | .buildSlice T n parts, some d => if E.fz d then jP E.TI E.TY E.fz ev L (some d) (.buildSlice T n parts) else none
 | _, _ => none
def zB (E : Env) (o : Oper) (ev : Operand -> TV) (L : bF) : Option Eff :=
 match tst E.TI E.TY E.rc ev L o.dst o.op with
 | some e => some e
 | none =>
 match G6 E ev L o.dst o.op with
 | some e => some e
 | none =>
 let U0 := iZ L (needs ev L o.op)
 let L1 := eX U0 L
 match rH E ev L1 o.dst o.op with
 | some e => some ⟨e.y, e.u ++ U0, e.b⟩
 | none => match iO E.TI ev L1 o.op with
  | some (y, b) => some ⟨y, U0, b⟩
  | none => match oD E.TI E.TY ev L1 o.op with
   | some (y, b) => some ⟨y, U0, b⟩
   | none => match jX E.TI E.TY E.rc ev L1 o.dst o.op with
    | some e => some ⟨e.y, e.u ++ U0, e.b⟩
    | none => match kZ E.TI ev L1 o.dst o.op with
     | some e => some ⟨e.y, e.u ++ U0, e.b⟩
     | none => match sH E.TI ev L1 o.dst o.op with
      | some e => some ⟨e.y, e.u ++ U0, e.b⟩
      | none => EU E.TI E.TY E.fz ev L o.dst o.op
def TV.ids : TV -> List Nat
 | .row id => [id]
 | .iP id _ _ => [id]
 | .ptr id _ _ => [id]
 | .view id _ _ _ _ _ _ => [id]
 | .fn _ k n f => (List.range (k + n)).flatMap fun j => (f j).ids
 | .dM n f => (List.range n).flatMap fun j => (f j).ids
 | .st n f => (List.range n).flatMap fun j => (f j).ids
 | _ => []
def TO.ids : TO -> List Nat
 | .aV fs => fs.flatMap TV.ids
 | .bD _ _ (some p) => [p.2]
 | _ => []
def TV.EX (R : List Nat) (x : TV) : Bool := x.ids.all fun i => R.contains i
def TO.EX (R : List Nat) (x : TO) : Bool := x.ids.all fun i => R.contains i
def TV.rC : TV -> Bool
 | .dv t _ => t.nX
 | .el _ _ _ => false
 | .fn _ k n f => (List.range (k + n)).all fun j => (f j).rC
 | .dM n f => (List.range n).all fun j => (f j).rC
 | .st n f => (List.range n).all fun j => (f j).rC
 | _ => true
def TO.rC : TO -> Bool
 | .row t _ => t.nX
 | .aV fs => fs.all TV.rC
 | .map kt vt _ => kt.nX && vt.nX
 | .dG _ _ => false
 | .iI _ _ _ => false
 | .iter _ _ _ _ => false
 | .sit _ => true
 | .bD t _ _ => t.nX
 | .dead => true
def uG : Nat -> bF -> List Nat -> List Nat -> List Nat
 | 0, _, _, acc => acc
 | n + 1, L, [], acc => acc
 | n + 1, L, id :: todo, acc => if acc.contains id then uG n L todo acc else match L id with
  | some o => uG n L (todo ++ o.ids) (acc ++ [id])
  | none => uG n L todo acc
def idx : List Nat -> Nat -> Nat
 | [], _ => 0
 | x :: r, i => if i = x then 0 else idx r i + 1
def oU (R : List Nat) (i : Nat) : Nat := 9000 + idx R i
def vW (R : List Nat) (d : Nat) (j : Nat) : Nat := if 9000 <= j /\ j < 9000 + R.length then R.getD (j - 9000) 0 else 1000000 + 10000 * d + j
def TV.aO (L : bF) : TV -> Option ((Σ t : DT, List t.den) × Bool)
 | .view id i p k n a b => match L id with
  | some o => match o.part i p with
   | some ⟨.arr m u, l⟩ => if k == u.size && o.live && n == m then some (⟨u, (l.take b).drop a⟩, decide (b <= l.length)) else none
   | _ => none
  | none => none
 | .row id => match L id with
  | some (.bD t ls none) => some (⟨.sl t, ls⟩, true)
  | _ => ((TV.row id).data L).map fun y => (y, true)
 | x => (x.data L).map fun y => (y, true)
def NV (L : bF) (x : TV) : (t : DT) -> Option (t.den × Bool)
 | .sl u => match x.aO L with
  | some (⟨v, l⟩, b) => if h : v = u then some (h ▸ l, b) else none
  | none => x.as L (.sl u)
 | t => x.as L t
def rV (L : bF) : List Md -> List TV -> Option (List TV × Bool)
 | [], [] => some ([], true)
 | m :: ms, x :: xs => match rV L ms xs with
  | some (l, b) => match m with
   | .obj => some (x :: l, b)
   | .aO t => match NV L x t with
    | some (y, b') => if t.plain then some (.dv t y :: l, b' && b) else none
    | none => none
   | .own t => match x.as L t with
    | some (y, b') => if t.plain then some (.dv t y :: l, b' && b) else none
    | none => none
  | none => none
 | _, _ => none
def uF : List Md -> List TV -> List Nat
 | .own _ :: ms, x :: xs => x.pI ++ uF ms xs
 | _ :: ms, _ :: xs => uF ms xs
 | _, _ => []
def qZ : List Md -> List TV -> List Nat
 | .obj :: ms, x :: xs => x.ids ++ qZ ms xs
 | _ :: ms, _ :: xs => qZ ms xs
 | _, _ => []
def uS (L : bF) : List Md -> List TV -> List Nat
 | .aO _ :: ms, x :: xs => (x.ids.filter fun i => match L i with | some o => o.live | none => false) ++ uS L ms xs
 | _ :: ms, _ :: xs => uS L ms xs
 | _, _ => []
def nodupB : List Nat -> Bool
 | [] => true
 | x :: r => !r.contains x && nodupB r
def TO.axA : TO -> Bool
 | .dead => true
 | _ => false
variable {α : Type}
def nO (L : bF) : List Nat -> List (Nat × TO)
 | [] => []
 | id :: r => let U := nO L r
  (yG (eX U L) id).getD [] ++ U
def uO : List Md -> List TV -> List Nat
 | .obj :: ms, _ :: xs => uO ms xs
 | _ :: ms, x :: xs => x.pI ++ uO ms xs
 | _, _ => []
def FH (E : Env) (d g : Nat) (xs : List TV) (L : bF) (k : Eff -> Option α) : Option α :=
 match E.sig g xs with
 | some eQ =>
  let S0 := nO L (uO eQ xs)
  let U0 := iZ (eX S0 L) (uF eQ xs) ++ S0
  let L1 := eX U0 L
  match rV L1 eQ xs with
  | some (as, b) =>
   let R := uG 60 L1 (qZ eQ xs) []
   let ln := uS L1 eQ xs
   if R.all (fun i => match L1 i with | some o => o.live && !o.rZ && o.EX R | none => false) && (qZ eQ xs).all (fun i => R.contains i) && ln.all (fun i => !R.contains i) && nodupB R then
    chk b (E.phi g (as.map (TV.ren (oU R))) (R.map fun i => (oU R i, ((L1 i).getD .dead).ren (oU R))) fun r O' =>
     if nodupB (O'.map fun p => vW R d p.1) && O'.all (fun p => if 9000 <= p.1 /\ p.1 < 9000 + R.length then p.2.live || p.2.axA else (L1 (vW R d p.1)).isNone) && (ln.isEmpty || (r.rC && O'.all fun p => p.2.rC)) then
      k ⟨r.ren (vW R d), qF (vW R d) O' ++ U0, true⟩ else none)
   else none
  | none => none
 | none => none
def Dx (k n : Nat) (f : Nat -> TV) (xs : List TV) : List TV := ((List.range k).map f) ++ xs ++ ((List.range n).map fun j => f (k + j))
def Uh {A B : Type} (y : A ⊕ B) (f : A -> Option α) (g : B -> Option α) : Option α :=
 match y with
 | .inl a => f a
 | .inr b => g b
def NR (E : Env) (d : Nat) (name : String) (xs : List TV) (L : bF) (k : Eff -> Option α) : (s : DT) -> s.den -> Option α
 | .iT T t r, y => Uh y
   (fun a => if t.agg then none else match (E.TI T).zH.lookup name with
    | some g => FH E d g (.dv t a :: xs) L k
    | none => none)
   (fun b => NR E d name xs L k r b)
 | _, _ => none
def aDQ (l : List (Int × Int)) (x0 : Option α) (f : Int × Int -> List (Int × Int) -> Option α) : Option α :=
 match l with
 | [] => x0
 | p :: r => f p r
def eff (E : Env) (o : Oper) (ev : Operand -> TV) (L : bF) (k : Eff -> Option α) : Option α :=
 match zB E o ev L with
 | some e => chk e.b (k e)
 | none => match o.op with
  | .pick c x y => match ev c with
   | .dv .bool t => cond t (k ⟨ev x, [], true⟩) (k ⟨ev y, [], true⟩)
   | _ => none
  | .next x true => match ev x with
   | .row id => match L id with
    | some (.sit l) => aDQ l (k ⟨.dM 1 fun i => ([.dv .bool false] : List TV).getD i .any, [], true⟩) fun p r =>
      k ⟨.dM 3 fun i => ([.dv .bool true, .dv (.int .i64) p.1, .dv (.int .i32) p.2] : List TV).getD i .any, [(id, .sit r)], true⟩
    | _ => none
   | _ => none
  | .call c => match c.callee with
   | .value x => match ev x with
    | .fn g k' n f => FH E (o.dst.getD 0) g (Dx k' n f (c.args.toList.map ev)) L k
    | _ => none
   | .invoke x name => match ev x with
    | .dv u y => NR E (o.dst.getD 0) name (c.args.toList.map ev) L k u y
    | _ => none
   | _ => none
  | _ => none
def TS.app (s : TS) (d : Option Nat) (e : Eff) : TS := ⟨(s.put d e.y).sl, e.u ++ s.ob⟩
def oW (P : Program) (E : Env) : Prop := ∀ (g : Nat) (args : List TV) (Of : List (Nat × TO)) (α : Type) (k : TV -> List (Nat × TO) -> Option α) (res : α), E.phi g args Of k = some res ->
 ∃ r O', k r O' = some res /\ (∀ (β : Type) (k' : TV -> List (Nat × TO) -> Option β), E.phi g args Of k' = k' r O') /\ iQ P g args Of fun r' jS => r' = r /\ jS = O'
theorem IY {b : Bool} {x : Option α} {r : α} (h : chk b x = some r) : b = true /\ x = some r := by
 cases b with
 | true => exact ⟨rfl, h⟩
 | false => cases h
section
variable {P : Program} {E : Env} {c : Cx} {F : Nat -> Prop} {s : TS} {π : Nat -> Pl} {a : Act} {w : World}
theorem aI.aqM (hm : aI c F π s a w) {d : Nat} (hd : aA s.ob d = none) (t : DT) (l : List t.den) : aI c F (aW π d ⟨none, 0, 0, iU⟩) ⟨s.sl, (d, .dG t l) :: s.ob⟩ a w :=
 hm.GK (Below.refl _ _) hd (fun g hg => by cases hg) trivial
theorem aI.moveRow (hm : aI c F π s a w) {d id : Nat} {t : DT} {l : List t.den} (hd : aA s.ob d = none) (hid : aA s.ob id = some (.row t l)) {g : Nat} (o1 : (π id).g = some g) {lo hi q' : Nat} (h1 : lo <= hi) (h2 : hi <= l.length)
  (hq : (π id).cap ≠ lo -> q' = (π id).q + lo * t.size) (hq0 : (π id).cap = lo -> q' = (π id).q) :
  aI c F (aW π d ⟨some g, q', (π id).cap - lo, iU⟩) ⟨s.sl, (d, .row t ((l.take hi).drop lo)) :: (id, .dead) :: s.ob⟩ a w := by
 have hne : d ≠ id := fun e => by subst e; rw [hd] at hid; cases hid
 have hor := hm.obj id _ hid
 simp only [OR] at hor
 rcases hor with ⟨UX, _⟩ | ⟨g', cur, e', UX, o2, o3, o4, o5, o6⟩
 ·rw [o1] at UX; cases UX
 rw [o1] at UX; obtain rfl := aC UX
 have hown : Own π (aA s.ob) id g := .of o1 hid rfl
 have own : ∀ i b, Own (aW π d ⟨some g, q', (π id).cap - lo, iU⟩) (aA ((d, .row t ((l.take hi).drop lo)) :: (id, .dead) :: s.ob)) i b -> (i = d /\ b = g) \/ (i ≠ d /\ i ≠ id /\ Own π (aA s.ob) i b) := fun i b ⟨o', r2, r3⟩ => by
  rw [dQ, dQ] at r2
  by_cases e1 : i = d
  ·subst e1
   rw [if_pos rfl] at r2; obtain rfl := aC r2
   have r1 := r3.g rfl
   simp only [aW, if_true, aS] at r1
   exact .inl ⟨rfl, r1.symm⟩
  ·rw [if_neg e1] at r2
   simp only [aW, if_neg e1] at r3
   by_cases e2 : i = id
   ·rw [if_pos e2] at r2; obtain rfl := aC r2; exact (r3.not rfl).elim
   ·rw [if_neg e2] at r2; exact .inr ⟨e1, e2, o', r2, r3⟩
 have E : gK w (Gz F w π (aA s.ob)) π (aA s.ob) w (Gz F w (aW π d ⟨some g, q', (π id).cap - lo, iU⟩) (aA ((d, .row t ((l.take hi).drop lo)) :: (id, .dead) :: s.ob))) (aW π d ⟨some g, q', (π id).cap - lo, iU⟩) (aA ((d, .row t ((l.take hi).drop lo)) :: (id, .dead) :: s.ob)) := by
  refine ⟨fun b ⟨r0, r1, r2⟩ => ⟨⟨r0, r1, fun i hi => ?_⟩, rfl⟩, fun i o ho => ?_⟩
  ·rcases own i b hi with ⟨_, rfl⟩ | ⟨_, _, h⟩
   ·exact r2 id hown
   ·exact r2 i h
  ·have e1 : i ≠ d := fun e => by subst e; rw [hd] at ho; cases ho
   by_cases e2 : i = id
   ·exact ⟨.dead, by rw [dQ, if_neg e1, dQ, if_pos e2], by simp [Step]⟩
   ·exact ⟨o, by rw [dQ, if_neg e1, dQ, if_neg e2]; exact ho, by simp only [aW, if_neg e1]; exact Step.refl o⟩
 refine hm.go (hm.kept.on ⟨rfl, rfl, rfl⟩ (Nat.le_refl _) fun b hb => rfl) E (fun i o ho => ?_) (fun i j b hi hj => ?_) (fun i b hi => ?_)
 ·by_cases e1 : i = d
  ·rw [dQ, if_pos e1] at ho
   obtain rfl := aC ho
   subst e1
   have hlen : ((l.take hi).drop lo).length = hi - lo := by simp; omega
   refine .inr ⟨g, cur, e', by simp [aW], o2, by simp only [aW, if_true, hlen]; omega, by simp only [aW, if_true]; omega, ?_, fun j hj cc hcc => ?_⟩
   ·simp only [aW, if_true]
    by_cases hc : (π id).cap = lo
    ·rw [hq0 hc, hc, Nat.sub_self, Nat.zero_mul]
     have : (π id).q <= (π id).q + (π id).cap * t.size := Nat.le_add_right _ _
     omega
    ·rw [hq hc, Nat.add_assoc, <- Nat.add_mul, show lo + ((π id).cap - lo) = (π id).cap by omega]; exact o5
   ·rw [hlen] at hj
    simp only [aW, if_true]
    have hc : (π id).cap ≠ lo := by omega
    obtain ⟨u, r1, r2, r3⟩ := o6 (lo + j) (by omega) cc hcc
    refine ⟨u, ?_, r2, ?_⟩
    ·rw [hq hc, <- r1]
     congr 1
     rw [Nat.add_mul]; omega
    ·rw [NK l lo hi j t.dflt h2 (by omega)]; exact DT.iE E.fz r3
  ·rw [dQ, if_neg e1, dQ] at ho
   by_cases e2 : i = id
   ·rw [if_pos e2] at ho; obtain rfl := aC ho; trivial
   ·rw [if_neg e2] at ho
    exact (hm.obj i o ho).lY E (by simp only [aW, if_neg e1]) fun b hb => rfl
 ·rcases own i b hi with ⟨r1, r2⟩ | ⟨r1, r2, r3⟩ <;> rcases own j b hj with ⟨r4, r5⟩ | ⟨r4, r5, r6⟩
  ·exact r1.trans r4.symm
  ·exact absurd (hm.inj j id g (r2 ▸ r6) hown) r5
  ·exact absurd (hm.inj i id g (r5 ▸ r3) hown) r2
  ·exact hm.inj i j b r3 r6
 ·rcases own i b hi with ⟨_, rfl⟩ | ⟨_, _, r3⟩
  ·exact hm.new id b hown
  ·exact hm.new i b r3
theorem aI.az7 (hm : aI c F π s a w) {d id : Nat} {t : DT} (hd : aA s.ob d = none) (hid : aA s.ob id = some (.row t ([] : List t.den))) (o1 : (π id).g = none) :
  aI c F (aW π d ⟨none, 0, 0, iU⟩) ⟨s.sl, (d, .row t ([] : List t.den)) :: (id, .dead) :: s.ob⟩ a w := by
 have hne : d ≠ id := fun e => by subst e; rw [hd] at hid; cases hid
 have own : ∀ i b, Own (aW π d ⟨none, 0, 0, iU⟩) (aA ((d, .row t ([] : List t.den)) :: (id, .dead) :: s.ob)) i b -> (i ≠ d /\ i ≠ id /\ Own π (aA s.ob) i b) := fun i b ⟨o', r2, r3⟩ => by
  rw [dQ, dQ] at r2
  by_cases e1 : i = d
  ·subst e1
   rw [if_pos rfl] at r2; obtain rfl := aC r2
   have r1 := r3.g rfl
   simp only [aW, if_true] at r1
   cases r1
  ·rw [if_neg e1] at r2
   simp only [aW, if_neg e1] at r3
   by_cases e2 : i = id
   ·rw [if_pos e2] at r2; obtain rfl := aC r2; exact (r3.not rfl).elim
   ·rw [if_neg e2] at r2; exact ⟨e1, e2, o', r2, r3⟩
 have E : gK w (Gz F w π (aA s.ob)) π (aA s.ob) w (Gz F w (aW π d ⟨none, 0, 0, iU⟩) (aA ((d, .row t ([] : List t.den)) :: (id, .dead) :: s.ob))) (aW π d ⟨none, 0, 0, iU⟩) (aA ((d, .row t ([] : List t.den)) :: (id, .dead) :: s.ob)) := by
  refine ⟨fun b ⟨r0, r1, r2⟩ => ⟨⟨r0, r1, fun i hi => r2 i (own i b hi).2.2⟩, rfl⟩, fun i o ho => ?_⟩
  have e1 : i ≠ d := fun e => by subst e; rw [hd] at ho; cases ho
  by_cases e2 : i = id
  ·exact ⟨.dead, by rw [dQ, if_neg e1, dQ, if_pos e2], by simp [Step]⟩
  ·exact ⟨o, by rw [dQ, if_neg e1, dQ, if_neg e2]; exact ho, by simp only [aW, if_neg e1]; exact Step.refl o⟩
 refine hm.go (hm.kept.on ⟨rfl, rfl, rfl⟩ (Nat.le_refl _) fun b hb => rfl) E (fun i o ho => ?_) (fun i j b hi hj => hm.inj i j b (own i b hi).2.2 (own j b hj).2.2) (fun i b hi => hm.new i b (own i b hi).2.2)
 by_cases e1 : i = d
 ·rw [dQ, if_pos e1] at ho
  obtain rfl := aC ho
  exact .inl ⟨by simp [aW, e1], rfl⟩
 ·rw [dQ, if_neg e1, dQ] at ho
  by_cases e2 : i = id
  ·rw [if_pos e2] at ho; obtain rfl := aC ho; trivial
  ·rw [if_neg e2] at ho
   exact (hm.obj i o ho).lY E (by simp only [aW, if_neg e1]) fun b hb => rfl
theorem aGO (hT : dI P E.TI) {T : Nat} {x : Operand} {lo hi mx : Option Operand} {dst : Option Nat} {ty : TypeId} {pos : String} {after : Array Edge} {g : Option (Nat × Bool)} {e : Eff} (h : U9 E s.ev (aA s.ob) dst T x lo hi mx = some e) (hb : e.b = true) (hm : aI c F π s a w) :
  jR P c F s π a w ⟨dst, .slice T x lo hi mx, ty, pos, after, g⟩ e := by
 unfold U9 at h
 split at h
 ·rename_i d
  split at h
  ·split at h
   ·rename_i id ra rb hd hx h1 h2
    split at h
    ·rename_i t l hid
     split at h
     ·rename_i hk
      simp only [bC, beq_iff_eq] at hk
      obtain rfl := aC h
      have hb : rU l.length ra rb = true := hb
      have hv := hm.ev x
      rw [hx] at hv
      simp only [VR, hid] at hv
      have opt : ∀ {o : Option Operand} {r : Option Int}, kG s.ev o = some r -> (o.map a.eval = none /\ r = none) \/ ∃ k z, o.map a.eval = some (.int k z) /\ r = some z := fun h => by
       rcases Uo hm h with ⟨rfl, rfl⟩ | ⟨x, k, z, rfl, rfl, e⟩
       ·exact .inl ⟨rfl, rfl⟩
       ·exact .inr ⟨k, z, by simp [e], rfl⟩
      have fin : ∀ {v : Value}, (Instr.sliceAt T (a.eval x) (lo.map a.eval) (hi.map a.eval) (Option.map a.eval none)).run P w = .ok v w -> (execOp a.eval ⟨some d, .slice T x lo hi none, ty, pos, after, g⟩).run P w = .ok (.value v) w := fun h => eP (e := Instr.sliceAt T (a.eval x) (lo.map a.eval) (hi.map a.eval) (Option.map a.eval none)) rfl h
      obtain ⟨el, ie, b1, b2, b3, _⟩ := (hT T).sl hk.1
      obtain ⟨c1, c2, _, _⟩ := BK hb
      rw [Ap]
      rcases hm.obj id _ hid with ⟨o1, o2⟩ | ⟨g0, cur, e', o1, o2, o3, o4, o5, o6⟩
      ·subst o2
       simp only [List.length_nil] at c1 c2 hb
       have hv' : a.eval x = .slice none 0 0 := by rw [hv, Pl.hdr, o1]
       have e1 : hiN 0 rb = 0 := by omega
       have e2 : jA ra = 0 := by omega
       have hR := hm.az7 hd hid o1
       have el : (([] : List t.den).take (hiN ([] : List t.den).length rb)).drop (jA ra) = [] := by simp
       rw [el]
       refine ⟨.slice none 0 0, w, _, .inl (fin ?_), hR, by simp [VR, aA, aW, Pl.hdr]⟩
       have := J9 (P := P) (w := w) b1 b2 (p := none) (n := 0) (Nat.le_refl 0) (opt h1) (opt h2) hb
       rw [hv']
       simp only [e1, e2, Option.map_none, Nat.sub_self] at this
       simpa using this
      ·have hv' : a.eval x = .slice (some ⟨g0, (π id).q, none⟩) l.length (π id).cap := by rw [hv, Pl.hdr, o1]
       have hrun := J9 (P := P) (w := w) b1 b2 (p := some ⟨g0, (π id).q, none⟩) (n := l.length) o3 (opt h1) (opt h2) hb
       by_cases hc : (π id).cap = jA ra
       ·refine ⟨_, w, _, .inl (fin (by rw [hv']; exact hrun)), hm.moveRow (q' := (π id).q) hd hid o1 c1 c2 (fun h => absurd hc h) (fun _ => rfl), ?_⟩
        have hlen : ((l.take (hiN l.length rb)).drop (jA ra)).length = hiN l.length rb - jA ra := by simp; omega
        simp only [VR, List.cons_append, List.nil_append, aA, if_true, aW, Pl.hdr, hlen, if_pos hc]
       ·refine ⟨_, w, _, .inl (fin (by rw [hv']; exact hrun)), hm.moveRow (q' := (π id).q + jA ra * t.size) hd hid o1 c1 c2 (fun _ => rfl) (fun h => absurd h hc), ?_⟩
        have hlen : ((l.take (hiN l.length rb)).drop (jA ra)).length = hiN l.length rb - jA ra := by simp; omega
        simp only [VR, List.cons_append, List.nil_append, aA, if_true, aW, Pl.hdr, hlen, if_neg hc, Option.map_some, b3, hk.2, add_lit]
     ·cases h
    ·cases h
   ·cases h
  ·cases h
 ·cases h
theorem aEN (hT : dI P E.TI) {o : Oper} {e : Eff} (h : rH E s.ev (aA s.ob) o.dst o.op = some e) (hb : e.b = true) (hm : aI c F π s a w) : jR P c F s π a w o e := by
 obtain ⟨dst, op, ty, pos, after, g⟩ := o
 simp only at h
 cases op with
 | call cl =>
  simp only [rH] at h
  obtain ⟨callee, args, ats⟩ := cl
  simp only at h
  split at h
  ·rename_i d x y T T' hxs hts
   split at h
   ·rename_i heq
    simp only [bC, fH] at heq
    obtain ⟨_, rfl⟩ := heq
    have ha : args = #[x, y] := by apply Array.ext'; simpa using hxs
    have ht : ats = #[T, T] := by apply Array.ext'; simpa using hts
    subst ha; subst ht
    have oL : ∀ {v : Value} {w' : World}, (Builtin.append_ #[T, T] ty #[a.eval x, a.eval y]).run P w = .ok v w' -> (execOp a.eval ⟨some d, .call { callee := .builtin .append, args := #[x, y], argTypes := #[T, T] }, ty, pos, after, g⟩).run P w = .ok (.value v) w' := fun h =>
     eP (e := Builtin.append_ #[T, T] ty #[a.eval x, a.eval y]) (by rw [BigFrame.execOp_builtin, BigFrame.builtin_append]; simp) h
    have gQ := hm.ev x
    have gB := hm.ev y
    split at h
    ·cases h
    ·rename_i hd
     split at h
     ·rename_i t l hx
      rw [hx] at gQ
      split at h
      ·rename_i t' m hy
       split at h
       ·rename_i e2
        subst e2
        split at h
        ·rename_i hk
         simp only [bC, beq_iff_eq] at hk
         obtain rfl := aC h
         obtain ⟨ds, p, c0, h2, e2, f2⟩ := src_ok (P := P) hm hy gB
         obtain ⟨cs, q, cap, h1, e1, f1⟩ := src_ok (P := P) (t := t') (l := l) hm (x := .dv (.jT t') l) rfl gQ
         have hcc := (DT.val_one (t := .jT t') rfl).1 gQ
         have hcap : cap = l.length := by
          obtain ⟨p', cap', e3, _, _, _, e4, _⟩ := id hcc
          rw [e1] at e3
          simp only [Value.slice.injEq] at e3
          rw [e3.2.2]; exact e4
         obtain ⟨e, ie, b1, b2, b3, b4, b5, b6, b7, b8⟩ := (hT T).sl hk.1
         have hsz := b3.trans hk.2
         by_cases hn : m.length = 0
         ·have hm0 : m = [] := List.eq_nil_of_length_eq_zero hn
          subst hm0
          have f2' := f2 w fun _ _ _ => rfl
          rw [<- hsz, e2] at f2'
          have hds : ds = [] := List.eq_nil_of_length_eq_zero (by rw [h2.len]; simp)
          subst hds
          simp only [List.length_nil] at f2' e2
          refine ⟨a.eval x, w, _, .inl (oL ?_), hm.aqM hd t' (l ++ []), ?_⟩
          ·rw [e1, e2, hcap]
           cases q with
           | none =>
            obtain ⟨p', cap', e3, _, _, e5, _, _⟩ := id hcc
            rw [e1] at e3
            simp only [Value.slice.injEq] at e3
            obtain ⟨rfl, _, rfl⟩ := e3
            have := e5 rfl
            simp [Builtin.append_, run_underlying b1, sizeOf, typeInfo, b2, Builtin.lenOf, f2']
           | some q => simp [Builtin.append_, run_underlying b1, sizeOf, typeInfo, b2, Builtin.lenOf, f2', storeCells]
          ·simp only [VR, List.singleton_append, aA, if_true]
           rw [List.append_nil]
           have hz : fG w (Gz F w π (aA s.ob)) w (Gz F w (aW π d ⟨none, 0, 0, iU⟩) (aA ((d, .dG t' l) :: s.ob))) := (gK.new (F := F) (π := π) (p := ⟨none, 0, 0, iU⟩) (o := .dG t' l) (Below.refl _ w) hd fun g hg => by cases hg.g rfl).fz
           exact DT.iE (t := .sl t') (x := l) (j := 0) hz (lX.weak hcc)
         ·have f1' := f1 w.drew fun _ _ _ => rfl
          have f2' := f2 w.drew fun _ _ _ => rfl
          rw [e2] at f2'
          rw [e1] at f1'
          obtain ⟨⟨v', w', aJ, g1, g2, g3⟩⟩ := ZT (P := P) (ty := ty) hT hk.1 hk.2 hb hm hd h1 h2 f1' f2' (by omega)
          have hlk : aA ((d, .row t' (l ++ m)) :: s.ob) d = some (.row t' (l ++ m)) := by rw [dQ, if_pos rfl]
          have g4 := g2.freeze hlk
          have hset : aA ((d, .dG t' (l ++ m)) :: (d, .row t' (l ++ m)) :: s.ob) = aA ((d, .dG t' (l ++ m)) :: s.ob) := by
           funext i
           simp only [dQ]
           split <;> rfl
          refine ⟨v', w', aJ, .inl (oL (by rw [e1, e2]; exact g1)), g4.same rfl hset.symm, ?_⟩
          have hor := g2.obj d _ hlk
          have hz : fG w' (Gz F w' aJ (aA ((d, .row t' (l ++ m)) :: s.ob))) w' (Gz F w' aJ (aA ((d, .dG t' (l ++ m)) :: s.ob))) := fun b ⟨r0, r1, r2⟩ => ⟨⟨r0, r1, fun i ⟨o', q2, q3⟩ => by
           rw [dQ] at q2
           by_cases e : i = d
           ·rw [if_pos e] at q2; obtain rfl := aC q2; exact (q3.not rfl).elim
           ·rw [if_neg e] at q2; exact r2 i ⟨o', by rw [dQ, if_neg e]; exact q2, q3⟩⟩, rfl⟩
          simp only [VR, List.singleton_append, aA, if_true]
          rw [g3]
          exact hor.Yw hz fun g hg => ⟨g2.hF g (g2.new d g (.of hg hlk rfl)).1, (g2.new d g (.of hg hlk rfl)).2, fun i ⟨o', q2', q3⟩ => by
           have q2 : aA ((d, .dG t' (l ++ m)) :: s.ob) i = some o' := q2'
           rw [dQ] at q2
           by_cases e : i = d
           ·rw [if_pos e] at q2; obtain rfl := aC q2; exact (q3.not rfl).elim
           ·rw [if_neg e] at q2
            exact e (g2.inj i d g ⟨o', by rw [dQ, if_neg e]; exact q2, q3⟩ (.of hg hlk rfl))⟩
        ·cases h
       ·cases h
      ·cases h
     ·cases h
   ·cases h
  ·cases h
 | slice T x lo hi mx => exact aGO hT h hb hm
 | box T x =>
  simp only [rH] at h
  split at h
  ·rename_i d
   split at h
   ·split at h
    ·rename_i y b hx
     split at h
     ·rename_i hpl
      obtain rfl := aC h
      obtain ⟨v1, v2⟩ := DT.sK hpl (TV.qL hx hb hpl (hm.ev x))
      have hB : Below w.heap.size w (w.alloc (.cells (a.eval x).cells T)) := (Below.refl _ _).alloc (Nat.le_refl _) _
      have hR := hm.later hB
      have E0 := gK.later (F := F) (π := π) (O := aA s.ob) hB
      have hlt : w.heap.size < (w.alloc (.cells (a.eval x).cells T)).heap.size := (Array.getElem?_eq_some_iff.1 (xR w _)).1
      have hno : ∀ id, ¬ Own π (aA s.ob) id w.heap.size := fun id hid => by have := (hm.new id _ hid).2; omega
      have hF : F w.heap.size := hm.hF _ fun hb' => by have := hm.kept.lt hb'; omega
      refine ⟨.pointer (some ⟨w.heap.size, 0, none⟩), _, π, .inl ?_, hR, (DT.val_one (t := .fp (E.TY T)) rfl).2 ⟨w.heap.size, 0, rfl, ⟨hF, hlt, hno⟩, fun cc hcc => ?_⟩⟩
      ·refine eP (e := Instr.box T (a.eval x)) rfl ?_
       simp [Instr.box, newVar, newRow]
      ·obtain ⟨u, a1, a2, a3⟩ := v2 cc hcc
       exact ⟨u, by rw [acY (xR w _), Nat.zero_add]; exact a1, a2, DT.iE E0.fz a3⟩
     ·cases h
    ·cases h
   ·cases h
  ·cases h
 | assign x =>
  simp only [rH] at h
  split at h
  ·rename_i t hrc
   split at h
   ·rename_i y b hx
    split at h
    ·rename_i hpl
     obtain rfl := aC h
     have hv := hm.ev x
     have hval : t.val y w (Gz F w π (aA s.ob)) (a.eval x) := by
      unfold TV.asC at hx
      split at hx
      ·rename_i u z hx'
       rw [hx'] at hv
       exact TV.qL (L := fun _ => none) (π := π) hx hb hpl hv
      ·rename_i hx'
       rw [hx'] at hv
       exact TV.qL (L := fun _ => none) (π := π) hx hb hpl hv
      ·cases hx
     exact ⟨a.eval x, w, π, .inl rfl, hm, hval⟩
    ·cases h
   ·cases h
  ·cases h
 | _ => simp [rH] at h
theorem as5 (hT : dI P E.TI) {o : Oper} {e : Eff} (h : zB E o s.ev (aA s.ob) = some e) (hb : e.b = true) (hm : aI c F π s a w) : jR P c F s π a w o e := by
 unfold zB at h
 split at h
 ·rename_i e' he
  obtain rfl := aC h
  exact aGW hT he hb hm
 split at h
 ·rename_i e' he
  obtain rfl := aC h
  obtain ⟨dst, op, ty, pos, after, g⟩ := o
  simp only [G6] at he
  split at he
  ·split at he
   ·exact U8 hT (o := ⟨_, .makeSlice _ _ _, ty, pos, after, g⟩) he hb hm
   ·cases he
  ·split at he
   ·exact U8 hT (o := ⟨_, .buildSlice _ _ _, ty, pos, after, g⟩) he hb hm
   ·cases he
  ·cases he
 have hm1 := hm.iZ (needs s.ev (aA s.ob) o.op)
 generalize iZ (aA s.ob) (needs s.ev (aA s.ob) o.op) = U0 at h hm1
 simp only [<- G5] at h
 have pure : ∀ {y : TV} {b : Bool}, (∃ v, (execOp a.eval o).run P w = .ok (.value v) w /\ VR w (Gz F w π (aA (U0 ++ s.ob))) π (aA (U0 ++ s.ob)) y v) -> jR P c F s π a w o ⟨y, U0, b⟩ := fun ⟨v, h1, h2⟩ => ⟨v, w, π, .inl h1, hm1, h2⟩
 have lift : ∀ {e' : Eff}, jR P c F ⟨s.sl, U0 ++ s.ob⟩ π a w o e' -> jR P c F s π a w o ⟨e'.y, e'.u ++ U0, e'.b⟩ := fun ⟨v, w', aJ, h1, h2, h3⟩ => by
  refine ⟨v, w', aJ, h1, ?_, ?_⟩
  ·simp only [List.append_assoc]; exact h2
  ·simp only [List.append_assoc]; exact h3
 split at h
 ·rename_i e' he
  obtain rfl := aC h
  exact lift (aEN (s := ⟨s.sl, U0 ++ s.ob⟩) hT he hb hm1)
 split at h
 ·rename_i y b hv
  obtain rfl := aC h
  exact pure (aG3 (s := ⟨s.sl, U0 ++ s.ob⟩) hT hv hb hm1)
 split at h
 ·rename_i y b hv
  obtain rfl := aC h
  exact pure (aGN (s := ⟨s.sl, U0 ++ s.ob⟩) hT hv hb hm1)
 split at h
 ·rename_i e' he
  obtain rfl := aC h
  refine lift ?_
  obtain ⟨dst, op, ty, pos, after, g⟩ := o
  simp only at he
  cases op with
  | alloc T => exact aqP (s := ⟨s.sl, U0 ++ s.ob⟩) hT he hm1
  | box T x => exact arM (s := ⟨s.sl, U0 ++ s.ob⟩) hT he hb hm1
  | buildSlice T n parts => exact arO (s := ⟨s.sl, U0 ++ s.ob⟩) hT he hb hm1
  | makeSlice T x y => exact azQ (s := ⟨s.sl, U0 ++ s.ob⟩) hT he hb hm1
  | build T parts => exact arP (s := ⟨s.sl, U0 ++ s.ob⟩) hT he hb hm1
  | store T p y => exact aD3 (s := ⟨s.sl, U0 ++ s.ob⟩) hT he hb hm1
  | call cl => exact aqW (s := ⟨s.sl, U0 ++ s.ob⟩) hT he hb hm1
  | _ => simp [jX] at he
 split at h
 ·rename_i e' he
  obtain rfl := aC h
  exact lift (aGF (s := ⟨s.sl, U0 ++ s.ob⟩) hT he hb hm1)
 split at h
 ·rename_i e' he
  obtain rfl := aC h
  exact lift (aGZ (s := ⟨s.sl, U0 ++ s.ob⟩) hT he hb hm1)
 ·exact aGK hT h hb hm
theorem jR.GR {o : Oper} {e : Eff} (h : ∀ π a w, aI c F π s a w -> jR P c F s π a w o e) : pV P c F o (fun s' => s' = s.app o.dst e) s := by
 refine pV.of (s' := s.app o.dst e) (fun a w ⟨π, hm⟩ => ?_) rfl
 obtain ⟨v, w', aJ, h1, h2, h3⟩ := h π a w hm
 refine ⟨v, w', h1, aJ, ?_⟩
 have := h2.put o.dst h3
 cases hd : o.dst with
 | none => rw [hd] at this; simp only [TS.app, TS.put]; exact this
 | some d => rw [hd] at this; simp only [TS.app, TS.put]; exact this
end
end
section
theorem TV.VD {R : Nat -> Prop} : ∀ {x : TV}, (∀ i ∈ x.ids, R i) -> x.within R := by
 intro x
 induction x with
 | row id => intro h; exact h id (by simp [TV.ids])
 | iP id a b => intro h; exact h id (by simp [TV.ids])
 | ptr id i p => intro h; exact h id (by simp [TV.ids])
 | view id i p k a b => intro h; exact h id (by simp [TV.ids])
 | fn g k n f ih => intro h j hj; exact ih j fun i hi => h i (by simp only [TV.ids, List.mem_flatMap, List.mem_range]; exact ⟨j, hj, hi⟩)
 | dM n f ih => intro h j hj; exact ih j fun i hi => h i (by simp only [TV.ids, List.mem_flatMap, List.mem_range]; exact ⟨j, hj, hi⟩)
 | st n f ih => intro h j hj; exact ih j fun i hi => h i (by simp only [TV.ids, List.mem_flatMap, List.mem_range]; exact ⟨j, hj, hi⟩)
 | _ => intro _; trivial
theorem TO.VD {R : Nat -> Prop} {o : TO} (h : ∀ i ∈ o.ids, R i) : o.within R := by
 cases o with
 | aV fs => exact fun j x hx => TV.VD fun i hi => h i (by simp only [TO.ids, List.mem_flatMap]; exact ⟨x, List.mem_of_getElem? hx, hi⟩)
 | bD t ls out => exact fun i r hr => h r (by subst hr; simp [TO.ids])
 | _ => trivial
theorem TV.Jw : ∀ {x : TV}, x.rC = true -> x.sc := by
 intro x
 induction x with
 | dv t y => intro h; exact h
 | el t y p => intro h; simp [TV.rC] at h
 | fn g k n f ih => intro h j hj; simp only [TV.rC, List.all_eq_true, List.mem_range] at h; exact ih j (h j hj)
 | dM n f ih => intro h j hj; simp only [TV.rC, List.all_eq_true, List.mem_range] at h; exact ih j (h j hj)
 | st n f ih => intro h j hj; simp only [TV.rC, List.all_eq_true, List.mem_range] at h; exact ih j (h j hj)
 | _ => intro _; trivial
theorem TO.Jw {o : TO} (h : o.rC = true) : o.sc := by
 cases o with
 | row t l => exact h
 | aV fs => intro j x hx; simp only [TO.rC, List.all_eq_true] at h; exact TV.Jw (h x (List.mem_of_getElem? hx))
 | map kt vt l => simpa [TO.rC, TO.sc] using h
 | dG t l => simp [TO.rC] at h
 | iI kt vt l => simp [TO.rC] at h
 | iter kt vt l cur => simp [TO.rC] at h
 | sit l => trivial
 | bD t ls out => exact h
 | dead => trivial
theorem Ug : ∀ {R : List Nat} {i : Nat}, i ∈ R -> idx R i < R.length /\ R.getD (idx R i) 0 = i
 | [], i, h => by simp at h
 | x :: r, i, h => by
  simp only [idx]
  by_cases e : i = x
  ·rw [if_pos e]; exact ⟨by simp, by simp [e]⟩
  ·rw [if_neg e]
   obtain ⟨a, b⟩ := Ug (R := r) (by simpa [e] using h)
   exact ⟨by simp; omega, by simpa using b⟩
theorem Yu {R : List Nat} {d i : Nat} (h : i ∈ R) : vW R d (oU R i) = i := by
 obtain ⟨a, b⟩ := Ug h
 unfold vW oU
 rw [if_pos (by omega), show 9000 + idx R i - 9000 = idx R i by omega]
 exact b
theorem aEE {R : List Nat} {i j : Nat} (hi : i ∈ R) (hj : j ∈ R) (h : oU R i = oU R j) : i = j := by
 have := Yu (d := 0) hi
 rw [h, Yu hj] at this
 exact this.symm
theorem Zg (R : List Nat) (f : Nat -> TO) : ∀ (L : List Nat), (∀ i ∈ L, i ∈ R) -> ∀ i ∈ L, aA (L.map fun i => (oU R i, f i)) (oU R i) = some (f i)
 | [], _, i, h => by simp at h
 | x :: r, hL, i, h => by
  simp only [List.map_cons, aA]
  by_cases e : i = x
  ·subst e; rw [if_pos rfl]
  ·rw [if_neg fun e2 => e (aEE (hL i h) (hL x (by simp)) e2)]
   exact Zg R f r (fun j hj => hL j (by simp [hj])) i (by simpa [e] using h)
theorem Zh (R : List Nat) (f : Nat -> TO) : ∀ (L : List Nat) (j : Nat) (o : TO), aA (L.map fun i => (oU R i, f i)) j = some o -> ∃ i ∈ L, oU R i = j
 | [], j, o, h => by cases h
 | x :: r, j, o, h => by
  simp only [List.map_cons, aA] at h
  by_cases e : j = oU R x
  ·exact ⟨x, by simp, e.symm⟩
  ·rw [if_neg e] at h
   obtain ⟨i, a, b⟩ := Zh R f r j o h
   exact ⟨i, by simp [a], b⟩
theorem vZ : ∀ {O : List (Nat × TO)} {j : Nat} {o : TO}, aA O j = some o -> (j, o) ∈ O
 | [], j, o, h => by cases h
 | (i, o') :: r, j, o, h => by
  simp only [aA] at h
  split at h
  ·rename_i e; subst e; obtain rfl := aC h; simp
  ·simp [vZ h]
theorem ah7 : ∀ {O : List (Nat × TO)} {f : Nat -> Nat}, nodupB (O.map fun p => f p.1) = true -> ∀ j j' o o', aA O j = some o -> aA O j' = some o' -> f j = f j' -> j = j'
 | [], f, _, j, j', o, o', h, _, _ => by cases h
 | (i, x) :: r, f, h, j, j', o, o', h1, h2, h3 => by
  simp only [List.map_cons, nodupB, bC, Bool.not_eq_true'] at h
  have hmem : ∀ k y, aA r k = some y -> f k ≠ f i := fun k y hk e => by
   have h0 : (r.map fun p => f p.1).contains (f i) = true := by
    rw [List.contains_iff_mem]
    exact List.mem_map.2 ⟨(k, y), vZ hk, e⟩
   rw [h0] at h; simp at h
  simp only [aA] at h1 h2
  split at h1 <;> split at h2
  ·rename_i e1 e2; exact e1.trans e2.symm
  ·rename_i e1 e2; subst e1; exact absurd h3.symm (hmem j' o' h2)
  ·rename_i e1 e2; subst e2; exact absurd h3 (hmem j o h1)
  ·exact ah7 h.2 j j' o o' h1 h2 h3
section
variable {P : Program} {E : Env} {c : Cx} {F : Nat -> Prop} {s : TS} {π : Nat -> Pl} {a : Act} {w : World}
theorem rO.fz {O : bF} {B : Nat -> Prop} : fG w (Gz F w π O) w (rO F w π O B) := fun b hb => ⟨.inl hb, rfl⟩
theorem ayL (hm : aI c F π s a w) {x : TV} {t : DT} {y : t.den} {b : Bool} (h : NV (aA s.ob) x t = some (y, b)) (hb : b = true) (hp : t.plain = true) {v : Value} (hv : VR w (Gz F w π (aA s.ob)) π (aA s.ob) x v) {B : Nat -> Prop} (hB : ∀ i ∈ x.ids, (∃ o, aA s.ob i = some o /\ o.live = true) -> B i) :
  t.val y w (rO F w π (aA s.ob) B) v := by
 have hz : fG w (Gz F w π (aA s.ob)) w (rO F w π (aA s.ob) B) := rO.fz
 have plain : x.as (aA s.ob) t = some (y, b) -> t.val y w (rO F w π (aA s.ob) B) v := fun h => DT.iD hz (TV.qL h hb hp hv)
 cases t with
 | sl u =>
  simp only [NV] at h
  split at h
  ·rename_i v' l b' hl
   split at h
   ·rename_i e
    subst e
    simp only [aS, bJ] at h
    obtain ⟨rfl, rfl⟩ := h
    refine (DT.val_one rfl).2 ?_
    have zK : x.lM (aA s.ob) = some ⟨v', l⟩ -> (DT.sl v').cell l 0 w (rO F w π (aA s.ob) B) v := fun hf => DT.iE hz (TV.NH hf hv)
    cases x with
    | dv t0 y0 => exact zK (by
      simp only [TV.aO] at hl
      obtain ⟨q, hq, he⟩ := Option.map_eq_some_iff.1 hl
      simp only [bJ] at he
      obtain ⟨rfl, _⟩ := he
      cases t0 <;> exact hq)
    | row id =>
     simp only [TV.aO, TV.data] at hl
     simp only [VR] at hv
     cases ho : aA s.ob id with
     | none => rw [ho] at hv; exact hv.elim
     | some o =>
      rw [ho] at hv hl
      cases o with
      | bD t' ls out =>
       cases out with
       | some p => cases hl
       | none =>
        simp only [aS, bJ, Sigma.mk.injEq] at hl
        obtain ⟨⟨rfl, hl⟩, _⟩ := hl; obtain rfl := eq_of_heq hl
        simp only at hv
        rw [hv]
        exact (hm.obj id _ ho).agR hz fun g hg => .inr ⟨id, hB id (by simp [TV.ids]) ⟨_, ho, rfl⟩, _, ho, hg⟩
      | row t' l' =>
       simp only [Option.map_some, aS, bJ, Sigma.mk.injEq] at hl
       obtain ⟨⟨rfl, hl⟩, _⟩ := hl; obtain rfl := eq_of_heq hl
       simp only at hv
       rw [hv]
       exact (hm.obj id _ ho).Yw hz fun g hg => .inr ⟨id, hB id (by simp [TV.ids]) ⟨_, ho, rfl⟩, .of hg ho rfl⟩
      | dG t' l' => exact zK (by
        simp only [Option.map_some, aS, bJ] at hl
        simp only [TV.lM, ho]; exact congrArg some hl.1)
      | _ => cases hl
    | iP id i j =>
     simp only [TV.aO, TV.data] at hl
     simp only [VR] at hv
     cases ho : aA s.ob id with
     | none => rw [ho] at hv; exact hv.elim
     | some o =>
      rw [ho] at hv hl
      cases o with
      | row t' l' =>
       simp only [Option.map_some, aS, bJ, Sigma.mk.injEq] at hl
       obtain ⟨⟨rfl, hl⟩, _⟩ := hl; obtain rfl := eq_of_heq hl
       obtain ⟨h1, h2, p, cp, h3, h4, h5, h6, h7⟩ := hv
       have hlen : ((l'.take j).drop i).length = j - i := by simp; omega
       refine ⟨p, cp, by rw [h3, hlen], by rw [hlen]; exact h4, h5, h6, trivial, fun hn => ?_⟩
       rw [hlen] at hn ⊢
       obtain ⟨g, q1, q2⟩ := h7 (by omega)
       rcases hm.obj id _ ho with ⟨r1, r2⟩ | ⟨g', cur, e, r1, r2, r3, r4, r5, r6⟩
       ·subst r2; simp at h2; omega
       ·rw [q1] at r1; obtain rfl := aC r1
        refine ⟨g, _, q2, .inr ⟨id, hB id (by simp [TV.ids]) ⟨_, ho, rfl⟩, .of q1 ho rfl⟩, fun k hk cc hcc => ?_⟩
        obtain ⟨u, b1, b2, b3⟩ := r6 (i + k) (by omega) cc hcc
        refine ⟨u, by rw [tH r2, <- b1, Nat.add_mul]; congr 1; omega, b2, ?_⟩
        show DT.cell _ (((l'.take j).drop i).getD k _) cc w _ u
        rw [NK _ _ _ _ _ h2 hk]
        exact DT.iE hz b3
      | dG t' l' => exact zK (by
        simp only [Option.map_some, aS, bJ] at hl
        simp only [TV.lM, ho]; exact congrArg some hl.1)
      | _ => cases hl
    | view id i p k n0 i1 j1 =>
     simp only [TV.aO] at hl
     cases ho : aA s.ob id with
     | none => rw [ho] at hl; cases hl
     | some o =>
      rw [ho] at hl
      simp only at hl
      split at hl
      ·rename_i m u y0 hpart
       split at hl
       ·rename_i hk
        simp only [bC, beq_iff_eq] at hk
        obtain ⟨⟨rfl, hlv⟩, rfl⟩ := hk
        simp only [aS, bJ, Sigma.mk.injEq] at hl
        obtain ⟨⟨rfl, hl⟩, rfl⟩ := hl; obtain rfl := eq_of_heq hl
        have hbl := of_decide_eq_true hb
        simp only [VR, ho] at hv
        obtain ⟨c0, g, pp, q1, q2, q3, q4, q5, q6, q7, q8⟩ := hv hlv
        have Ua : VR w (Gz F w π (aA s.ob)) π (aA s.ob) (.ptr id i p) (.pointer (some ⟨g, (π id).q + c0, none⟩)) := by
         simp only [VR, ho]; exact fun _ => ⟨c0, g, q1, q2, q3, rfl⟩
        obtain ⟨g', k0, r1, r2, r3, r4, r5⟩ := hm.part ho Ua hpart
        rw [q3] at r3; obtain rfl := aC r3
        rw [q1] at r1; obtain rfl := aC r1
        have hlen : ((y0.take j1).drop i1).length = j1 - i1 := by simp; omega
        refine ⟨some pp, n0 - i1, by rw [q7, hlen], by rw [hlen]; omega, by omega, (fun h => by cases h), trivial, fun hn => ?_⟩
        rw [hlen] at hn ⊢
        have hpp := q8 (by omega)
        refine ⟨g, _, by rw [hpp], .inr ⟨id, hB id (by simp [TV.ids]) ⟨_, ho, hlv⟩, .of q3 ho hlv⟩, fun k hk cc hcc => ?_⟩
        have hin : i1 + k < n0 := by omega
        obtain ⟨z, b1, b2, b3⟩ := r5 ((i1 + k) * u.size + cc) (ED hin hcc)
        refine ⟨z, by rw [<- b1, Nat.add_mul]; congr 2; omega, b2, ?_⟩
        show DT.cell _ (((y0.take j1).drop i1).getD k _) cc w _ z
        rw [NK _ _ _ _ _ hbl hk]
        have hpos : 0 < u.size := by omega
        have e1 : ((i1 + k) * u.size + cc) / u.size = i1 + k := by rw [Nat.mul_comm, Nat.mul_add_div hpos, Nat.div_eq_of_lt hcc]; omega
        have e2 : ((i1 + k) * u.size + cc) % u.size = cc := by rw [Nat.mul_comm, Nat.mul_add_mod, Nat.mod_eq_of_lt hcc]
        simp only [DT.cell, e1, e2] at b3
        exact DT.iE hz b3
       ·cases hl
      ·cases hl
    | _ => simp [TV.aO, TV.data] at hl
   ·cases h
  ·exact plain h
 | _ => exact plain h
theorem ac' (hm : aI c F π s a w) {R : List Nat} {B : Nat -> Prop} : ∀ {eQ : List Md} {xs as : List TV} {b : Bool} {vs : List Value}, rV (aA s.ob) eQ xs = some (as, b) -> b = true -> (∀ i ∈ qZ eQ xs, i ∈ R) -> (∀ i ∈ uS (aA s.ob) eQ xs, B i) -> vs.length = xs.length ->
  (∀ (i : Nat) (x : TV) (v : Value), xs[i]? = some x -> vs[i]? = some v -> VR w (Gz F w π (aA s.ob)) π (aA s.ob) x v) ->
  as.length = xs.length /\ ∀ (i : Nat) (y : TV) (v : Value), as[i]? = some y -> vs[i]? = some v -> y.within (· ∈ R) /\ VR w (rO F w π (aA s.ob) B) π (aA s.ob) y v
 | [], [], as, b, vs, h, hb, _, _, hl, hv => by
  simp only [rV, aS, bJ] at h
  obtain ⟨rfl, _⟩ := h
  exact ⟨rfl, fun i y v hy => by simp at hy⟩
 | [], x :: xs, as, b, vs, h, _, _, _, _, _ => by simp [rV] at h
 | m :: ms, [], as, b, vs, h, _, _, _, _, _ => by simp [rV] at h
 | m :: ms, x :: xs, as, b, [], h, _, _, _, hl, _ => by simp at hl
 | m :: ms, x :: xs, as, b, v0 :: vs, h, hb, hO, hL, hl, hv => by
  simp only [rV] at h
  split at h
  ·rename_i l b1 hc
   have hv0 := hv 0 x v0 rfl rfl
   have hz : fG w (Gz F w π (aA s.ob)) w (rO F w π (aA s.ob) B) := rO.fz
   have aC9 : b1 = true -> l.length = xs.length /\ ∀ (i : Nat) (y : TV) (v : Value), l[i]? = some y -> vs[i]? = some v -> y.within (· ∈ R) /\ VR w (rO F w π (aA s.ob) B) π (aA s.ob) y v := fun hb1 =>
    ac' hm hc hb1 (fun i hi => hO i (by cases m <;> simp [qZ, hi])) (fun i hi => hL i (by cases m <;> simp only [uS] <;> first | exact hi | exact List.mem_append_right _ hi)) (by simpa using hl) fun i x v h1 h2 => hv (i + 1) x v (by simpa using h1) (by simpa using h2)
   have fin : ∀ {y0 : TV}, y0.within (· ∈ R) -> VR w (rO F w π (aA s.ob) B) π (aA s.ob) y0 v0 -> b1 = true -> (y0 :: l).length = (x :: xs).length /\ ∀ (i : Nat) (y : TV) (v : Value), (y0 :: l)[i]? = some y -> (v0 :: vs)[i]? = some v -> y.within (· ∈ R) /\ VR w (rO F w π (aA s.ob) B) π (aA s.ob) y v := fun {y0} h1 h2 hb1 => by
    obtain ⟨r1, r2⟩ := aC9 hb1
    refine ⟨by simp [r1], fun i y v hy hv => ?_⟩
    cases i with
    | zero => simp at hy hv; subst hy; subst hv; exact ⟨h1, h2⟩
    | succ i => simp at hy hv; exact r2 i y v hy hv
   cases m with
   | obj =>
    simp only [aS, bJ] at h
    obtain ⟨rfl, rfl⟩ := h
    refine fin (TV.VD fun i hi => hO i (by simp [qZ, hi])) ?_ hb
    exact VR.lY ⟨hz, fun id o ho => ⟨o, ho, Step.refl o⟩⟩ hv0
   | aO t =>
    simp only at h
    split at h
    ·rename_i y b2 hy
     split at h
     ·rename_i hp
      simp only [aS, bJ] at h
      obtain ⟨rfl, rfl⟩ := h
      simp only [bC] at hb
      refine fin trivial ?_ hb.2
      exact ayL hm hy hb.1 hp hv0 fun i hi ⟨o, ho, hlv⟩ => hL i (by simp only [uS, List.mem_append, List.mem_filter]; exact .inl ⟨hi, by rw [ho]; exact hlv⟩)
     ·cases h
    ·cases h
   | own t =>
    simp only at h
    split at h
    ·rename_i y b2 hy
     split at h
     ·rename_i hp
      simp only [aS, bJ] at h
      obtain ⟨rfl, rfl⟩ := h
      simp only [bC] at hb
      exact fin trivial (DT.iD hz (TV.qL hy hb.1 hp hv0)) hb.2
     ·cases h
    ·cases h
  ·cases h
theorem ac8 {L : bF} : ∀ {eQ : List Md} {xs as : List TV} {b : Bool}, rV L eQ xs = some (as, b) -> as.length = xs.length
 | [], [], as, b, h => by
  simp only [rV, aS, bJ] at h
  obtain ⟨rfl, _⟩ := h; rfl
 | [], x :: xs, as, b, h => by simp [rV] at h
 | m :: ms, [], as, b, h => by simp [rV] at h
 | m :: ms, x :: xs, as, b, h => by
  simp only [rV] at h
  split at h
  ·rename_i l b1 hc
   have := ac8 hc
   cases m with
   | obj => simp only [aS, bJ] at h; obtain ⟨rfl, _⟩ := h; simp [this]
   | aO t =>
    simp only at h
    split at h
    ·split at h
     ·simp only [aS, bJ] at h; obtain ⟨rfl, _⟩ := h; simp [this]
     ·cases h
    ·cases h
   | own t =>
    simp only at h
    split at h
    ·split at h
     ·simp only [aS, bJ] at h; obtain ⟨rfl, _⟩ := h; simp [this]
     ·cases h
    ·cases h
  ·cases h
theorem afR : ∀ {R : List Nat} {p : Nat}, nodupB R = true -> p < R.length -> idx R (R.getD p 0) = p
 | [], p, _, h => by simp at h
 | x :: r, 0, _, _ => by simp [idx]
 | x :: r, p + 1, h, hp => by
  simp only [nodupB, bC, Bool.not_eq_true'] at h
  have hp' : p < r.length := by simpa using hp
  have e : (x :: r).getD (p + 1) 0 = r.getD p 0 := by simp
  rw [e]
  simp only [idx]
  have hne : r.getD p 0 ≠ x := fun e2 => by
   have : r.getD p 0 = r[p] := by simp [hp']
   have hm : r.contains x = true := by rw [List.contains_iff_mem, <- e2, this]; exact List.getElem_mem hp'
   rw [hm] at h; simp at h
  rw [if_neg hne, afR h.2 hp']
theorem aI.nO (hm : aI c F π s a w) : ∀ ids : List Nat, ∃ aJ, aI c F aJ ⟨s.sl, Go.Proofs.YtfopcfnggdonkaaGreatDoor.nO (aA s.ob) ids ++ s.ob⟩ a w
 | [] => ⟨π, hm⟩
 | id :: r => by
  obtain ⟨iY, ih⟩ := aI.nO hm r
  show ∃ aJ, aI c F aJ ⟨s.sl, ((yG (eX (Go.Proofs.YtfopcfnggdonkaaGreatDoor.nO (aA s.ob) r) (aA s.ob)) id).getD [] ++ Go.Proofs.YtfopcfnggdonkaaGreatDoor.nO (aA s.ob) r) ++ s.ob⟩ a w
  cases hU : yG (eX (Go.Proofs.YtfopcfnggdonkaaGreatDoor.nO (aA s.ob) r) (aA s.ob)) id with
  | none => exact ⟨iY, ih⟩
  | some U =>
   rw [<- G5] at hU
   obtain ⟨eG, h2⟩ := ak5 ih hU
   exact ⟨eG, by simp only [Option.getD_some, List.append_assoc]; exact h2⟩
theorem acX (hE : oW P E) {o : Oper} {g : Nat} {xs : List TV} {α : Type} {k : Eff -> Option α} {r : α} (h : FH E (o.dst.getD 0) g xs (aA s.ob) k = some r) (vals : Act -> List Value)
  (hxs : ∀ (s' : TS) (π : Nat -> Pl) (a : Act) (w : World), s'.sl = s.sl -> aI c F π s' a w -> (vals a).length = xs.length /\ ∀ (i : Nat) (x : TV) (v : Value), xs[i]? = some x -> (vals a)[i]? = some v -> VR w (Gz F w π (aA s'.ob)) π (aA s'.ob) x v)
  (hrun : ∀ (s' : TS) a w, s'.sl = s.sl -> Rel c F s' a w -> (∀ as w, (callFunc g as).run P w = .ok (.enter g as) w) -> (execOp a.eval o).run P w = .ok (.enter g (vals a).toArray) w) :
  ∃ e, k e = some r /\ (∀ (β : Type) (k' : Eff -> Option β), FH E (o.dst.getD 0) g xs (aA s.ob) k' = k' e) /\ pV P c F o (fun s' => s' = s.app o.dst e) s := by
 unfold FH at h ⊢
 cases hs : E.sig g xs with
 | none => rw [hs] at h; cases h
 | some eQ =>
  rw [hs] at h
  simp only at h ⊢
  generalize hU : iZ (eX (nO (aA s.ob) (uO eQ xs)) (aA s.ob)) (uF eQ xs) ++ nO (aA s.ob) (uO eQ xs) = U0 at h ⊢
  simp only [<- G5] at h ⊢
  cases hc : rV (aA (U0 ++ s.ob)) eQ xs with
  | none => rw [hc] at h; cases h
  | some q =>
   obtain ⟨as, b⟩ := q
   rw [hc] at h
   simp only at h ⊢
   generalize hR : uG 60 (aA (U0 ++ s.ob)) (qZ eQ xs) [] = R at h ⊢
   split at h
   ·rename_i hcond
    simp only [bC, List.all_eq_true] at hcond
    obtain ⟨⟨⟨k1, k2⟩, k3⟩, k4⟩ := hcond
    obtain ⟨hb, h⟩ := IY h
    subst hb
    obtain ⟨rv, O', h1, h2, h3⟩ := hE _ _ _ _ _ _ h
    split at h1
    ·rename_i hg
     simp only [bC, List.all_eq_true] at hg
     obtain ⟨⟨g1, g2⟩, g3⟩ := hg
     refine ⟨_, h1, fun β k' => ?_, ?_⟩
     ·rw [if_pos (by simp only [bC, List.all_eq_true]; exact ⟨⟨⟨k1, k2⟩, k3⟩, k4⟩)]
      show E.phi _ _ _ _ = _
      rw [h2]
      rw [if_pos (by simp only [bC, List.all_eq_true]; exact ⟨⟨g1, g2⟩, g3⟩)]
     ·-- the call itself
      let s1 : TS := ⟨s.sl, U0 ++ s.ob⟩
      have hmem : ∀ {i : Nat}, R.contains i = true ↔ i ∈ R := fun {i} => List.contains_iff_mem
      have hkey : ∀ i ∈ R, ∃ o', aA s1.ob i = some o' /\ o'.live = true /\ o'.within (· ∈ R) := fun i hi => by
       have := k1 i hi
       cases ho : aA (U0 ++ s.ob) i with
       | none => rw [ho] at this; cases this
       | some o' =>
        rw [ho] at this
        simp only [bC, TO.EX, List.all_eq_true] at this
        refine ⟨o', rfl, this.1.1, ?_⟩
        exact (TO.VD fun j hj => hmem.1 (this.2 j hj))
      have hw1 : ∀ a w, Rel c F s a w -> Rel c F s1 a w := fun a w ⟨π, hm⟩ => by
       obtain ⟨iY, hm1⟩ := hm.nO (uO eQ xs)
       have := hm1.iZ (uF eQ xs)
       simp only [G5, <- List.append_assoc] at this
       rw [hU] at this
       exact ⟨iY, this⟩
      have hW : pV P c F o (fun s' => s' = ⟨(s1.put o.dst (rv.ren (vW R (o.dst.getD 0)))).sl, qF (vW R (o.dst.getD 0)) O' ++ s1.ob⟩) s1 := by
       refine pV.call h3 (vW R (o.dst.getD 0)) (oU R) (· ∈ R) (· ∈ uS (aA (U0 ++ s.ob)) eQ xs) vals ?_ ?_ ?_ ?_ ?_ ?_ ?_ ?_ ?_ ?_
       ·exact fun a w hr he => hrun s1 a w rfl hr he
       ·exact fun a w ⟨π, hm⟩ => by rw [List.length_map, ac8 hc]; exact (hxs s1 π a w rfl hm).1
       ·exact fun i hi => by
         obtain ⟨o', a1, a2, a3⟩ := hkey i hi
         refine ⟨o', a1, a2, a3, ?_, Yu hi⟩
         have := Zg R (fun i => ((aA (U0 ++ s.ob) i).getD .dead).ren (oU R)) R (fun _ h => h) i hi
         rw [this]
         have a1' : aA (U0 ++ s.ob) i = some o' := a1
         rw [a1']; rfl
       ·exact fun j o' hj => Zh R (fun i => ((aA (U0 ++ s.ob) i).getD .dead).ren (oU R)) R j o' hj
       ·exact fun i hi hi2 => by
         have := k3 i hi
         simp only [Bool.not_eq_true'] at this
         rw [hmem.2 hi2] at this; cases this
       ·intro π a w hm i x v hx hv
        obtain ⟨e1, e2⟩ := hxs s1 π a w rfl hm
        obtain ⟨c1, c2⟩ := ac' (R := R) (B := (· ∈ uS (aA (U0 ++ s.ob)) eQ xs)) hm hc rfl (fun i hi => hmem.1 (k2 i hi)) (fun i hi => hi) e1 e2
        simp only [List.getElem?_map, Option.map_eq_some_iff] at hx
        obtain ⟨y, hy, rfl⟩ := hx
        obtain ⟨d1, d2⟩ := c2 i y v hy hv
        exact ⟨y, rfl, d1, d2⟩
       ·exact ah7 g1
       ·exact fun j o' hj hn => by
         have := g2 (j, o') (vZ hj)
         simp only at this
         split at this
         ·rename_i hin
          exfalso
          have hlt : j - 9000 < R.length := by omega
          have hi : R.getD (j - 9000) 0 ∈ R := by
           have : R.getD (j - 9000) 0 = R[j - 9000] := by simp [hlt]
           rw [this]; exact List.getElem_mem hlt
          have e1 : oU R (R.getD (j - 9000) 0) = j := by
           unfold oU; rw [afR k4 hlt]; omega
          have := Zg R (fun i => ((aA (U0 ++ s.ob) i).getD .dead).ren (oU R)) R (fun _ h => h) _ hi
          rw [e1] at this
          rw [hn] at this; cases this
         ·simpa using this
       ·exact fun j o1 o' hj hj' => by
         obtain ⟨i, hi, e⟩ := Zh R _ R j o1 hj
         have hlt := (Ug hi).1
         have := g2 (j, o') (vZ hj')
         simp only at this
         rw [if_pos (by unfold oU at e; omega)] at this
         simp only [Bool.or_eq_true] at this
         rcases this with h | h
         ·exact .inl h
         ·cases o' <;> first | exact .inr rfl | cases h
       ·simp only [Bool.or_eq_true] at g3
        rcases g3 with g3 | g3
        ·left
         intro i hi
         rw [List.isEmpty_iff.1 g3] at hi
         simp at hi
        ·simp only [bC, List.all_eq_true] at g3
         exact .inr ⟨TV.Jw g3.1, fun j o' hj => TO.Jw (g3.2 (j, o') (vZ hj))⟩
      intro nn a w next Q hr hn
      refine hW nn a w next Q (hw1 a w hr) fun s' a' w' hs' hr' => hn s' a' w' ?_ hr'
      rw [hs']
      show _ = s.app o.dst _
      simp only [TS.app, List.append_assoc]
      cases o.dst <;> rfl
    ·cases h1
   ·cases h
theorem aDG {f : FuncId} (he : ∀ (as : Array Value) (w : World), (callFunc f as).run P w = .ok (.enter f as) w) {o : Oper} {x : Operand} {xs : Array Operand} {ts : Array TypeId} (ho : o.op = .call { callee := .value x, args := xs, argTypes := ts }) (a : Act) (w : World) {fs cs : Array Value} (hx : a.eval x = .func (.func f) fs cs) :
  (execOp a.eval o).run P w = .ok (.enter f (fs.toList ++ xs.toList.map a.eval ++ cs.toList).toArray) w := by
 obtain ⟨dst, op, ty, pos, after, guard⟩ := o
 simp only at ho
 subst ho
 have h1 : execOp a.eval ⟨dst, .call { callee := .value x, args := xs, argTypes := ts }, ty, pos, after, guard⟩ = (do let d <- Deferred.ofValue (a.eval x) (xs.map a.eval); invoke d.target d.args) := rfl
 rw [h1, hx]
 have h2 : (Deferred.ofValue (.func (.func f) fs cs) (xs.map a.eval)) = pure { target := .fn (.func f) cs, args := fs ++ xs.map a.eval } := rfl
 rw [h2]
 simp only [Sem.run_bind, Sem.run_pure, Result.andThen_ok]
 show (callFunc f (fs ++ xs.map a.eval ++ cs)).run P w = _
 rw [he]
 congr 2
 apply Array.ext'
 simp
theorem aDF (hT : dI P E.TI) {T : TypeId} {name : String} {g : FuncId} (hm : (E.TI T).zH.lookup name = some g) (he : ∀ (as : Array Value) (w : World), (callFunc g as).run P w = .ok (.enter g as) w) {o : Oper} {x : Operand} {xs : Array Operand} {ts : Array TypeId} (ho : o.op = .call { callee := .invoke x name, args := xs, argTypes := ts }) (a : Act) (w : World) {u : Value} (hx : a.eval x = .iface T u) :
  (execOp a.eval o).run P w = .ok (.enter g (u :: xs.toList.map a.eval).toArray) w := by
 obtain ⟨dst, op, ty, pos, after, guard⟩ := o
 simp only at ho
 subst ho
 have h1 : execOp a.eval ⟨dst, .call { callee := .invoke x name, args := xs, argTypes := ts }, ty, pos, after, guard⟩ = (do let d <- (pure { target := .fn (.method name) #[], args := #[a.eval x] ++ xs.map a.eval } : Sem Deferred); invoke d.target d.args) := rfl
 rw [h1, hx]
 simp only [Sem.run_bind, Sem.run_pure, Result.andThen_ok]
 have h2 : ∀ (A : Array Value), A[0]? = some (Value.iface T u) -> invoke (.fn (.method name) #[]) A = callMethod (Value.iface T u) name (A.extract 1 A.size) := fun A hA => by
  simp only [invoke, hA]
 have h4 : (#[Value.iface T u] ++ xs.map a.eval).extract 1 (#[Value.iface T u] ++ xs.map a.eval).size = xs.map a.eval := by
  apply Array.ext'
  simp [List.extract]
  exact List.take_of_length_le (by simp)
 rw [h2 _ (by rw [Array.getElem?_append_left (by simp)]; rfl), h4]
 have h3 : ∃ n, P.types.size + Made.depth = n + 1 := ⟨P.types.size + 99, rfl⟩
 obtain ⟨n, hn⟩ := h3
 simp only [callMethod, Sem.run_bind, run_program, Result.andThen_ok, hn, (hT T).zH name g hm]
 rw [he]
 congr 2
 apply Array.ext'
 simp
theorem Dj (hT : dI P E.TI) (hE : oW P E) {o : Oper} {α : Type} {k : Eff -> Option α} {r : α} (h : eff E o s.ev (aA s.ob) k = some r) :
  ∃ e, k e = some r /\ (∀ (β : Type) (k' : Eff -> Option β), eff E o s.ev (aA s.ob) k' = k' e) /\ pV P c F o (fun s' => s' = s.app o.dst e) s := by
 unfold eff at h ⊢
 cases he : zB E o s.ev (aA s.ob) with
 | some e =>
  rw [he] at h
  simp only at h ⊢
  obtain ⟨hb, h⟩ := IY h
  exact ⟨e, h, fun β k' => by rw [hb]; rfl, jR.GR fun π a w hm => as5 hT he hb hm⟩
 | none =>
  rw [he] at h
  simp only at h ⊢
  obtain ⟨dst, op, ty, pos, after, guard⟩ := o
  simp only at h ⊢
  cases op with
  | pick q x y =>
   simp only at h ⊢
   cases hq : s.ev q with
   | dv t b =>
    rw [hq] at h
    cases t with
    | bool =>
     simp only at h ⊢
     have fin : ∀ (z : Operand), (∀ π a w, aI c F π s a w -> (execOp a.eval ⟨dst, .pick q x y, ty, pos, after, guard⟩).run P w = .ok (.value (a.eval z)) w) -> pV P c F ⟨dst, .pick q x y, ty, pos, after, guard⟩ (fun s' => s' = s.app dst ⟨s.ev z, [], true⟩) s := fun z hz =>
      jR.GR (o := ⟨dst, .pick q x y, ty, pos, after, guard⟩) fun π a w hm => ⟨_, w, π, .inl (hz π a w hm), hm, hm.ev z⟩
     cases b with
     | true =>
      refine ⟨⟨s.ev x, [], true⟩, h, fun β k' => rfl, fin x fun π a w hm => ?_⟩
      have hq' : a.eval q = .bool true := hm.zC hq
      simp [execOp, hq', asBool]
     | false =>
      refine ⟨⟨s.ev y, [], true⟩, h, fun β k' => rfl, fin y fun π a w hm => ?_⟩
      have hq' : a.eval q = .bool false := hm.zC hq
      simp [execOp, hq', asBool]
    | _ => cases h
   | _ => rw [hq] at h; cases h
  | next x is =>
   cases is with
   | false => cases h
   | true =>
   simp only at h ⊢
   cases hq : s.ev x with
   | row id =>
    rw [hq] at h
    simp only at h ⊢
    cases ho : aA s.ob id with
    | none => rw [ho] at h; cases h
    | some o =>
     rw [ho] at h
     cases o with
     | sit l =>
      simp only at h ⊢
      cases l with
      | nil =>
       refine ⟨_, h, fun β k' => rfl, jR.GR (o := ⟨dst, .next x true, ty, pos, after, guard⟩) fun π a w hm => ?_⟩
       have hv := hm.ev x
       rw [hq] at hv
       exact ⟨_, w, π, .inl (eP (e := Instr.next (a.eval x) true ty) rfl ((alC hm ho hv ty).1 rfl)), hm, ⟨#[.bool false], rfl, rfl, fun j hj => by
        obtain rfl : j = 0 := by omega
        exact ⟨_, rfl, rfl⟩⟩⟩
      | cons p r =>
       refine ⟨_, h, fun β k' => rfl, jR.GR (o := ⟨dst, .next x true, ty, pos, after, guard⟩) fun π a w hm => ?_⟩
       have hv := hm.ev x
       rw [hq] at hv
       obtain ⟨w', h1, h2⟩ := (alC hm ho hv ty).2 p r rfl
       exact ⟨_, w', π, .inl (eP (e := Instr.next (a.eval x) true ty) rfl h1), h2, ⟨_, rfl, rfl, fun j hj => by
        match j, hj with
        | 0, _ => exact ⟨_, rfl, rfl⟩
        | 1, _ => exact ⟨_, rfl, rfl⟩
        | 2, _ => exact ⟨_, rfl, rfl⟩⟩⟩
     | _ => cases h
   | _ => rw [hq] at h; cases h
  | call cl =>
   obtain ⟨callee, args, ats⟩ := cl
   simp only at h ⊢
   cases callee with
   | value x =>
    simp only at h ⊢
    cases hx : s.ev x with
    | fn g k1 n f =>
     rw [hx] at h
     simp only at h ⊢
     let vals : Act -> List Value := fun a => match a.eval x with | .func _ fs cs => fs.toList ++ args.toList.map a.eval ++ cs.toList | _ => []
     have hfn : ∀ (s' : TS) (π : Nat -> Pl) (a : Act) (w : World), s'.sl = s.sl -> aI c F π s' a w -> ∃ fs cs : Array Value, a.eval x = .func (.func g) fs cs /\ fs.size = k1 /\ cs.size = n /\ (∀ j, j < k1 -> ∃ u, fs[j]? = some u /\ VR w (Gz F w π (aA s'.ob)) π (aA s'.ob) (f j) u) /\ ∀ j, j < n -> ∃ u, cs[j]? = some u /\ VR w (Gz F w π (aA s'.ob)) π (aA s'.ob) (f (k1 + j)) u := fun s' π a w hsl hm => by
      have e1 : s'.ev x = s.ev x := by cases x <;> simp only [TS.ev, hsl]
      have := hm.ev x
      rw [e1, hx] at this
      exact this
     refine acX (o := ⟨dst, .call { callee := .value x, args := args, argTypes := ats }, ty, pos, after, guard⟩) hE h vals (fun s' π a w hsl hm => ?_) fun s' a w hsl hr he => ?_
     ·obtain ⟨fs, cs, e1, e2, e3, e4, e5⟩ := hfn s' π a w hsl hm
      have D8 : vals a = fs.toList ++ args.toList.map a.eval ++ cs.toList := by simp only [vals, e1]
      refine ⟨by rw [D8]; simp [Dx, e2, e3], fun i z v hz hv => ?_⟩
      rw [D8] at hv
      simp only [Dx] at hz
      by_cases h1 : i < k1
      ·rw [List.append_assoc, List.getElem?_append_left (by simpa using h1)] at hz
       rw [List.append_assoc, List.getElem?_append_left (by simp [e2]; omega)] at hv
       obtain ⟨u, a1, a2⟩ := e4 i h1
       rw [Array.getElem?_toList, a1] at hv
       obtain rfl := aC hv
       rw [List.getElem?_map, List.getElem?_range h1] at hz
       simp only [Option.map_some, aS] at hz
       subst hz; exact a2
      ·by_cases h2 : i < k1 + args.size
       ·rw [List.append_assoc, List.getElem?_append_right (by simp; omega), List.getElem?_append_left (by simp; omega)] at hz
        rw [List.append_assoc, List.getElem?_append_right (by simp [e2]; omega), List.getElem?_append_left (by simp [e2]; omega)] at hv
        simp only [List.length_map, List.length_range, List.getElem?_map, Option.map_eq_some_iff] at hz
        simp only [Array.length_toList, e2, List.getElem?_map, Option.map_eq_some_iff] at hv
        obtain ⟨y1, hy1, rfl⟩ := hz
        obtain ⟨y2, hy2, rfl⟩ := hv
        rw [hy1] at hy2; obtain rfl := aC hy2
        have e1 : s'.ev y1 = s.ev y1 := by cases y1 <;> simp only [TS.ev, hsl]
        rw [<- e1]; exact hm.ev y1
       ·rw [List.getElem?_append_right (by simp; omega)] at hz
        rw [List.getElem?_append_right (by simp [e2]; omega)] at hv
        simp only [List.length_append, List.length_map, List.length_range, Array.length_toList] at hz hv
        rw [e2] at hv
        have hlt : i - (k1 + args.size) < n := by
         have := (List.getElem?_eq_some_iff.1 hz).1
         simpa using this
        obtain ⟨u, a1, a2⟩ := e5 _ hlt
        rw [Array.getElem?_toList, a1] at hv
        obtain rfl := aC hv
        rw [List.getElem?_map, List.getElem?_range hlt] at hz
        simp only [Option.map_some, aS] at hz
        subst hz; exact a2
     ·obtain ⟨π, hm⟩ := hr
      obtain ⟨fs, cs, e1, _⟩ := hfn s' π a w hsl hm
      have D8 : vals a = fs.toList ++ args.toList.map a.eval ++ cs.toList := by simp only [vals, e1]
      rw [D8]
      exact aDG he rfl a w e1
    | _ => rw [hx] at h; cases h
   | invoke x name =>
    simp only at h ⊢
    cases hx : s.ev x with
    | dv u y =>
     rw [hx] at h
     simp only at h ⊢
     have key : ∀ (u : DT) (y : u.den), NR E (dst.getD 0) name (args.toList.map s.ev) (aA s.ob) k u y = some r ->
       (∀ (s' : TS) (π : Nat -> Pl) (a : Act) (w : World), s'.sl = s.sl -> aI c F π s' a w -> u.cell y 0 w (Gz F w π (aA s'.ob)) (a.eval x)) ->
       ∃ e, k e = some r /\ (∀ (β : Type) (k' : Eff -> Option β), NR E (dst.getD 0) name (args.toList.map s.ev) (aA s.ob) k' u y = k' e) /\ pV P c F ⟨dst, .call { callee := .invoke x name, args := args, argTypes := ats }, ty, pos, after, guard⟩ (fun s' => s' = s.app dst e) s := by
      intro u
      induction u with
      | iT T t u' _ ih =>
       intro y h hv
       cases y with
       | inr b => exact ih b h hv
       | inl b =>
        simp only [NR, Uh] at h ⊢
        split at h
        ·cases h
        rename_i hag
        have hag : t.agg = false := by simpa using hag
        simp only [hag, Bool.false_eq_true, if_false]
        split at h
        ·rename_i g hg
         have hb : ∀ (s' : TS) (π : Nat -> Pl) (a : Act) (w : World), s'.sl = s.sl -> aI c F π s' a w -> ∃ z, a.eval x = .iface T z /\ t.val b w (Gz F w π (aA s'.ob)) z := fun s' π a w e1 e2 => by
          obtain ⟨z, h1, _, h3⟩ := hv s' π a w e1 e2
          exact ⟨z, h1, (DT.val_one hag).2 h3⟩
         let vals : Act -> List Value := fun a => match a.eval x with | .iface _ z => z :: args.toList.map a.eval | _ => []
         refine acX (o := ⟨dst, .call { callee := .invoke x name, args := args, argTypes := ats }, ty, pos, after, guard⟩) hE h vals (fun s' π a w hsl hm => ?_) fun s' a w hsl hr he => ?_
         ·obtain ⟨z, e1, e2⟩ := hb s' π a w hsl hm
          have D8 : vals a = z :: args.toList.map a.eval := by simp only [vals, e1]
          refine ⟨by rw [D8]; simp, fun i p v hp hv => ?_⟩
          rw [D8] at hv
          cases i with
          | zero => simp at hp hv; subst hp; subst hv; exact e2
          | succ i =>
           simp only [List.getElem?_cons_succ, List.getElem?_map, Option.map_eq_some_iff] at hp hv
           obtain ⟨y1, hy1, rfl⟩ := hp
           obtain ⟨y2, hy2, rfl⟩ := hv
           rw [hy1] at hy2; obtain rfl := aC hy2
           have e1 : s'.ev y1 = s.ev y1 := by cases y1 <;> simp only [TS.ev, hsl]
           rw [<- e1]; exact hm.ev y1
         ·obtain ⟨π, hm⟩ := hr
          obtain ⟨z, e1, _⟩ := hb s' π a w hsl hm
          have D8 : vals a = z :: args.toList.map a.eval := by simp only [vals, e1]
          rw [D8]
          exact aDF hT hg he rfl a w e1
        ·cases h
      | _ => intro y h; cases h
     refine key u y h fun s' π a w hsl hm => ?_
     have e1 : s'.ev x = s.ev x := by cases x <;> simp only [TS.ev, hsl]
     have := hm.ev x
     rw [e1, hx] at this
     cases u with
     | iT T t u' => exact (DT.val_one rfl).1 this
     | _ => cases h
    | _ => rw [hx] at h; cases h
   | _ => cases h
  | _ => cases h
end
end
section
inductive Place where
 | slot (i : Nat)
 | iH (id j : Nat)
 deriving DecidableEq
structure Norm where
 keep : List Nat
 zI : List Nat
 rows : List (Place × Nat × DT)
 dat : List (Nat × DT)
def Place.tv (s : TS) : Place -> TV
 | .slot i => s.sl.getD i .any
 | .iH id j => match aA s.ob id with
  | some (.aV fs) => fs.getD j .any
  | _ => .any
def TO.rm : TO -> Bool
 | .row _ _ => true
 | .map _ _ _ => true
 | .bD _ _ none => true
 | _ => false
def GL : DT -> TO
 | .dM (.sl u) => .bD u [] none
 | t => .row t []
theorem Xk (t : DT) : (∃ u, GL t = .row u []) \/ ∃ u, GL t = .bD u [] none := by
 unfold GL
 split
 ·exact .inr ⟨_, rfl⟩
 ·exact .inl ⟨_, rfl⟩
def Yv (L : bF) (x : TV) (t : DT) : Option (Option Nat × TO) :=
 match x with
 | .row id => match L id with
  | some (.row t' l) => if t' = t then some (some id, .row t' l) else none
  | some (.map kt vt l) => if t = .dM (.pair kt vt) then some (some id, .map kt vt l) else none
  | some (.bD u ls none) => if t = .dM (.sl u) then some (some id, .bD u ls none) else none
  | _ => none
 | .nl => some (none, GL t)
 | _ => none
def KF (s : TS) : List (Place × Nat × DT) -> Option (List (Nat × Option Nat × TO))
 | [] => some []
 | (x, id, t) :: r => match Yv (aA s.ob) (x.tv s) t with
  | some (q, o) => match KF s r with
   | some L => some ((id, q, o) :: L)
   | none => none
  | none => none
theorem akS {L : bF} {x : TV} {t : DT} {q : Option Nat} {o : TO} (h : Yv L x t = some (q, o)) : (∃ id, x = .row id /\ q = some id /\ L id = some o /\ o.rm = true) \/ (x = .nl /\ q = none /\ o = GL t) := by
 unfold Yv at h
 split at h
 ·rename_i id
  split at h
  ·rename_i t' l ho
   split at h
   ·simp only [aS, bJ] at h
    obtain ⟨rfl, rfl⟩ := h
    exact .inl ⟨id, rfl, rfl, ho, rfl⟩
   ·cases h
  ·rename_i kt vt l ho
   split at h
   ·simp only [aS, bJ] at h
    obtain ⟨rfl, rfl⟩ := h
    exact .inl ⟨id, rfl, rfl, ho, rfl⟩
   ·cases h
  ·rename_i u ls ho
   split at h
   ·simp only [aS, bJ] at h
    obtain ⟨rfl, rfl⟩ := h
    exact .inl ⟨id, rfl, rfl, ho, rfl⟩
   ·cases h
  ·cases h
 ·simp only [aS, bJ] at h
  obtain ⟨rfl, rfl⟩ := h
  exact .inr ⟨rfl, rfl, rfl⟩
 ·cases h
def newAt (rows : List (Place × Nat × DT)) (p : Place) : Option Nat := (rows.find? fun q => q.1 == p).map (·.2.1)
def uT (nm : Norm) (p : Place) (x : TV) : TV :=
 match newAt nm.rows p with
 | some id => .row id
 | none => if x.EX nm.zI then x else .any
def wW (nm : Norm) (id : Nat) : Nat -> List TV -> List TV
 | _, [] => []
 | j, x :: r => uT nm (.iH id j) x :: wW nm id (j + 1) r
def ae4 (mv : Nat -> Option Nat) : TV -> TV
 | .iP id a b => match mv id with
  | some n => .iP n a b
  | none => .any
 | _ => .any
def Iy (nm : Norm) (mv : Nat -> Option Nat) (i : Nat) (x : TV) : TV :=
 match newAt nm.rows (.slot i) with
 | some id => .row id
 | none => if nm.keep.contains i && x.EX nm.zI then x else if nm.keep.contains i then ae4 mv x else .any
def GN (nm : Norm) (mv : Nat -> Option Nat) : Nat -> List TV -> List TV
 | _, [] => []
 | i, x :: r => Iy nm mv i x :: GN nm mv (i + 1) r
def OB (A : List (Nat × Option Nat × TO)) (id : Nat) : Option Nat :=
 match A with
 | [] => none
 | p :: r => if p.2.1 = some id then some p.1 else OB r id
theorem agZ : ∀ {A : List (Nat × Option Nat × TO)} {id n : Nat}, OB A id = some n -> ∃ p ∈ A, p.1 = n /\ p.2.1 = some id
 | [], id, n, h => by cases h
 | p :: r, id, n, h => by
  simp only [OB] at h
  split at h
  ·rename_i e; obtain rfl := aC h; exact ⟨p, by simp, rfl, e⟩
  ·obtain ⟨q, h1, h2⟩ := agZ h; exact ⟨q, by simp [h1], h2⟩
def JI (s : TS) (nm : Norm) (moved : List Nat) : List Nat -> Option (List (Nat × Option Nat × TO))
 | [] => some []
 | id :: r => match aA s.ob id with
  | some (.bD _ _ (some _)) => none
  | some o => match JI s nm moved r with
   | some L => some ((if moved.contains id then (id, none, .dead) else (id, some id, match o with | .aV fs => .aV (wW nm id 0 fs) | o => o)) :: L)
   | none => none
  | none => none
def Jm (i : Nat) : Bool := 9000 <= i && i < 10000
def vU (pp : List Nat) (i : Nat) : Bool := Jm i || pp.contains i
def TS.OG (pp : List Nat) (nm : Norm) (s : TS) : Option TS :=
 match KF s nm.rows with
 | some A => match JI s nm (A.filterMap (·.2.1)) nm.zI with
  | some B => if nodupB ((A ++ B).map (·.1)) && nodupB ((A ++ B).filterMap (·.2.1)) && nm.rows.all (fun p => (match p.1 with | .slot i => decide (i < s.sl.length) | .iH id j => nm.zI.contains id && !(A.filterMap (·.2.1)).contains id && (match aA s.ob id with | some (.aV fs) => decide (j < fs.length) && decide ((fs.getD j .any).size = 1) && (fs.getD j .any).Iu | _ => false)) && !vU pp p.2.1) && s.ob.all (fun p => !vU pp p.1 || nm.zI.contains p.1)
   then some ⟨GN nm (OB A) 0 s.sl, (A ++ B).map fun p => (p.1, p.2.2)⟩ else none
  | none => none
 | none => none
theorem ah' (nm : Norm) (mv : Nat -> Option Nat) : ∀ (l : List TV) (i j : Nat), (GN nm mv i l)[j]? = (l[j]?).map (Iy nm mv (i + j))
 | [], i, j => by simp [GN]
 | x :: r, i, 0 => by simp [GN]
 | x :: r, i, j + 1 => by
  simp only [GN, List.getElem?_cons_succ]
  rw [ah' nm mv r (i + 1) j]
  congr 2
  omega
theorem OH (nm : Norm) (id : Nat) : ∀ (l : List TV) (i j : Nat), (wW nm id i l)[j]? = (l[j]?).map (uT nm (.iH id (i + j)))
 | [], i, j => by simp [wW]
 | x :: r, i, 0 => by simp [wW]
 | x :: r, i, j + 1 => by
  simp only [wW, List.getElem?_cons_succ]
  rw [OH nm id r (i + 1) j]
  congr 3
  omega
theorem Yd (nm : Norm) (mv : Nat -> Option Nat) : ∀ (l : List TV) (i : Nat), (GN nm mv i l).length = l.length
 | [], i => rfl
 | x :: r, i => by simp [GN, Yd nm mv r (i + 1)]
theorem UR (nm : Norm) (id : Nat) : ∀ (l : List TV) (i : Nat), (wW nm id i l).length = l.length
 | [], i => rfl
 | x :: r, i => by simp [wW, UR nm id r (i + 1)]
theorem Ze {s : TS} : ∀ {l : List (Place × Nat × DT)} {A : List (Nat × Option Nat × TO)}, KF s l = some A -> ∀ q ∈ l, ∃ o, (q.2.1, (match q.1.tv s with | .row id => some id | _ => none), o) ∈ A /\ ((∃ id, q.1.tv s = .row id /\ aA s.ob id = some o /\ o.rm = true) \/ (q.1.tv s = .nl /\ o = GL q.2.2))
 | [], A, h => by simp
 | (x, id, t) :: r, A, h => by
  simp only [KF] at h
  split at h
  ·rename_i q o hq
   split at h
   ·rename_i L hL
    obtain rfl := aC h
    intro p hp
    rcases List.mem_cons.1 hp with rfl | hp
    ·refine ⟨o, ?_⟩
     rcases akS hq with ⟨UD, e0, rfl, e1, e2⟩ | ⟨e0, rfl, e1⟩
     ·exact ⟨by rw [e0]; simp, .inl ⟨UD, e0, e1, e2⟩⟩
     ·exact ⟨by rw [e0]; simp, .inr ⟨e0, e1⟩⟩
    ·obtain ⟨l', h1, h2⟩ := Ze hL p hp
     exact ⟨l', by simp [h1], h2⟩
   ·cases h
  ·cases h
theorem Kr {s : TS} : ∀ {l : List (Place × Nat × DT)} {A : List (Nat × Option Nat × TO)}, KF s l = some A -> ∀ p ∈ A, (∃ q ∈ l, q.2.1 = p.1) /\ ((∃ old, p.2.1 = some old /\ aA s.ob old = some p.2.2 /\ p.2.2.rm = true) \/ (p.2.1 = none /\ ∃ t, p.2.2 = GL t))
 | [], A, h => by simp only [KF, aS] at h; subst h; simp
 | (x, id, t) :: r, A, h => by
  simp only [KF] at h
  split at h
  ·rename_i q o hq
   split at h
   ·rename_i L hL
    obtain rfl := aC h
    intro p hp
    rcases List.mem_cons.1 hp with rfl | hp
    ·refine ⟨⟨(x, id, t), by simp, rfl⟩, ?_⟩
     rcases akS hq with ⟨UD, e0, rfl, e1, e2⟩ | ⟨e0, rfl, e1⟩
     ·exact .inl ⟨UD, rfl, e1, e2⟩
     ·exact .inr ⟨rfl, t, e1⟩
    ·obtain ⟨⟨q', h0, h1⟩, h2⟩ := Kr hL p hp
     exact ⟨⟨q', by simp [h0], h1⟩, h2⟩
   ·cases h
  ·cases h
theorem af2 {s : TS} {nm : Norm} {moved : List Nat} : ∀ {l : List Nat} {B : List (Nat × Option Nat × TO)}, JI s nm moved l = some B -> ∀ id ∈ l, ∃ o, aA s.ob id = some o /\ (if moved.contains id then (id, none, TO.dead) else (id, some id, match o with | .aV fs => .aV (wW nm id 0 fs) | o => o)) ∈ B
 | [], B, h => by simp
 | id :: r, B, h => by
  simp only [JI] at h
  split at h
  ·cases h
  ·rename_i o _ ho
   split at h
   ·rename_i L hL
    obtain rfl := aC h
    intro j hj
    rcases List.mem_cons.1 hj with rfl | hj
    ·exact ⟨o, ho, List.mem_cons_self⟩
    ·obtain ⟨o', h1, h2⟩ := af2 hL j hj
     exact ⟨o', h1, List.mem_cons_of_mem _ h2⟩
   ·cases h
  ·cases h
theorem Ut {s : TS} {nm : Norm} {moved : List Nat} : ∀ {l : List Nat} {B : List (Nat × Option Nat × TO)}, JI s nm moved l = some B -> ∀ p ∈ B, p.1 ∈ l /\ ∃ o, aA s.ob p.1 = some o /\ ((moved.contains p.1 = true /\ p.2 = (none, .dead)) \/ (moved.contains p.1 = false /\ p.2 = (some p.1, match o with | .aV fs => .aV (wW nm p.1 0 fs) | o => o))) /\ ∀ t ls p, o ≠ .bD t ls (some p)
 | [], B, h => by simp only [JI, aS] at h; subst h; simp
 | id :: r, B, h => by
  simp only [JI] at h
  split at h
  ·cases h
  ·rename_i o hno ho
   split at h
   ·rename_i L hL
    obtain rfl := aC h
    intro p hp
    rcases List.mem_cons.1 hp with rfl | hp
    ·have hno' : ∀ t ls p, o ≠ .bD t ls (some p) := fun t ls p e => hno t ls p (by rw [e])
     cases hc : moved.contains id with
     | true => exact ⟨by simp, o, by simpa using ho, .inl ⟨by simpa using hc, by simp⟩, hno'⟩
     | false => exact ⟨by simp, o, by simpa using ho, .inr ⟨by simpa using hc, by simp⟩, hno'⟩
    ·obtain ⟨h1, h2⟩ := Ut hL p hp
     exact ⟨by simp [h1], h2⟩
   ·cases h
  ·cases h
def vI : List (Nat × Option Nat × TO) -> Nat -> Option (Option Nat × TO)
 | [], _ => none
 | (i, q) :: r, j => if j = i then some q else vI r j
theorem auH (C : List (Nat × Option Nat × TO)) (i : Nat) : aA (C.map fun p => (p.1, p.2.2)) i = (vI C i).map (·.2) := by
 induction C with
 | nil => rfl
 | cons p r ih =>
  obtain ⟨j, q⟩ := p
  simp only [List.map_cons, aA, vI]
  split
  ·rfl
  ·exact ih
theorem Qx {C : List (Nat × Option Nat × TO)} {i : Nat} {q : Option Nat × TO} (h : vI C i = some q) : (i, q) ∈ C := by
 induction C with
 | nil => cases h
 | cons p r ih =>
  obtain ⟨j, q'⟩ := p
  simp only [vI] at h
  split at h
  ·rename_i e; subst e; obtain rfl := aC h; simp
  ·simp [ih h]
theorem Dp : ∀ {C : List (Nat × Option Nat × TO)}, nodupB (C.map (·.1)) = true -> ∀ {p : Nat × Option Nat × TO}, p ∈ C -> vI C p.1 = some p.2
 | [], _, p, h => by simp at h
 | (j, q) :: r, hn, p, h => by
  simp only [List.map_cons, nodupB, bC, Bool.not_eq_true'] at hn
  rcases List.mem_cons.1 h with rfl | h
  ·simp [vI]
  ·have hne : p.1 ≠ j := fun e => by
    have : (r.map (·.1)).contains j = true := by rw [List.contains_iff_mem]; exact List.mem_map.2 ⟨p, h, e⟩
    rw [this] at hn; simp at hn
   simp only [vI, if_neg hne]
   exact Dp hn.2 h
theorem Qw : ∀ {C : List (Nat × Option Nat × TO)}, nodupB (C.filterMap (·.2.1)) = true -> nodupB (C.map (·.1)) = true -> ∀ {p q : Nat × Option Nat × TO} {old : Nat}, p ∈ C -> q ∈ C -> p.2.1 = some old -> q.2.1 = some old -> p.1 = q.1
 | [], _, _, p, q, old, h, _, _, _ => by simp at h
 | x :: r, hn, hm, p, q, old, hp, hq, e1, e2 => by
  simp only [List.map_cons, nodupB, bC] at hm
  simp only [List.filterMap_cons] at hn
  have cont : ∀ {y : Nat × Option Nat × TO}, y ∈ r -> y.2.1 = some old -> (r.filterMap (·.2.1)).contains old = true := fun hy e => by
   rw [List.contains_iff_mem]; exact List.mem_filterMap.2 ⟨_, hy, e⟩
  cases hx : x.2.1 with
  | none =>
   rw [hx] at hn
   rcases List.mem_cons.1 hp with rfl | hp
   ·rw [hx] at e1; cases e1
   ·rcases List.mem_cons.1 hq with rfl | hq
    ·rw [hx] at e2; cases e2
    ·exact Qw hn hm.2 hp hq e1 e2
  | some z =>
   rw [hx] at hn
   simp only [nodupB, bC, Bool.not_eq_true'] at hn
   rcases List.mem_cons.1 hp with hp' | hp' <;> rcases List.mem_cons.1 hq with hq' | hq'
   ·rw [hp', hq']
   ·rw [hp', hx] at e1; obtain rfl := aC e1
    rw [cont hq' e2] at hn; simp at hn
   ·rw [hq', hx] at e2; obtain rfl := aC e2
    rw [cont hp' e1] at hn; simp at hn
   ·exact Qw hn.2 hm.2 hp' hq' e1 e2
theorem aDR {nm : Norm} {p : Place} {x : TV} (h : newAt nm.rows p = none) : (uT nm p x).size = x.size /\ ∀ o q c, x.iF o q = some c -> x.nU q -> (uT nm p x).iF o q = some c /\ (uT nm p x).nU q := by
 unfold uT
 rw [h]
 simp only
 split
 ·exact ⟨rfl, fun _ _ _ a b => ⟨a, b⟩⟩
 ·rename_i hn
  cases x with
  | dv t y => exact absurd (by simp [TV.EX, TV.ids]) hn
  | _ => exact ⟨rfl, fun _ _ _ a b => ⟨a, b⟩⟩
theorem aD6 {nm : Norm} {p : Place} {x : TV} (h : (uT nm p x).size = x.size) : (uT nm p x).tag = x.tag := by
 unfold uT at h ⊢
 split
 ·rename_i n hn
  rw [hn] at h
  rw [KH (x := x) (by have : 1 = x.size := h; omega)]; rfl
 ·split
  ·rfl
  ·rename_i hn
   cases x with
   | dv t y => exact absurd (by simp [TV.EX, TV.ids]) hn
   | _ => rfl
theorem aD5 {nm : Norm} {id : Nat} {fs : List TV} (h : ∀ (j : Nat) (x : TV), fs[j]? = some x -> (uT nm (.iH id j) x).size = x.size) : mW (wW nm id 0 fs) = mW fs := by
 unfold mW
 rw [List.getLast?_eq_getElem?, List.getLast?_eq_getElem?, UR, OH, Nat.zero_add]
 cases hx : fs[fs.length - 1]? with
 | none => rfl
 | some x => simp [aD6 (h _ _ hx)]
theorem Xi {rows : List (Place × Nat × DT)} {p : Place} {n : Nat} (h : newAt rows p = some n) : ∃ q ∈ rows, q.1 = p /\ q.2.1 = n := by
 unfold newAt at h
 obtain ⟨q, hq, rfl⟩ := Option.map_eq_some_iff.1 h
 exact ⟨q, List.mem_of_find?_eq_some hq, by simpa using List.find?_some hq, rfl⟩
theorem amD {R : List Nat} {x : TV} (h : x.EX R = true) : x.within (· ∈ R) := by
 simp only [TV.EX, List.all_eq_true, List.contains_iff_mem] at h
 exact TV.VD h
section
variable {P : Program} {c : Cx} {F : Nat -> Prop} {s : TS} {π : Nat -> Pl} {a : Act} {w : World}
theorem ah9 {pp : List Nat} (fA : ∀ id p, c.pin id = some p -> vU pp id = true) {nm : Norm} {s' : TS} (h : s.OG pp nm = some s') (hm : aI c F π s a w) : ∃ aJ, aI c F aJ s' a w := by
 unfold TS.OG at h
 split at h
 ·rename_i A hA
  split at h
  ·rename_i B hB
   split at h
   ·rename_i hcond
    obtain rfl := aC h
    simp only [bC] at hcond
    obtain ⟨⟨⟨n1, n2⟩, n3⟩, n4⟩ := hcond
    simp only [List.all_eq_true, bC, Bool.not_eq_true', Bool.or_eq_true] at n3 n4
    generalize hC : A ++ B = C at n1 n2 ⊢
    let O' := aA (C.map fun p => (p.1, p.2.2))
    have JA : ∀ i, O' i = (vI C i).map (·.2) := auH C
    let aJ : Nat -> Pl := fun i => match vI C i with | some (some old, _) => π old | _ => ⟨none, 0, 0, iU⟩
    -- what an entry is
    have hent : ∀ {i : Nat} {q : Option Nat × TO}, vI C i = some q -> ((i, q) ∈ A \/ (i, q) ∈ B) := fun h => by
     have := Qx h
     rw [<- hC] at this
     exact List.mem_append.1 this
    have hsrc : ∀ {i : Nat} {q : Option Nat × TO} {old : Nat}, vI C i = some q -> q.1 = some old -> ∃ o, aA s.ob old = some o /\ (q.2.live = o.live) /\ (∀ t ls p, o ≠ .bD t ls (some p)) /\ ((o.rm = true /\ q.2 = o) \/ (i = old /\ i ∈ nm.zI /\ q.2 = match o with | .aV fs => .aV (wW nm i 0 fs) | o => o)) := fun {i q old} he hq => by
     rcases hent he with h | h
     ·obtain ⟨_, e2⟩ := Kr hA _ h
      rcases e2 with ⟨old', e3, e4, e5⟩ | ⟨e3, _⟩
      ·simp only at e3 e4 e5
       rw [hq] at e3; obtain rfl := aC e3
       exact ⟨_, e4, rfl, (fun t ls p e => by rw [e] at e5; cases e5), .inl ⟨e5, rfl⟩⟩
      ·simp only at e3; rw [hq] at e3; cases e3
     ·obtain ⟨e0, o, e1, e2, Dn⟩ := Ut hB _ h
      rcases e2 with ⟨_, e3⟩ | ⟨_, e3⟩
      ·simp only at e3; rw [e3] at hq; cases hq
      ·simp only at e3 e1 e0
       rw [e3] at hq
       obtain rfl := aC hq
       exact ⟨o, e1, by rw [e3]; cases o <;> rfl, Dn, .inr ⟨rfl, e0, by rw [e3]⟩⟩
    have hno : ∀ {i : Nat} {q : Option Nat × TO}, vI C i = some q -> q.1 = none -> (∃ t, q.2 = GL t) \/ q.2 = .dead := fun {i q} he hq => by
     rcases hent he with h | h
     ·obtain ⟨_, e2⟩ := Kr hA _ h
      rcases e2 with ⟨old', e3, _⟩ | ⟨_, t, e1⟩
      ·simp only at e3; rw [hq] at e3; cases e3
      ·exact .inl ⟨t, e1⟩
     ·obtain ⟨e0, o, e1, e2, _⟩ := Ut hB _ h
      rcases e2 with ⟨_, e3⟩ | ⟨_, e3⟩
      ·exact .inr (by simp only at e3; rw [e3])
      ·simp only at e3; rw [e3] at hq; cases hq
    have own : ∀ {i g : Nat}, Own aJ O' i g -> ∃ old q, vI C i = some q /\ q.1 = some old /\ Own π (aA s.ob) old g := fun {i g} ⟨o1, h2, h1⟩ => by
     rw [JA] at h2
     obtain ⟨q, he, rfl⟩ := Option.map_eq_some_iff.1 h2
     cases hq : q.1 with
     | none =>
      exfalso
      have : aJ i = ⟨none, 0, 0, iU⟩ := by simp only [aJ, he]; obtain ⟨q1, q2⟩ := q; simp only at hq; subst hq; rfl
      rw [this] at h1
      rcases hno he hq with ⟨t, e⟩ | e
      ·rw [e] at h1
       rcases Xk t with ⟨u, e2⟩ | ⟨u, e2⟩ <;> rw [e2] at h1
       ·cases h1.g rfl
       ·rcases h1.2 with h | ⟨k, hk, _⟩
        ·cases h
        ·simp at hk
      ·rw [e] at h1; exact h1.not rfl
     | some old =>
      obtain ⟨o, e1, e2, _, e3⟩ := hsrc he hq
      have : aJ i = π old := by simp only [aJ, he]; obtain ⟨q1, q2⟩ := q; simp only at hq; subst hq; rfl
      rw [this] at h1
      refine ⟨old, q, he, hq, o, e1, ?_⟩
      rcases e3 with ⟨_, e4⟩ | ⟨_, _, e4⟩
      ·rw [<- e4]; exact h1
      ·rw [e4] at h1
       cases o with
       | aV fs => exact .of (h1.g rfl) rfl
       | _ => exact h1
    have fz : fG w (Gz F w π (aA s.ob)) w (Gz F w aJ O') := fun b ⟨h0, h1, h2⟩ => ⟨⟨h0, h1, fun i hi => by
     obtain ⟨old, q, _, _, h3⟩ := own hi
     exact h2 old h3⟩, rfl⟩
    -- kept objects go on
    have hkeep : ∀ id o, id ∈ nm.zI -> aA s.ob id = some o -> ∃ o', O' id = some o' /\ Step w (Gz F w aJ O') (π id) (aJ id) o o' := fun id o hid ho => by
     obtain ⟨o1, e1, e2⟩ := af2 hB id hid
     rw [ho] at e1; obtain rfl := aC e1
     have hmem : ∀ {x}, x ∈ B -> x ∈ C := fun h => by rw [<- hC]; exact List.mem_append_right _ h
     have he := Dp n1 (hmem e2)
     by_cases hmv : (A.filterMap (·.2.1)).contains id = true
     ·simp only [hmv, if_true] at he
      exact ⟨.dead, by rw [JA, he]; rfl, by cases o <;> trivial⟩
     ·simp only [hmv, Bool.false_eq_true, if_false] at he
      have hpi : aJ id = π id := by simp only [aJ, he]
      refine ⟨_, by rw [JA, he]; rfl, ?_⟩
      rw [hpi]
      cases o with
      | aV fs =>
       refine ⟨rfl, UR nm id fs 0, fun j x hx => ?_⟩
       refine ⟨_, by rw [OH, hx]; rfl, ?_⟩
       rw [Nat.zero_add]
       cases hna : newAt nm.rows (.iH id j) with
       | none => exact aDR hna
       | some n =>
        obtain ⟨q, q1, q2, q3⟩ := Xi hna
        have := (n3 q q1).1
        rw [q2] at this
        simp only [bC, Bool.not_eq_true', ho, fH] at this
        have hfd : fs.getD j .any = x := by simp [List.getD, hx]
        rw [hfd] at this
        have hsz : x.size = 1 := this.2.1.2
        have afH := this.2.2
        have : uT nm (.iH id j) x = .row n := by simp only [uT, hna]
        rw [this]
        refine ⟨hsz.symm, fun o p c h1 _ => ?_⟩
        have hp : p = [] /\ c = o := by
         cases x with
         | dv t z =>
          simp only [TV.Iu, Bool.not_eq_true'] at afH
          simp only [TV.iF] at h1
          obtain ⟨L, hL, hc⟩ := Option.map_eq_some_iff.1 h1
          have : p = [] := by
           cases p with
           | nil => rfl
           | cons i p => cases t <;> first | (simp [DT.agg] at afH; done) | simp [DT.at] at hL
          subst this
          rw [DT.at_nil] at hL; obtain rfl := aC hL
          exact ⟨rfl, by simpa using hc.symm⟩
         | _ =>
          simp only [TV.iF] at h1
          cases p with
          | nil => exact ⟨rfl, by simpa using h1.symm⟩
          | cons i p => cases h1
        obtain ⟨rfl, rfl⟩ := hp
        exact ⟨rfl, trivial⟩
      | row t l => exact ⟨rfl, rfl, rfl⟩
      | map kt vt l => rfl
      | iter kt vt l cur => rfl
      | sit l => rfl
      | dG t l => rfl
      | iI kt vt l => rfl
      | bD t ls out => exact ⟨rfl, rfl, rfl, rfl, rfl⟩
      | dead => trivial
    -- rows at places
    have hrow : ∀ {p : Place} {n : Nat} {v : Value}, newAt nm.rows p = some n -> VR w (Gz F w π (aA s.ob)) π (aA s.ob) (p.tv s) v -> VR w (Gz F w aJ O') aJ O' (.row n) v := fun {p n v} hna hv => by
     obtain ⟨q, q1, rfl, rfl⟩ := Xi hna
     obtain ⟨l', e1, e2⟩ := Ze hA q q1
     have he := Dp n1 (show _ ∈ C from by rw [<- hC]; exact List.mem_append_left _ e1)
     simp only at he
     simp only [VR, JA, he, Option.map_some]
     rcases e2 with ⟨id, e3, e4, e5⟩ | ⟨e3, rfl⟩
     ·rw [e3] at hv he
      simp only [VR, e4] at hv
      simp only [aJ, he]
      cases l' <;> first | exact hv | (simp [TO.rm] at e5; done)
     ·rw [e3] at hv he
      have hv' : v = .slice none 0 0 := hv
      rcases Xk q.2.2 with ⟨u, e2⟩ | ⟨u, e2⟩
      ·rw [e2] at he ⊢
       simp only [aJ, he]
       rw [hv']; rfl
      ·rw [e2] at he ⊢
       simp only [aJ, he]
       rw [hv']; rfl
    refine ⟨aJ, hm.kept, hm.hF, hm.defers, by rw [Yd]; exact hm.size, fun i x hx => ?_, fun id o ho => ?_, fun i j g hi hj => ?_, fun id g hg => ?_, fun id p o0 hp => ?_, hm.rW.mono fz⟩
    ·rw [ah', Nat.zero_add] at hx
     obtain ⟨y, hy, rfl⟩ := Option.map_eq_some_iff.1 hx
     have hv := hm.slot i y hy
     show VR w (Gz F w aJ O') aJ O' (Iy nm (OB A) i y) _
     unfold Iy
     cases hna : newAt nm.rows (.slot i) with
     | some n =>
      refine hrow hna ?_
      have : Place.tv s (.slot i) = y := by simp [Place.tv, List.getD, hy]
      rw [this]; exact hv
     | none =>
      simp only
      split
      ·rename_i hk
       simp only [bC] at hk
       exact VR.Du (· ∈ nm.zI) fz hkeep (amD hk.2) hv
      ·split
       ·cases y with
        | iP UD a0 b0 =>
         simp only [ae4]
         cases hmo : OB A UD with
         | none => trivial
         | some n =>
          obtain ⟨pe, p1, rfl, p3⟩ := agZ hmo
          obtain ⟨_, e2⟩ := Kr hA _ p1
          rcases e2 with ⟨old, e3, e4, e5⟩ | ⟨e3, _⟩
          ·rw [p3] at e3; obtain rfl := aC e3
           have he := Dp n1 (show _ ∈ C from by rw [<- hC]; exact List.mem_append_left _ p1)
           simp only [VR, e4] at hv
           obtain ⟨pe1, pe2, pe3⟩ := pe
           simp only at p3 e5 he hv ⊢
           subst p3
           simp only [VR, JA, he, Option.map_some, aJ]
           cases pe3 <;> first | exact hv | trivial
          ·rw [p3] at e3; cases e3
        | _ => trivial
       ·trivial
    ·have ho' : O' id = some o := ho
     rw [JA] at ho'
     obtain ⟨q, he, rfl⟩ := Option.map_eq_some_iff.1 ho'
     show OR w (Gz F w aJ O') aJ O' id q.2
     cases hq : q.1 with
     | none =>
      have hpn : aJ id = ⟨none, 0, 0, iU⟩ := by simp only [aJ, he]; obtain ⟨q1, q2⟩ := q; simp only at hq; subst hq; rfl
      rcases hno he hq with ⟨t, e⟩ | e
      ·rw [e]
       rcases Xk t with ⟨u, e2⟩ | ⟨u, e2⟩ <;> rw [e2]
       ·exact .inl ⟨by rw [hpn], rfl⟩
       ·exact .inl ⟨by rw [hpn], rfl, rfl⟩
      ·rw [e]; trivial
     | some old =>
      obtain ⟨o1, e1, e2, Dn, e3⟩ := hsrc he hq
      have hpi : aJ id = π old := by simp only [aJ, he]; obtain ⟨q1, q2⟩ := q; simp only at hq; subst hq; rfl
      have hor := hm.obj old o1 e1
      have rowOk : ∀ {t : DT} {l : List t.den}, OR w (Gz F w π (aA s.ob)) π (aA s.ob) old (.row t l) -> OR w (Gz F w aJ O') aJ O' id (.row t l) := fun {t l} h => by
       simp only [OR] at h ⊢
       rw [hpi]
       rcases h with h | ⟨g, cur, e, h1, h2, h3, h4, h5, h6⟩
       ·exact .inl h
       ·refine .inr ⟨g, cur, e, h1, h2, h3, h4, h5, fun i hi cc hcc => ?_⟩
        obtain ⟨u, b1, b2, b3⟩ := h6 i hi cc hcc
        exact ⟨u, b1, b2, DT.iE fz b3⟩
      have agN : ∀ {kt vt : DT} {l : List (kt.den × vt.den)}, OR w (Gz F w π (aA s.ob)) π (aA s.ob) old (.map kt vt l) -> OR w (Gz F w aJ O') aJ O' id (.map kt vt l) := fun {kt vt l} h => by
       simp only [OR] at h ⊢
       rw [hpi]
       obtain ⟨g, es, ck, h1, h2, h3, h4, h5, h6⟩ := h
       refine ⟨g, es, ck, h1, h2, h3, h4, h5, fun i e he => ?_⟩
       obtain ⟨x, b1, b2, b3⟩ := h6 i e he
       exact ⟨x, b1, DT.iD fz b2, DT.iD fz b3⟩
      have agO : ∀ {t : DT} {ls : List (List t.den)}, OR w (Gz F w π (aA s.ob)) π (aA s.ob) old (.bD t ls none) -> OR w (Gz F w aJ O') aJ O' id (.bD t ls none) := fun {t ls} h => by
       simp only [OR] at h ⊢
       rw [hpi]
       rcases h with h | ⟨g, cur, e, h1, h2, h3, h4, h5, h6⟩
       ·exact .inl h
       ·refine .inr ⟨g, cur, e, h1, h2, h3, h4, h5, ⟨fun i hi => ?_, (fun i r h => by cases h), h6.apart⟩⟩
        obtain ⟨u, b1, b2, b3, _⟩ := h6.cell i hi
        exact ⟨u, b1, b2, fun ho => ⟨(b3 ho).1, (b3 ho).2.move fz fun _ _ => rfl⟩, fun r h => by cases h⟩
      rcases e3 with ⟨erm, e4⟩ | ⟨rfl, hid, e4⟩
      ·rw [e4]
       cases o1 with
       | bD t ls out => cases out with
        | none => exact agO hor
        | some p => exact absurd rfl (Dn t ls p)
       | row t l => exact rowOk hor
       | map kt vt l => exact agN hor
       | _ => simp [TO.rm] at erm
      ·rw [e4]
       cases o1 with
       | bD t ls out => cases out with
        | none => exact agO hor
        | some p => exact absurd rfl (Dn t ls p)
       | row t l => exact rowOk hor
       | map kt vt l => exact agN hor
       | iter kt vt l cur =>
        simp only [OR] at hor ⊢
        rw [hpi]
        obtain ⟨r, h1, h2⟩ := hor
        exact ⟨r, h1, h2.mono fz rfl⟩
       | sit l =>
        simp only [OR] at hor ⊢
        rw [hpi]
        exact hor
       | dG t l => trivial
       | iI kt vt l => trivial
       | dead => trivial
       | aV fs =>
        simp only [OR] at hor ⊢
        rw [hpi]
        obtain ⟨g, cur, e, h1, h2, h3⟩ := hor
        have Ud : ∀ j x, fs[j]? = some x -> (uT nm (.iH id j) x).size = x.size := fun j x hx => by
         obtain ⟨o', b1, b2⟩ := hkeep id (.aV fs) hid e1
         rw [JA, he] at b1
         simp only [Option.map_some, aS] at b1
         rw [<- b1, e4] at b2
         obtain ⟨_, _, b3⟩ := b2
         obtain ⟨y, c1, c2, _⟩ := b3 j x hx
         rw [OH, hx, Nat.zero_add] at c1
         simp only [Option.map_some, aS] at c1
         rw [c1]; exact c2
        have Ef : ∀ j, aP (wW nm id 0 fs) j = aP fs j := Jd (UR nm id fs 0) fun j x hx => ⟨_, by rw [OH, hx]; rfl, by rw [Nat.zero_add]; exact Ud j x hx⟩
        refine ⟨g, cur, e, h1, ⟨h2.1, h2.2.on (aD5 Ud) rfl (by rw [Ef, UR])⟩, fun j x hx cc hcc => ?_⟩
        rw [OH, Nat.zero_add] at hx
        obtain ⟨y, hy, rfl⟩ := Option.map_eq_some_iff.1 hx
        rw [Ud j y hy] at hcc
        obtain ⟨u, b1, b2, b3⟩ := h3 j y hy cc hcc
        refine ⟨u, by rw [Ef]; exact b1, b2, ?_⟩
        show (uT nm (.iH id j) y).mG w (Gz F w aJ O') aJ O' cc u
        unfold uT
        cases hna : newAt nm.rows (.iH id j) with
        | some n =>
         simp only
         have htv : Place.tv s (.iH id j) = y := by simp [Place.tv, e1, List.getD, hy]
         obtain ⟨q', q1, q2, q3⟩ := Xi hna
         obtain ⟨l', _, e6⟩ := Ze hA q' q1
         rw [q2, htv] at e6
         have gB : VR w (Gz F w π (aA s.ob)) π (aA s.ob) y u := by
          rcases e6 with ⟨id', rfl, _⟩ | ⟨rfl, _⟩ <;> exact b3
         exact hrow hna (by rw [htv]; exact gB)
        | none =>
         simp only
         split
         ·rename_i hk
          have hw := amD hk
          cases y with
          | dv t z => exact DT.iE fz b3
          | _ => exact VR.Du (· ∈ nm.zI) fz hkeep hw b3
         ·trivial
    ·obtain ⟨o1, q1, a1, a2, a3⟩ := own hi
     obtain ⟨o2, q2, b1, b2, b3⟩ := own hj
     have := hm.inj o1 o2 g a3 b3
     subst this
     exact Qw n2 n1 (Qx a1) (Qx b1) a2 b2
    ·obtain ⟨old, q, _, _, h3⟩ := own hg
     exact hm.new old g h3
    ·obtain ⟨o, ho, hl⟩ := hm.pin id p o0 hp
     have hin : id ∈ nm.zI := by
      rcases n4 (id, o) (vZ ho) with h | h
      ·have := fA id _ hp; simp only at h; rw [this] at h; cases h
      ·simpa using h
     obtain ⟨o', h1, h2⟩ := hkeep id o hin ho
     refine ⟨o', h1, fun hlv => ?_⟩
     obtain ⟨h3, h4, h5⟩ := h2.shp hlv (hl (h2.live hlv)).2.OE.2
     exact ⟨h4.trans (hl h3).1, (hl h3).2.trans h5⟩
   ·cases h
  ·cases h
 ·cases h
theorem aI.ae8 (hm : aI c F π s a w) {id g : Nat} {o o' : TO} (ho : aA s.ob id = some o) (hl : o.live = true) (hl' : o'.live = false) (hg : (π id).g = some g) : Gz F w π (aA ((id, o') :: s.ob)) g :=
 ⟨hm.hF g (hm.new id g (.of hg ho hl)).1, (hm.new id g (.of hg ho hl)).2, fun j ⟨o1, h2, h1⟩ => by
  rw [dQ] at h2
  by_cases e : j = id
  ·rw [if_pos e] at h2; obtain rfl := aC h2; exact h1.not hl'
  ·rw [if_neg e] at h2
   exact e (hm.inj j id g ⟨o1, h2, h1⟩ (.of hg ho hl))⟩
theorem aI.akQ (hm : aI c F π s a w) {i : Nat} {x : TV} (hx : VR w (Gz F w π (aA s.ob)) π (aA s.ob) x (a.tmps.getD i undef)) : aI c F π ⟨s.sl.set i x, s.ob⟩ a w :=
 ⟨hm.kept, hm.hF, hm.defers, by simpa using hm.size, fun j y hy => by
  simp only [List.getElem?_set] at hy
  by_cases e : i = j
  ·subst e
   simp only [if_true] at hy
   split at hy
   ·obtain rfl := aC hy; exact hx
   ·cases hy
  ·rw [if_neg e] at hy; exact hm.slot j y hy, hm.obj, hm.inj, hm.new, hm.pin, hm.rW⟩
def cutAt (i : Nat) (s : TS) : TS :=
 match s.sl.getD i .any with
 | .iP id a b => match aA s.ob id with
  | some (.row t l) => ⟨s.sl.set i (.dv (.sl t) ((l.take b).drop a)), (id, .dG t l) :: s.ob⟩
  | _ => s
 | _ => s
def CQ : DT -> Nat
 | .pair _ b => CQ b + 1
 | _ => 0
def SE (L : bF) (t : DT) : Nat -> List TV -> Option (List t.den)
 | 0, fs => match fs with
  | [] => some []
  | _ => none
 | n + 1, fs => match uN L t (fs.take (CQ t)) with
  | some (y, true) => (SE L t n (fs.drop (CQ t))).map fun l => y :: l
  | _ => none
def MZ (i : Nat) (t : DT) (s : TS) : TS :=
 match s.sl.getD i .any with
 | .view id 0 [] k n 0 n' => match aA s.ob id with
  | some (.aV fs) => match SE (eX (iZ (aA s.ob) (fs.flatMap TV.pI)) (aA s.ob)) t n fs with
   | some l => if k = t.size /\ n' = n then ⟨s.sl.set i (.dv (.sl t) l), (id, .dead) :: (iZ (aA s.ob) (fs.flatMap TV.pI) ++ s.ob)⟩ else s
   | none => s
  | _ => s
 | _ => s
def SK : List (Nat × DT) -> TS -> TS
 | [], s => s
 | (i, .sl t) :: r, s => SK r (MZ i t (cutAt i s))
 | (i, _) :: r, s => SK r (cutAt i s)
theorem ac7 (hm : aI c F π s a w) (i : Nat) : aI c F π (cutAt i s) a w := by
 unfold cutAt
 split
 ·rename_i id p q hi
  split
  ·rename_i t l ho
   have hv := hm.KC i
   rw [hi] at hv
   simp only [VR, ho] at hv
   obtain ⟨h1, h2, p0, cp, h3, h4, h5, h6, h7⟩ := hv
   refine aI.akQ (s := ⟨s.sl, (id, .dG t l) :: s.ob⟩) (hm.freeze ho) ?_
   have hlen : ((l.take q).drop p).length = q - p := by simp; omega
   refine (DT.val_one (t := .sl t) rfl).2 ?_
   show lX (fun _ _ _ => True) t.size ((l.take q).drop p).length _ w _ _
   rw [hlen]
   refine ⟨p0, cp, h3, h4, h5, h6, trivial, fun hn => ?_⟩
   obtain ⟨g, hg, e1⟩ := h7 (by omega)
   have hor := hm.obj id _ ho
   simp only [OR] at hor
   rcases hor with ⟨hn', _⟩ | ⟨g', cur, e, k1, k2, k3, k4, k5, k6⟩
   ·rw [hg] at hn'; cases hn'
   ·rw [hg] at k1; obtain rfl := aC k1
    have I9 := hm.ae8 (o' := .dG t l) ho rfl rfl hg
    have hz : fG w (Gz F w π (aA s.ob)) w (Gz F w π (aA ((id, .dG t l) :: s.ob))) := fun b hb => ⟨⟨hb.1, hb.2.1, fun j ⟨o1, r2, r3⟩ => by
     rw [dQ] at r2
     by_cases e : j = id
     ·rw [if_pos e] at r2; obtain rfl := aC r2; exact r3.not rfl
     ·rw [if_neg e] at r2; exact hb.2.2 j ⟨o1, r2, r3⟩⟩, rfl⟩
    refine ⟨g, _, e1, I9, fun j hj cc hc => ?_⟩
    obtain ⟨u, a1, a2, a3⟩ := k6 (p + j) (by omega) cc hc
    refine ⟨u, ?_, a2, ?_⟩
    ·rw [tH k2]
     rw [show (π id).q + p * t.size + j * t.size + cc = (π id).q + (p + j) * t.size + cc by rw [Nat.add_mul]; omega]
     exact a1
    ·show t.cell (((l.take q).drop p).getD j t.dflt) cc w _ u
     rw [NK l p q j t.dflt h2 (by omega)]
     exact DT.iE hz a3
  ·exact hm
 ·exact hm
theorem aq0 {L : bF} : ∀ {t : DT} {fs : List TV} {y : t.den} {b : Bool}, uN L t fs = some (y, b) -> fs.length = CQ t /\ aP fs (CQ t) = t.size := by
 intro t
 induction t with
 | unit => intro fs y b h; cases fs with
  | nil => exact ⟨rfl, rfl⟩
  | cons x r => simp [uN] at h
 | pair p q ihp ihq =>
  intro fs y b h
  cases fs with
  | nil => simp [uN] at h
  | cons x r =>
   simp only [uN] at h
   split at h
   ·split at h
    ·rename_i hr
     split at h
     ·rename_i hk
      simp only [bC, beq_iff_eq] at hk
      obtain ⟨h1, h2⟩ := ihq hr
      exact ⟨by simp [CQ, h1], by simp only [CQ, aP, DT.size, h2, hk.1]⟩
     ·cases h
    ·cases h
   ·cases h
 | _ => intro fs y b h; cases fs <;> simp [uN] at h
theorem acL {w : World} {G : Nat -> Prop} {π : Nat -> Pl} {O : bF} {t : DT} : ∀ {n : Nat} {fs : List TV} {l : List t.den} {cells : Nat -> Option Value}, SE O t n fs = some l -> (∀ (j : Nat) (x : TV), fs[j]? = some x -> ∀ cc, cc < x.size -> ∃ u, cells (aP fs j + cc) = some u /\ u.oneCell' = true /\ x.mG w G π O cc u) ->
  l.length = n /\ ∀ e, e < n -> ∀ cc, cc < t.size -> ∃ u, cells (e * t.size + cc) = some u /\ u.oneCell' = true /\ t.cell (l.getD e t.dflt) cc w G u
 | 0, fs, l, cells, h, _ => by
  simp only [SE] at h
  split at h
  ·obtain rfl := aC h; exact ⟨rfl, fun e he => by omega⟩
  ·cases h
 | n + 1, fs, l, cells, h, hc => by
  simp only [SE] at h
  split at h
  ·rename_i y hy
   obtain ⟨l', hl, rfl⟩ := Option.map_eq_some_iff.1 h
   obtain ⟨s1, s2⟩ := aq0 hy
   have hlen : CQ t <= fs.length := by rw [List.length_take] at s1; omega
   have hoff : aP fs (CQ t) = t.size := by rw [<- s2, EK _ _ _ (Nat.le_refl _)]
   obtain ⟨r1, r2⟩ := acL (cells := fun q => cells (t.size + q)) hl fun j x hx cc hcc => by
    rw [List.getElem?_drop] at hx
    obtain ⟨u, a1, a2⟩ := hc (CQ t + j) x hx cc hcc
    refine ⟨u, ?_, a2⟩
    rw [JY _ _ _ hlen, hoff] at a1
    rw [<- a1]; congr 1; omega
   refine ⟨by simp [r1], fun e he cc hcc => ?_⟩
   cases e with
   | zero =>
    have := acM (w := w) (G := G) (π := π) (cells := cells) hy rfl (fun j x hx cc hcc => by
     rw [List.getElem?_take] at hx
     split at hx
     ·rename_i hj
      rw [EK _ _ _ (Nat.le_of_lt hj)]
      exact hc j x hx cc hcc
     ·cases hx) cc hcc
    obtain ⟨u, a1, a2, a3⟩ := this
    exact ⟨u, by rw [Nat.zero_mul, Nat.zero_add]; exact a1, a2, a3⟩
   | succ e =>
    obtain ⟨u, a1, a2, a3⟩ := r2 e (by omega) cc hcc
    exact ⟨u, by rw [<- a1]; congr 1; rw [Nat.add_mul]; omega, a2, a3⟩
  ·cases h
theorem asN (hm : aI c F π s a w) (i : Nat) (t : DT) : aI c F π (MZ i t s) a w := by
 unfold MZ
 split
 ·rename_i id k n n' hi
  split
  ·rename_i fs ho
   split
   ·rename_i l hl
    split
    ·rename_i hc
     obtain ⟨rfl, rfl⟩ := hc
     have hm1 := hm.iZ (fs.flatMap TV.pI)
     have hlk : aA (iZ (aA s.ob) (fs.flatMap TV.pI) ++ s.ob) = eX (iZ (aA s.ob) (fs.flatMap TV.pI)) (aA s.ob) := G5 _ _
     have hUn : aA (iZ (aA s.ob) (fs.flatMap TV.pI)) id = none := by
      cases h : aA (iZ (aA s.ob) (fs.flatMap TV.pI)) id with
      | none => rfl
      | some o =>
       obtain ⟨o0, h1, h2⟩ := TF h
       rw [ho] at h1; obtain rfl := aC h1; cases h2
     generalize iZ (aA s.ob) (fs.flatMap TV.pI) = U at hm1 hlk hl hUn ⊢
     have ho1 : aA (U ++ s.ob) id = some (.aV fs) := by
      rw [hlk]; unfold eX; rw [hUn]; exact ho
     have hv := hm1.KC i
     simp only at hv
     rw [hi] at hv
     simp only [VR, ho1] at hv
     obtain ⟨c0, g, pp, q1, q2, q3, q4, q5, q6, q7, q8⟩ := hv rfl
     simp only [TO.loc, aS] at q1
     subst q1
     obtain ⟨g', cur, e, r1, r2, r3⟩ := hm1.obj id _ ho1
     rw [q3] at r1; obtain rfl := aC r1
     rw [<- hlk] at hl
     obtain ⟨z1, z2⟩ := acL (w := w) (G := Gz F w π (aA (U ++ s.ob))) (π := π) (cells := fun q => cur[(π id).q + q]?) hl fun j x hx cc hcc => by
      obtain ⟨u, a1, a2⟩ := r3 j x hx cc hcc
      exact ⟨u, by rw [<- a1]; congr 1; omega, a2⟩
     have hm2 : aI c F π ⟨s.sl, (id, .dead) :: (U ++ s.ob)⟩ a w := hm1.dead ho1
     have I9 := hm1.ae8 (o' := .dead) ho1 rfl rfl q3
     have hz : fG w (Gz F w π (aA (U ++ s.ob))) w (Gz F w π (aA ((id, .dead) :: (U ++ s.ob)))) := ae7 hm1 ho1
     refine aI.akQ (s := ⟨s.sl, (id, .dead) :: (U ++ s.ob)⟩) hm2 ((DT.val_one (t := .sl t) rfl).2 ?_)
     show lX (fun _ _ _ => True) t.size l.length _ w _ _
     rw [z1]
     refine ⟨some pp, n', by rw [q7]; simp, Nat.le_refl _, q6, (fun h => by cases h), trivial, fun hn => ?_⟩
     obtain rfl := q8 hn
     refine ⟨g, (π id).q, by simp only [Nat.add_zero, Nat.zero_mul], I9, fun j hj cc hc => ?_⟩
     obtain ⟨u, a1, a2, a3⟩ := z2 j hj cc hc
     refine ⟨u, ?_, a2, DT.iE hz a3⟩
     rw [tH r2.1, <- a1]
     congr 1
     omega
    ·exact hm
   ·exact hm
  ·exact hm
 ·exact hm
theorem Ph : ∀ {nY : List (Nat × DT)} {s : TS}, aI c F π s a w -> aI c F π (SK nY s) a w
 | [], s, hm => hm
 | (i, t) :: r, s, hm => by
  cases t <;> first | exact Ph (nY := r) (asN (ac7 hm i) i _) | exact Ph (nY := r) (ac7 hm i)
def aCI (O : List (Nat × TO)) : List Nat := O.filterMap fun p => match p.2 with
 | .bD _ _ (some _) => some p.1
 | _ => none
def TS.settle (s : TS) : TS :=
 match aCI s.ob with
 | [] => s
 | ids => ⟨s.sl, nO (aA s.ob) ids ++ s.ob⟩
theorem ak6 (hm : aI c F π s a w) : ∃ aJ, aI c F aJ s.settle a w := by
 unfold TS.settle
 split
 ·exact ⟨π, hm⟩
 ·exact hm.nO _
def GY : List (Nat × DT) -> TS -> Option (TS × Bool)
 | [], s => some (s, true)
 | (i, t) :: r, s => if t.plain then (match (s.sl.getD i .any).as (aA s.ob) t with
  | some (y, b) => match GY r ⟨s.sl.set i (.dv t y), s.ob⟩ with
   | some (s', b') => some (s', b && b')
   | none => none
  | none => none) else none
def VA (nY : List (Nat × DT)) (s : TS) : Option (TS × Bool) :=
 let s1 := SK nY s.settle
 GY nY ⟨s1.sl, iZ (aA s1.ob) (nY.flatMap fun p => (s1.sl.getD p.1 .any).pI) ++ s1.ob⟩
theorem ak1 : ∀ {nY : List (Nat × DT)} {s s' : TS} {b : Bool}, GY nY s = some (s', b) -> b = true -> aI c F π s a w -> aI c F π s' a w
 | [], s, s', b, h, _, hm => by
  simp only [GY, aS, bJ] at h
  obtain ⟨rfl, _⟩ := h
  exact hm
 | (i, t) :: r, s, s', b, h, hb, hm => by
  simp only [GY] at h
  split at h
  ·rename_i hp
   split at h
   ·rename_i y b1 hy
    split at h
    ·rename_i s2 b2 hr
     simp only [aS, bJ] at h
     obtain ⟨rfl, rfl⟩ := h
     simp only [bC] at hb
     refine ak1 hr hb.2 ⟨hm.kept, hm.hF, hm.defers, by simpa using hm.size, fun j x hx => ?_, hm.obj, hm.inj, hm.new, hm.pin, hm.rW⟩
     simp only [List.getElem?_set] at hx
     by_cases e : i = j
     ·subst e
      simp only [if_true] at hx
      split at hx
      ·obtain rfl := aC hx
       exact TV.qL hy hb.1 hp (hm.KC i)
      ·cases hx
     ·rw [if_neg e] at hx; exact hm.slot j x hx
    ·cases h
   ·cases h
  ·cases h
theorem alT {nY : List (Nat × DT)} {s s' : TS} {b : Bool} (h : VA nY s = some (s', b)) (hb : b = true) (hm : aI c F π s a w) : ∃ aJ, aI c F aJ s' a w := by
 obtain ⟨iY, hm1⟩ := ak6 hm
 exact ⟨iY, ak1 h hb ((Ph (nY := nY) hm1).iZ _)⟩
def TS.Yc (pp : List Nat) (nm : Norm) (s : TS) : Option TS :=
 match nm.dat with
 | [] => s.OG pp nm
 | _ => match VA nm.dat s with
  | some (s0, true) => s0.OG pp nm
  | _ => none
def TS.qR (pp : List Nat) (nm : Norm) (s : TS) : Option TS := s.settle.Yc pp nm
def TS.norm (nm : Norm) (s : TS) : Option TS := s.qR [] nm
theorem aiA {pp : List Nat} (fA : ∀ id p, c.pin id = some p -> vU pp id = true) {nm : Norm} {s' : TS} (h : s.qR pp nm = some s') (hm : aI c F π s a w) : ∃ aJ, aI c F aJ s' a w := by
 obtain ⟨iY, hm1⟩ := ak6 hm
 unfold TS.qR TS.Yc at h
 split at h
 ·exact ah9 fA h hm1
 ·split at h
  ·rename_i s0 h0
   obtain ⟨eG, hm2⟩ := alT h0 rfl hm1
   exact ah9 fA h hm2
  ·cases h
theorem aI.ext (hm : aI c F π s a w) {x : TV} {v : Value} (hx : VR w (Gz F w π (aA s.ob)) π (aA s.ob) x v) : aI c F π ⟨s.sl ++ [x], s.ob⟩ { a with tmps := a.tmps.push v } w := by
 refine ⟨hm.kept, hm.hF, hm.defers, by simp [hm.size], fun j y hy => ?_, hm.obj, hm.inj, hm.new, hm.pin, hm.rW⟩
 rw [List.getElem?_append] at hy
 split at hy
 ·rename_i hlt
  have hlt' : j < a.tmps.size := by rw [hm.size]; exact hlt
  have e : (a.tmps.push v).getD j undef = a.tmps.getD j undef := by
   simp only [Array.getD_eq_getD_getElem?, Array.getElem?_push]
   rw [if_neg (by omega)]
  rw [e]; exact hm.slot j y hy
 ·rename_i hge
  have e0 : j = s.sl.length := by
   have := (List.getElem?_eq_some_iff.1 hy).1
   simp at this; omega
  subst e0
  simp at hy
  subst hy
  have e : (a.tmps.push v).getD s.sl.length undef = v := by
   simp only [Array.getD_eq_getD_getElem?, Array.getElem?_push, hm.size]
   simp
  rw [e]; exact hx
def GX (TI : Nat -> TD) (s : TS) : List ResultVar -> Option (List TV)
 | [] => some []
 | .tmp t :: r => (GX TI s r).map fun l => s.sl.getD t .any :: l
 | .cell t T :: r => match (match (s.sl.getD t .any).ld (TI T) (aA s.ob) with
   | some x => some x
   | none => KG (TI T) (aA s.ob) (s.sl.getD t .any)) with
  | some x => (GX TI s r).map fun l => x :: l
  | none => none
theorem aDD {P : Program} {T : TypeId} {v v' : Value} {w : World} (h : (Instr.loadAt T v).run P w = .ok v' w) : (do loadVar T (<- asAddr v)).run P w = .ok v' w := by
 cases v with
 | pointer o => cases o with
  | none => simp [Instr.loadAt, Instr.sureAddr] at h
  | some a => exact h
 | _ => simp [Instr.loadAt, Instr.sureAddr] at h
def rdV (P : Program) (tmps : Array Value) (w : World) : ResultVar -> Value -> Prop
 | .tmp t, v => v = tmps.getD t undef
 | .cell t T, v => (do loadVar T (<- asAddr (tmps.getD t undef))).run P w = .ok v w
theorem Yt {P : Program} {TI : Nat -> TD} (hT : dI P TI) (hm : aI c F π s a w) : ∀ {rs : List ResultVar} {l : List TV}, GX TI s rs = some l -> ∃ vs : List Value, vs.length = l.length /\ vs.length = rs.length /\
  (∀ (i : Nat) (r : ResultVar) (v : Value), rs[i]? = some r -> vs[i]? = some v -> rdV P a.tmps w r v) /\ ∀ (i : Nat) (x : TV) (v : Value), l[i]? = some x -> vs[i]? = some v -> VR w (Gz F w π (aA s.ob)) π (aA s.ob) x v
 | [], l, h => by
  simp only [GX, aS] at h; subst h
  exact ⟨[], rfl, rfl, fun i r v h => by simp at h, fun i x v h => by simp at h⟩
 | .tmp t :: r, l, h => by
  simp only [GX, Option.map_eq_some_iff] at h
  obtain ⟨l', h1, rfl⟩ := h
  obtain ⟨vs, a1, a2, a3, a4⟩ := Yt hT hm h1
  refine ⟨a.tmps.getD t undef :: vs, by simp [a1], by simp [a2], fun i q v hq hv => ?_, fun i x v hx hv => ?_⟩
  ·cases i with
   | zero => obtain rfl := aC hq; obtain rfl := aC hv; rfl
   | succ i => exact a3 i q v (by simpa using hq) (by simpa using hv)
  ·cases i with
   | zero => obtain rfl := aC hx; obtain rfl := aC hv; exact hm.KC t
   | succ i => exact a4 i x v (by simpa using hx) (by simpa using hv)
 | .cell t T :: r, l, h => by
  simp only [GX] at h
  split at h
  ·rename_i y hy
   simp only [Option.map_eq_some_iff] at h
   obtain ⟨l', h1, rfl⟩ := h
   obtain ⟨vs, a1, a2, a3, a4⟩ := Yt hT hm h1
   obtain ⟨v0, b1, b2⟩ : ∃ v', (Instr.loadAt T (a.tmps.getD t undef)).run P w = .ok v' w /\ VR w (Gz F w π (aA s.ob)) π (aA s.ob) y v' := by
    split at hy
    ·rename_i x hx
     obtain rfl := aC hy
     exact TV.agD (P := P) hT hm hx (hm.KC t)
    ·exact alG (P := P) hT hm hy (hm.KC t)
   refine ⟨v0 :: vs, by simp [a1], by simp [a2], fun i q v hq hv => ?_, fun i x v hx hv => ?_⟩
   ·cases i with
    | zero => obtain rfl := aC hq; obtain rfl := aC hv; exact aDD b1
    | succ i => exact a3 i q v (by simpa using hq) (by simpa using hv)
   ·cases i with
    | zero => obtain rfl := aC hx; obtain rfl := aC hv; exact b2
    | succ i => exact a4 i x v (by simpa using hx) (by simpa using hv)
  ·cases h
end
end
section
section
variable {P : Program} {c : Cx} {F : Nat -> Prop} {s : TS}
def twin (E : Env) (o : Oper) (s : TS) : Option (TS × TS × Bool) := none
theorem aG6 {E : Env} (hT : dI P E.TI) {o : Oper} {s1 s2 : TS} {b : Bool} (h : twin E o s = some (s1, s2, b)) (hb : b = true) : pV P c F o (fun s' => s' = s1 \/ s' = s2) s := by cases h
end
end
section
def elz (id : Nat) (p0 : List Nat) (t : DT) (y : t.den) (x : TV) : TV :=
 match x with
 | .ptr i a p => if i = id then (if a = 0 /\ p = p0 then .el t y [] else .any) else x
 | _ => if x.ids.contains id then .any else x
def TO.boxed : TO -> Option ((t : DT) × t.den × List Nat)
 | .aV [.dv t y] => some ⟨t, y, [0]⟩
 | .row t [y] => some ⟨t, y, []⟩
 | _ => none
def TS.Ol (pp : List Nat) (id : Nat) (s : TS) : Option TS :=
 match (aA s.ob id).bind TO.boxed with
 | some ⟨t, y, p0⟩ => if !vU pp id && s.ob.all (fun p => p.1 == id || !p.2.ids.contains id) then some ⟨s.sl.map (elz id p0 t y), s.ob.filter fun p => p.1 != id⟩ else none
 | _ => none
def TS.ZX (pp : List Nat) : List Nat -> TS -> Option TS
 | [], s => some s
 | id :: r, s => match s.Ol pp id with
  | some s1 => TS.ZX pp r s1
  | none => none
theorem alR (id : Nat) : ∀ (O : List (Nat × TO)) (i : Nat), aA (O.filter fun p => p.1 != id) i = if i = id then none else aA O i
 | [], i => by simp [aA]
 | (j, o) :: r, i => by
  have ih := alR id r i
  by_cases hj : j = id
  ·subst hj
   simp only [List.filter_cons, bne_self_eq_false, Bool.false_eq_true, if_false, ih, dQ]
   by_cases e : i = j
   ·simp [e]
   ·simp [e]
  ·have : (j != id) = true := by simpa using hj
   simp only [List.filter_cons, this, if_true, dQ, ih]
   by_cases e : i = j
   ·subst e; simp [hj]
   ·simp [e]
theorem aHL {id : Nat} : ∀ {x : TV}, (∀ i ∈ x.ids, i ≠ id) -> x.within (· ≠ id) := by
 intro x
 induction x with
 | row i => intro h; exact h i (by simp [TV.ids])
 | iP i a b => intro h; exact h i (by simp [TV.ids])
 | ptr i a p => intro h; exact h i (by simp [TV.ids])
 | view i a p k n b c => intro h; exact h i (by simp [TV.ids])
 | fn g k n f ih => intro h j hj; exact ih j fun i hi => h i (by simp only [TV.ids, List.mem_flatMap, List.mem_range]; exact ⟨j, hj, hi⟩)
 | dM n f ih => intro h j hj; exact ih j fun i hi => h i (by simp only [TV.ids, List.mem_flatMap, List.mem_range]; exact ⟨j, hj, hi⟩)
 | st n f ih => intro h j hj; exact ih j fun i hi => h i (by simp only [TV.ids, List.mem_flatMap, List.mem_range]; exact ⟨j, hj, hi⟩)
 | _ => intro _; trivial
theorem az9 {l : List Nat} {id : Nat} (h : l.contains id = false) : ∀ i ∈ l, i ≠ id := fun i hi e => by
 subst e
 rw [List.contains_iff_mem.2 hi] at h; cases h
section
variable {c : Cx} {F : Nat -> Prop} {s : TS} {π : Nat -> Pl} {a : Act} {w : World}
theorem TO.arN {id : Nat} {o : TO} {t : DT} {y : t.den} {p0 : List Nat} (h : o.boxed = some ⟨t, y, p0⟩) (ho : aA s.ob id = some o) (hm : aI c F π s a w) : o.live = true /\ ∃ g cur e, (π id).g = some g /\ kQ w g cur e /\
  (∀ cc, cc < t.size -> ∃ u, cur[(π id).q + cc]? = some u /\ u.oneCell' = true /\ t.cell y cc w (Gz F w π (aA s.ob)) u) /\ ∀ v, VR w (Gz F w π (aA s.ob)) π (aA s.ob) (.ptr id 0 p0) v -> v = .pointer (some ⟨g, (π id).q, none⟩) := by
 unfold TO.boxed at h
 split at h
 ·rename_i t' y'
  simp only [aS, Sigma.mk.injEq] at h
  obtain ⟨rfl, h⟩ := h
  obtain ⟨rfl, rfl⟩ := Prod.mk.inj (eq_of_heq h)
  obtain ⟨g, cur, e, hg, hw, hc⟩ := hm.obj id _ ho
  refine ⟨rfl, g, cur, e, hg, hw.1, fun cc hcc => ?_, fun v hv => ?_⟩
  ·obtain ⟨u, u1, u2, u3⟩ := hc 0 (.dv t' y') rfl cc hcc
   exact ⟨u, by rw [<- u1]; simp [aP], u2, u3⟩
  ·obtain ⟨cc, g1, k1, k2, k3, k4⟩ := (by simpa only [VR, ho] using hv : TO.live (.aV [.dv t' y']) = true -> _) rfl
   have k1' : TV.iF (.dv t' y') (aP [TV.dv t' y'] 0) [] = some cc := k1
   simp only [TV.iF, DT.at_nil, Option.map_some, aP, aS] at k1'
   have hcc : cc = 0 := by have : 0 + 0 = cc := k1'; omega
   rw [hg] at k3; obtain rfl := aC k3
   subst hcc
   exact k4
 ·rename_i t' y'
  simp only [aS, Sigma.mk.injEq] at h
  obtain ⟨rfl, h⟩ := h
  obtain ⟨rfl, rfl⟩ := Prod.mk.inj (eq_of_heq h)
  rcases hm.obj id _ ho with h1 | ⟨g, cur, e, hg, hw, _, _, _, hc⟩
  ·cases h1.2
  refine ⟨rfl, g, cur, e, hg, hw, fun cc hcc => ?_, fun v hv => ?_⟩
  ·obtain ⟨u, u1, u2, u3⟩ := hc 0 (by simp) cc hcc
   exact ⟨u, by rw [<- u1]; simp, u2, u3⟩
  ·obtain ⟨cc, g1, k1, k2, k3, k4⟩ := (by simpa only [VR, ho] using hv : TO.live (.row t' [y']) = true -> _) rfl
   have k1' : (t'.at []).map (fun L => 0 * t'.size + L.off) = some cc := k1
   simp only [DT.at_nil, Option.map_some, aS] at k1'
   have hcc : cc = 0 := by have : 0 * t'.size + 0 = cc := k1'; omega
   rw [hg] at k3; obtain rfl := aC k3
   subst hcc
   exact k4
 ·cases h
theorem arL {pp : List Nat} (fA : ∀ id p, c.pin id = some p -> vU pp id = true) {id : Nat} {s' : TS} (h : s.Ol pp id = some s') (hm : aI c F π s a w) : aI c F π s' a w := by
 unfold TS.Ol at h
 split at h
 ·rename_i t y p0 ho'
  obtain ⟨o0, ho, hbx⟩ := Option.bind_eq_some_iff.1 ho'
  obtain ⟨hlive, g, cur, e, hg, hw, hc, Ua⟩ := TO.arN hbx ho hm
  split at h
  ·rename_i hb
   obtain rfl := aC h
   simp only [bC, Bool.not_eq_true', List.all_eq_true, Bool.or_eq_true, beq_iff_eq] at hb
   obtain ⟨hnp, afE⟩ := hb
   have hlk := alR id s.ob
   have own : ∀ i g, Own π (aA (s.ob.filter fun p => p.1 != id)) i g -> i ≠ id /\ Own π (aA s.ob) i g := fun i g ⟨o, h2, h1⟩ => by
    rw [hlk] at h2
    by_cases e : i = id
    ·rw [if_pos e] at h2; cases h2
    ·rw [if_neg e] at h2; exact ⟨e, o, h2, h1⟩
   have fz : fG w (Gz F w π (aA s.ob)) w (Gz F w π (aA (s.ob.filter fun p => p.1 != id))) := fun b ⟨h0, h1, h2⟩ => ⟨⟨h0, h1, fun i hi => h2 i (own i b hi).2⟩, rfl⟩
   have hob : ∀ i o, i ≠ id -> aA s.ob i = some o -> ∃ o', aA (s.ob.filter fun p => p.1 != id) i = some o' /\ Step w (Gz F w π (aA (s.ob.filter fun p => p.1 != id))) (π i) (π i) o o' := fun i o hi ho' => ⟨o, by rw [hlk, if_neg hi]; exact ho', Step.refl o⟩
   have keep : ∀ {x : TV} {v : Value}, x.ids.contains id = false -> VR w (Gz F w π (aA s.ob)) π (aA s.ob) x v -> VR w (Gz F w π (aA (s.ob.filter fun p => p.1 != id))) π (aA (s.ob.filter fun p => p.1 != id)) x v := fun {x v} hx hv =>
    VR.Du (· ≠ id) fz hob (aHL (az9 hx)) hv
   -- the box
   have hown : Own π (aA s.ob) id g := .of hg ho hlive
   have I9 : Gz F w π (aA (s.ob.filter fun p => p.1 != id)) g := ⟨hm.hF g (hm.new id g hown).1, (hm.new id g hown).2, fun i hi => by
    obtain ⟨h1, h2⟩ := own i g hi
    exact h1 (hm.inj i id g h2 hown)⟩
   refine ⟨hm.kept, hm.hF, hm.defers, by simpa using hm.size, fun i x hx => ?_, fun i o hi => ?_, fun i j g' hi hj => hm.inj i j g' (own i g' hi).2 (own j g' hj).2, fun i g' hi => hm.new i g' (own i g' hi).2, fun i p o0 hp => ?_, hm.rW.mono fz⟩
   ·simp only [List.getElem?_map, Option.map_eq_some_iff] at hx
    obtain ⟨x0, hx0, rfl⟩ := hx
    have hv := hm.slot i x0 hx0
    have gen : ∀ {x0 : TV}, VR w (Gz F w π (aA s.ob)) π (aA s.ob) x0 (a.tmps.getD i undef) -> VR w (Gz F w π (aA (s.ob.filter fun p => p.1 != id))) π (aA (s.ob.filter fun p => p.1 != id)) (if x0.ids.contains id then .any else x0) (a.tmps.getD i undef) := fun {x0} hv => by
     cases hc' : x0.ids.contains id with
     | true => simp only [if_true]; trivial
     | false => simp only [Bool.false_eq_true, if_false]; exact keep hc' hv
    cases x0 with
    | ptr i1 a1 p1 =>
     simp only [elz]
     by_cases e1 : i1 = id
     ·rw [if_pos e1]
      subst e1
      split
      ·-- the pointer to the box
       rename_i hap
       obtain ⟨rfl, rfl⟩ := hap
       refine ⟨g, (π i1).q, _, DT.at_nil t, DT.wO t, Ua _ hv, I9, fun cix awK => ?_⟩
       obtain ⟨u, u1, u2, u3⟩ := hc cix awK
       refine ⟨u, ?_, u2, DT.iE fz u3⟩
       rw [tH hw, <- u1]
      ·trivial
     ·rw [if_neg e1]
      exact keep (by simp only [TV.ids, List.contains_cons, List.contains_nil, Bool.or_false, beq_eq_false_iff_ne]; exact fun q => e1 q.symm) hv
    | _ => exact gen hv
   ·rw [hlk] at hi
    by_cases e1 : i = id
    ·rw [if_pos e1] at hi; cases hi
    ·rw [if_neg e1] at hi
     have h1 := hm.obj i o hi
     cases o with
     | row t' l =>
      rcases h1 with h1 | ⟨g1, SI, e2, a1, a2, a3, a4, a5, a6⟩
      ·exact .inl h1
      ·refine .inr ⟨g1, SI, e2, a1, a2, a3, a4, a5, fun j hj cc hcc => ?_⟩
       obtain ⟨u, b1, b2, b3⟩ := a6 j hj cc hcc
       exact ⟨u, b1, b2, DT.iE fz b3⟩
     | aV fs =>
      obtain ⟨g1, SI, e2, a1, a2, a3⟩ := h1
      refine ⟨g1, SI, e2, a1, a2, fun j x hx cc hcc => ?_⟩
      obtain ⟨u, b1, b2, b3⟩ := a3 j x hx cc hcc
      refine ⟨u, b1, b2, ?_⟩
      have hmem : (i, TO.aV fs) ∈ s.ob := vZ hi
      have hn : (TO.aV fs).ids.contains id = false := by
       rcases afE (i, .aV fs) hmem with h | h
       ·exact absurd h e1
       ·simpa using h
      have FW : x.ids.contains id = false := by
       cases hc' : x.ids.contains id with
       | false => rfl
       | true =>
        exfalso
        have : (TO.aV fs).ids.contains id = true := by
         simp only [List.contains_iff_mem, TO.ids, List.mem_flatMap]
         exact ⟨x, List.mem_of_getElem? hx, List.contains_iff_mem.1 hc'⟩
        rw [hn] at this; cases this
      cases x with
      | dv t' y' => exact DT.iE fz b3
      | _ => exact keep FW b3
     | map kt vt l =>
      obtain ⟨g1, es, ck, a1, a2, a3, a4, a5, a6⟩ := h1
      refine ⟨g1, es, ck, a1, a2, a3, a4, a5, fun j e2 he => ?_⟩
      obtain ⟨x, b1, b2, b3⟩ := a6 j e2 he
      exact ⟨x, b1, DT.iD fz b2, DT.iD fz b3⟩
     | iter kt vt l cur =>
      obtain ⟨r, a1, a2⟩ := h1
      exact ⟨r, a1, a2.mono fz rfl⟩
     | sit l => exact h1
     | bD t' ls out =>
      have hmem : (i, TO.bD t' ls out) ∈ s.ob := vZ hi
      have hn : (TO.bD t' ls out).ids.contains id = false := by
       rcases afE (i, .bD t' ls out) hmem with h | h
       ·exact absurd h e1
       ·simpa using h
      have hrn : ∀ k r, out = some (k, r) -> r ≠ id := fun k r hr e2 => by
       subst hr; subst e2
       simp [TO.ids] at hn
      rcases h1 with h1 | ⟨g1, SI, e2, a1, a2, a3, a4, a5, a6⟩
      ·exact .inl h1
      ·refine .inr ⟨g1, SI, e2, a1, a2, a3, a4, a5, ⟨fun j hj => ?_, fun j r hr => ?_, a6.apart⟩⟩
       ·obtain ⟨u, b1, b2, b3, b4⟩ := a6.cell j hj
        refine ⟨u, b1, b2, fun ho => ⟨(b3 ho).1, (b3 ho).2.move fz fun _ _ => rfl⟩, fun r hr => ?_⟩
        obtain ⟨o', c1, c2⟩ := b4 r hr
        exact ⟨o', by rw [hlk, if_neg (hrn j r hr)]; exact c1, c2⟩
       ·obtain ⟨q1, o', q2, q3⟩ := a6.OI j r hr
        exact ⟨q1, o', by rw [hlk, if_neg (hrn j r hr)]; exact q2, q3⟩
     | dG t' l => trivial
     | iI kt vt l => trivial
     | dead => trivial
   ·obtain ⟨o, h1, h2⟩ := hm.pin i p o0 hp
    have hi : i ≠ id := fun e1 => by
     subst e1
     rw [fA i _ hp] at hnp; cases hnp
    exact ⟨o, by rw [hlk, if_neg hi]; exact h1, h2⟩
  ·cases h
 ·cases h
theorem acR {pp : List Nat} (fA : ∀ id p, c.pin id = some p -> vU pp id = true) : ∀ {ids : List Nat} {s s' : TS}, s.ZX pp ids = some s' -> aI c F π s a w -> aI c F π s' a w
 | [], s, s', h, hm => by
  obtain rfl := aC h; exact hm
 | id :: r, s, s', h, hm => by
  simp only [TS.ZX] at h
  split at h
  ·rename_i s1 h1; exact acR fA h (arL fA h1 hm)
  ·cases h
end
end
end Go.Proofs.YtfopcfnggdonkaaGreatDoor
