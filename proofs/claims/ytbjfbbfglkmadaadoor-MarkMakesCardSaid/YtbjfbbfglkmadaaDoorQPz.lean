/-
  Lifting Go functions to plain Lean functions, part Pz: a variable's box that is not turned any more is told as frozen memory, and forgotten as an object.
-/
import Derived.Test.YtbjfbbfglkmadaaDoorQPa
namespace Go.Proofs.YtbjfbbfglkmadaaDoor
open Go.RowKit
set_option linter.unusedVariables false

/-- A pointer to the box becomes a place in frozen memory; whatever else speaks of the box is forgotten. -/
def elz (id : Nat) (p0 : List Nat) (t : DT) (y : t.den) (x : TV) : TV :=
  match x with
  | .ptr i a p => if i = id then (if a = 0 ∧ p = p0 then .el t y [] else .any) else x
  | _ => if x.ids.contains id then .any else x

/-- What a box holds, and the way to it. -/
def TO.boxed : TO → Option ((t : DT) × t.den × List Nat)
  | .rcd [.dv t y] => some ⟨t, y, [0]⟩
  | .row t [y] => some ⟨t, y, []⟩
  | _ => none

def TS.boxFz1 (pp : List Nat) (id : Nat) (s : TS) : Option TS :=
  match (tlook s.ob id).bind TO.boxed with
  | some ⟨t, y, p0⟩ => if !pinQ pp id && s.ob.all (fun p => p.1 == id || !p.2.ids.contains id) then some ⟨s.sl.map (elz id p0 t y), s.ob.filter fun p => p.1 != id⟩ else none
  | _ => none

def TS.boxFz (pp : List Nat) : List Nat → TS → Option TS
  | [], s => some s
  | id :: r, s => match s.boxFz1 pp id with
    | some s1 => TS.boxFz pp r s1
    | none => none

theorem tlook_filter (id : Nat) : ∀ (O : List (Nat × TO)) (i : Nat), tlook (O.filter fun p => p.1 != id) i = if i = id then none else tlook O i
  | [], i => by simp [tlook]
  | (j, o) :: r, i => by
    have ih := tlook_filter id r i
    by_cases hj : j = id
    · subst hj
      simp only [List.filter_cons, bne_self_eq_false, Bool.false_eq_true, if_false, ih, tlook_cons]
      by_cases e : i = j
      · simp [e]
      · simp [e]
    · have : (j != id) = true := by simpa using hj
      simp only [List.filter_cons, this, if_true, tlook_cons, ih]
      by_cases e : i = j
      · subst e; simp [hj]
      · simp [e]

theorem within_ne {id : Nat} : ∀ {x : TV}, (∀ i ∈ x.ids, i ≠ id) → x.within (· ≠ id) := by
  intro x
  induction x with
  | row i => intro h; exact h i (by simp [TV.ids])
  | vrow i a b => intro h; exact h i (by simp [TV.ids])
  | ptr i a p => intro h; exact h i (by simp [TV.ids])
  | view i a p k n b c => intro h; exact h i (by simp [TV.ids])
  | fn g k n f ih => intro h j hj; exact ih j fun i hi => h i (by simp only [TV.ids, List.mem_flatMap, List.mem_range]; exact ⟨j, hj, hi⟩)
  | tup n f ih => intro h j hj; exact ih j fun i hi => h i (by simp only [TV.ids, List.mem_flatMap, List.mem_range]; exact ⟨j, hj, hi⟩)
  | st n f ih => intro h j hj; exact ih j fun i hi => h i (by simp only [TV.ids, List.mem_flatMap, List.mem_range]; exact ⟨j, hj, hi⟩)
  | _ => intro _; trivial

theorem ne_of_contains {l : List Nat} {id : Nat} (h : l.contains id = false) : ∀ i ∈ l, i ≠ id := fun i hi e => by
  subst e
  rw [List.contains_iff_mem.2 hi] at h; cases h

section
variable {c : Cx} {F : Nat → Prop} {s : TS} {π : Nat → Pl} {a : Act} {w : World}

theorem TO.boxed_ok {id : Nat} {o : TO} {t : DT} {y : t.den} {p0 : List Nat} (h : o.boxed = some ⟨t, y, p0⟩) (ho : tlook s.ob id = some o) (hm : RelM c F π s a w) : o.live = true ∧ ∃ g cur e, (π id).g = some g ∧ w.heap[g]? = some (.cells cur e (0, 0)) ∧
    (∀ cc, cc < t.size → ∃ u, cur[(π id).q + cc]? = some u ∧ u.oneCell' = true ∧ t.cell y cc w (Gz F w π (tlook s.ob)) u) ∧ ∀ v, VR w (Gz F w π (tlook s.ob)) π (tlook s.ob) (.ptr id 0 p0) v → v = .pointer (some ⟨g, (π id).q, none⟩) := by
  unfold TO.boxed at h
  split at h
  · rename_i t' y'
    simp only [Option.some.injEq, Sigma.mk.injEq] at h
    obtain ⟨rfl, h⟩ := h
    obtain ⟨rfl, rfl⟩ := Prod.mk.inj (eq_of_heq h)
    obtain ⟨g, cur, e, hg, hw, hc⟩ := hm.obj id _ ho
    refine ⟨rfl, g, cur, e, hg, hw, fun cc hcc => ?_, fun v hv => ?_⟩
    · obtain ⟨u, u1, u2, u3⟩ := hc 0 (.dv t' y') rfl cc hcc
      exact ⟨u, by rw [← u1]; simp [offs], u2, u3⟩
    · obtain ⟨cc, g1, k1, k2, k3, k4⟩ := (by simpa only [VR, ho] using hv : TO.live (.rcd [.dv t' y']) = true → _) rfl
      have k1' : TV.floc (.dv t' y') (offs [TV.dv t' y'] 0) [] = some cc := k1
      simp only [TV.floc, DT.at_nil, Option.map_some, offs, Option.some.injEq] at k1'
      have hcc : cc = 0 := by have : 0 + 0 = cc := k1'; omega
      rw [hg] at k3; obtain rfl := Option.some.inj k3
      subst hcc
      exact k4
  · rename_i t' y'
    simp only [Option.some.injEq, Sigma.mk.injEq] at h
    obtain ⟨rfl, h⟩ := h
    obtain ⟨rfl, rfl⟩ := Prod.mk.inj (eq_of_heq h)
    rcases hm.obj id _ ho with h1 | ⟨g, cur, e, hg, hw, _, _, _, hc⟩
    · cases h1.2
    refine ⟨rfl, g, cur, e, hg, hw, fun cc hcc => ?_, fun v hv => ?_⟩
    · obtain ⟨u, u1, u2, u3⟩ := hc 0 (by simp) cc hcc
      exact ⟨u, by rw [← u1]; simp, u2, u3⟩
    · obtain ⟨cc, g1, k1, k2, k3, k4⟩ := (by simpa only [VR, ho] using hv : TO.live (.row t' [y']) = true → _) rfl
      have k1' : (t'.at []).map (fun L => 0 * t'.size + L.off) = some cc := k1
      simp only [DT.at_nil, Option.map_some, Option.some.injEq] at k1'
      have hcc : cc = 0 := by have : 0 * t'.size + 0 = cc := k1'; omega
      rw [hg] at k3; obtain rfl := Option.some.inj k3
      subst hcc
      exact k4
  · cases h

theorem boxFz1_ok {pp : List Nat} (hpin : ∀ id p, c.pin id = some p → pinQ pp id = true) {id : Nat} {s' : TS} (h : s.boxFz1 pp id = some s') (hm : RelM c F π s a w) : RelM c F π s' a w := by
  unfold TS.boxFz1 at h
  split at h
  · rename_i t y p0 ho'
    obtain ⟨o0, ho, hbx⟩ := Option.bind_eq_some_iff.1 ho'
    obtain ⟨hlive, g, cur, e, hg, hw, hc, hptr⟩ := TO.boxed_ok hbx ho hm
    split at h
    · rename_i hb
      obtain rfl := Option.some.inj h
      simp only [Bool.and_eq_true, Bool.not_eq_true', List.all_eq_true, Bool.or_eq_true, beq_iff_eq] at hb
      obtain ⟨hnp, hids⟩ := hb
      have hlk := tlook_filter id s.ob
      have own : ∀ i g, Own π (tlook (s.ob.filter fun p => p.1 != id)) i g → i ≠ id ∧ Own π (tlook s.ob) i g := fun i g ⟨h1, o, h2, h3⟩ => by
        rw [hlk] at h2
        by_cases e : i = id
        · rw [if_pos e] at h2; cases h2
        · rw [if_neg e] at h2; exact ⟨e, h1, o, h2, h3⟩
      have fz : FzTo w (Gz F w π (tlook s.ob)) w (Gz F w π (tlook (s.ob.filter fun p => p.1 != id))) := fun b ⟨h0, h1, h2⟩ => ⟨⟨h0, h1, fun i hi => h2 i (own i b hi).2⟩, rfl⟩
      have hob : ∀ i o, i ≠ id → tlook s.ob i = some o → ∃ o', tlook (s.ob.filter fun p => p.1 != id) i = some o' ∧ Step w (Gz F w π (tlook (s.ob.filter fun p => p.1 != id))) (π i) (π i) o o' := fun i o hi ho' => ⟨o, by rw [hlk, if_neg hi]; exact ho', Step.refl o⟩
      have keep : ∀ {x : TV} {v : Value}, x.ids.contains id = false → VR w (Gz F w π (tlook s.ob)) π (tlook s.ob) x v → VR w (Gz F w π (tlook (s.ob.filter fun p => p.1 != id))) π (tlook (s.ob.filter fun p => p.1 != id)) x v := fun {x v} hx hv =>
        VR.evoS (· ≠ id) fz hob (within_ne (ne_of_contains hx)) hv
      -- the box
      have hown : Own π (tlook s.ob) id g := ⟨hg, _, ho, hlive⟩
      have hGg : Gz F w π (tlook (s.ob.filter fun p => p.1 != id)) g := ⟨hm.hF g (hm.new id g hown).1, (hm.new id g hown).2, fun i hi => by
        obtain ⟨h1, h2⟩ := own i g hi
        exact h1 (hm.inj i id g h2 hown)⟩
      refine ⟨hm.kept, hm.hF, hm.defers, by simpa using hm.size, fun i x hx => ?_, fun i o hi => ?_, fun i j g' hi hj => hm.inj i j g' (own i g' hi).2 (own j g' hj).2, fun i g' hi => hm.new i g' (own i g' hi).2, fun i p o0 hp => ?_, hm.glb.mono fz⟩
      · simp only [List.getElem?_map, Option.map_eq_some_iff] at hx
        obtain ⟨x0, hx0, rfl⟩ := hx
        have hv := hm.slot i x0 hx0
        have gen : ∀ {x0 : TV}, VR w (Gz F w π (tlook s.ob)) π (tlook s.ob) x0 (a.tmps.getD i undef) → VR w (Gz F w π (tlook (s.ob.filter fun p => p.1 != id))) π (tlook (s.ob.filter fun p => p.1 != id)) (if x0.ids.contains id then .any else x0) (a.tmps.getD i undef) := fun {x0} hv => by
          cases hc' : x0.ids.contains id with
          | true => simp only [if_true]; trivial
          | false => simp only [Bool.false_eq_true, if_false]; exact keep hc' hv
        cases x0 with
        | ptr i1 a1 p1 =>
          simp only [elz]
          by_cases e1 : i1 = id
          · rw [if_pos e1]
            subst e1
            split
            · -- the pointer to the box
              rename_i hap
              obtain ⟨rfl, rfl⟩ := hap
              refine ⟨g, (π i1).q, _, DT.at_nil t, DT.inb_nil t, hptr _ hv, hGg, fun cix hcix => ?_⟩
              obtain ⟨u, u1, u2, u3⟩ := hc cix hcix
              refine ⟨u, ?_, u2, DT.cell_mono fz u3⟩
              rw [cell_at hw, ← u1]
            · trivial
          · rw [if_neg e1]
            exact keep (by simp only [TV.ids, List.contains_cons, List.contains_nil, Bool.or_false, beq_eq_false_iff_ne]; exact fun q => e1 q.symm) hv
        | _ => exact gen hv
      · rw [hlk] at hi
        by_cases e1 : i = id
        · rw [if_pos e1] at hi; cases hi
        · rw [if_neg e1] at hi
          have h1 := hm.obj i o hi
          cases o with
          | row t' l =>
            rcases h1 with h1 | ⟨g1, cur1, e2, a1, a2, a3, a4, a5, a6⟩
            · exact .inl h1
            · refine .inr ⟨g1, cur1, e2, a1, a2, a3, a4, a5, fun j hj cc hcc => ?_⟩
              obtain ⟨u, b1, b2, b3⟩ := a6 j hj cc hcc
              exact ⟨u, b1, b2, DT.cell_mono fz b3⟩
          | rcd fs =>
            obtain ⟨g1, cur1, e2, a1, a2, a3⟩ := h1
            refine ⟨g1, cur1, e2, a1, a2, fun j x hx cc hcc => ?_⟩
            obtain ⟨u, b1, b2, b3⟩ := a3 j x hx cc hcc
            refine ⟨u, b1, b2, ?_⟩
            have hmem : (i, TO.rcd fs) ∈ s.ob := tlook_mem hi
            have hn : (TO.rcd fs).ids.contains id = false := by
              rcases hids (i, .rcd fs) hmem with h | h
              · exact absurd h e1
              · simpa using h
            have hxn : x.ids.contains id = false := by
              cases hc' : x.ids.contains id with
              | false => rfl
              | true =>
                exfalso
                have : (TO.rcd fs).ids.contains id = true := by
                  simp only [List.contains_iff_mem, TO.ids, List.mem_flatMap]
                  exact ⟨x, List.mem_of_getElem? hx, List.contains_iff_mem.1 hc'⟩
                rw [hn] at this; cases this
            cases x with
            | dv t' y' => exact DT.cell_mono fz b3
            | _ => exact keep hxn b3
          | map kt vt l =>
            obtain ⟨g1, es, ck, a1, a2, a3, a4, a5, a6⟩ := h1
            refine ⟨g1, es, ck, a1, a2, a3, a4, a5, fun j e2 he => ?_⟩
            obtain ⟨x, b1, b2, b3⟩ := a6 j e2 he
            exact ⟨x, b1, DT.val_mono fz b2, DT.val_mono fz b3⟩
          | iter kt vt l cur =>
            obtain ⟨r, a1, a2⟩ := h1
            exact ⟨r, a1, a2.mono fz rfl⟩
          | frz t' l => trivial
          | dead => trivial
      · obtain ⟨o, h1, h2⟩ := hm.pin i p o0 hp
        have hi : i ≠ id := fun e1 => by
          subst e1
          rw [hpin i _ hp] at hnp; cases hnp
        exact ⟨o, by rw [hlk, if_neg hi]; exact h1, h2⟩
    · cases h
  · cases h

theorem boxFz_ok {pp : List Nat} (hpin : ∀ id p, c.pin id = some p → pinQ pp id = true) : ∀ {ids : List Nat} {s s' : TS}, s.boxFz pp ids = some s' → RelM c F π s a w → RelM c F π s' a w
  | [], s, s', h, hm => by
    obtain rfl := Option.some.inj h; exact hm
  | id :: r, s, s', h, hm => by
    simp only [TS.boxFz] at h
    split at h
    · rename_i s1 h1; exact boxFz_ok hpin h (boxFz1_ok hpin h1 hm)
    · cases h

end
end Go.Proofs.YtbjfbbfglkmadaaDoor
