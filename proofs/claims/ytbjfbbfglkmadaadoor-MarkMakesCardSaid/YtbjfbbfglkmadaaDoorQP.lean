/-
  Lifting Go functions to plain Lean functions, part P: a state is put into the shape that a loop's head, or a function's end, wants.
-/
import Derived.Test.YtbjfbbfglkmadaaDoorQO
namespace Go.Proofs.YtbjfbbfglkmadaaDoor
open Go.RowKit
set_option linter.unusedVariables false

/-- Where a row's head may stand: in a slot; in a record's field. -/
inductive Place where
  | slot (i : Nat)
  | fld (id j : Nat)
  deriving DecidableEq

/-- Which slots are kept; which objects keep their numbers; which places hold rows, under which number from now on; which slots are read as data first. -/
structure Norm where
  keep : List Nat
  objs : List Nat
  rows : List (Place × Nat × DT)
  dat : List (Nat × DT)

def Place.tv (s : TS) : Place → TV
  | .slot i => s.sl.getD i .any
  | .fld id j => match tlook s.ob id with
    | some (.rcd fs) => fs.getD j .any
    | _ => .any

/-- A source of a new object: its old number (none: nil), and its content. -/
def rowSrc (L : Obs) (x : TV) (t : DT) : Option (Option Nat × List t.den) :=
  match x with
  | .row id => match L id with
    | some (.row t' l) => if h : t' = t then some (some id, h ▸ l) else none
    | _ => none
  | .nl => some (none, [])
  | _ => none

def srcs (s : TS) : List (Place × Nat × DT) → Option (List (Nat × Option Nat × TO))
  | [] => some []
  | (x, id, t) :: r => match rowSrc (tlook s.ob) (x.tv s) t with
    | some (q, l) => match srcs s r with
      | some L => some ((id, q, .row t l) :: L)
      | none => none
    | none => none

def newAt (rows : List (Place × Nat × DT)) (p : Place) : Option Nat := (rows.find? fun q => q.1 == p).map (·.2.1)

def normTV (nm : Norm) (p : Place) (x : TV) : TV :=
  match newAt nm.rows p with
  | some id => .row id
  | none => if x.withinB nm.objs then x else .any

def normFlds (nm : Norm) (id : Nat) : Nat → List TV → List TV
  | _, [] => []
  | j, x :: r => normTV nm (.fld id j) x :: normFlds nm id (j + 1) r

/-- Some elements of a row that goes on under another number. -/
def goTV (mv : Nat → Option Nat) : TV → TV
  | .vrow id a b => match mv id with
    | some n => .vrow n a b
    | none => .any
  | _ => .any

def normSlot (nm : Norm) (mv : Nat → Option Nat) (i : Nat) (x : TV) : TV :=
  match newAt nm.rows (.slot i) with
  | some id => .row id
  | none => if nm.keep.contains i && x.withinB nm.objs then x else if nm.keep.contains i then goTV mv x else .any

def normSlots (nm : Norm) (mv : Nat → Option Nat) : Nat → List TV → List TV
  | _, [] => []
  | i, x :: r => normSlot nm mv i x :: normSlots nm mv (i + 1) r

/-- Under which number an object goes on. -/
def mvOf (A : List (Nat × Option Nat × TO)) (id : Nat) : Option Nat :=
  match A with
  | [] => none
  | p :: r => if p.2.1 = some id then some p.1 else mvOf r id

theorem mvOf_some : ∀ {A : List (Nat × Option Nat × TO)} {id n : Nat}, mvOf A id = some n → ∃ p ∈ A, p.1 = n ∧ p.2.1 = some id
  | [], id, n, h => by cases h
  | p :: r, id, n, h => by
    simp only [mvOf] at h
    split at h
    · rename_i e; obtain rfl := Option.some.inj h; exact ⟨p, by simp, rfl, e⟩
    · obtain ⟨q, h1, h2⟩ := mvOf_some h; exact ⟨q, by simp [h1], h2⟩

def keptSrcs (s : TS) (nm : Norm) (moved : List Nat) : List Nat → Option (List (Nat × Option Nat × TO))
  | [] => some []
  | id :: r => match tlook s.ob id with
    | some o => match keptSrcs s nm moved r with
      | some L => some ((if moved.contains id then (id, none, .dead) else (id, some id, match o with | .rcd fs => .rcd (normFlds nm id 0 fs) | o => o)) :: L)
      | none => none
    | none => none

def pinR (i : Nat) : Bool := 9000 ≤ i && i < 10000
/-- Pinned: handed to the function; or there when a round began (pp). -/
def pinQ (pp : List Nat) (i : Nat) : Bool := pinR i || pp.contains i

def TS.norm0 (pp : List Nat) (nm : Norm) (s : TS) : Option TS :=
  match srcs s nm.rows with
  | some A => match keptSrcs s nm (A.filterMap (·.2.1)) nm.objs with
    | some B => if nodupB ((A ++ B).map (·.1)) && nodupB ((A ++ B).filterMap (·.2.1)) && nm.rows.all (fun p => (match p.1 with | .slot i => decide (i < s.sl.length) | .fld id j => nm.objs.contains id && !(A.filterMap (·.2.1)).contains id && (match tlook s.ob id with | some (.rcd fs) => decide (j < fs.length) && decide ((fs.getD j .any).size = 1) && (fs.getD j .any).nagg | _ => false)) && !pinQ pp p.2.1) && s.ob.all (fun p => !pinQ pp p.1 || nm.objs.contains p.1)
      then some ⟨normSlots nm (mvOf A) 0 s.sl, (A ++ B).map fun p => (p.1, p.2.2)⟩ else none
    | none => none
  | none => none

theorem normSlots_get (nm : Norm) (mv : Nat → Option Nat) : ∀ (l : List TV) (i j : Nat), (normSlots nm mv i l)[j]? = (l[j]?).map (normSlot nm mv (i + j))
  | [], i, j => by simp [normSlots]
  | x :: r, i, 0 => by simp [normSlots]
  | x :: r, i, j + 1 => by
    simp only [normSlots, List.getElem?_cons_succ]
    rw [normSlots_get nm mv r (i + 1) j]
    congr 2
    omega

theorem normFlds_get (nm : Norm) (id : Nat) : ∀ (l : List TV) (i j : Nat), (normFlds nm id i l)[j]? = (l[j]?).map (normTV nm (.fld id (i + j)))
  | [], i, j => by simp [normFlds]
  | x :: r, i, 0 => by simp [normFlds]
  | x :: r, i, j + 1 => by
    simp only [normFlds, List.getElem?_cons_succ]
    rw [normFlds_get nm id r (i + 1) j]
    congr 3
    omega

theorem normSlots_len (nm : Norm) (mv : Nat → Option Nat) : ∀ (l : List TV) (i : Nat), (normSlots nm mv i l).length = l.length
  | [], i => rfl
  | x :: r, i => by simp [normSlots, normSlots_len nm mv r (i + 1)]

theorem normFlds_len (nm : Norm) (id : Nat) : ∀ (l : List TV) (i : Nat), (normFlds nm id i l).length = l.length
  | [], i => rfl
  | x :: r, i => by simp [normFlds, normFlds_len nm id r (i + 1)]

theorem srcs_ok {s : TS} : ∀ {l : List (Place × Nat × DT)} {A : List (Nat × Option Nat × TO)}, srcs s l = some A → ∀ q ∈ l, ∃ l', (q.2.1, (match q.1.tv s with | .row id => some id | _ => none), TO.row q.2.2 l') ∈ A ∧ ((∃ id, q.1.tv s = .row id ∧ tlook s.ob id = some (.row q.2.2 l')) ∨ (q.1.tv s = .nl ∧ l' = []))
  | [], A, h => by simp
  | (x, id, t) :: r, A, h => by
    simp only [srcs] at h
    split at h
    · rename_i q l hq
      split at h
      · rename_i L hL
        obtain rfl := Option.some.inj h
        intro p hp
        rcases List.mem_cons.1 hp with rfl | hp
        · refine ⟨l, ?_⟩
          unfold rowSrc at hq
          split at hq
          · rename_i id0 e0
            split at hq
            · rename_i t' l0 ho
              split at hq
              · rename_i e
                subst e
                simp only [Option.some.injEq, Prod.mk.injEq] at hq
                obtain ⟨rfl, rfl⟩ := hq
                exact ⟨by rw [e0]; simp, .inl ⟨id0, e0, ho⟩⟩
              · cases hq
            · cases hq
          · rename_i e0
            simp only [Option.some.injEq, Prod.mk.injEq] at hq
            obtain ⟨rfl, rfl⟩ := hq
            exact ⟨by rw [e0]; simp, .inr ⟨e0, rfl⟩⟩
          · cases hq
        · obtain ⟨l', h1, h2⟩ := srcs_ok hL p hp
          exact ⟨l', by simp [h1], h2⟩
      · cases h
    · cases h

theorem srcs_mem {s : TS} : ∀ {l : List (Place × Nat × DT)} {A : List (Nat × Option Nat × TO)}, srcs s l = some A → ∀ p ∈ A, (∃ q ∈ l, q.2.1 = p.1) ∧ ∃ t l', p.2.2 = .row t l' ∧ ((∃ old, p.2.1 = some old ∧ tlook s.ob old = some (.row t l')) ∨ (p.2.1 = none ∧ l' = []))
  | [], A, h => by simp only [srcs, Option.some.injEq] at h; subst h; simp
  | (x, id, t) :: r, A, h => by
    simp only [srcs] at h
    split at h
    · rename_i q l hq
      split at h
      · rename_i L hL
        obtain rfl := Option.some.inj h
        intro p hp
        rcases List.mem_cons.1 hp with rfl | hp
        · refine ⟨⟨(x, id, t), by simp, rfl⟩, t, l, rfl, ?_⟩
          unfold rowSrc at hq
          split at hq
          · rename_i id0 e0
            split at hq
            · rename_i t' l0 ho
              split at hq
              · rename_i e
                subst e
                simp only [Option.some.injEq, Prod.mk.injEq] at hq
                obtain ⟨rfl, rfl⟩ := hq
                exact .inl ⟨id0, rfl, ho⟩
              · cases hq
            · cases hq
          · simp only [Option.some.injEq, Prod.mk.injEq] at hq
            obtain ⟨rfl, rfl⟩ := hq
            exact .inr ⟨rfl, rfl⟩
          · cases hq
        · obtain ⟨⟨q', h0, h1⟩, h2⟩ := srcs_mem hL p hp
          exact ⟨⟨q', by simp [h0], h1⟩, h2⟩
      · cases h
    · cases h

theorem keptSrcs_ok {s : TS} {nm : Norm} {moved : List Nat} : ∀ {l : List Nat} {B : List (Nat × Option Nat × TO)}, keptSrcs s nm moved l = some B → ∀ id ∈ l, ∃ o, tlook s.ob id = some o ∧ (if moved.contains id then (id, none, TO.dead) else (id, some id, match o with | .rcd fs => .rcd (normFlds nm id 0 fs) | o => o)) ∈ B
  | [], B, h => by simp
  | id :: r, B, h => by
    simp only [keptSrcs] at h
    split at h
    · rename_i o ho
      split at h
      · rename_i L hL
        obtain rfl := Option.some.inj h
        intro j hj
        rcases List.mem_cons.1 hj with rfl | hj
        · exact ⟨o, ho, List.mem_cons_self⟩
        · obtain ⟨o', h1, h2⟩ := keptSrcs_ok hL j hj
          exact ⟨o', h1, List.mem_cons_of_mem _ h2⟩
      · cases h
    · cases h

theorem keptSrcs_mem {s : TS} {nm : Norm} {moved : List Nat} : ∀ {l : List Nat} {B : List (Nat × Option Nat × TO)}, keptSrcs s nm moved l = some B → ∀ p ∈ B, p.1 ∈ l ∧ ∃ o, tlook s.ob p.1 = some o ∧ ((moved.contains p.1 = true ∧ p.2 = (none, .dead)) ∨ (moved.contains p.1 = false ∧ p.2 = (some p.1, match o with | .rcd fs => .rcd (normFlds nm p.1 0 fs) | o => o)))
  | [], B, h => by simp only [keptSrcs, Option.some.injEq] at h; subst h; simp
  | id :: r, B, h => by
    simp only [keptSrcs] at h
    split at h
    · rename_i o ho
      split at h
      · rename_i L hL
        obtain rfl := Option.some.inj h
        intro p hp
        rcases List.mem_cons.1 hp with rfl | hp
        · cases hc : moved.contains id with
          | true => exact ⟨by simp, o, by simpa using ho, .inl ⟨by simpa using hc, by simp⟩⟩
          | false => exact ⟨by simp, o, by simpa using ho, .inr ⟨by simpa using hc, by simp⟩⟩
        · obtain ⟨h1, h2⟩ := keptSrcs_mem hL p hp
          exact ⟨by simp [h1], h2⟩
      · cases h
    · cases h

/-- The entry of a new number. -/
def ent : List (Nat × Option Nat × TO) → Nat → Option (Option Nat × TO)
  | [], _ => none
  | (i, q) :: r, j => if j = i then some q else ent r j

theorem ent_look (C : List (Nat × Option Nat × TO)) (i : Nat) : tlook (C.map fun p => (p.1, p.2.2)) i = (ent C i).map (·.2) := by
  induction C with
  | nil => rfl
  | cons p r ih =>
    obtain ⟨j, q⟩ := p
    simp only [List.map_cons, tlook, ent]
    split
    · rfl
    · exact ih

theorem ent_mem {C : List (Nat × Option Nat × TO)} {i : Nat} {q : Option Nat × TO} (h : ent C i = some q) : (i, q) ∈ C := by
  induction C with
  | nil => cases h
  | cons p r ih =>
    obtain ⟨j, q'⟩ := p
    simp only [ent] at h
    split at h
    · rename_i e; subst e; obtain rfl := Option.some.inj h; simp
    · simp [ih h]

theorem ent_of : ∀ {C : List (Nat × Option Nat × TO)}, nodupB (C.map (·.1)) = true → ∀ {p : Nat × Option Nat × TO}, p ∈ C → ent C p.1 = some p.2
  | [], _, p, h => by simp at h
  | (j, q) :: r, hn, p, h => by
    simp only [List.map_cons, nodupB, Bool.and_eq_true, Bool.not_eq_true'] at hn
    rcases List.mem_cons.1 h with rfl | h
    · simp [ent]
    · have hne : p.1 ≠ j := fun e => by
        have : (r.map (·.1)).contains j = true := by rw [List.contains_iff_mem]; exact List.mem_map.2 ⟨p, h, e⟩
        rw [this] at hn; simp at hn
      simp only [ent, if_neg hne]
      exact ent_of hn.2 h

theorem ent_inj : ∀ {C : List (Nat × Option Nat × TO)}, nodupB (C.filterMap (·.2.1)) = true → nodupB (C.map (·.1)) = true → ∀ {p q : Nat × Option Nat × TO} {old : Nat}, p ∈ C → q ∈ C → p.2.1 = some old → q.2.1 = some old → p.1 = q.1
  | [], _, _, p, q, old, h, _, _, _ => by simp at h
  | x :: r, hn, hm, p, q, old, hp, hq, e1, e2 => by
    simp only [List.map_cons, nodupB, Bool.and_eq_true] at hm
    simp only [List.filterMap_cons] at hn
    have cont : ∀ {y : Nat × Option Nat × TO}, y ∈ r → y.2.1 = some old → (r.filterMap (·.2.1)).contains old = true := fun hy e => by
      rw [List.contains_iff_mem]; exact List.mem_filterMap.2 ⟨_, hy, e⟩
    cases hx : x.2.1 with
    | none =>
      rw [hx] at hn
      rcases List.mem_cons.1 hp with rfl | hp
      · rw [hx] at e1; cases e1
      · rcases List.mem_cons.1 hq with rfl | hq
        · rw [hx] at e2; cases e2
        · exact ent_inj hn hm.2 hp hq e1 e2
    | some z =>
      rw [hx] at hn
      simp only [nodupB, Bool.and_eq_true, Bool.not_eq_true'] at hn
      rcases List.mem_cons.1 hp with hp' | hp' <;> rcases List.mem_cons.1 hq with hq' | hq'
      · rw [hp', hq']
      · rw [hp', hx] at e1; obtain rfl := Option.some.inj e1
        rw [cont hq' e2] at hn; simp at hn
      · rw [hq', hx] at e2; obtain rfl := Option.some.inj e2
        rw [cont hp' e1] at hn; simp at hn
      · exact ent_inj hn.2 hm.2 hp' hq' e1 e2

theorem size_any_of {nm : Norm} {p : Place} {x : TV} (h : newAt nm.rows p = none) : (normTV nm p x).size = x.size ∧ ∀ o q c, x.floc o q = some c → x.finb q → (normTV nm p x).floc o q = some c ∧ (normTV nm p x).finb q := by
  unfold normTV
  rw [h]
  simp only
  split
  · exact ⟨rfl, fun _ _ _ a b => ⟨a, b⟩⟩
  · rename_i hn
    cases x with
    | dv t y => exact absurd (by simp [TV.withinB, TV.ids]) hn
    | _ => exact ⟨rfl, fun _ _ _ a b => ⟨a, b⟩⟩

theorem newAt_some {rows : List (Place × Nat × DT)} {p : Place} {n : Nat} (h : newAt rows p = some n) : ∃ q ∈ rows, q.1 = p ∧ q.2.1 = n := by
  unfold newAt at h
  obtain ⟨q, hq, rfl⟩ := Option.map_eq_some_iff.1 h
  exact ⟨q, List.mem_of_find?_eq_some hq, by simpa using List.find?_some hq, rfl⟩

theorem within_of_B {R : List Nat} {x : TV} (h : x.withinB R = true) : x.within (· ∈ R) := by
  simp only [TV.withinB, List.all_eq_true, List.contains_iff_mem] at h
  exact TV.within_ids h

section
variable {P : Program} {c : Cx} {F : Nat → Prop} {s : TS} {π : Nat → Pl} {a : Act} {w : World}

theorem norm0_ok {pp : List Nat} (hpin : ∀ id p, c.pin id = some p → pinQ pp id = true) {nm : Norm} {s' : TS} (h : s.norm0 pp nm = some s') (hm : RelM c F π s a w) : ∃ π', RelM c F π' s' a w := by
  unfold TS.norm0 at h
  split at h
  · rename_i A hA
    split at h
    · rename_i B hB
      split at h
      · rename_i hcond
        obtain rfl := Option.some.inj h
        simp only [Bool.and_eq_true] at hcond
        obtain ⟨⟨⟨n1, n2⟩, n3⟩, n4⟩ := hcond
        simp only [List.all_eq_true, Bool.and_eq_true, Bool.not_eq_true', Bool.or_eq_true] at n3 n4
        generalize hC : A ++ B = C at n1 n2 ⊢
        let O' := tlook (C.map fun p => (p.1, p.2.2))
        have hO' : ∀ i, O' i = (ent C i).map (·.2) := ent_look C
        let π' : Nat → Pl := fun i => match ent C i with | some (some old, _) => π old | _ => ⟨none, 0, 0⟩
        -- what an entry is
        have hent : ∀ {i : Nat} {q : Option Nat × TO}, ent C i = some q → ((i, q) ∈ A ∨ (i, q) ∈ B) := fun h => by
          have := ent_mem h
          rw [← hC] at this
          exact List.mem_append.1 this
        have hsrc : ∀ {i : Nat} {q : Option Nat × TO} {old : Nat}, ent C i = some q → q.1 = some old → ∃ o, tlook s.ob old = some o ∧ (q.2.live = o.live) ∧ ((∃ t l, o = .row t l ∧ q.2 = .row t l) ∨ (i = old ∧ i ∈ nm.objs ∧ q.2 = match o with | .rcd fs => .rcd (normFlds nm i 0 fs) | o => o)) := fun {i q old} he hq => by
          rcases hent he with h | h
          · obtain ⟨_, t, l', e1, e2⟩ := srcs_mem hA _ h
            rcases e2 with ⟨old', e3, e4⟩ | ⟨e3, _⟩
            · simp only at e3 e1
              rw [hq] at e3; obtain rfl := Option.some.inj e3
              exact ⟨_, e4, by rw [e1], .inl ⟨t, l', rfl, e1⟩⟩
            · simp only at e3; rw [hq] at e3; cases e3
          · obtain ⟨e0, o, e1, e2⟩ := keptSrcs_mem hB _ h
            rcases e2 with ⟨_, e3⟩ | ⟨_, e3⟩
            · simp only at e3; rw [e3] at hq; cases hq
            · simp only at e3 e1 e0
              rw [e3] at hq
              obtain rfl := Option.some.inj hq
              exact ⟨o, e1, by rw [e3]; cases o <;> rfl, .inr ⟨rfl, e0, by rw [e3]⟩⟩
        have hno : ∀ {i : Nat} {q : Option Nat × TO}, ent C i = some q → q.1 = none → (∃ t, q.2 = .row t []) ∨ q.2 = .dead := fun {i q} he hq => by
          rcases hent he with h | h
          · obtain ⟨_, t, l', e1, e2⟩ := srcs_mem hA _ h
            rcases e2 with ⟨old', e3, _⟩ | ⟨_, rfl⟩
            · simp only at e3; rw [hq] at e3; cases e3
            · exact .inl ⟨t, e1⟩
          · obtain ⟨e0, o, e1, e2⟩ := keptSrcs_mem hB _ h
            rcases e2 with ⟨_, e3⟩ | ⟨_, e3⟩
            · exact .inr (by simp only at e3; rw [e3])
            · simp only at e3; rw [e3] at hq; cases hq
        have own : ∀ {i g : Nat}, Own π' O' i g → ∃ old q, ent C i = some q ∧ q.1 = some old ∧ Own π (tlook s.ob) old g := fun {i g} ⟨h1, o1, h2, h3⟩ => by
          rw [hO'] at h2
          obtain ⟨q, he, rfl⟩ := Option.map_eq_some_iff.1 h2
          cases hq : q.1 with
          | none =>
            have : (π' i).g = none := by simp only [π', he]; obtain ⟨q1, q2⟩ := q; simp only at hq; subst hq; rfl
            rw [this] at h1; cases h1
          | some old =>
            obtain ⟨o, e1, e2, _⟩ := hsrc he hq
            have : π' i = π old := by simp only [π', he]; obtain ⟨q1, q2⟩ := q; simp only at hq; subst hq; rfl
            rw [this] at h1
            exact ⟨old, q, he, hq, h1, o, e1, e2 ▸ h3⟩
        have fz : FzTo w (Gz F w π (tlook s.ob)) w (Gz F w π' O') := fun b ⟨h0, h1, h2⟩ => ⟨⟨h0, h1, fun i hi => by
          obtain ⟨old, q, _, _, h3⟩ := own hi
          exact h2 old h3⟩, rfl⟩
        -- kept objects go on
        have hkeep : ∀ id o, id ∈ nm.objs → tlook s.ob id = some o → ∃ o', O' id = some o' ∧ Step w (Gz F w π' O') (π id) (π' id) o o' := fun id o hid ho => by
          obtain ⟨o1, e1, e2⟩ := keptSrcs_ok hB id hid
          rw [ho] at e1; obtain rfl := Option.some.inj e1
          have hmem : ∀ {x}, x ∈ B → x ∈ C := fun h => by rw [← hC]; exact List.mem_append_right _ h
          have he := ent_of n1 (hmem e2)
          by_cases hmv : (A.filterMap (·.2.1)).contains id = true
          · simp only [hmv, if_true] at he
            exact ⟨.dead, by rw [hO', he]; rfl, by cases o <;> trivial⟩
          · simp only [hmv, Bool.false_eq_true, if_false] at he
            have hpi : π' id = π id := by simp only [π', he]
            refine ⟨_, by rw [hO', he]; rfl, ?_⟩
            rw [hpi]
            cases o with
            | rcd fs =>
              refine ⟨rfl, normFlds_len nm id fs 0, fun j x hx => ?_⟩
              refine ⟨_, by rw [normFlds_get, hx]; rfl, ?_⟩
              rw [Nat.zero_add]
              cases hna : newAt nm.rows (.fld id j) with
              | none => exact size_any_of hna
              | some n =>
                obtain ⟨q, q1, q2, q3⟩ := newAt_some hna
                have := (n3 q q1).1
                rw [q2] at this
                simp only [Bool.and_eq_true, Bool.not_eq_true', ho, decide_eq_true_eq] at this
                have hfd : fs.getD j .any = x := by simp [List.getD, hx]
                rw [hfd] at this
                have hsz : x.size = 1 := this.2.1.2
                have hnag := this.2.2
                have : normTV nm (.fld id j) x = .row n := by simp only [normTV, hna]
                rw [this]
                refine ⟨hsz.symm, fun o p c h1 _ => ?_⟩
                have hp : p = [] ∧ c = o := by
                  cases x with
                  | dv t z =>
                    simp only [TV.nagg, Bool.not_eq_true'] at hnag
                    simp only [TV.floc] at h1
                    obtain ⟨L, hL, hc⟩ := Option.map_eq_some_iff.1 h1
                    have : p = [] := by
                      cases p with
                      | nil => rfl
                      | cons i p => cases t <;> first | (simp [DT.agg] at hnag; done) | simp [DT.at] at hL
                    subst this
                    rw [DT.at_nil] at hL; obtain rfl := Option.some.inj hL
                    exact ⟨rfl, by simpa using hc.symm⟩
                  | _ =>
                    simp only [TV.floc] at h1
                    cases p with
                    | nil => exact ⟨rfl, by simpa using h1.symm⟩
                    | cons i p => cases h1
                obtain ⟨rfl, rfl⟩ := hp
                exact ⟨rfl, trivial⟩
            | row t l => exact ⟨rfl, rfl, rfl⟩
            | map kt vt l => rfl
            | iter kt vt l cur => rfl
            | frz t l => rfl
            | dead => trivial
        -- rows at places
        have hrow : ∀ {p : Place} {n : Nat} {v : Value}, newAt nm.rows p = some n → VR w (Gz F w π (tlook s.ob)) π (tlook s.ob) (p.tv s) v → VR w (Gz F w π' O') π' O' (.row n) v := fun {p n v} hna hv => by
          obtain ⟨q, q1, rfl, rfl⟩ := newAt_some hna
          obtain ⟨l', e1, e2⟩ := srcs_ok hA q q1
          have he := ent_of n1 (show _ ∈ C from by rw [← hC]; exact List.mem_append_left _ e1)
          simp only at he
          simp only [VR, hO', he, Option.map_some]
          rcases e2 with ⟨id, e3, e4⟩ | ⟨e3, rfl⟩
          · rw [e3] at hv he
            simp only [VR, e4] at hv
            simp only [π', he]
            exact hv
          · rw [e3] at hv he
            have hv' : v = .slice none 0 0 := hv
            simp only [π', he]
            rw [hv']; rfl
        refine ⟨π', hm.kept, hm.hF, hm.defers, by rw [normSlots_len]; exact hm.size, fun i x hx => ?_, fun id o ho => ?_, fun i j g hi hj => ?_, fun id g hg => ?_, fun id p o0 hp => ?_, hm.glb.mono fz⟩
        · rw [normSlots_get, Nat.zero_add] at hx
          obtain ⟨y, hy, rfl⟩ := Option.map_eq_some_iff.1 hx
          have hv := hm.slot i y hy
          show VR w (Gz F w π' O') π' O' (normSlot nm (mvOf A) i y) _
          unfold normSlot
          cases hna : newAt nm.rows (.slot i) with
          | some n =>
            refine hrow hna ?_
            have : Place.tv s (.slot i) = y := by simp [Place.tv, List.getD, hy]
            rw [this]; exact hv
          | none =>
            simp only
            split
            · rename_i hk
              simp only [Bool.and_eq_true] at hk
              exact VR.evoS (· ∈ nm.objs) fz hkeep (within_of_B hk.2) hv
            · split
              · cases y with
                | vrow id0 a0 b0 =>
                  simp only [goTV]
                  cases hmo : mvOf A id0 with
                  | none => trivial
                  | some n =>
                    obtain ⟨pe, p1, rfl, p3⟩ := mvOf_some hmo
                    obtain ⟨_, t, l', e1, e2⟩ := srcs_mem hA _ p1
                    rcases e2 with ⟨old, e3, e4⟩ | ⟨e3, _⟩
                    · rw [p3] at e3; obtain rfl := Option.some.inj e3
                      have he := ent_of n1 (show _ ∈ C from by rw [← hC]; exact List.mem_append_left _ p1)
                      simp only [VR, e4] at hv
                      obtain ⟨pe1, pe2, pe3⟩ := pe
                      simp only at p3 e1 he ⊢
                      subst p3; subst e1
                      simp only [VR, hO', he, Option.map_some, π']
                      exact hv
                    · rw [p3] at e3; cases e3
                | _ => trivial
              · trivial
        · have ho' : O' id = some o := ho
          rw [hO'] at ho'
          obtain ⟨q, he, rfl⟩ := Option.map_eq_some_iff.1 ho'
          show OR w (Gz F w π' O') π' O' id q.2
          cases hq : q.1 with
          | none =>
            rcases hno he hq with ⟨t, e⟩ | e
            · rw [e]; refine .inl ⟨?_, rfl⟩
              simp only [π', he]; obtain ⟨q1, q2⟩ := q; simp only at hq; subst hq; rfl
            · rw [e]; trivial
          | some old =>
            obtain ⟨o1, e1, e2, e3⟩ := hsrc he hq
            have hpi : π' id = π old := by simp only [π', he]; obtain ⟨q1, q2⟩ := q; simp only at hq; subst hq; rfl
            have hor := hm.obj old o1 e1
            have rowOk : ∀ {t : DT} {l : List t.den}, OR w (Gz F w π (tlook s.ob)) π (tlook s.ob) old (.row t l) → OR w (Gz F w π' O') π' O' id (.row t l) := fun {t l} h => by
              simp only [OR] at h ⊢
              rw [hpi]
              rcases h with h | ⟨g, cur, e, h1, h2, h3, h4, h5, h6⟩
              · exact .inl h
              · refine .inr ⟨g, cur, e, h1, h2, h3, h4, h5, fun i hi cc hcc => ?_⟩
                obtain ⟨u, b1, b2, b3⟩ := h6 i hi cc hcc
                exact ⟨u, b1, b2, DT.cell_mono fz b3⟩
            rcases e3 with ⟨t, l, rfl, e4⟩ | ⟨rfl, hid, e4⟩
            · rw [e4]; exact rowOk hor
            · rw [e4]
              cases o1 with
              | row t l => exact rowOk hor
              | map kt vt l =>
                simp only [OR] at hor ⊢
                rw [hpi]
                obtain ⟨g, es, ck, h1, h2, h3, h4, h5, h6⟩ := hor
                refine ⟨g, es, ck, h1, h2, h3, h4, h5, fun i e he => ?_⟩
                obtain ⟨x, b1, b2, b3⟩ := h6 i e he
                exact ⟨x, b1, DT.val_mono fz b2, DT.val_mono fz b3⟩
              | iter kt vt l cur =>
                simp only [OR] at hor ⊢
                rw [hpi]
                obtain ⟨r, h1, h2⟩ := hor
                exact ⟨r, h1, h2.mono fz rfl⟩
              | frz t l => trivial
              | dead => trivial
              | rcd fs =>
                simp only [OR] at hor ⊢
                rw [hpi]
                obtain ⟨g, cur, e, h1, h2, h3⟩ := hor
                have hsizes : ∀ j x, fs[j]? = some x → (normTV nm (.fld id j) x).size = x.size := fun j x hx => by
                  obtain ⟨o', b1, b2⟩ := hkeep id (.rcd fs) hid e1
                  rw [hO', he] at b1
                  simp only [Option.map_some, Option.some.injEq] at b1
                  rw [← b1, e4] at b2
                  obtain ⟨_, _, b3⟩ := b2
                  obtain ⟨y, c1, c2, _⟩ := b3 j x hx
                  rw [normFlds_get, hx, Nat.zero_add] at c1
                  simp only [Option.map_some, Option.some.injEq] at c1
                  rw [c1]; exact c2
                have hoffs : ∀ j, offs (normFlds nm id 0 fs) j = offs fs j := offs_eq (normFlds_len nm id fs 0) fun j x hx => ⟨_, by rw [normFlds_get, hx]; rfl, by rw [Nat.zero_add]; exact hsizes j x hx⟩
                refine ⟨g, cur, e, h1, h2, fun j x hx cc hcc => ?_⟩
                rw [normFlds_get, Nat.zero_add] at hx
                obtain ⟨y, hy, rfl⟩ := Option.map_eq_some_iff.1 hx
                rw [hsizes j y hy] at hcc
                obtain ⟨u, b1, b2, b3⟩ := h3 j y hy cc hcc
                refine ⟨u, by rw [hoffs]; exact b1, b2, ?_⟩
                show (normTV nm (.fld id j) y).fcell w (Gz F w π' O') π' O' cc u
                unfold normTV
                cases hna : newAt nm.rows (.fld id j) with
                | some n =>
                  simp only
                  have htv : Place.tv s (.fld id j) = y := by simp [Place.tv, e1, List.getD, hy]
                  obtain ⟨q', q1, q2, q3⟩ := newAt_some hna
                  obtain ⟨l', _, e6⟩ := srcs_ok hA q' q1
                  rw [q2, htv] at e6
                  have hvy : VR w (Gz F w π (tlook s.ob)) π (tlook s.ob) y u := by
                    rcases e6 with ⟨id', rfl, _⟩ | ⟨rfl, _⟩ <;> exact b3
                  exact hrow hna (by rw [htv]; exact hvy)
                | none =>
                  simp only
                  split
                  · rename_i hk
                    have hw := within_of_B hk
                    cases y with
                    | dv t z => exact DT.cell_mono fz b3
                    | _ => exact VR.evoS (· ∈ nm.objs) fz hkeep hw b3
                  · trivial
        · obtain ⟨o1, q1, a1, a2, a3⟩ := own hi
          obtain ⟨o2, q2, b1, b2, b3⟩ := own hj
          have := hm.inj o1 o2 g a3 b3
          subst this
          exact ent_inj n2 n1 (ent_mem a1) (ent_mem b1) a2 b2
        · obtain ⟨old, q, _, _, h3⟩ := own hg
          exact hm.new old g h3
        · obtain ⟨o, ho, hl⟩ := hm.pin id p o0 hp
          have hin : id ∈ nm.objs := by
            rcases n4 (id, o) (tlook_mem ho) with h | h
            · have := hpin id _ hp; simp only at h; rw [this] at h; cases h
            · simpa using h
          obtain ⟨o', h1, h2⟩ := hkeep id o hin ho
          refine ⟨o', h1, fun hlv => ?_⟩
          obtain ⟨h3, h4, h5⟩ := h2.shp hlv
          exact ⟨h4.trans (hl h3).1, (hl h3).2.trans h5⟩
      · cases h
    · cases h
  · cases h

/-- The blocks of an object that is not live any more do not change. -/
theorem RelM.gz_freed (hm : RelM c F π s a w) {id g : Nat} {o o' : TO} (ho : tlook s.ob id = some o) (hl : o.live = true) (hl' : o'.live = false) (hg : (π id).g = some g) : Gz F w π (tlook ((id, o') :: s.ob)) g :=
  ⟨hm.hF g (hm.new id g ⟨hg, o, ho, hl⟩).1, (hm.new id g ⟨hg, o, ho, hl⟩).2, fun j ⟨h1, o1, h2, h3⟩ => by
    rw [tlook_cons] at h2
    by_cases e : j = id
    · rw [if_pos e] at h2; obtain rfl := Option.some.inj h2; rw [hl'] at h3; cases h3
    · rw [if_neg e] at h2
      exact e (hm.inj j id g ⟨h1, o1, h2, h3⟩ ⟨hg, o, ho, hl⟩)⟩

/-- A slot's value told in other words. -/
theorem RelM.reslot (hm : RelM c F π s a w) {i : Nat} {x : TV} (hx : VR w (Gz F w π (tlook s.ob)) π (tlook s.ob) x (a.tmps.getD i undef)) : RelM c F π ⟨s.sl.set i x, s.ob⟩ a w :=
  ⟨hm.kept, hm.hF, hm.defers, by simpa using hm.size, fun j y hy => by
    simp only [List.getElem?_set] at hy
    by_cases e : i = j
    · subst e
      simp only [if_true] at hy
      split at hy
      · obtain rfl := Option.some.inj hy; exact hx
      · cases hy
    · rw [if_neg e] at hy; exact hm.slot j y hy, hm.obj, hm.inj, hm.new, hm.pin, hm.glb⟩

/-- Some elements of a row, as data: the row is frozen. -/
def cutAt (i : Nat) (s : TS) : TS :=
  match s.sl.getD i .any with
  | .vrow id a b => match tlook s.ob id with
    | some (.row t l) => ⟨s.sl.set i (.dv (.sl t) ((l.take b).drop a)), (id, .frz t l) :: s.ob⟩
    | _ => s
  | _ => s

/-- How many fields a struct has. -/
def nFields : DT → Nat
  | .pair _ b => nFields b + 1
  | _ => 0

/-- Records one after another, as data. -/
def asmRows (L : Obs) (t : DT) : Nat → List TV → Option (List t.den)
  | 0, fs => match fs with
    | [] => some []
    | _ => none
  | n + 1, fs => match asmTV L t (fs.take (nFields t)) with
    | some (y, true) => (asmRows L t n (fs.drop (nFields t))).map fun l => y :: l
    | _ => none

/-- Records of which a slot has the head, as data. -/
def cutView (i : Nat) (t : DT) (s : TS) : TS :=
  match s.sl.getD i .any with
  | .view id 0 [] k n 0 n' => match tlook s.ob id with
    | some (.rcd fs) => match asmRows (ovr (frzU (tlook s.ob) (fs.flatMap TV.rowId)) (tlook s.ob)) t n fs with
      | some l => if k = t.size ∧ n' = n then ⟨s.sl.set i (.dv (.sl t) l), (id, .dead) :: (frzU (tlook s.ob) (fs.flatMap TV.rowId) ++ s.ob)⟩ else s
      | none => s
    | _ => s
  | _ => s

def cutAll : List (Nat × DT) → TS → TS
  | [], s => s
  | (i, .sl t) :: r, s => cutAll r (cutView i t (cutAt i s))
  | (i, _) :: r, s => cutAll r (cutAt i s)

theorem cutAt_ok (hm : RelM c F π s a w) (i : Nat) : RelM c F π (cutAt i s) a w := by
  unfold cutAt
  split
  · rename_i id p q hi
    split
    · rename_i t l ho
      have hv := hm.slotD i
      rw [hi] at hv
      simp only [VR, ho] at hv
      obtain ⟨h1, h2, p0, cp, h3, h4, h5, h6, h7⟩ := hv
      refine RelM.reslot (s := ⟨s.sl, (id, .frz t l) :: s.ob⟩) (hm.freeze ho) ?_
      have hlen : ((l.take q).drop p).length = q - p := by simp; omega
      refine (DT.val_one (t := .sl t) rfl).2 ?_
      show SlP (fun _ _ _ => True) t.size ((l.take q).drop p).length _ w _ _
      rw [hlen]
      refine ⟨p0, cp, h3, h4, h5, h6, trivial, fun hn => ?_⟩
      obtain ⟨g, hg, e1⟩ := h7 (by omega)
      have hor := hm.obj id _ ho
      simp only [OR] at hor
      rcases hor with ⟨hn', _⟩ | ⟨g', cur, e, k1, k2, k3, k4, k5, k6⟩
      · rw [hg] at hn'; cases hn'
      · rw [hg] at k1; obtain rfl := Option.some.inj k1
        have hGg := hm.gz_freed (o' := .frz t l) ho rfl rfl hg
        have hz : FzTo w (Gz F w π (tlook s.ob)) w (Gz F w π (tlook ((id, .frz t l) :: s.ob))) := fun b hb => ⟨⟨hb.1, hb.2.1, fun j ⟨r1, o1, r2, r3⟩ => by
          rw [tlook_cons] at r2
          by_cases e : j = id
          · rw [if_pos e] at r2; obtain rfl := Option.some.inj r2; cases r3
          · rw [if_neg e] at r2; exact hb.2.2 j ⟨r1, o1, r2, r3⟩⟩, rfl⟩
        refine ⟨g, _, e1, hGg, fun j hj cc hc => ?_⟩
        obtain ⟨u, a1, a2, a3⟩ := k6 (p + j) (by omega) cc hc
        refine ⟨u, ?_, a2, ?_⟩
        · rw [cell_at k2]
          rw [show (π id).q + p * t.size + j * t.size + cc = (π id).q + (p + j) * t.size + cc by rw [Nat.add_mul]; omega]
          exact a1
        · show t.cell (((l.take q).drop p).getD j t.dflt) cc w _ u
          rw [getD_slice l p q j t.dflt h2 (by omega)]
          exact DT.cell_mono hz a3
    · exact hm
  · exact hm

theorem asm_size {L : Obs} : ∀ {t : DT} {fs : List TV} {y : t.den} {b : Bool}, asmTV L t fs = some (y, b) → fs.length = nFields t ∧ offs fs (nFields t) = t.size := by
  intro t
  induction t with
  | unit => intro fs y b h; cases fs with
    | nil => exact ⟨rfl, rfl⟩
    | cons x r => simp [asmTV] at h
  | pair p q ihp ihq =>
    intro fs y b h
    cases fs with
    | nil => simp [asmTV] at h
    | cons x r =>
      simp only [asmTV] at h
      split at h
      · split at h
        · rename_i hr
          split at h
          · rename_i hk
            simp only [Bool.and_eq_true, beq_iff_eq] at hk
            obtain ⟨h1, h2⟩ := ihq hr
            exact ⟨by simp [nFields, h1], by simp only [nFields, offs, DT.size, h2, hk.1]⟩
          · cases h
        · cases h
      · cases h
  | _ => intro fs y b h; cases fs <;> simp [asmTV] at h

theorem offs_take : ∀ (fs : List TV) (m j : Nat), j ≤ m → offs (fs.take m) j = offs fs j
  | [], m, j, h => by simp
  | x :: r, 0, j, h => by obtain rfl : j = 0 := by omega
                          simp [offs]
  | x :: r, m + 1, 0, h => rfl
  | x :: r, m + 1, j + 1, h => by simp only [List.take_succ_cons, offs]; rw [offs_take r m j (by omega)]

theorem offs_drop : ∀ (fs : List TV) (m j : Nat), m ≤ fs.length → offs fs (m + j) = offs fs m + offs (fs.drop m) j
  | fs, 0, j, h => by simp only [Nat.zero_add, List.drop_zero, show offs fs 0 = 0 by cases fs <;> rfl]
  | [], m + 1, j, h => by simp at h
  | x :: r, m + 1, j, h => by
    rw [show m + 1 + j = (m + j) + 1 by omega]
    simp only [offs, List.drop_succ_cons]
    rw [offs_drop r m j (by simpa using h)]
    omega

theorem asmRows_ok {w : World} {G : Nat → Prop} {π : Nat → Pl} {O : Obs} {t : DT} : ∀ {n : Nat} {fs : List TV} {l : List t.den} {cells : Nat → Option Value}, asmRows O t n fs = some l → (∀ (j : Nat) (x : TV), fs[j]? = some x → ∀ cc, cc < x.size → ∃ u, cells (offs fs j + cc) = some u ∧ u.oneCell' = true ∧ x.fcell w G π O cc u) →
    l.length = n ∧ ∀ e, e < n → ∀ cc, cc < t.size → ∃ u, cells (e * t.size + cc) = some u ∧ u.oneCell' = true ∧ t.cell (l.getD e t.dflt) cc w G u
  | 0, fs, l, cells, h, _ => by
    simp only [asmRows] at h
    split at h
    · obtain rfl := Option.some.inj h; exact ⟨rfl, fun e he => by omega⟩
    · cases h
  | n + 1, fs, l, cells, h, hc => by
    simp only [asmRows] at h
    split at h
    · rename_i y hy
      obtain ⟨l', hl, rfl⟩ := Option.map_eq_some_iff.1 h
      obtain ⟨s1, s2⟩ := asm_size hy
      have hlen : nFields t ≤ fs.length := by rw [List.length_take] at s1; omega
      have hoff : offs fs (nFields t) = t.size := by rw [← s2, offs_take _ _ _ (Nat.le_refl _)]
      obtain ⟨r1, r2⟩ := asmRows_ok (cells := fun q => cells (t.size + q)) hl fun j x hx cc hcc => by
        rw [List.getElem?_drop] at hx
        obtain ⟨u, a1, a2⟩ := hc (nFields t + j) x hx cc hcc
        refine ⟨u, ?_, a2⟩
        rw [offs_drop _ _ _ hlen, hoff] at a1
        rw [← a1]; congr 1; omega
      refine ⟨by simp [r1], fun e he cc hcc => ?_⟩
      cases e with
      | zero =>
        have := asm_ok (w := w) (G := G) (π := π) (cells := cells) hy rfl (fun j x hx cc hcc => by
          rw [List.getElem?_take] at hx
          split at hx
          · rename_i hj
            rw [offs_take _ _ _ (Nat.le_of_lt hj)]
            exact hc j x hx cc hcc
          · cases hx) cc hcc
        obtain ⟨u, a1, a2, a3⟩ := this
        exact ⟨u, by rw [Nat.zero_mul, Nat.zero_add]; exact a1, a2, a3⟩
      | succ e =>
        obtain ⟨u, a1, a2, a3⟩ := r2 e (by omega) cc hcc
        exact ⟨u, by rw [← a1]; congr 1; rw [Nat.add_mul]; omega, a2, a3⟩
    · cases h

theorem cutView_ok (hm : RelM c F π s a w) (i : Nat) (t : DT) : RelM c F π (cutView i t s) a w := by
  unfold cutView
  split
  · rename_i id k n n' hi
    split
    · rename_i fs ho
      split
      · rename_i l hl
        split
        · rename_i hc
          obtain ⟨rfl, rfl⟩ := hc
          have hm1 := hm.frzU (fs.flatMap TV.rowId)
          have hlk : tlook (frzU (tlook s.ob) (fs.flatMap TV.rowId) ++ s.ob) = ovr (frzU (tlook s.ob) (fs.flatMap TV.rowId)) (tlook s.ob) := tlook_append _ _
          have hUn : tlook (frzU (tlook s.ob) (fs.flatMap TV.rowId)) id = none := by
            cases h : tlook (frzU (tlook s.ob) (fs.flatMap TV.rowId)) id with
            | none => rfl
            | some o =>
              obtain ⟨t', l', h1, _⟩ := frzU_look h
              rw [ho] at h1; cases h1
          generalize frzU (tlook s.ob) (fs.flatMap TV.rowId) = U at hm1 hlk hl hUn ⊢
          have ho1 : tlook (U ++ s.ob) id = some (.rcd fs) := by
            rw [hlk]; unfold ovr; rw [hUn]; exact ho
          have hv := hm1.slotD i
          simp only at hv
          rw [hi] at hv
          simp only [VR, ho1] at hv
          obtain ⟨c0, g, pp, q1, q2, q3, q4, q5, q6, q7, q8⟩ := hv rfl
          simp only [TO.loc, Option.some.injEq] at q1
          subst q1
          obtain ⟨g', cur, e, r1, r2, r3⟩ := hm1.obj id _ ho1
          rw [q3] at r1; obtain rfl := Option.some.inj r1
          rw [← hlk] at hl
          obtain ⟨z1, z2⟩ := asmRows_ok (w := w) (G := Gz F w π (tlook (U ++ s.ob))) (π := π) (cells := fun q => cur[(π id).q + q]?) hl fun j x hx cc hcc => by
            obtain ⟨u, a1, a2⟩ := r3 j x hx cc hcc
            exact ⟨u, by rw [← a1]; congr 1; omega, a2⟩
          have hm2 : RelM c F π ⟨s.sl, (id, .dead) :: (U ++ s.ob)⟩ a w := hm1.dead ho1
          have hGg := hm1.gz_freed (o' := .dead) ho1 rfl rfl q3
          have hz : FzTo w (Gz F w π (tlook (U ++ s.ob))) w (Gz F w π (tlook ((id, .dead) :: (U ++ s.ob)))) := gz_dead hm1 ho1
          refine RelM.reslot (s := ⟨s.sl, (id, .dead) :: (U ++ s.ob)⟩) hm2 ((DT.val_one (t := .sl t) rfl).2 ?_)
          show SlP (fun _ _ _ => True) t.size l.length _ w _ _
          rw [z1]
          refine ⟨some pp, n', by rw [q7]; simp, Nat.le_refl _, q6, (fun h => by cases h), trivial, fun hn => ?_⟩
          obtain rfl := q8 hn
          refine ⟨g, (π id).q, by simp only [Nat.add_zero, Nat.zero_mul], hGg, fun j hj cc hc => ?_⟩
          obtain ⟨u, a1, a2, a3⟩ := z2 j hj cc hc
          refine ⟨u, ?_, a2, DT.cell_mono hz a3⟩
          rw [cell_at r2, ← a1]
          congr 1
          omega
        · exact hm
      · exact hm
    · exact hm
  · exact hm

theorem cutAll_ok : ∀ {rsp : List (Nat × DT)} {s : TS}, RelM c F π s a w → RelM c F π (cutAll rsp s) a w
  | [], s, hm => hm
  | (i, t) :: r, s, hm => by
    cases t <;> first | exact cutAll_ok (rsp := r) (cutView_ok (cutAt_ok hm i) i _) | exact cutAll_ok (rsp := r) (cutAt_ok hm i)

/-- Some slots, read as data. -/
def setData : List (Nat × DT) → TS → Option (TS × Bool)
  | [], s => some (s, true)
  | (i, t) :: r, s => if t.plain then (match (s.sl.getD i .any).as (tlook s.ob) t with
    | some (y, b) => match setData r ⟨s.sl.set i (.dv t y), s.ob⟩ with
      | some (s', b') => some (s', b && b')
      | none => none
    | none => none) else none

def toData (rsp : List (Nat × DT)) (s : TS) : Option (TS × Bool) :=
  let s1 := cutAll rsp s
  setData rsp ⟨s1.sl, frzU (tlook s1.ob) (rsp.flatMap fun p => (s1.sl.getD p.1 .any).rowId) ++ s1.ob⟩

theorem setData_ok : ∀ {rsp : List (Nat × DT)} {s s' : TS} {b : Bool}, setData rsp s = some (s', b) → b = true → RelM c F π s a w → RelM c F π s' a w
  | [], s, s', b, h, _, hm => by
    simp only [setData, Option.some.injEq, Prod.mk.injEq] at h
    obtain ⟨rfl, _⟩ := h
    exact hm
  | (i, t) :: r, s, s', b, h, hb, hm => by
    simp only [setData] at h
    split at h
    · rename_i hp
      split at h
      · rename_i y b1 hy
        split at h
        · rename_i s2 b2 hr
          simp only [Option.some.injEq, Prod.mk.injEq] at h
          obtain ⟨rfl, rfl⟩ := h
          simp only [Bool.and_eq_true] at hb
          refine setData_ok hr hb.2 ⟨hm.kept, hm.hF, hm.defers, by simpa using hm.size, fun j x hx => ?_, hm.obj, hm.inj, hm.new, hm.pin, hm.glb⟩
          simp only [List.getElem?_set] at hx
          by_cases e : i = j
          · subst e
            simp only [if_true] at hx
            split at hx
            · obtain rfl := Option.some.inj hx
              exact TV.as_ok hy hb.1 hp (hm.slotD i)
            · cases hx
          · rw [if_neg e] at hx; exact hm.slot j x hx
        · cases h
      · cases h
    · cases h

theorem toData_ok {rsp : List (Nat × DT)} {s s' : TS} {b : Bool} (h : toData rsp s = some (s', b)) (hb : b = true) (hm : RelM c F π s a w) : RelM c F π s' a w :=
  setData_ok h hb ((cutAll_ok (rsp := rsp) hm).frzU _)

/-- The shape that a loop's head wants. -/
def TS.normP (pp : List Nat) (nm : Norm) (s : TS) : Option TS :=
  match nm.dat with
  | [] => s.norm0 pp nm
  | _ => match toData nm.dat s with
    | some (s0, true) => s0.norm0 pp nm
    | _ => none
def TS.norm (nm : Norm) (s : TS) : Option TS := s.normP [] nm

theorem norm_ok {pp : List Nat} (hpin : ∀ id p, c.pin id = some p → pinQ pp id = true) {nm : Norm} {s' : TS} (h : s.normP pp nm = some s') (hm : RelM c F π s a w) : ∃ π', RelM c F π' s' a w := by
  unfold TS.normP at h
  split at h
  · exact norm0_ok hpin h hm
  · split at h
    · rename_i s0 h0; exact norm0_ok hpin h (toData_ok h0 rfl hm)
    · cases h

/-- A slot more. -/
theorem RelM.ext (hm : RelM c F π s a w) {x : TV} {v : Value} (hx : VR w (Gz F w π (tlook s.ob)) π (tlook s.ob) x v) : RelM c F π ⟨s.sl ++ [x], s.ob⟩ { a with tmps := a.tmps.push v } w := by
  refine ⟨hm.kept, hm.hF, hm.defers, by simp [hm.size], fun j y hy => ?_, hm.obj, hm.inj, hm.new, hm.pin, hm.glb⟩
  rw [List.getElem?_append] at hy
  split at hy
  · rename_i hlt
    have hlt' : j < a.tmps.size := by rw [hm.size]; exact hlt
    have e : (a.tmps.push v).getD j undef = a.tmps.getD j undef := by
      simp only [Array.getD_eq_getD_getElem?, Array.getElem?_push]
      rw [if_neg (by omega)]
    rw [e]; exact hm.slot j y hy
  · rename_i hge
    have e0 : j = s.sl.length := by
      have := (List.getElem?_eq_some_iff.1 hy).1
      simp at this; omega
    subst e0
    simp at hy
    subst hy
    have e : (a.tmps.push v).getD s.sl.length undef = v := by
      simp only [Array.getD_eq_getD_getElem?, Array.getElem?_push, hm.size]
      simp
    rw [e]; exact hx

/-- The results, read at a function's end. -/
def resM (TI : Nat → TD) (s : TS) : List ResultVar → Option (List TV)
  | [] => some []
  | .tmp t :: r => (resM TI s r).map fun l => s.sl.getD t .any :: l
  | .cell t T :: r => match (s.sl.getD t .any).ld (TI T) (tlook s.ob) with
    | some x => (resM TI s r).map fun l => x :: l
    | none => none

theorem run_asAddr {P : Program} {T : TypeId} {v v' : Value} {w : World} (h : (Instr.loadAt T v).run P w = .ok v' w) : (do loadVar T (← asAddr v)).run P w = .ok v' w := by
  cases v with
  | pointer o => cases o with
    | none => simp [Instr.loadAt, Instr.sureAddr] at h
    | some a => exact h
  | _ => simp [Instr.loadAt, Instr.sureAddr] at h

def rdV (P : Program) (tmps : Array Value) (w : World) : ResultVar → Value → Prop
  | .tmp t, v => v = tmps.getD t undef
  | .cell t T, v => (do loadVar T (← asAddr (tmps.getD t undef))).run P w = .ok v w

theorem resM_ok {P : Program} {TI : Nat → TD} (hT : TOK P TI) (hm : RelM c F π s a w) : ∀ {rs : List ResultVar} {l : List TV}, resM TI s rs = some l → ∃ vs : List Value, vs.length = l.length ∧ vs.length = rs.length ∧
    (∀ (i : Nat) (r : ResultVar) (v : Value), rs[i]? = some r → vs[i]? = some v → rdV P a.tmps w r v) ∧ ∀ (i : Nat) (x : TV) (v : Value), l[i]? = some x → vs[i]? = some v → VR w (Gz F w π (tlook s.ob)) π (tlook s.ob) x v
  | [], l, h => by
    simp only [resM, Option.some.injEq] at h; subst h
    exact ⟨[], rfl, rfl, fun i r v h => by simp at h, fun i x v h => by simp at h⟩
  | .tmp t :: r, l, h => by
    simp only [resM, Option.map_eq_some_iff] at h
    obtain ⟨l', h1, rfl⟩ := h
    obtain ⟨vs, a1, a2, a3, a4⟩ := resM_ok hT hm h1
    refine ⟨a.tmps.getD t undef :: vs, by simp [a1], by simp [a2], fun i q v hq hv => ?_, fun i x v hx hv => ?_⟩
    · cases i with
      | zero => obtain rfl := Option.some.inj hq; obtain rfl := Option.some.inj hv; rfl
      | succ i => exact a3 i q v (by simpa using hq) (by simpa using hv)
    · cases i with
      | zero => obtain rfl := Option.some.inj hx; obtain rfl := Option.some.inj hv; exact hm.slotD t
      | succ i => exact a4 i x v (by simpa using hx) (by simpa using hv)
  | .cell t T :: r, l, h => by
    simp only [resM] at h
    split at h
    · rename_i y hy
      simp only [Option.map_eq_some_iff] at h
      obtain ⟨l', h1, rfl⟩ := h
      obtain ⟨vs, a1, a2, a3, a4⟩ := resM_ok hT hm h1
      obtain ⟨v0, b1, b2⟩ := TV.ld_ok (P := P) hT hm hy (hm.slotD t)
      refine ⟨v0 :: vs, by simp [a1], by simp [a2], fun i q v hq hv => ?_, fun i x v hx hv => ?_⟩
      · cases i with
        | zero => obtain rfl := Option.some.inj hq; obtain rfl := Option.some.inj hv; exact run_asAddr b1
        | succ i => exact a3 i q v (by simpa using hq) (by simpa using hv)
      · cases i with
        | zero => obtain rfl := Option.some.inj hx; obtain rfl := Option.some.inj hv; exact b2
        | succ i => exact a4 i x v (by simpa using hx) (by simpa using hv)
    · cases h

end
end Go.Proofs.YtbjfbbfglkmadaaDoor
