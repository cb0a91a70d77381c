/-
  Lifting Go functions to plain Lean functions, part N: what an operation does, calls too.
-/
import Derived.Test.YtbjfbbfglkmadaaDoorQMb
namespace Go.Proofs.YtbjfbbfglkmadaaDoor
open Go.RowKit
set_option linter.unusedVariables false

def frzU (L : Obs) (ids : List Nat) : List (Nat × TO) := ids.filterMap fun id => match L id with
  | some (.row t l) => some (id, .frz t l)
  | _ => none

def ovr (U : List (Nat × TO)) (L : Obs) : Obs := fun i => match tlook U i with
  | some o => some o
  | none => L i

theorem tlook_append (U O : List (Nat × TO)) : tlook (U ++ O) = ovr U (tlook O) := by
  funext i
  induction U with
  | nil => rfl
  | cons p r ih =>
    obtain ⟨j, o⟩ := p
    simp only [List.cons_append, ovr, tlook]
    by_cases h : i = j
    · rw [if_pos h, if_pos h]
    · rw [if_neg h, if_neg h]; exact ih

theorem frzU_look {L : Obs} : ∀ {ids : List Nat} {i : Nat} {o : TO}, tlook (frzU L ids) i = some o → ∃ t l, L i = some (.row t l) ∧ o = .frz t l
  | [], i, o, h => by cases h
  | id :: r, i, o, h => by
    simp only [frzU, List.filterMap_cons] at h
    split at h
    · exact frzU_look (ids := r) h
    · rename_i p hp
      split at hp
      · rename_i t l hl
        obtain rfl := Option.some.inj hp
        rw [tlook_cons] at h
        by_cases e : i = id
        · rw [if_pos e] at h; subst e; exact ⟨t, l, hl, (Option.some.inj h).symm⟩
        · rw [if_neg e] at h; exact frzU_look (ids := r) h
      · cases hp

theorem RelM.frzU {c : Cx} {F : Nat → Prop} {s : TS} {π : Nat → Pl} {a : Act} {w : World} (h : RelM c F π s a w) : ∀ ids : List Nat, RelM c F π ⟨s.sl, Go.Proofs.YtbjfbbfglkmadaaDoor.frzU (tlook s.ob) ids ++ s.ob⟩ a w
  | [] => h
  | id :: r => by
    have ih := RelM.frzU h r
    simp only [Go.Proofs.YtbjfbbfglkmadaaDoor.frzU, List.filterMap_cons]
    split
    · exact ih
    · rename_i p hp
      split at hp
      · rename_i t l hl
        obtain rfl := Option.some.inj hp
        have hlk : tlook (Go.Proofs.YtbjfbbfglkmadaaDoor.frzU (tlook s.ob) r ++ s.ob) id = match tlook (Go.Proofs.YtbjfbbfglkmadaaDoor.frzU (tlook s.ob) r) id with | some o => some o | none => tlook s.ob id := by rw [tlook_append]; rfl
        cases hq : tlook (Go.Proofs.YtbjfbbfglkmadaaDoor.frzU (tlook s.ob) r) id with
        | none =>
          rw [hq] at hlk
          simp only at hlk
          rw [hl] at hlk
          exact ih.freeze hlk
        | some o =>
          rw [hq] at hlk
          simp only at hlk
          obtain ⟨t', l', h1, rfl⟩ := frzU_look hq
          rw [hl] at h1
          simp only [Option.some.injEq, TO.row.injEq] at h1
          obtain ⟨rfl, h1⟩ := h1
          obtain rfl := eq_of_heq h1
          refine ih.same rfl ?_
          funext i
          show tlook ((id, .frz t l) :: (Go.Proofs.YtbjfbbfglkmadaaDoor.frzU (tlook s.ob) r ++ s.ob)) i = _
          rw [tlook_cons]
          by_cases e : i = id
          · rw [if_pos e, e]; exact hlk.symm
          · rw [if_neg e]
      · cases hp

def TV.rowId : TV → List Nat
  | .row id => [id]
  | .vrow id _ _ => [id]
  | _ => []

/-- Rows that an operation freezes. -/
def needs (ev : Operand → TV) (L : Obs) : Op → List Nat
  | .buildSlice _ _ parts => parts.toList.flatMap fun p => (ev p.2).rowId
  | .build _ parts => parts.toList.flatMap fun p => (ev p.2).rowId
  | .store _ p y => match ev p with
    | .ptr id _ q => match L id, q with
      | some (.rcd fs), [j] => if (fs.getD j .any).isSl then (ev y).rowId else []
      | _, _ => (ev y).rowId
    | _ => []
  | .load _ p => match ev p with
    | .ptr id _ [] => match L id with
      | some (.rcd fs) => fs.flatMap TV.rowId
      | _ => []
    | _ => []
  | .mapUpdate _ _ k y => (ev k).rowId ++ (ev y).rowId
  | .insert _ _ k y => (ev k).rowId ++ (ev y).rowId
  | _ => []

inductive Md where
  | obj
  | lend (t : DT)
  | own (t : DT)

/-- What the reckoning is told: types; which variables are records; which appends' results are never turned again; the functions' signatures and what they answer; the loops' heads. -/
structure Env where
  TI : Nat → TD
  TY : Nat → DT
  rc : Nat → Option (List (Option DT))
  fz : Nat → Bool
  tw : Nat → Option Nat
  sig : Nat → List TV → Option (List Md)
  phi : {α : Type} → Nat → List TV → List (Nat × TO) → (TV → List (Nat × TO) → Option α) → Option α
  seq : TV → Option (Bool × ((t : DT) × List t.den))

def chk {α : Type} (b : Bool) (r : Option α) : Option α := cond b r none

/-- A part of an own row that takes its place. -/
def tmv (E : Env) (ev : Operand → TV) (L : Obs) (dst : Option Nat) (T : Nat) (x : Operand) (lo hi mx : Option Operand) : Option Eff :=
  match dst, mx with
  | some d, none => if E.fz d then (match L d, ev x, ixOf ev lo, ixOf ev hi with
    | none, .row id, some a, some b => match L id with
      | some (.row t l) => if (E.TI T).kd == 2 && (E.TI T).elem == t.size then some ⟨.row d, [(d, .row t (cutL l a b)), (id, .dead)], cutB l.length a b⟩ else none
      | _ => none
    | _, _, _, _ => none) else none
  | _, _ => none

/-- Data told as data of another type. -/
def TV.asC (x : TV) (t : DT) : Option (t.den × Bool) :=
  match x with
  | .dv u z => (TV.dv u z).as (fun _ => none) t
  | .nl => TV.nl.as (fun _ => none) t
  | _ => none

/-- An append whose result is frozen at once. -/
def tfzApp (E : Env) (ev : Operand → TV) (L : Obs) (dst : Option Nat) : Op → Option Eff
  | .call c => match c.callee, dst, c.args.toList, c.argTypes.toList with
    | .builtin .append, some d, [x, y], [T, T'] => if E.fz d && decide (T = T') then (match L d with
      | some _ => none
      | none => match ev x with
        | .dv (.csl t) l => match (ev y).data L with
          | some ⟨t', m⟩ => if h : t' = t then (if (E.TI T).kd == 2 && (E.TI T).elem == t.size then
              some ⟨.row d, [(d, .frz t (l ++ h ▸ m))], small (l.length + m.length) (E.TI T).eb⟩ else none) else none
          | none => none
        | _ => none) else none
    | _, _, _, _ => none
  | .slice T x lo hi mx => tmv E ev L dst T x lo hi mx
  | .box T x => match dst with
    | some d => if E.fz d then (match (ev x).as L (E.TY T) with
      | some (y, b) => if (E.TY T).plain then some ⟨.dv (.fp (E.TY T)) (some y), [], b⟩ else none
      | none => none) else none
    | none => none
  | .assign x => match dst.bind E.rc with
    | some [some t] => match TV.asC (ev x) t with
      | some (y, b) => if t.plain then some ⟨.dv t y, [], b⟩ else none
      | none => none
    | _ => none
  | _ => none

def effN (E : Env) (o : Oper) (ev : Operand → TV) (L : Obs) : Option Eff :=
  match tst E.TI E.TY E.rc ev L o.dst o.op with
  | some e => some e
  | none =>
  let U0 := frzU L (needs ev L o.op)
  let L1 := ovr U0 L
  match tfzApp E ev L1 o.dst o.op with
  | some e => some ⟨e.y, e.u ++ U0, e.b⟩
  | none => match tval E.TI ev L1 o.op with
    | some (y, b) => some ⟨y, U0, b⟩
    | none => match tmore E.TI E.TY ev L1 o.op with
      | some (y, b) => some ⟨y, U0, b⟩
      | none => match tobj E.TI E.TY E.rc ev L1 o.dst o.op with
        | some e => some ⟨e.y, e.u ++ U0, e.b⟩
        | none => match tmap E.TI ev L1 o.dst o.op with
          | some e => some ⟨e.y, e.u ++ U0, e.b⟩
          | none => none

def TV.ids : TV → List Nat
  | .row id => [id]
  | .vrow id _ _ => [id]
  | .ptr id _ _ => [id]
  | .view id _ _ _ _ _ _ => [id]
  | .fn _ k n f => (List.range (k + n)).flatMap fun j => (f j).ids
  | .tup n f => (List.range n).flatMap fun j => (f j).ids
  | .st n f => (List.range n).flatMap fun j => (f j).ids
  | _ => []

def TO.ids : TO → List Nat
  | .rcd fs => fs.flatMap TV.ids
  | _ => []

def TV.withinB (R : List Nat) (x : TV) : Bool := x.ids.all fun i => R.contains i
def TO.withinB (R : List Nat) (x : TO) : Bool := x.ids.all fun i => R.contains i

def TV.scB : TV → Bool
  | .dv t _ => t.noSl
  | .el _ _ _ => false
  | .fn _ k n f => (List.range (k + n)).all fun j => (f j).scB
  | .tup n f => (List.range n).all fun j => (f j).scB
  | .st n f => (List.range n).all fun j => (f j).scB
  | _ => true

def TO.scB : TO → Bool
  | .row t _ => t.noSl
  | .rcd fs => fs.all TV.scB
  | .map kt vt _ => kt.noSl && vt.noSl
  | .frz _ _ => false
  | .iter _ _ _ _ => false
  | .dead => true

/-- What can be come to from objects. -/
def reachF : Nat → Obs → List Nat → List Nat → List Nat
  | 0, _, _, acc => acc
  | n + 1, L, [], acc => acc
  | n + 1, L, id :: todo, acc => if acc.contains id then reachF n L todo acc else match L id with
    | some o => reachF n L (todo ++ o.ids) (acc ++ [id])
    | none => reachF n L todo acc

def idx : List Nat → Nat → Nat
  | [], _ => 0
  | x :: r, i => if i = x then 0 else idx r i + 1

def tauR (R : List Nat) (i : Nat) : Nat := 9000 + idx R i
def rhoR (R : List Nat) (d : Nat) (j : Nat) : Nat := if 9000 ≤ j ∧ j < 9000 + R.length then R.getD (j - 9000) 0 else 1000000 + 10000 * d + j

/-- A window of an array in an object, as a slice's elements. -/
def TV.lend (L : Obs) : TV → Option ((Σ t : DT, List t.den) × Bool)
  | .view id i p k n a b => match L id with
    | some o => match o.part i p with
      | some ⟨.arr m u, l⟩ => if k == u.size && o.live && n == m then some (⟨u, (l.take b).drop a⟩, decide (b ≤ l.length)) else none
      | _ => none
    | none => none
  | x => (x.data L).map fun y => (y, true)

def lendAs (L : Obs) (x : TV) : (t : DT) → Option (t.den × Bool)
  | .sl u => match x.lend L with
    | some (⟨v, l⟩, b) => if h : v = u then some (h ▸ l, b) else none
    | none => x.as L (.sl u)
  | t => x.as L t

def cvt (L : Obs) : List Md → List TV → Option (List TV × Bool)
  | [], [] => some ([], true)
  | m :: ms, x :: xs => match cvt L ms xs with
    | some (l, b) => match m with
      | .obj => some (x :: l, b)
      | .lend t => match lendAs L x t with
        | some (y, b') => if t.plain then some (.dv t y :: l, b' && b) else none
        | none => none
      | .own t => match x.as L t with
        | some (y, b') => if t.plain then some (.dv t y :: l, b' && b) else none
        | none => none
    | none => none
  | _, _ => none

def ownIds : List Md → List TV → List Nat
  | .own _ :: ms, x :: xs => x.rowId ++ ownIds ms xs
  | _ :: ms, _ :: xs => ownIds ms xs
  | _, _ => []

def objIds : List Md → List TV → List Nat
  | .obj :: ms, x :: xs => x.ids ++ objIds ms xs
  | _ :: ms, _ :: xs => objIds ms xs
  | _, _ => []

/-- Rows that are lent. -/
def lentIds (L : Obs) : List Md → List TV → List Nat
  | .lend _ :: ms, x :: xs => (x.ids.filter fun i => match L i with | some o => o.live | none => false) ++ lentIds L ms xs
  | _ :: ms, _ :: xs => lentIds L ms xs
  | _, _ => []

def nodupB : List Nat → Bool
  | [] => true
  | x :: r => !r.contains x && nodupB r

def TO.isDead : TO → Bool
  | .dead => true
  | _ => false

variable {α : Type}

def callE (E : Env) (d g : Nat) (xs : List TV) (L : Obs) (k : Eff → Option α) : Option α :=
  match E.sig g xs with
  | some mds =>
    let U0 := frzU L (ownIds mds xs)
    let L1 := ovr U0 L
    match cvt L1 mds xs with
    | some (as, b) =>
      let R := reachF 60 L1 (objIds mds xs) []
      let ln := lentIds L1 mds xs
      if R.all (fun i => match L1 i with | some o => o.live && o.withinB R | none => false) && (objIds mds xs).all (fun i => R.contains i) && ln.all (fun i => !R.contains i) && nodupB R then
        chk b (E.phi g (as.map (TV.ren (tauR R))) (R.map fun i => (tauR R i, ((L1 i).getD .dead).ren (tauR R))) fun r O' =>
          if nodupB (O'.map fun p => rhoR R d p.1) && O'.all (fun p => if 9000 ≤ p.1 ∧ p.1 < 9000 + R.length then p.2.live || p.2.isDead else (L1 (rhoR R d p.1)).isNone) && (ln.isEmpty || (r.scB && O'.all fun p => p.2.scB)) then
            k ⟨r.ren (rhoR R d), renO (rhoR R d) O' ++ U0, true⟩ else none)
      else none
    | none => none
  | none => none

def fnArgs (k n : Nat) (f : Nat → TV) (xs : List TV) : List TV := ((List.range k).map f) ++ xs ++ ((List.range n).map fun j => f (k + j))

/-- By what an interface holds. -/
def ifElim {A B : Type} (y : A ⊕ B) (f : A → Option α) (g : B → Option α) : Option α :=
  match y with
  | .inl a => f a
  | .inr b => g b

/-- What an interface holds, if it is the first, or the second, that it can hold. -/
def inL {A B : Type} (y : A ⊕ B) : Option A := match y with
  | .inl a => some a
  | .inr _ => none
def inR1 {A B C : Type} (y : A ⊕ (B ⊕ C)) : Option B := match y with
  | .inl _ => none
  | .inr b => inL b

/-- The method of what an interface holds. -/
def ivkE (E : Env) (d : Nat) (name : String) (xs : List TV) (L : Obs) (k : Eff → Option α) : (s : DT) → s.den → Option α
  | .ifc T t r, y => ifElim y
      (fun a => if t.agg then none else match (E.TI T).mth.lookup name with
        | some g => callE E d g (.dv t a :: xs) L k
        | none => none)
      (fun b => ivkE E d name xs L k r b)
  | _, _ => none

/-- WHAT AN OPERATION DOES. -/
def eff (E : Env) (o : Oper) (ev : Operand → TV) (L : Obs) (k : Eff → Option α) : Option α :=
  match effN E o ev L with
  | some e => chk e.b (k e)
  | none => match o.op with
    | .pick c x y => match ev c with
      | .dv .bool t => cond t (k ⟨ev x, [], true⟩) (k ⟨ev y, [], true⟩)
      | _ => none
    | .call c => match c.callee with
      | .value x => match ev x with
        | .fn g k' n f => callE E (o.dst.getD 0) g (fnArgs k' n f (c.args.toList.map ev)) L k
        | _ => none
      | .invoke x name => match ev x with
        | .dv u y => ivkE E (o.dst.getD 0) name (c.args.toList.map ev) L k u y
        | _ => none
      | _ => none
    | _ => none

def TS.app (s : TS) (d : Option Nat) (e : Eff) : TS := ⟨(s.put d e.y).sl, e.u ++ s.ob⟩

/-- What the reckoning is told of functions is so. -/
def EnvOk (P : Program) (E : Env) : Prop := ∀ (g : Nat) (args : List TV) (Of : List (Nat × TO)) (α : Type) (k : TV → List (Nat × TO) → Option α) (res : α), E.phi g args Of k = some res →
  ∃ r O', k r O' = some res ∧ (∀ (β : Type) (k' : TV → List (Nat × TO) → Option β), E.phi g args Of k' = k' r O') ∧ HSpec P g args Of fun r' O'' => r' = r ∧ O'' = O'

theorem chk_some {b : Bool} {x : Option α} {r : α} (h : chk b x = some r) : b = true ∧ x = some r := by
  cases b with
  | true => exact ⟨rfl, h⟩
  | false => cases h

section
variable {P : Program} {E : Env} {c : Cx} {F : Nat → Prop} {s : TS} {π : Nat → Pl} {a : Act} {w : World}

theorem RelM.addFrz (hm : RelM c F π s a w) {d : Nat} (hd : tlook s.ob d = none) (t : DT) (l : List t.den) : RelM c F (updP π d ⟨none, 0, 0⟩) ⟨s.sl, (d, .frz t l) :: s.ob⟩ a w :=
  hm.newOb (Below.refl _ _) hd (fun g hg => by cases hg) trivial

/-- A part of a row takes the row's place. -/
theorem RelM.moveRow (hm : RelM c F π s a w) {d id : Nat} {t : DT} {l : List t.den} (hd : tlook s.ob d = none) (hid : tlook s.ob id = some (.row t l)) {g : Nat} (o1 : (π id).g = some g) {lo hi q' : Nat} (h1 : lo ≤ hi) (h2 : hi ≤ l.length)
    (hq : (π id).cap ≠ lo → q' = (π id).q + lo * t.size) (hq0 : (π id).cap = lo → q' = (π id).q) :
    RelM c F (updP π d ⟨some g, q', (π id).cap - lo⟩) ⟨s.sl, (d, .row t ((l.take hi).drop lo)) :: (id, .dead) :: s.ob⟩ a w := by
  have hne : d ≠ id := fun e => by subst e; rw [hd] at hid; cases hid
  have hor := hm.obj id _ hid
  simp only [OR] at hor
  rcases hor with ⟨o1', _⟩ | ⟨g', cur, e', o1', o2, o3, o4, o5, o6⟩
  · rw [o1] at o1'; cases o1'
  rw [o1] at o1'; obtain rfl := Option.some.inj o1'
  have hown : Own π (tlook s.ob) id g := ⟨o1, _, hid, rfl⟩
  have own : ∀ i b, Own (updP π d ⟨some g, q', (π id).cap - lo⟩) (tlook ((d, .row t ((l.take hi).drop lo)) :: (id, .dead) :: s.ob)) i b → (i = d ∧ b = g) ∨ (i ≠ d ∧ i ≠ id ∧ Own π (tlook s.ob) i b) := fun i b ⟨r1, o', r2, r3⟩ => by
    rw [tlook_cons, tlook_cons] at r2
    by_cases e1 : i = d
    · subst e1
      simp only [updP, if_true, Option.some.injEq] at r1
      exact .inl ⟨rfl, r1.symm⟩
    · rw [if_neg e1] at r2
      simp only [updP, if_neg e1] at r1
      by_cases e2 : i = id
      · rw [if_pos e2] at r2; obtain rfl := Option.some.inj r2; simp [TO.live] at r3
      · rw [if_neg e2] at r2; exact .inr ⟨e1, e2, r1, o', r2, r3⟩
  have E : Evo w (Gz F w π (tlook s.ob)) π (tlook s.ob) w (Gz F w (updP π d ⟨some g, q', (π id).cap - lo⟩) (tlook ((d, .row t ((l.take hi).drop lo)) :: (id, .dead) :: s.ob))) (updP π d ⟨some g, q', (π id).cap - lo⟩) (tlook ((d, .row t ((l.take hi).drop lo)) :: (id, .dead) :: s.ob)) := by
    refine ⟨fun b ⟨r0, r1, r2⟩ => ⟨⟨r0, r1, fun i hi => ?_⟩, rfl⟩, fun i o ho => ?_⟩
    · rcases own i b hi with ⟨_, rfl⟩ | ⟨_, _, h⟩
      · exact r2 id hown
      · exact r2 i h
    · have e1 : i ≠ d := fun e => by subst e; rw [hd] at ho; cases ho
      by_cases e2 : i = id
      · exact ⟨.dead, by rw [tlook_cons, if_neg e1, tlook_cons, if_pos e2], by simp [Step]⟩
      · exact ⟨o, by rw [tlook_cons, if_neg e1, tlook_cons, if_neg e2]; exact ho, by simp only [updP, if_neg e1]; exact Step.refl o⟩
  refine hm.go (hm.kept.on ⟨rfl, rfl, rfl⟩ (Nat.le_refl _) fun b hb => rfl) E (fun i o ho => ?_) (fun i j b hi hj => ?_) (fun i b hi => ?_)
  · by_cases e1 : i = d
    · rw [tlook_cons, if_pos e1] at ho
      obtain rfl := Option.some.inj ho
      subst e1
      have hlen : ((l.take hi).drop lo).length = hi - lo := by simp; omega
      refine .inr ⟨g, cur, e', by simp [updP], o2, by simp only [updP, if_true, hlen]; omega, by simp only [updP, if_true]; omega, ?_, fun j hj cc hcc => ?_⟩
      · simp only [updP, if_true]
        by_cases hc : (π id).cap = lo
        · rw [hq0 hc, hc, Nat.sub_self, Nat.zero_mul]
          have : (π id).q ≤ (π id).q + (π id).cap * t.size := Nat.le_add_right _ _
          omega
        · rw [hq hc, Nat.add_assoc, ← Nat.add_mul, show lo + ((π id).cap - lo) = (π id).cap by omega]; exact o5
      · rw [hlen] at hj
        simp only [updP, if_true]
        have hc : (π id).cap ≠ lo := by omega
        obtain ⟨u, r1, r2, r3⟩ := o6 (lo + j) (by omega) cc hcc
        refine ⟨u, ?_, r2, ?_⟩
        · rw [hq hc, ← r1]
          congr 1
          rw [Nat.add_mul]; omega
        · rw [getD_slice l lo hi j t.dflt h2 (by omega)]; exact DT.cell_mono E.fz r3
    · rw [tlook_cons, if_neg e1, tlook_cons] at ho
      by_cases e2 : i = id
      · rw [if_pos e2] at ho; obtain rfl := Option.some.inj ho; trivial
      · rw [if_neg e2] at ho
        exact (hm.obj i o ho).evo E (by simp only [updP, if_neg e1]) fun b hb hl => rfl
  · rcases own i b hi with ⟨r1, r2⟩ | ⟨r1, r2, r3⟩ <;> rcases own j b hj with ⟨r4, r5⟩ | ⟨r4, r5, r6⟩
    · exact r1.trans r4.symm
    · exact absurd (hm.inj j id g (r2 ▸ r6) hown) r5
    · exact absurd (hm.inj i id g (r5 ▸ r3) hown) r2
    · exact hm.inj i j b r3 r6
  · rcases own i b hi with ⟨_, rfl⟩ | ⟨_, _, r3⟩
    · exact hm.new id b hown
    · exact hm.new i b r3

/-- A row that is nowhere: likewise. -/
theorem RelM.moveNil (hm : RelM c F π s a w) {d id : Nat} {t : DT} (hd : tlook s.ob d = none) (hid : tlook s.ob id = some (.row t ([] : List t.den))) (o1 : (π id).g = none) :
    RelM c F (updP π d ⟨none, 0, 0⟩) ⟨s.sl, (d, .row t ([] : List t.den)) :: (id, .dead) :: s.ob⟩ a w := by
  have hne : d ≠ id := fun e => by subst e; rw [hd] at hid; cases hid
  have own : ∀ i b, Own (updP π d ⟨none, 0, 0⟩) (tlook ((d, .row t ([] : List t.den)) :: (id, .dead) :: s.ob)) i b → (i ≠ d ∧ i ≠ id ∧ Own π (tlook s.ob) i b) := fun i b ⟨r1, o', r2, r3⟩ => by
    rw [tlook_cons, tlook_cons] at r2
    by_cases e1 : i = d
    · subst e1
      simp only [updP, if_true] at r1
      cases r1
    · rw [if_neg e1] at r2
      simp only [updP, if_neg e1] at r1
      by_cases e2 : i = id
      · rw [if_pos e2] at r2; obtain rfl := Option.some.inj r2; simp [TO.live] at r3
      · rw [if_neg e2] at r2; exact ⟨e1, e2, r1, o', r2, r3⟩
  have E : Evo w (Gz F w π (tlook s.ob)) π (tlook s.ob) w (Gz F w (updP π d ⟨none, 0, 0⟩) (tlook ((d, .row t ([] : List t.den)) :: (id, .dead) :: s.ob))) (updP π d ⟨none, 0, 0⟩) (tlook ((d, .row t ([] : List t.den)) :: (id, .dead) :: s.ob)) := by
    refine ⟨fun b ⟨r0, r1, r2⟩ => ⟨⟨r0, r1, fun i hi => r2 i (own i b hi).2.2⟩, rfl⟩, fun i o ho => ?_⟩
    have e1 : i ≠ d := fun e => by subst e; rw [hd] at ho; cases ho
    by_cases e2 : i = id
    · exact ⟨.dead, by rw [tlook_cons, if_neg e1, tlook_cons, if_pos e2], by simp [Step]⟩
    · exact ⟨o, by rw [tlook_cons, if_neg e1, tlook_cons, if_neg e2]; exact ho, by simp only [updP, if_neg e1]; exact Step.refl o⟩
  refine hm.go (hm.kept.on ⟨rfl, rfl, rfl⟩ (Nat.le_refl _) fun b hb => rfl) E (fun i o ho => ?_) (fun i j b hi hj => hm.inj i j b (own i b hi).2.2 (own j b hj).2.2) (fun i b hi => hm.new i b (own i b hi).2.2)
  by_cases e1 : i = d
  · rw [tlook_cons, if_pos e1] at ho
    obtain rfl := Option.some.inj ho
    exact .inl ⟨by simp [updP, e1], rfl⟩
  · rw [tlook_cons, if_neg e1, tlook_cons] at ho
    by_cases e2 : i = id
    · rw [if_pos e2] at ho; obtain rfl := Option.some.inj ho; trivial
    · rw [if_neg e2] at ho
      exact (hm.obj i o ho).evo E (by simp only [updP, if_neg e1]) fun b hb hl => rfl

theorem tmv_ok (hT : TOK P E.TI) {T : Nat} {x : Operand} {lo hi mx : Option Operand} {dst : Option Nat} {ty : TypeId} {pos : String} {after : Array Edge} {g : Option (Nat × Bool)} {e : Eff} (h : tmv E s.ev (tlook s.ob) dst T x lo hi mx = some e) (hb : e.b = true) (hm : RelM c F π s a w) :
    EffOk P c F s π a w ⟨dst, .slice T x lo hi mx, ty, pos, after, g⟩ e := by
  unfold tmv at h
  split at h
  · rename_i d
    split at h
    · split at h
      · rename_i id ra rb hd hx h1 h2
        split at h
        · rename_i t l hid
          split at h
          · rename_i hk
            simp only [Bool.and_eq_true, beq_iff_eq] at hk
            obtain rfl := Option.some.inj h
            have hb : cutB l.length ra rb = true := hb
            have hv := hm.ev x
            rw [hx] at hv
            simp only [VR, hid] at hv
            have opt : ∀ {o : Option Operand} {r : Option Int}, ixOf s.ev o = some r → (o.map a.eval = none ∧ r = none) ∨ ∃ k z, o.map a.eval = some (.int k z) ∧ r = some z := fun h => by
              rcases ixOf_ok hm h with ⟨rfl, rfl⟩ | ⟨x, k, z, rfl, rfl, e⟩
              · exact .inl ⟨rfl, rfl⟩
              · exact .inr ⟨k, z, by simp [e], rfl⟩
            have fin : ∀ {v : Value}, (Instr.sliceAt T (a.eval x) (lo.map a.eval) (hi.map a.eval) (Option.map a.eval none)).run P w = .ok v w → (execOp a.eval ⟨some d, .slice T x lo hi none, ty, pos, after, g⟩).run P w = .ok (.value v) w := fun h => exec_value (e := Instr.sliceAt T (a.eval x) (lo.map a.eval) (hi.map a.eval) (Option.map a.eval none)) rfl h
            obtain ⟨el, ie, b1, b2, b3, _⟩ := (hT T).sl hk.1
            obtain ⟨c1, c2, _, _⟩ := cutB_ok hb
            rw [cutL_eq]
            rcases hm.obj id _ hid with ⟨o1, o2⟩ | ⟨g0, cur, e', o1, o2, o3, o4, o5, o6⟩
            · subst o2
              simp only [List.length_nil] at c1 c2 hb
              have hv' : a.eval x = .slice none 0 0 := by rw [hv, Pl.hdr, o1]
              have e1 : hiN 0 rb = 0 := by omega
              have e2 : loN ra = 0 := by omega
              have hR := hm.moveNil hd hid o1
              have el : (([] : List t.den).take (hiN ([] : List t.den).length rb)).drop (loN ra) = [] := by simp
              rw [el]
              refine ⟨.slice none 0 0, w, _, .inl (fin ?_), hR, by simp [VR, tlook, updP, Pl.hdr]⟩
              have := run_slice_sl (P := P) (w := w) b1 b2 (p := none) (n := 0) (Nat.le_refl 0) (opt h1) (opt h2) hb
              rw [hv']
              simp only [e1, e2, Option.map_none, Nat.sub_self] at this
              simpa using this
            · have hv' : a.eval x = .slice (some ⟨g0, (π id).q, none⟩) l.length (π id).cap := by rw [hv, Pl.hdr, o1]
              have hrun := run_slice_sl (P := P) (w := w) b1 b2 (p := some ⟨g0, (π id).q, none⟩) (n := l.length) o3 (opt h1) (opt h2) hb
              by_cases hc : (π id).cap = loN ra
              · refine ⟨_, w, _, .inl (fin (by rw [hv']; exact hrun)), hm.moveRow (q' := (π id).q) hd hid o1 c1 c2 (fun h => absurd hc h) (fun _ => rfl), ?_⟩
                have hlen : ((l.take (hiN l.length rb)).drop (loN ra)).length = hiN l.length rb - loN ra := by simp; omega
                simp only [VR, List.cons_append, List.nil_append, tlook, if_true, updP, Pl.hdr, hlen, if_pos hc]
              · refine ⟨_, w, _, .inl (fin (by rw [hv']; exact hrun)), hm.moveRow (q' := (π id).q + loN ra * t.size) hd hid o1 c1 c2 (fun _ => rfl) (fun h => absurd h hc), ?_⟩
                have hlen : ((l.take (hiN l.length rb)).drop (loN ra)).length = hiN l.length rb - loN ra := by simp; omega
                simp only [VR, List.cons_append, List.nil_append, tlook, if_true, updP, Pl.hdr, hlen, if_neg hc, Option.map_some, b3, hk.2, add_lit]
          · cases h
        · cases h
      · cases h
    · cases h
  · cases h

theorem tfzApp_ok (hT : TOK P E.TI) {o : Oper} {e : Eff} (h : tfzApp E s.ev (tlook s.ob) o.dst o.op = some e) (hb : e.b = true) (hm : RelM c F π s a w) : EffOk P c F s π a w o e := by
  obtain ⟨dst, op, ty, pos, after, g⟩ := o
  simp only at h
  cases op with
  | call cl =>
    simp only [tfzApp] at h
    obtain ⟨callee, args, ats⟩ := cl
    simp only at h
    split at h
    · rename_i d x y T T' hxs hts
      split at h
      · rename_i heq
        simp only [Bool.and_eq_true, decide_eq_true_eq] at heq
        obtain ⟨_, rfl⟩ := heq
        have ha : args = #[x, y] := by apply Array.ext'; simpa using hxs
        have ht : ats = #[T, T] := by apply Array.ext'; simpa using hts
        subst ha; subst ht
        have hexec : ∀ {v : Value} {w' : World}, (Builtin.append_ #[T, T] ty #[a.eval x, a.eval y]).run P w = .ok v w' → (execOp a.eval ⟨some d, .call { callee := .builtin .append, args := #[x, y], argTypes := #[T, T] }, ty, pos, after, g⟩).run P w = .ok (.value v) w' := fun h =>
          exec_value (e := Builtin.append_ #[T, T] ty #[a.eval x, a.eval y]) (by rw [BigFrame.execOp_builtin, BigFrame.builtin_append]; simp) h
        have hvx := hm.ev x
        have hvy := hm.ev y
        split at h
        · cases h
        · rename_i hd
          split at h
          · rename_i t l hx
            rw [hx] at hvx
            split at h
            · rename_i t' m hy
              split at h
              · rename_i e2
                subst e2
                split at h
                · rename_i hk
                  simp only [Bool.and_eq_true, beq_iff_eq] at hk
                  obtain rfl := Option.some.inj h
                  obtain ⟨ds, p, c0, h2, e2, f2⟩ := src_ok (P := P) hm hy hvy
                  obtain ⟨cs, q, cap, h1, e1, f1⟩ := src_ok (P := P) (t := t') (l := l) hm (x := .dv (.csl t') l) rfl hvx
                  have hcc := (DT.val_one (t := .csl t') rfl).1 hvx
                  have hcap : cap = l.length := by
                    obtain ⟨p', cap', e3, _, _, _, e4, _⟩ := id hcc
                    rw [e1] at e3
                    simp only [Value.slice.injEq] at e3
                    rw [e3.2.2]; exact e4
                  obtain ⟨e, ie, b1, b2, b3, b4, b5, b6, b7, b8⟩ := (hT T).sl hk.1
                  have hsz := b3.trans hk.2
                  by_cases hn : m.length = 0
                  · have hm0 : m = [] := List.eq_nil_of_length_eq_zero hn
                    subst hm0
                    have f2' := f2 w fun _ _ _ => rfl
                    rw [← hsz, e2] at f2'
                    have hds : ds = [] := List.eq_nil_of_length_eq_zero (by rw [h2.len]; simp)
                    subst hds
                    simp only [List.length_nil] at f2' e2
                    refine ⟨a.eval x, w, _, .inl (hexec ?_), hm.addFrz hd t' (l ++ []), ?_⟩
                    · rw [e1, e2, hcap]
                      cases q with
                      | none =>
                        obtain ⟨p', cap', e3, _, _, e5, _, _⟩ := id hcc
                        rw [e1] at e3
                        simp only [Value.slice.injEq] at e3
                        obtain ⟨rfl, _, rfl⟩ := e3
                        have := e5 rfl
                        simp [Builtin.append_, run_underlying b1, sizeOf, typeInfo, b2, Builtin.lenOf, f2']
                      | some q => simp [Builtin.append_, run_underlying b1, sizeOf, typeInfo, b2, Builtin.lenOf, f2', storeCells]
                    · simp only [VR, List.singleton_append, tlook, if_true]
                      rw [List.append_nil]
                      have hz : FzTo w (Gz F w π (tlook s.ob)) w (Gz F w (updP π d ⟨none, 0, 0⟩) (tlook ((d, .frz t' l) :: s.ob))) := (Evo.new (F := F) (π := π) (p := ⟨none, 0, 0⟩) (o := .frz t' l) (Below.refl _ w) hd fun g hg => by cases hg).fz
                      exact DT.cell_mono (t := .sl t') (x := l) (j := 0) hz (SlP.weak hcc)
                  · have f1' := f1 w.drew fun _ _ _ => rfl
                    have f2' := f2 w.drew fun _ _ _ => rfl
                    rw [e2] at f2'
                    rw [e1] at f1'
                    obtain ⟨⟨v', w', π', g1, g2, g3⟩⟩ := app_grow (P := P) (ty := ty) hT hk.1 hk.2 hb hm hd h1 h2 f1' f2' (by omega)
                    have hlk : tlook ((d, .row t' (l ++ m)) :: s.ob) d = some (.row t' (l ++ m)) := by rw [tlook_cons, if_pos rfl]
                    have g4 := g2.freeze hlk
                    have hset : tlook ((d, .frz t' (l ++ m)) :: (d, .row t' (l ++ m)) :: s.ob) = tlook ((d, .frz t' (l ++ m)) :: s.ob) := by
                      funext i
                      simp only [tlook_cons]
                      split <;> rfl
                    refine ⟨v', w', π', .inl (hexec (by rw [e1, e2]; exact g1)), g4.same rfl hset.symm, ?_⟩
                    have hor := g2.obj d _ hlk
                    have hz : FzTo w' (Gz F w' π' (tlook ((d, .row t' (l ++ m)) :: s.ob))) w' (Gz F w' π' (tlook ((d, .frz t' (l ++ m)) :: s.ob))) := fun b ⟨r0, r1, r2⟩ => ⟨⟨r0, r1, fun i ⟨q1, o', q2, q3⟩ => by
                      rw [tlook_cons] at q2
                      by_cases e : i = d
                      · rw [if_pos e] at q2; obtain rfl := Option.some.inj q2; simp [TO.live] at q3
                      · rw [if_neg e] at q2; exact r2 i ⟨q1, o', by rw [tlook_cons, if_neg e]; exact q2, q3⟩⟩, rfl⟩
                    simp only [VR, List.singleton_append, tlook, if_true]
                    rw [g3]
                    exact hor.row_slice hz fun g hg => ⟨g2.hF g (g2.new d g ⟨hg, _, hlk, rfl⟩).1, (g2.new d g ⟨hg, _, hlk, rfl⟩).2, fun i ⟨q1, o', q2', q3⟩ => by
                      have q2 : tlook ((d, .frz t' (l ++ m)) :: s.ob) i = some o' := q2'
                      rw [tlook_cons] at q2
                      by_cases e : i = d
                      · rw [if_pos e] at q2; obtain rfl := Option.some.inj q2; simp [TO.live] at q3
                      · rw [if_neg e] at q2
                        exact e (g2.inj i d g ⟨q1, o', by rw [tlook_cons, if_neg e]; exact q2, q3⟩ ⟨hg, _, hlk, rfl⟩)⟩
                · cases h
              · cases h
            · cases h
          · cases h
      · cases h
    · cases h
  | slice T x lo hi mx => exact tmv_ok hT h hb hm
  | box T x =>
    simp only [tfzApp] at h
    split at h
    · rename_i d
      split at h
      · split at h
        · rename_i y b hx
          split at h
          · rename_i hpl
            obtain rfl := Option.some.inj h
            obtain ⟨v1, v2⟩ := DT.val_cells hpl (TV.as_ok hx hb hpl (hm.ev x))
            have hB : Below w.heap.size w (w.alloc (.cells (a.eval x).cells T)) := (Below.refl _ _).alloc (Nat.le_refl _) _
            have hR := hm.later hB
            have E0 := Evo.later (F := F) (π := π) (O := tlook s.ob) hB
            have hlt : w.heap.size < (w.alloc (.cells (a.eval x).cells T)).heap.size := (Array.getElem?_eq_some_iff.1 (heap_new w _)).1
            have hno : ∀ id, ¬ Own π (tlook s.ob) id w.heap.size := fun id hid => by have := (hm.new id _ hid).2; omega
            have hF : F w.heap.size := hm.hF _ fun hb' => by have := hm.kept.lt hb'; omega
            refine ⟨.pointer (some ⟨w.heap.size, 0, none⟩), _, π, .inl ?_, hR, (DT.val_one (t := .fp (E.TY T)) rfl).2 ⟨w.heap.size, 0, rfl, ⟨hF, hlt, hno⟩, fun cc hcc => ?_⟩⟩
            · refine exec_value (e := Instr.box T (a.eval x)) rfl ?_
              simp [Instr.box, newVar, newRow]
            · obtain ⟨u, a1, a2, a3⟩ := v2 cc hcc
              exact ⟨u, by rw [cell_at (heap_new w _), Nat.zero_add]; exact a1, a2, DT.cell_mono E0.fz a3⟩
          · cases h
        · cases h
      · cases h
    · cases h
  | assign x =>
    simp only [tfzApp] at h
    split at h
    · rename_i t hrc
      split at h
      · rename_i y b hx
        split at h
        · rename_i hpl
          obtain rfl := Option.some.inj h
          have hv := hm.ev x
          have hval : t.val y w (Gz F w π (tlook s.ob)) (a.eval x) := by
            unfold TV.asC at hx
            split at hx
            · rename_i u z hx'
              rw [hx'] at hv
              exact TV.as_ok (L := fun _ => none) (π := π) hx hb hpl hv
            · rename_i hx'
              rw [hx'] at hv
              exact TV.as_ok (L := fun _ => none) (π := π) hx hb hpl hv
            · cases hx
          exact ⟨a.eval x, w, π, .inl rfl, hm, hval⟩
        · cases h
      · cases h
    · cases h
  | _ => simp [tfzApp] at h

/-- An operation that is no call of a function. -/
theorem effN_ok (hT : TOK P E.TI) {o : Oper} {e : Eff} (h : effN E o s.ev (tlook s.ob) = some e) (hb : e.b = true) (hm : RelM c F π s a w) : EffOk P c F s π a w o e := by
  unfold effN at h
  split at h
  · rename_i e' he
    obtain rfl := Option.some.inj h
    exact tst_ok hT he hb hm
  have hm1 := hm.frzU (needs s.ev (tlook s.ob) o.op)
  generalize frzU (tlook s.ob) (needs s.ev (tlook s.ob) o.op) = U0 at h hm1
  simp only [← tlook_append] at h
  have pure : ∀ {y : TV} {b : Bool}, (∃ v, (execOp a.eval o).run P w = .ok (.value v) w ∧ VR w (Gz F w π (tlook (U0 ++ s.ob))) π (tlook (U0 ++ s.ob)) y v) → EffOk P c F s π a w o ⟨y, U0, b⟩ := fun ⟨v, h1, h2⟩ => ⟨v, w, π, .inl h1, hm1, h2⟩
  have lift : ∀ {e' : Eff}, EffOk P c F ⟨s.sl, U0 ++ s.ob⟩ π a w o e' → EffOk P c F s π a w o ⟨e'.y, e'.u ++ U0, e'.b⟩ := fun ⟨v, w', π', h1, h2, h3⟩ => by
    refine ⟨v, w', π', h1, ?_, ?_⟩
    · simp only [List.append_assoc]; exact h2
    · simp only [List.append_assoc]; exact h3
  split at h
  · rename_i e' he
    obtain rfl := Option.some.inj h
    exact lift (tfzApp_ok (s := ⟨s.sl, U0 ++ s.ob⟩) hT he hb hm1)
  split at h
  · rename_i y b hv
    obtain rfl := Option.some.inj h
    exact pure (tval_ok (s := ⟨s.sl, U0 ++ s.ob⟩) hT hv hb hm1)
  split at h
  · rename_i y b hv
    obtain rfl := Option.some.inj h
    exact pure (tmore_ok (s := ⟨s.sl, U0 ++ s.ob⟩) hT hv hb hm1)
  split at h
  · rename_i e' he
    obtain rfl := Option.some.inj h
    refine lift ?_
    obtain ⟨dst, op, ty, pos, after, g⟩ := o
    simp only at he
    cases op with
    | alloc T => exact alloc_ok (s := ⟨s.sl, U0 ++ s.ob⟩) hT he hm1
    | box T x => exact box_ok (s := ⟨s.sl, U0 ++ s.ob⟩) hT he hb hm1
    | buildSlice T n parts => exact buildSlice_ok (s := ⟨s.sl, U0 ++ s.ob⟩) hT he hb hm1
    | makeSlice T x y => exact makeSlice_ok (s := ⟨s.sl, U0 ++ s.ob⟩) hT he hb hm1
    | build T parts => exact build_ok (s := ⟨s.sl, U0 ++ s.ob⟩) hT he hb hm1
    | store T p y => exact store_ok (s := ⟨s.sl, U0 ++ s.ob⟩) hT he hb hm1
    | call cl => exact append_ok (s := ⟨s.sl, U0 ++ s.ob⟩) hT he hb hm1
    | _ => simp [tobj] at he
  split at h
  · rename_i e' he
    obtain rfl := Option.some.inj h
    exact lift (tmap_ok (s := ⟨s.sl, U0 ++ s.ob⟩) hT he hb hm1)
  · cases h

theorem EffOk.opW {o : Oper} {e : Eff} (h : ∀ π a w, RelM c F π s a w → EffOk P c F s π a w o e) : OpW P c F o (fun s' => s' = s.app o.dst e) s := by
  refine OpW.of (s' := s.app o.dst e) (fun a w ⟨π, hm⟩ => ?_) rfl
  obtain ⟨v, w', π', h1, h2, h3⟩ := h π a w hm
  refine ⟨v, w', h1, π', ?_⟩
  have := h2.put o.dst h3
  cases hd : o.dst with
  | none => rw [hd] at this; simp only [TS.app, TS.put]; exact this
  | some d => rw [hd] at this; simp only [TS.app, TS.put]; exact this

end
end Go.Proofs.YtbjfbbfglkmadaaDoor
