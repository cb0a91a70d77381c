/-
 Lifting Go functions to plain Lean functions, parts N O P Pa Pz Pb Q R S0 S1.
-/
import Derived.Test.YtmpbbkldopfkpaaDoorYB
namespace Go.Proofs.YtmpbbkldopfkpaaDoor
open Go.RowKit
set_option linter.unusedVariables false

section
def frzU (L : Obs) (ids : List Nat) : List (Nat × TO) := ids.filterMap fun id => match L id with
 | some (.row t l) => some (id, .frz t l)
 | _ => none
def ovr (U : List (Nat × TO)) (L : Obs) : Obs := fun i => match tlook U i with
 | some o => some o
 | none => L i
theorem tlook_append (U O : List (Nat × TO)) : tlook (U ++ O) = ovr U (tlook O) := by
 funext i
 induction U with
 | nil => rfl
 | cons p r ih =>
  obtain ⟨j, o⟩ := p
  simp only [List.cons_append, ovr, tlook]
  by_cases h : i = j
  ·rw [if_pos h, if_pos h]
  ·rw [if_neg h, if_neg h]; exact ih
theorem frzU_look {L : Obs} : ∀ {ids : List Nat} {i : Nat} {o : TO}, tlook (frzU L ids) i = some o → ∃ t l, L i = some (.row t l) ∧ o = .frz t l
 | [], i, o, h => by cases h
 | id :: r, i, o, h => by
  simp only [frzU, List.filterMap_cons] at h
  split at h
  ·exact frzU_look (ids := r) h
  ·rename_i p hp
   split at hp
   ·rename_i t l hl
    obtain rfl := Option.some.inj hp
    rw [tlook_cons] at h
    by_cases e : i = id
    ·rw [if_pos e] at h; subst e; exact ⟨t, l, hl, (Option.some.inj h).symm⟩
    ·rw [if_neg e] at h; exact frzU_look (ids := r) h
   ·cases hp
theorem RelM.frzU {c : Cx} {F : Nat → Prop} {s : TS} {π : Nat → Pl} {a : Act} {w : World} (h : RelM c F π s a w) : ∀ ids : List Nat, RelM c F π ⟨s.sl, Go.Proofs.YtmpbbkldopfkpaaDoor.frzU (tlook s.ob) ids ++ s.ob⟩ a w
 | [] => h
 | id :: r => by
  have ih := RelM.frzU h r
  simp only [Go.Proofs.YtmpbbkldopfkpaaDoor.frzU, List.filterMap_cons]
  split
  ·exact ih
  ·rename_i p hp
   split at hp
   ·rename_i t l hl
    obtain rfl := Option.some.inj hp
    have hlk : tlook (Go.Proofs.YtmpbbkldopfkpaaDoor.frzU (tlook s.ob) r ++ s.ob) id = match tlook (Go.Proofs.YtmpbbkldopfkpaaDoor.frzU (tlook s.ob) r) id with | some o => some o | none => tlook s.ob id := by rw [tlook_append]; rfl
    cases hq : tlook (Go.Proofs.YtmpbbkldopfkpaaDoor.frzU (tlook s.ob) r) id with
    | none =>
     rw [hq] at hlk
     simp only at hlk
     rw [hl] at hlk
     exact ih.freeze hlk
    | some o =>
     rw [hq] at hlk
     simp only at hlk
     obtain ⟨t', l', h1, rfl⟩ := frzU_look hq
     rw [hl] at h1
     simp only [Option.some.injEq, TO.row.injEq] at h1
     obtain ⟨rfl, h1⟩ := h1
     obtain rfl := eq_of_heq h1
     refine ih.same rfl ?_
     funext i
     show tlook ((id, .frz t l) :: (Go.Proofs.YtmpbbkldopfkpaaDoor.frzU (tlook s.ob) r ++ s.ob)) i = _
     rw [tlook_cons]
     by_cases e : i = id
     ·rw [if_pos e, e]; exact hlk.symm
     ·rw [if_neg e]
   ·cases hp
def TV.rowId : TV → List Nat
 | .row id => [id]
 | .vrow id _ _ => [id]
 | _ => []
def needs (ev : Operand → TV) (L : Obs) : Op → List Nat
 | .buildSlice _ _ parts => parts.toList.flatMap fun p => (ev p.2).rowId
 | .build _ parts => parts.toList.flatMap fun p => (ev p.2).rowId
 | .store _ p y => match ev p with
  | .ptr id _ q => match L id, q with
   | some (.rcd fs), [j] => if (fs.getD j .any).isSl then (ev y).rowId else []
   | _, _ => (ev y).rowId
  | _ => []
 | .load _ p => match ev p with
  | .ptr id _ [] => match L id with
   | some (.rcd fs) => fs.flatMap TV.rowId
   | _ => []
  | _ => []
 | .mapUpdate _ _ k y => (ev k).rowId ++ (ev y).rowId
 | .insert _ _ k y => (ev k).rowId ++ (ev y).rowId
 | _ => []
inductive Md where
 | obj
 | lend (t : DT)
 | own (t : DT)
structure Env where
 TI : Nat → TD
 TY : Nat → DT
 rc : Nat → Option (List (Option DT))
 fz : Nat → Bool
 tw : Nat → Option Nat
 sig : Nat → List TV → Option (List Md)
 phi : {α : Type} → Nat → List TV → List (Nat × TO) → (TV → List (Nat × TO) → Option α) → Option α
 seq : TV → Option (Bool × ((t : DT) × List t.den))
def chk {α : Type} (b : Bool) (r : Option α) : Option α := cond b r none
def tmv (E : Env) (ev : Operand → TV) (L : Obs) (dst : Option Nat) (T : Nat) (x : Operand) (lo hi mx : Option Operand) : Option Eff :=
 match dst, mx with
 | some d, none => if E.fz d then (match L d, ev x, ixOf ev lo, ixOf ev hi with
  | none, .row id, some a, some b => match L id with
   | some (.row t l) => if (E.TI T).kd == 2 && (E.TI T).elem == t.size then some ⟨.row d, [(d, .row t (cutL l a b)), (id, .dead)], cutB l.length a b⟩ else none
   | _ => none
  | _, _, _, _ => none) else none
 | _, _ => none
def TV.asC (x : TV) (t : DT) : Option (t.den × Bool) :=
 match x with
 | .dv u z => (TV.dv u z).as (fun _ => none) t
 | .nl => TV.nl.as (fun _ => none) t
 | _ => none
def tfzApp (E : Env) (ev : Operand → TV) (L : Obs) (dst : Option Nat) : Op → Option Eff
 | .call c => match c.callee, dst, c.args.toList, c.argTypes.toList with
  | .builtin .append, some d, [x, y], [T, T'] => if E.fz d && decide (T = T') then (match L d with
   | some _ => none
   | none => match ev x with
    | .dv (.csl t) l => match (ev y).data L with
     | some ⟨t', m⟩ => if h : t' = t then (if (E.TI T).kd == 2 && (E.TI T).elem == t.size then
       some ⟨.row d, [(d, .frz t (l ++ h ▸ m))], small (l.length + m.length) (E.TI T).eb⟩ else none) else none
     | none => none
    | _ => none) else none
  | _, _, _, _ => none
 | .slice T x lo hi mx => tmv E ev L dst T x lo hi mx
 | .box T x => match dst with
  | some d => if E.fz d then (match (ev x).as L (E.TY T) with
   | some (y, b) => if (E.TY T).plain then some ⟨.dv (.fp (E.TY T)) (some y), [], b⟩ else none
   | none => none) else none
  | none => none
 | .assign x => match dst.bind E.rc with
  | some [some t] => match TV.asC (ev x) t with
   | some (y, b) => if t.plain then some ⟨.dv t y, [], b⟩ else none
   | none => none
  | _ => none
 | _ => none
def effN (E : Env) (o : Oper) (ev : Operand → TV) (L : Obs) : Option Eff :=
 match tst E.TI E.TY E.rc ev L o.dst o.op with
 | some e => some e
 | none =>
 let U0 := frzU L (needs ev L o.op)
 let L1 := ovr U0 L
 match tfzApp E ev L1 o.dst o.op with
 | some e => some ⟨e.y, e.u ++ U0, e.b⟩
 | none => match tval E.TI ev L1 o.op with
  | some (y, b) => some ⟨y, U0, b⟩
  | none => match tmore E.TI E.TY ev L1 o.op with
   | some (y, b) => some ⟨y, U0, b⟩
   | none => match tobj E.TI E.TY E.rc ev L1 o.dst o.op with
    | some e => some ⟨e.y, e.u ++ U0, e.b⟩
    | none => match tmap E.TI ev L1 o.dst o.op with
     | some e => some ⟨e.y, e.u ++ U0, e.b⟩
     | none => match tstr E.TI ev L1 o.dst o.op with
      | some e => some ⟨e.y, e.u ++ U0, e.b⟩
      | none => none
def TV.ids : TV → List Nat
 | .row id => [id]
 | .vrow id _ _ => [id]
 | .ptr id _ _ => [id]
 | .view id _ _ _ _ _ _ => [id]
 | .fn _ k n f => (List.range (k + n)).flatMap fun j => (f j).ids
 | .tup n f => (List.range n).flatMap fun j => (f j).ids
 | .st n f => (List.range n).flatMap fun j => (f j).ids
 | _ => []
def TO.ids : TO → List Nat
 | .rcd fs => fs.flatMap TV.ids
 | _ => []
def TV.withinB (R : List Nat) (x : TV) : Bool := x.ids.all fun i => R.contains i
def TO.withinB (R : List Nat) (x : TO) : Bool := x.ids.all fun i => R.contains i
def TV.scB : TV → Bool
 | .dv t _ => t.noSl
 | .el _ _ _ => false
 | .fn _ k n f => (List.range (k + n)).all fun j => (f j).scB
 | .tup n f => (List.range n).all fun j => (f j).scB
 | .st n f => (List.range n).all fun j => (f j).scB
 | _ => true
def TO.scB : TO → Bool
 | .row t _ => t.noSl
 | .rcd fs => fs.all TV.scB
 | .map kt vt _ => kt.noSl && vt.noSl
 | .frz _ _ => false
 | .fmp _ _ _ => false
 | .iter _ _ _ _ => false
 | .sit _ => true
 | .dead => true
def reachF : Nat → Obs → List Nat → List Nat → List Nat
 | 0, _, _, acc => acc
 | n + 1, L, [], acc => acc
 | n + 1, L, id :: todo, acc => if acc.contains id then reachF n L todo acc else match L id with
  | some o => reachF n L (todo ++ o.ids) (acc ++ [id])
  | none => reachF n L todo acc
def idx : List Nat → Nat → Nat
 | [], _ => 0
 | x :: r, i => if i = x then 0 else idx r i + 1
def tauR (R : List Nat) (i : Nat) : Nat := 9000 + idx R i
def rhoR (R : List Nat) (d : Nat) (j : Nat) : Nat := if 9000 ≤ j ∧ j < 9000 + R.length then R.getD (j - 9000) 0 else 1000000 + 10000 * d + j
def TV.lend (L : Obs) : TV → Option ((Σ t : DT, List t.den) × Bool)
 | .view id i p k n a b => match L id with
  | some o => match o.part i p with
   | some ⟨.arr m u, l⟩ => if k == u.size && o.live && n == m then some (⟨u, (l.take b).drop a⟩, decide (b ≤ l.length)) else none
   | _ => none
  | none => none
 | x => (x.data L).map fun y => (y, true)
def lendAs (L : Obs) (x : TV) : (t : DT) → Option (t.den × Bool)
 | .sl u => match x.lend L with
  | some (⟨v, l⟩, b) => if h : v = u then some (h ▸ l, b) else none
  | none => x.as L (.sl u)
 | t => x.as L t
def cvt (L : Obs) : List Md → List TV → Option (List TV × Bool)
 | [], [] => some ([], true)
 | m :: ms, x :: xs => match cvt L ms xs with
  | some (l, b) => match m with
   | .obj => some (x :: l, b)
   | .lend t => match lendAs L x t with
    | some (y, b') => if t.plain then some (.dv t y :: l, b' && b) else none
    | none => none
   | .own t => match x.as L t with
    | some (y, b') => if t.plain then some (.dv t y :: l, b' && b) else none
    | none => none
  | none => none
 | _, _ => none
def ownIds : List Md → List TV → List Nat
 | .own _ :: ms, x :: xs => x.rowId ++ ownIds ms xs
 | _ :: ms, _ :: xs => ownIds ms xs
 | _, _ => []
def objIds : List Md → List TV → List Nat
 | .obj :: ms, x :: xs => x.ids ++ objIds ms xs
 | _ :: ms, _ :: xs => objIds ms xs
 | _, _ => []
def lentIds (L : Obs) : List Md → List TV → List Nat
 | .lend _ :: ms, x :: xs => (x.ids.filter fun i => match L i with | some o => o.live | none => false) ++ lentIds L ms xs
 | _ :: ms, _ :: xs => lentIds L ms xs
 | _, _ => []
def nodupB : List Nat → Bool
 | [] => true
 | x :: r => !r.contains x && nodupB r
def TO.isDead : TO → Bool
 | .dead => true
 | _ => false
variable {α : Type}

def callE (E : Env) (d g : Nat) (xs : List TV) (L : Obs) (k : Eff → Option α) : Option α :=
 match E.sig g xs with
 | some mds =>
  let U0 := frzU L (ownIds mds xs)
  let L1 := ovr U0 L
  match cvt L1 mds xs with
  | some (as, b) =>
   let R := reachF 60 L1 (objIds mds xs) []
   let ln := lentIds L1 mds xs
   if R.all (fun i => match L1 i with | some o => o.live && o.withinB R | none => false) && (objIds mds xs).all (fun i => R.contains i) && ln.all (fun i => !R.contains i) && nodupB R then
    chk b (E.phi g (as.map (TV.ren (tauR R))) (R.map fun i => (tauR R i, ((L1 i).getD .dead).ren (tauR R))) fun r O' =>
     if nodupB (O'.map fun p => rhoR R d p.1) && O'.all (fun p => if 9000 ≤ p.1 ∧ p.1 < 9000 + R.length then p.2.live || p.2.isDead else (L1 (rhoR R d p.1)).isNone) && (ln.isEmpty || (r.scB && O'.all fun p => p.2.scB)) then
      k ⟨r.ren (rhoR R d), renO (rhoR R d) O' ++ U0, true⟩ else none)
   else none
  | none => none
 | none => none
def fnArgs (k n : Nat) (f : Nat → TV) (xs : List TV) : List TV := ((List.range k).map f) ++ xs ++ ((List.range n).map fun j => f (k + j))
def ifElim {A B : Type} (y : A ⊕ B) (f : A → Option α) (g : B → Option α) : Option α :=
 match y with
 | .inl a => f a
 | .inr b => g b
def ivkE (E : Env) (d : Nat) (name : String) (xs : List TV) (L : Obs) (k : Eff → Option α) : (s : DT) → s.den → Option α
 | .ifc T t r, y => ifElim y
   (fun a => if t.agg then none else match (E.TI T).mth.lookup name with
    | some g => callE E d g (.dv t a :: xs) L k
    | none => none)
   (fun b => ivkE E d name xs L k r b)
 | _, _ => none
def sitK (l : List (Int × Int)) (x0 : Option α) (f : Int × Int → List (Int × Int) → Option α) : Option α :=
 match l with
 | [] => x0
 | p :: r => f p r
def eff (E : Env) (o : Oper) (ev : Operand → TV) (L : Obs) (k : Eff → Option α) : Option α :=
 match effN E o ev L with
 | some e => chk e.b (k e)
 | none => match o.op with
  | .pick c x y => match ev c with
   | .dv .bool t => cond t (k ⟨ev x, [], true⟩) (k ⟨ev y, [], true⟩)
   | _ => none
  | .next x true => match ev x with
   | .row id => match L id with
    | some (.sit l) => sitK l (k ⟨.tup 1 fun i => ([.dv .bool false] : List TV).getD i .any, [], true⟩) fun p r =>
      k ⟨.tup 3 fun i => ([.dv .bool true, .dv (.int .i64) p.1, .dv (.int .i32) p.2] : List TV).getD i .any, [(id, .sit r)], true⟩
    | _ => none
   | _ => none
  | .call c => match c.callee with
   | .value x => match ev x with
    | .fn g k' n f => callE E (o.dst.getD 0) g (fnArgs k' n f (c.args.toList.map ev)) L k
    | _ => none
   | .invoke x name => match ev x with
    | .dv u y => ivkE E (o.dst.getD 0) name (c.args.toList.map ev) L k u y
    | _ => none
   | _ => none
  | _ => none
def TS.app (s : TS) (d : Option Nat) (e : Eff) : TS := ⟨(s.put d e.y).sl, e.u ++ s.ob⟩
def EnvOk (P : Program) (E : Env) : Prop := ∀ (g : Nat) (args : List TV) (Of : List (Nat × TO)) (α : Type) (k : TV → List (Nat × TO) → Option α) (res : α), E.phi g args Of k = some res →
 ∃ r O', k r O' = some res ∧ (∀ (β : Type) (k' : TV → List (Nat × TO) → Option β), E.phi g args Of k' = k' r O') ∧ HSpec P g args Of fun r' O'' => r' = r ∧ O'' = O'
theorem chk_some {b : Bool} {x : Option α} {r : α} (h : chk b x = some r) : b = true ∧ x = some r := by
 cases b with
 | true => exact ⟨rfl, h⟩
 | false => cases h
section
variable {P : Program} {E : Env} {c : Cx} {F : Nat → Prop} {s : TS} {π : Nat → Pl} {a : Act} {w : World}

theorem RelM.addFrz (hm : RelM c F π s a w) {d : Nat} (hd : tlook s.ob d = none) (t : DT) (l : List t.den) : RelM c F (updP π d ⟨none, 0, 0⟩) ⟨s.sl, (d, .frz t l) :: s.ob⟩ a w :=
 hm.newOb (Below.refl _ _) hd (fun g hg => by cases hg) trivial
theorem RelM.moveRow (hm : RelM c F π s a w) {d id : Nat} {t : DT} {l : List t.den} (hd : tlook s.ob d = none) (hid : tlook s.ob id = some (.row t l)) {g : Nat} (o1 : (π id).g = some g) {lo hi q' : Nat} (h1 : lo ≤ hi) (h2 : hi ≤ l.length)
  (hq : (π id).cap ≠ lo → q' = (π id).q + lo * t.size) (hq0 : (π id).cap = lo → q' = (π id).q) :
  RelM c F (updP π d ⟨some g, q', (π id).cap - lo⟩) ⟨s.sl, (d, .row t ((l.take hi).drop lo)) :: (id, .dead) :: s.ob⟩ a w := by
 have hne : d ≠ id := fun e => by subst e; rw [hd] at hid; cases hid
 have hor := hm.obj id _ hid
 simp only [OR] at hor
 rcases hor with ⟨o1', _⟩ | ⟨g', cur, e', o1', o2, o3, o4, o5, o6⟩
 ·rw [o1] at o1'; cases o1'
 rw [o1] at o1'; obtain rfl := Option.some.inj o1'
 have hown : Own π (tlook s.ob) id g := ⟨o1, _, hid, rfl⟩
 have own : ∀ i b, Own (updP π d ⟨some g, q', (π id).cap - lo⟩) (tlook ((d, .row t ((l.take hi).drop lo)) :: (id, .dead) :: s.ob)) i b → (i = d ∧ b = g) ∨ (i ≠ d ∧ i ≠ id ∧ Own π (tlook s.ob) i b) := fun i b ⟨r1, o', r2, r3⟩ => by
  rw [tlook_cons, tlook_cons] at r2
  by_cases e1 : i = d
  ·subst e1
   simp only [updP, if_true, Option.some.injEq] at r1
   exact .inl ⟨rfl, r1.symm⟩
  ·rw [if_neg e1] at r2
   simp only [updP, if_neg e1] at r1
   by_cases e2 : i = id
   ·rw [if_pos e2] at r2; obtain rfl := Option.some.inj r2; simp [TO.live] at r3
   ·rw [if_neg e2] at r2; exact .inr ⟨e1, e2, r1, o', r2, r3⟩
 have E : Evo w (Gz F w π (tlook s.ob)) π (tlook s.ob) w (Gz F w (updP π d ⟨some g, q', (π id).cap - lo⟩) (tlook ((d, .row t ((l.take hi).drop lo)) :: (id, .dead) :: s.ob))) (updP π d ⟨some g, q', (π id).cap - lo⟩) (tlook ((d, .row t ((l.take hi).drop lo)) :: (id, .dead) :: s.ob)) := by
  refine ⟨fun b ⟨r0, r1, r2⟩ => ⟨⟨r0, r1, fun i hi => ?_⟩, rfl⟩, fun i o ho => ?_⟩
  ·rcases own i b hi with ⟨_, rfl⟩ | ⟨_, _, h⟩
   ·exact r2 id hown
   ·exact r2 i h
  ·have e1 : i ≠ d := fun e => by subst e; rw [hd] at ho; cases ho
   by_cases e2 : i = id
   ·exact ⟨.dead, by rw [tlook_cons, if_neg e1, tlook_cons, if_pos e2], by simp [Step]⟩
   ·exact ⟨o, by rw [tlook_cons, if_neg e1, tlook_cons, if_neg e2]; exact ho, by simp only [updP, if_neg e1]; exact Step.refl o⟩
 refine hm.go (hm.kept.on ⟨rfl, rfl, rfl⟩ (Nat.le_refl _) fun b hb => rfl) E (fun i o ho => ?_) (fun i j b hi hj => ?_) (fun i b hi => ?_)
 ·by_cases e1 : i = d
  ·rw [tlook_cons, if_pos e1] at ho
   obtain rfl := Option.some.inj ho
   subst e1
   have hlen : ((l.take hi).drop lo).length = hi - lo := by simp; omega
   refine .inr ⟨g, cur, e', by simp [updP], o2, by simp only [updP, if_true, hlen]; omega, by simp only [updP, if_true]; omega, ?_, fun j hj cc hcc => ?_⟩
   ·simp only [updP, if_true]
    by_cases hc : (π id).cap = lo
    ·rw [hq0 hc, hc, Nat.sub_self, Nat.zero_mul]
     have : (π id).q ≤ (π id).q + (π id).cap * t.size := Nat.le_add_right _ _
     omega
    ·rw [hq hc, Nat.add_assoc, ← Nat.add_mul, show lo + ((π id).cap - lo) = (π id).cap by omega]; exact o5
   ·rw [hlen] at hj
    simp only [updP, if_true]
    have hc : (π id).cap ≠ lo := by omega
    obtain ⟨u, r1, r2, r3⟩ := o6 (lo + j) (by omega) cc hcc
    refine ⟨u, ?_, r2, ?_⟩
    ·rw [hq hc, ← r1]
     congr 1
     rw [Nat.add_mul]; omega
    ·rw [getD_slice l lo hi j t.dflt h2 (by omega)]; exact DT.cell_mono E.fz r3
  ·rw [tlook_cons, if_neg e1, tlook_cons] at ho
   by_cases e2 : i = id
   ·rw [if_pos e2] at ho; obtain rfl := Option.some.inj ho; trivial
   ·rw [if_neg e2] at ho
    exact (hm.obj i o ho).evo E (by simp only [updP, if_neg e1]) fun b hb hl => rfl
 ·rcases own i b hi with ⟨r1, r2⟩ | ⟨r1, r2, r3⟩ <;> rcases own j b hj with ⟨r4, r5⟩ | ⟨r4, r5, r6⟩
  ·exact r1.trans r4.symm
  ·exact absurd (hm.inj j id g (r2 ▸ r6) hown) r5
  ·exact absurd (hm.inj i id g (r5 ▸ r3) hown) r2
  ·exact hm.inj i j b r3 r6
 ·rcases own i b hi with ⟨_, rfl⟩ | ⟨_, _, r3⟩
  ·exact hm.new id b hown
  ·exact hm.new i b r3
theorem RelM.moveNil (hm : RelM c F π s a w) {d id : Nat} {t : DT} (hd : tlook s.ob d = none) (hid : tlook s.ob id = some (.row t ([] : List t.den))) (o1 : (π id).g = none) :
  RelM c F (updP π d ⟨none, 0, 0⟩) ⟨s.sl, (d, .row t ([] : List t.den)) :: (id, .dead) :: s.ob⟩ a w := by
 have hne : d ≠ id := fun e => by subst e; rw [hd] at hid; cases hid
 have own : ∀ i b, Own (updP π d ⟨none, 0, 0⟩) (tlook ((d, .row t ([] : List t.den)) :: (id, .dead) :: s.ob)) i b → (i ≠ d ∧ i ≠ id ∧ Own π (tlook s.ob) i b) := fun i b ⟨r1, o', r2, r3⟩ => by
  rw [tlook_cons, tlook_cons] at r2
  by_cases e1 : i = d
  ·subst e1
   simp only [updP, if_true] at r1
   cases r1
  ·rw [if_neg e1] at r2
   simp only [updP, if_neg e1] at r1
   by_cases e2 : i = id
   ·rw [if_pos e2] at r2; obtain rfl := Option.some.inj r2; simp [TO.live] at r3
   ·rw [if_neg e2] at r2; exact ⟨e1, e2, r1, o', r2, r3⟩
 have E : Evo w (Gz F w π (tlook s.ob)) π (tlook s.ob) w (Gz F w (updP π d ⟨none, 0, 0⟩) (tlook ((d, .row t ([] : List t.den)) :: (id, .dead) :: s.ob))) (updP π d ⟨none, 0, 0⟩) (tlook ((d, .row t ([] : List t.den)) :: (id, .dead) :: s.ob)) := by
  refine ⟨fun b ⟨r0, r1, r2⟩ => ⟨⟨r0, r1, fun i hi => r2 i (own i b hi).2.2⟩, rfl⟩, fun i o ho => ?_⟩
  have e1 : i ≠ d := fun e => by subst e; rw [hd] at ho; cases ho
  by_cases e2 : i = id
  ·exact ⟨.dead, by rw [tlook_cons, if_neg e1, tlook_cons, if_pos e2], by simp [Step]⟩
  ·exact ⟨o, by rw [tlook_cons, if_neg e1, tlook_cons, if_neg e2]; exact ho, by simp only [updP, if_neg e1]; exact Step.refl o⟩
 refine hm.go (hm.kept.on ⟨rfl, rfl, rfl⟩ (Nat.le_refl _) fun b hb => rfl) E (fun i o ho => ?_) (fun i j b hi hj => hm.inj i j b (own i b hi).2.2 (own j b hj).2.2) (fun i b hi => hm.new i b (own i b hi).2.2)
 by_cases e1 : i = d
 ·rw [tlook_cons, if_pos e1] at ho
  obtain rfl := Option.some.inj ho
  exact .inl ⟨by simp [updP, e1], rfl⟩
 ·rw [tlook_cons, if_neg e1, tlook_cons] at ho
  by_cases e2 : i = id
  ·rw [if_pos e2] at ho; obtain rfl := Option.some.inj ho; trivial
  ·rw [if_neg e2] at ho
   exact (hm.obj i o ho).evo E (by simp only [updP, if_neg e1]) fun b hb hl => rfl
theorem tmv_ok (hT : TOK P E.TI) {T : Nat} {x : Operand} {lo hi mx : Option Operand} {dst : Option Nat} {ty : TypeId} {pos : String} {after : Array Edge} {g : Option (Nat × Bool)} {e : Eff} (h : tmv E s.ev (tlook s.ob) dst T x lo hi mx = some e) (hb : e.b = true) (hm : RelM c F π s a w) :
  EffOk P c F s π a w ⟨dst, .slice T x lo hi mx, ty, pos, after, g⟩ e := by
 unfold tmv at h
 split at h
 ·rename_i d
  split at h
  ·split at h
   ·rename_i id ra rb hd hx h1 h2
    split at h
    ·rename_i t l hid
     split at h
     ·rename_i hk
      simp only [Bool.and_eq_true, beq_iff_eq] at hk
      obtain rfl := Option.some.inj h
      have hb : cutB l.length ra rb = true := hb
      have hv := hm.ev x
      rw [hx] at hv
      simp only [VR, hid] at hv
      have opt : ∀ {o : Option Operand} {r : Option Int}, ixOf s.ev o = some r → (o.map a.eval = none ∧ r = none) ∨ ∃ k z, o.map a.eval = some (.int k z) ∧ r = some z := fun h => by
       rcases ixOf_ok hm h with ⟨rfl, rfl⟩ | ⟨x, k, z, rfl, rfl, e⟩
       ·exact .inl ⟨rfl, rfl⟩
       ·exact .inr ⟨k, z, by simp [e], rfl⟩
      have fin : ∀ {v : Value}, (Instr.sliceAt T (a.eval x) (lo.map a.eval) (hi.map a.eval) (Option.map a.eval none)).run P w = .ok v w → (execOp a.eval ⟨some d, .slice T x lo hi none, ty, pos, after, g⟩).run P w = .ok (.value v) w := fun h => exec_value (e := Instr.sliceAt T (a.eval x) (lo.map a.eval) (hi.map a.eval) (Option.map a.eval none)) rfl h
      obtain ⟨el, ie, b1, b2, b3, _⟩ := (hT T).sl hk.1
      obtain ⟨c1, c2, _, _⟩ := cutB_ok hb
      rw [cutL_eq]
      rcases hm.obj id _ hid with ⟨o1, o2⟩ | ⟨g0, cur, e', o1, o2, o3, o4, o5, o6⟩
      ·subst o2
       simp only [List.length_nil] at c1 c2 hb
       have hv' : a.eval x = .slice none 0 0 := by rw [hv, Pl.hdr, o1]
       have e1 : hiN 0 rb = 0 := by omega
       have e2 : loN ra = 0 := by omega
       have hR := hm.moveNil hd hid o1
       have el : (([] : List t.den).take (hiN ([] : List t.den).length rb)).drop (loN ra) = [] := by simp
       rw [el]
       refine ⟨.slice none 0 0, w, _, .inl (fin ?_), hR, by simp [VR, tlook, updP, Pl.hdr]⟩
       have := run_slice_sl (P := P) (w := w) b1 b2 (p := none) (n := 0) (Nat.le_refl 0) (opt h1) (opt h2) hb
       rw [hv']
       simp only [e1, e2, Option.map_none, Nat.sub_self] at this
       simpa using this
      ·have hv' : a.eval x = .slice (some ⟨g0, (π id).q, none⟩) l.length (π id).cap := by rw [hv, Pl.hdr, o1]
       have hrun := run_slice_sl (P := P) (w := w) b1 b2 (p := some ⟨g0, (π id).q, none⟩) (n := l.length) o3 (opt h1) (opt h2) hb
       by_cases hc : (π id).cap = loN ra
       ·refine ⟨_, w, _, .inl (fin (by rw [hv']; exact hrun)), hm.moveRow (q' := (π id).q) hd hid o1 c1 c2 (fun h => absurd hc h) (fun _ => rfl), ?_⟩
        have hlen : ((l.take (hiN l.length rb)).drop (loN ra)).length = hiN l.length rb - loN ra := by simp; omega
        simp only [VR, List.cons_append, List.nil_append, tlook, if_true, updP, Pl.hdr, hlen, if_pos hc]
       ·refine ⟨_, w, _, .inl (fin (by rw [hv']; exact hrun)), hm.moveRow (q' := (π id).q + loN ra * t.size) hd hid o1 c1 c2 (fun _ => rfl) (fun h => absurd h hc), ?_⟩
        have hlen : ((l.take (hiN l.length rb)).drop (loN ra)).length = hiN l.length rb - loN ra := by simp; omega
        simp only [VR, List.cons_append, List.nil_append, tlook, if_true, updP, Pl.hdr, hlen, if_neg hc, Option.map_some, b3, hk.2, add_lit]
     ·cases h
    ·cases h
   ·cases h
  ·cases h
 ·cases h
theorem tfzApp_ok (hT : TOK P E.TI) {o : Oper} {e : Eff} (h : tfzApp E s.ev (tlook s.ob) o.dst o.op = some e) (hb : e.b = true) (hm : RelM c F π s a w) : EffOk P c F s π a w o e := by
 obtain ⟨dst, op, ty, pos, after, g⟩ := o
 simp only at h
 cases op with
 | call cl =>
  simp only [tfzApp] at h
  obtain ⟨callee, args, ats⟩ := cl
  simp only at h
  split at h
  ·rename_i d x y T T' hxs hts
   split at h
   ·rename_i heq
    simp only [Bool.and_eq_true, decide_eq_true_eq] at heq
    obtain ⟨_, rfl⟩ := heq
    have ha : args = #[x, y] := by apply Array.ext'; simpa using hxs
    have ht : ats = #[T, T] := by apply Array.ext'; simpa using hts
    subst ha; subst ht
    have hexec : ∀ {v : Value} {w' : World}, (Builtin.append_ #[T, T] ty #[a.eval x, a.eval y]).run P w = .ok v w' → (execOp a.eval ⟨some d, .call { callee := .builtin .append, args := #[x, y], argTypes := #[T, T] }, ty, pos, after, g⟩).run P w = .ok (.value v) w' := fun h =>
     exec_value (e := Builtin.append_ #[T, T] ty #[a.eval x, a.eval y]) (by rw [BigFrame.execOp_builtin, BigFrame.builtin_append]; simp) h
    have hvx := hm.ev x
    have hvy := hm.ev y
    split at h
    ·cases h
    ·rename_i hd
     split at h
     ·rename_i t l hx
      rw [hx] at hvx
      split at h
      ·rename_i t' m hy
       split at h
       ·rename_i e2
        subst e2
        split at h
        ·rename_i hk
         simp only [Bool.and_eq_true, beq_iff_eq] at hk
         obtain rfl := Option.some.inj h
         obtain ⟨ds, p, c0, h2, e2, f2⟩ := src_ok (P := P) hm hy hvy
         obtain ⟨cs, q, cap, h1, e1, f1⟩ := src_ok (P := P) (t := t') (l := l) hm (x := .dv (.csl t') l) rfl hvx
         have hcc := (DT.val_one (t := .csl t') rfl).1 hvx
         have hcap : cap = l.length := by
          obtain ⟨p', cap', e3, _, _, _, e4, _⟩ := id hcc
          rw [e1] at e3
          simp only [Value.slice.injEq] at e3
          rw [e3.2.2]; exact e4
         obtain ⟨e, ie, b1, b2, b3, b4, b5, b6, b7, b8⟩ := (hT T).sl hk.1
         have hsz := b3.trans hk.2
         by_cases hn : m.length = 0
         ·have hm0 : m = [] := List.eq_nil_of_length_eq_zero hn
          subst hm0
          have f2' := f2 w fun _ _ _ => rfl
          rw [← hsz, e2] at f2'
          have hds : ds = [] := List.eq_nil_of_length_eq_zero (by rw [h2.len]; simp)
          subst hds
          simp only [List.length_nil] at f2' e2
          refine ⟨a.eval x, w, _, .inl (hexec ?_), hm.addFrz hd t' (l ++ []), ?_⟩
          ·rw [e1, e2, hcap]
           cases q with
           | none =>
            obtain ⟨p', cap', e3, _, _, e5, _, _⟩ := id hcc
            rw [e1] at e3
            simp only [Value.slice.injEq] at e3
            obtain ⟨rfl, _, rfl⟩ := e3
            have := e5 rfl
            simp [Builtin.append_, run_underlying b1, sizeOf, typeInfo, b2, Builtin.lenOf, f2']
           | some q => simp [Builtin.append_, run_underlying b1, sizeOf, typeInfo, b2, Builtin.lenOf, f2', storeCells]
          ·simp only [VR, List.singleton_append, tlook, if_true]
           rw [List.append_nil]
           have hz : FzTo w (Gz F w π (tlook s.ob)) w (Gz F w (updP π d ⟨none, 0, 0⟩) (tlook ((d, .frz t' l) :: s.ob))) := (Evo.new (F := F) (π := π) (p := ⟨none, 0, 0⟩) (o := .frz t' l) (Below.refl _ w) hd fun g hg => by cases hg).fz
           exact DT.cell_mono (t := .sl t') (x := l) (j := 0) hz (SlP.weak hcc)
         ·have f1' := f1 w.drew fun _ _ _ => rfl
          have f2' := f2 w.drew fun _ _ _ => rfl
          rw [e2] at f2'
          rw [e1] at f1'
          obtain ⟨⟨v', w', π', g1, g2, g3⟩⟩ := app_grow (P := P) (ty := ty) hT hk.1 hk.2 hb hm hd h1 h2 f1' f2' (by omega)
          have hlk : tlook ((d, .row t' (l ++ m)) :: s.ob) d = some (.row t' (l ++ m)) := by rw [tlook_cons, if_pos rfl]
          have g4 := g2.freeze hlk
          have hset : tlook ((d, .frz t' (l ++ m)) :: (d, .row t' (l ++ m)) :: s.ob) = tlook ((d, .frz t' (l ++ m)) :: s.ob) := by
           funext i
           simp only [tlook_cons]
           split <;> rfl
          refine ⟨v', w', π', .inl (hexec (by rw [e1, e2]; exact g1)), g4.same rfl hset.symm, ?_⟩
          have hor := g2.obj d _ hlk
          have hz : FzTo w' (Gz F w' π' (tlook ((d, .row t' (l ++ m)) :: s.ob))) w' (Gz F w' π' (tlook ((d, .frz t' (l ++ m)) :: s.ob))) := fun b ⟨r0, r1, r2⟩ => ⟨⟨r0, r1, fun i ⟨q1, o', q2, q3⟩ => by
           rw [tlook_cons] at q2
           by_cases e : i = d
           ·rw [if_pos e] at q2; obtain rfl := Option.some.inj q2; simp [TO.live] at q3
           ·rw [if_neg e] at q2; exact r2 i ⟨q1, o', by rw [tlook_cons, if_neg e]; exact q2, q3⟩⟩, rfl⟩
          simp only [VR, List.singleton_append, tlook, if_true]
          rw [g3]
          exact hor.row_slice hz fun g hg => ⟨g2.hF g (g2.new d g ⟨hg, _, hlk, rfl⟩).1, (g2.new d g ⟨hg, _, hlk, rfl⟩).2, fun i ⟨q1, o', q2', q3⟩ => by
           have q2 : tlook ((d, .frz t' (l ++ m)) :: s.ob) i = some o' := q2'
           rw [tlook_cons] at q2
           by_cases e : i = d
           ·rw [if_pos e] at q2; obtain rfl := Option.some.inj q2; simp [TO.live] at q3
           ·rw [if_neg e] at q2
            exact e (g2.inj i d g ⟨q1, o', by rw [tlook_cons, if_neg e]; exact q2, q3⟩ ⟨hg, _, hlk, rfl⟩)⟩
        ·cases h
       ·cases h
      ·cases h
     ·cases h
   ·cases h
  ·cases h
 | slice T x lo hi mx => exact tmv_ok hT h hb hm
 | box T x =>
  simp only [tfzApp] at h
  split at h
  ·rename_i d
   split at h
   ·split at h
    ·rename_i y b hx
     split at h
     ·rename_i hpl
      obtain rfl := Option.some.inj h
      obtain ⟨v1, v2⟩ := DT.val_cells hpl (TV.as_ok hx hb hpl (hm.ev x))
      have hB : Below w.heap.size w (w.alloc (.cells (a.eval x).cells T)) := (Below.refl _ _).alloc (Nat.le_refl _) _
      have hR := hm.later hB
      have E0 := Evo.later (F := F) (π := π) (O := tlook s.ob) hB
      have hlt : w.heap.size < (w.alloc (.cells (a.eval x).cells T)).heap.size := (Array.getElem?_eq_some_iff.1 (heap_new w _)).1
      have hno : ∀ id, ¬ Own π (tlook s.ob) id w.heap.size := fun id hid => by have := (hm.new id _ hid).2; omega
      have hF : F w.heap.size := hm.hF _ fun hb' => by have := hm.kept.lt hb'; omega
      refine ⟨.pointer (some ⟨w.heap.size, 0, none⟩), _, π, .inl ?_, hR, (DT.val_one (t := .fp (E.TY T)) rfl).2 ⟨w.heap.size, 0, rfl, ⟨hF, hlt, hno⟩, fun cc hcc => ?_⟩⟩
      ·refine exec_value (e := Instr.box T (a.eval x)) rfl ?_
       simp [Instr.box, newVar, newRow]
      ·obtain ⟨u, a1, a2, a3⟩ := v2 cc hcc
       exact ⟨u, by rw [cell_at0 (heap_new w _), Nat.zero_add]; exact a1, a2, DT.cell_mono E0.fz a3⟩
     ·cases h
    ·cases h
   ·cases h
  ·cases h
 | assign x =>
  simp only [tfzApp] at h
  split at h
  ·rename_i t hrc
   split at h
   ·rename_i y b hx
    split at h
    ·rename_i hpl
     obtain rfl := Option.some.inj h
     have hv := hm.ev x
     have hval : t.val y w (Gz F w π (tlook s.ob)) (a.eval x) := by
      unfold TV.asC at hx
      split at hx
      ·rename_i u z hx'
       rw [hx'] at hv
       exact TV.as_ok (L := fun _ => none) (π := π) hx hb hpl hv
      ·rename_i hx'
       rw [hx'] at hv
       exact TV.as_ok (L := fun _ => none) (π := π) hx hb hpl hv
      ·cases hx
     exact ⟨a.eval x, w, π, .inl rfl, hm, hval⟩
    ·cases h
   ·cases h
  ·cases h
 | _ => simp [tfzApp] at h
theorem effN_ok (hT : TOK P E.TI) {o : Oper} {e : Eff} (h : effN E o s.ev (tlook s.ob) = some e) (hb : e.b = true) (hm : RelM c F π s a w) : EffOk P c F s π a w o e := by
 unfold effN at h
 split at h
 ·rename_i e' he
  obtain rfl := Option.some.inj h
  exact tst_ok hT he hb hm
 have hm1 := hm.frzU (needs s.ev (tlook s.ob) o.op)
 generalize frzU (tlook s.ob) (needs s.ev (tlook s.ob) o.op) = U0 at h hm1
 simp only [← tlook_append] at h
 have pure : ∀ {y : TV} {b : Bool}, (∃ v, (execOp a.eval o).run P w = .ok (.value v) w ∧ VR w (Gz F w π (tlook (U0 ++ s.ob))) π (tlook (U0 ++ s.ob)) y v) → EffOk P c F s π a w o ⟨y, U0, b⟩ := fun ⟨v, h1, h2⟩ => ⟨v, w, π, .inl h1, hm1, h2⟩
 have lift : ∀ {e' : Eff}, EffOk P c F ⟨s.sl, U0 ++ s.ob⟩ π a w o e' → EffOk P c F s π a w o ⟨e'.y, e'.u ++ U0, e'.b⟩ := fun ⟨v, w', π', h1, h2, h3⟩ => by
  refine ⟨v, w', π', h1, ?_, ?_⟩
  ·simp only [List.append_assoc]; exact h2
  ·simp only [List.append_assoc]; exact h3
 split at h
 ·rename_i e' he
  obtain rfl := Option.some.inj h
  exact lift (tfzApp_ok (s := ⟨s.sl, U0 ++ s.ob⟩) hT he hb hm1)
 split at h
 ·rename_i y b hv
  obtain rfl := Option.some.inj h
  exact pure (tval_ok (s := ⟨s.sl, U0 ++ s.ob⟩) hT hv hb hm1)
 split at h
 ·rename_i y b hv
  obtain rfl := Option.some.inj h
  exact pure (tmore_ok (s := ⟨s.sl, U0 ++ s.ob⟩) hT hv hb hm1)
 split at h
 ·rename_i e' he
  obtain rfl := Option.some.inj h
  refine lift ?_
  obtain ⟨dst, op, ty, pos, after, g⟩ := o
  simp only at he
  cases op with
  | alloc T => exact alloc_ok (s := ⟨s.sl, U0 ++ s.ob⟩) hT he hm1
  | box T x => exact box_ok (s := ⟨s.sl, U0 ++ s.ob⟩) hT he hb hm1
  | buildSlice T n parts => exact buildSlice_ok (s := ⟨s.sl, U0 ++ s.ob⟩) hT he hb hm1
  | makeSlice T x y => exact makeSlice_ok (s := ⟨s.sl, U0 ++ s.ob⟩) hT he hb hm1
  | build T parts => exact build_ok (s := ⟨s.sl, U0 ++ s.ob⟩) hT he hb hm1
  | store T p y => exact store_ok (s := ⟨s.sl, U0 ++ s.ob⟩) hT he hb hm1
  | call cl => exact append_ok (s := ⟨s.sl, U0 ++ s.ob⟩) hT he hb hm1
  | _ => simp [tobj] at he
 split at h
 ·rename_i e' he
  obtain rfl := Option.some.inj h
  exact lift (tmap_ok (s := ⟨s.sl, U0 ++ s.ob⟩) hT he hb hm1)
 split at h
 ·rename_i e' he
  obtain rfl := Option.some.inj h
  exact lift (tstr_ok (s := ⟨s.sl, U0 ++ s.ob⟩) hT he hb hm1)
 ·cases h
theorem EffOk.opW {o : Oper} {e : Eff} (h : ∀ π a w, RelM c F π s a w → EffOk P c F s π a w o e) : OpW P c F o (fun s' => s' = s.app o.dst e) s := by
 refine OpW.of (s' := s.app o.dst e) (fun a w ⟨π, hm⟩ => ?_) rfl
 obtain ⟨v, w', π', h1, h2, h3⟩ := h π a w hm
 refine ⟨v, w', h1, π', ?_⟩
 have := h2.put o.dst h3
 cases hd : o.dst with
 | none => rw [hd] at this; simp only [TS.app, TS.put]; exact this
 | some d => rw [hd] at this; simp only [TS.app, TS.put]; exact this
end
end

section
theorem TV.within_ids {R : Nat → Prop} : ∀ {x : TV}, (∀ i ∈ x.ids, R i) → x.within R := by
 intro x
 induction x with
 | row id => intro h; exact h id (by simp [TV.ids])
 | vrow id a b => intro h; exact h id (by simp [TV.ids])
 | ptr id i p => intro h; exact h id (by simp [TV.ids])
 | view id i p k a b => intro h; exact h id (by simp [TV.ids])
 | fn g k n f ih => intro h j hj; exact ih j fun i hi => h i (by simp only [TV.ids, List.mem_flatMap, List.mem_range]; exact ⟨j, hj, hi⟩)
 | tup n f ih => intro h j hj; exact ih j fun i hi => h i (by simp only [TV.ids, List.mem_flatMap, List.mem_range]; exact ⟨j, hj, hi⟩)
 | st n f ih => intro h j hj; exact ih j fun i hi => h i (by simp only [TV.ids, List.mem_flatMap, List.mem_range]; exact ⟨j, hj, hi⟩)
 | _ => intro _; trivial
theorem TO.within_ids {R : Nat → Prop} {o : TO} (h : ∀ i ∈ o.ids, R i) : o.within R := by
 cases o with
 | rcd fs => exact fun j x hx => TV.within_ids fun i hi => h i (by simp only [TO.ids, List.mem_flatMap]; exact ⟨x, List.mem_of_getElem? hx, hi⟩)
 | _ => trivial
theorem TV.sc_of : ∀ {x : TV}, x.scB = true → x.sc := by
 intro x
 induction x with
 | dv t y => intro h; exact h
 | el t y p => intro h; simp [TV.scB] at h
 | fn g k n f ih => intro h j hj; simp only [TV.scB, List.all_eq_true, List.mem_range] at h; exact ih j (h j hj)
 | tup n f ih => intro h j hj; simp only [TV.scB, List.all_eq_true, List.mem_range] at h; exact ih j (h j hj)
 | st n f ih => intro h j hj; simp only [TV.scB, List.all_eq_true, List.mem_range] at h; exact ih j (h j hj)
 | _ => intro _; trivial
theorem TO.sc_of {o : TO} (h : o.scB = true) : o.sc := by
 cases o with
 | row t l => exact h
 | rcd fs => intro j x hx; simp only [TO.scB, List.all_eq_true] at h; exact TV.sc_of (h x (List.mem_of_getElem? hx))
 | map kt vt l => simpa [TO.scB, TO.sc] using h
 | frz t l => simp [TO.scB] at h
 | fmp kt vt l => simp [TO.scB] at h
 | iter kt vt l cur => simp [TO.scB] at h
 | sit l => trivial
 | dead => trivial
theorem idx_get : ∀ {R : List Nat} {i : Nat}, i ∈ R → idx R i < R.length ∧ R.getD (idx R i) 0 = i
 | [], i, h => by simp at h
 | x :: r, i, h => by
  simp only [idx]
  by_cases e : i = x
  ·rw [if_pos e]; exact ⟨by simp, by simp [e]⟩
  ·rw [if_neg e]
   obtain ⟨a, b⟩ := idx_get (R := r) (by simpa [e] using h)
   exact ⟨by simp; omega, by simpa using b⟩
theorem rho_tau {R : List Nat} {d i : Nat} (h : i ∈ R) : rhoR R d (tauR R i) = i := by
 obtain ⟨a, b⟩ := idx_get h
 unfold rhoR tauR
 rw [if_pos (by omega), show 9000 + idx R i - 9000 = idx R i by omega]
 exact b
theorem tau_inj {R : List Nat} {i j : Nat} (hi : i ∈ R) (hj : j ∈ R) (h : tauR R i = tauR R j) : i = j := by
 have := rho_tau (d := 0) hi
 rw [h, rho_tau hj] at this
 exact this.symm
theorem tlook_mapR (R : List Nat) (f : Nat → TO) : ∀ (L : List Nat), (∀ i ∈ L, i ∈ R) → ∀ i ∈ L, tlook (L.map fun i => (tauR R i, f i)) (tauR R i) = some (f i)
 | [], _, i, h => by simp at h
 | x :: r, hL, i, h => by
  simp only [List.map_cons, tlook]
  by_cases e : i = x
  ·subst e; rw [if_pos rfl]
  ·rw [if_neg fun e2 => e (tau_inj (hL i h) (hL x (by simp)) e2)]
   exact tlook_mapR R f r (fun j hj => hL j (by simp [hj])) i (by simpa [e] using h)
theorem tlook_mapR' (R : List Nat) (f : Nat → TO) : ∀ (L : List Nat) (j : Nat) (o : TO), tlook (L.map fun i => (tauR R i, f i)) j = some o → ∃ i ∈ L, tauR R i = j
 | [], j, o, h => by cases h
 | x :: r, j, o, h => by
  simp only [List.map_cons, tlook] at h
  by_cases e : j = tauR R x
  ·exact ⟨x, by simp, e.symm⟩
  ·rw [if_neg e] at h
   obtain ⟨i, a, b⟩ := tlook_mapR' R f r j o h
   exact ⟨i, by simp [a], b⟩
theorem tlook_mem : ∀ {O : List (Nat × TO)} {j : Nat} {o : TO}, tlook O j = some o → (j, o) ∈ O
 | [], j, o, h => by cases h
 | (i, o') :: r, j, o, h => by
  simp only [tlook] at h
  split at h
  ·rename_i e; subst e; obtain rfl := Option.some.inj h; simp
  ·simp [tlook_mem h]
theorem nodupB_inj : ∀ {O : List (Nat × TO)} {f : Nat → Nat}, nodupB (O.map fun p => f p.1) = true → ∀ j j' o o', tlook O j = some o → tlook O j' = some o' → f j = f j' → j = j'
 | [], f, _, j, j', o, o', h, _, _ => by cases h
 | (i, x) :: r, f, h, j, j', o, o', h1, h2, h3 => by
  simp only [List.map_cons, nodupB, Bool.and_eq_true, Bool.not_eq_true'] at h
  have hmem : ∀ k y, tlook r k = some y → f k ≠ f i := fun k y hk e => by
   have h0 : (r.map fun p => f p.1).contains (f i) = true := by
    rw [List.contains_iff_mem]
    exact List.mem_map.2 ⟨(k, y), tlook_mem hk, e⟩
   rw [h0] at h; simp at h
  simp only [tlook] at h1 h2
  split at h1 <;> split at h2
  ·rename_i e1 e2; exact e1.trans e2.symm
  ·rename_i e1 e2; subst e1; exact absurd h3.symm (hmem j' o' h2)
  ·rename_i e1 e2; subst e2; exact absurd h3 (hmem j o h1)
  ·exact nodupB_inj h.2 j j' o o' h1 h2 h3
section
variable {P : Program} {E : Env} {c : Cx} {F : Nat → Prop} {s : TS} {π : Nat → Pl} {a : Act} {w : World}

theorem Lent.fz {O : Obs} {B : Nat → Prop} : FzTo w (Gz F w π O) w (Lent F w π O B) := fun b hb => ⟨.inl hb, rfl⟩
theorem lend_ok (hm : RelM c F π s a w) {x : TV} {t : DT} {y : t.den} {b : Bool} (h : lendAs (tlook s.ob) x t = some (y, b)) (hb : b = true) (hp : t.plain = true) {v : Value} (hv : VR w (Gz F w π (tlook s.ob)) π (tlook s.ob) x v) {B : Nat → Prop} (hB : ∀ i ∈ x.ids, (∃ o, tlook s.ob i = some o ∧ o.live = true) → B i) :
  t.val y w (Lent F w π (tlook s.ob) B) v := by
 have hz : FzTo w (Gz F w π (tlook s.ob)) w (Lent F w π (tlook s.ob) B) := Lent.fz
 have plain : x.as (tlook s.ob) t = some (y, b) → t.val y w (Lent F w π (tlook s.ob) B) v := fun h => DT.val_mono hz (TV.as_ok h hb hp hv)
 cases t with
 | sl u =>
  simp only [lendAs] at h
  split at h
  ·rename_i v' l b' hl
   split at h
   ·rename_i e
    subst e
    simp only [Option.some.injEq, Prod.mk.injEq] at h
    obtain ⟨rfl, rfl⟩ := h
    refine (DT.val_one rfl).2 ?_
    have ofF : x.fdata (tlook s.ob) = some ⟨v', l⟩ → (DT.sl v').cell l 0 w (Lent F w π (tlook s.ob) B) v := fun hf => DT.cell_mono hz (TV.fdata_ok hf hv)
    cases x with
    | dv t0 y0 => exact ofF (by
      simp only [TV.lend] at hl
      obtain ⟨q, hq, he⟩ := Option.map_eq_some_iff.1 hl
      simp only [Prod.mk.injEq] at he
      obtain ⟨rfl, _⟩ := he
      cases t0 <;> exact hq)
    | row id =>
     simp only [TV.lend, TV.data] at hl
     simp only [VR] at hv
     cases ho : tlook s.ob id with
     | none => rw [ho] at hv; exact hv.elim
     | some o =>
      rw [ho] at hv hl
      cases o with
      | row t' l' =>
       simp only [Option.map_some, Option.some.injEq, Prod.mk.injEq, Sigma.mk.injEq] at hl
       obtain ⟨⟨rfl, hl⟩, _⟩ := hl; obtain rfl := eq_of_heq hl
       simp only at hv
       rw [hv]
       exact (hm.obj id _ ho).row_slice hz fun g hg => .inr ⟨id, hB id (by simp [TV.ids]) ⟨_, ho, rfl⟩, hg, _, ho, rfl⟩
      | frz t' l' => exact ofF (by
        simp only [Option.map_some, Option.some.injEq, Prod.mk.injEq] at hl
        simp only [TV.fdata, ho]; exact congrArg some hl.1)
      | _ => cases hl
    | vrow id i j =>
     simp only [TV.lend, TV.data] at hl
     simp only [VR] at hv
     cases ho : tlook s.ob id with
     | none => rw [ho] at hv; exact hv.elim
     | some o =>
      rw [ho] at hv hl
      cases o with
      | row t' l' =>
       simp only [Option.map_some, Option.some.injEq, Prod.mk.injEq, Sigma.mk.injEq] at hl
       obtain ⟨⟨rfl, hl⟩, _⟩ := hl; obtain rfl := eq_of_heq hl
       obtain ⟨h1, h2, p, cp, h3, h4, h5, h6, h7⟩ := hv
       have hlen : ((l'.take j).drop i).length = j - i := by simp; omega
       refine ⟨p, cp, by rw [h3, hlen], by rw [hlen]; exact h4, h5, h6, trivial, fun hn => ?_⟩
       rw [hlen] at hn ⊢
       obtain ⟨g, q1, q2⟩ := h7 (by omega)
       rcases hm.obj id _ ho with ⟨r1, r2⟩ | ⟨g', cur, e, r1, r2, r3, r4, r5, r6⟩
       ·subst r2; simp at h2; omega
       ·rw [q1] at r1; obtain rfl := Option.some.inj r1
        refine ⟨g, _, q2, .inr ⟨id, hB id (by simp [TV.ids]) ⟨_, ho, rfl⟩, q1, _, ho, rfl⟩, fun k hk cc hcc => ?_⟩
        obtain ⟨u, b1, b2, b3⟩ := r6 (i + k) (by omega) cc hcc
        refine ⟨u, by rw [cell_at r2, ← b1, Nat.add_mul]; congr 1; omega, b2, ?_⟩
        show DT.cell _ (((l'.take j).drop i).getD k _) cc w _ u
        rw [getD_slice _ _ _ _ _ h2 hk]
        exact DT.cell_mono hz b3
      | frz t' l' => exact ofF (by
        simp only [Option.map_some, Option.some.injEq, Prod.mk.injEq] at hl
        simp only [TV.fdata, ho]; exact congrArg some hl.1)
      | _ => cases hl
    | view id i p k n0 i1 j1 =>
     simp only [TV.lend] at hl
     cases ho : tlook s.ob id with
     | none => rw [ho] at hl; cases hl
     | some o =>
      rw [ho] at hl
      simp only at hl
      split at hl
      ·rename_i m u y0 hpart
       split at hl
       ·rename_i hk
        simp only [Bool.and_eq_true, beq_iff_eq] at hk
        obtain ⟨⟨rfl, hlv⟩, rfl⟩ := hk
        simp only [Option.some.injEq, Prod.mk.injEq, Sigma.mk.injEq] at hl
        obtain ⟨⟨rfl, hl⟩, rfl⟩ := hl; obtain rfl := eq_of_heq hl
        have hbl := of_decide_eq_true hb
        simp only [VR, ho] at hv
        obtain ⟨c0, g, pp, q1, q2, q3, q4, q5, q6, q7, q8⟩ := hv hlv
        have hptr : VR w (Gz F w π (tlook s.ob)) π (tlook s.ob) (.ptr id i p) (.pointer (some ⟨g, (π id).q + c0, none⟩)) := by
         simp only [VR, ho]; exact fun _ => ⟨c0, g, q1, q2, q3, rfl⟩
        obtain ⟨g', k0, r1, r2, r3, r4, r5⟩ := hm.part ho hptr hpart
        rw [q3] at r3; obtain rfl := Option.some.inj r3
        rw [q1] at r1; obtain rfl := Option.some.inj r1
        have hlen : ((y0.take j1).drop i1).length = j1 - i1 := by simp; omega
        refine ⟨some pp, n0 - i1, by rw [q7, hlen], by rw [hlen]; omega, by omega, (fun h => by cases h), trivial, fun hn => ?_⟩
        rw [hlen] at hn ⊢
        have hpp := q8 (by omega)
        refine ⟨g, _, by rw [hpp], .inr ⟨id, hB id (by simp [TV.ids]) ⟨_, ho, hlv⟩, q3, _, ho, hlv⟩, fun k hk cc hcc => ?_⟩
        have hin : i1 + k < n0 := by omega
        obtain ⟨z, b1, b2, b3⟩ := r5 ((i1 + k) * u.size + cc) (idx_lt hin hcc)
        refine ⟨z, by rw [← b1, Nat.add_mul]; congr 2; omega, b2, ?_⟩
        show DT.cell _ (((y0.take j1).drop i1).getD k _) cc w _ z
        rw [getD_slice _ _ _ _ _ hbl hk]
        have hpos : 0 < u.size := by omega
        have e1 : ((i1 + k) * u.size + cc) / u.size = i1 + k := by rw [Nat.mul_comm, Nat.mul_add_div hpos, Nat.div_eq_of_lt hcc]; omega
        have e2 : ((i1 + k) * u.size + cc) % u.size = cc := by rw [Nat.mul_comm, Nat.mul_add_mod, Nat.mod_eq_of_lt hcc]
        simp only [DT.cell, e1, e2] at b3
        exact DT.cell_mono hz b3
       ·cases hl
      ·cases hl
    | _ => simp [TV.lend, TV.data] at hl
   ·cases h
  ·exact plain h
 | _ => exact plain h
theorem cvt_ok (hm : RelM c F π s a w) {R : List Nat} {B : Nat → Prop} : ∀ {mds : List Md} {xs as : List TV} {b : Bool} {vs : List Value}, cvt (tlook s.ob) mds xs = some (as, b) → b = true → (∀ i ∈ objIds mds xs, i ∈ R) → (∀ i ∈ lentIds (tlook s.ob) mds xs, B i) → vs.length = xs.length →
  (∀ (i : Nat) (x : TV) (v : Value), xs[i]? = some x → vs[i]? = some v → VR w (Gz F w π (tlook s.ob)) π (tlook s.ob) x v) →
  as.length = xs.length ∧ ∀ (i : Nat) (y : TV) (v : Value), as[i]? = some y → vs[i]? = some v → y.within (· ∈ R) ∧ VR w (Lent F w π (tlook s.ob) B) π (tlook s.ob) y v
 | [], [], as, b, vs, h, hb, _, _, hl, hv => by
  simp only [cvt, Option.some.injEq, Prod.mk.injEq] at h
  obtain ⟨rfl, _⟩ := h
  exact ⟨rfl, fun i y v hy => by simp at hy⟩
 | [], x :: xs, as, b, vs, h, _, _, _, _, _ => by simp [cvt] at h
 | m :: ms, [], as, b, vs, h, _, _, _, _, _ => by simp [cvt] at h
 | m :: ms, x :: xs, as, b, [], h, _, _, _, hl, _ => by simp at hl
 | m :: ms, x :: xs, as, b, v0 :: vs, h, hb, hO, hL, hl, hv => by
  simp only [cvt] at h
  split at h
  ·rename_i l b1 hc
   have hv0 := hv 0 x v0 rfl rfl
   have hz : FzTo w (Gz F w π (tlook s.ob)) w (Lent F w π (tlook s.ob) B) := Lent.fz
   have rec' : b1 = true → l.length = xs.length ∧ ∀ (i : Nat) (y : TV) (v : Value), l[i]? = some y → vs[i]? = some v → y.within (· ∈ R) ∧ VR w (Lent F w π (tlook s.ob) B) π (tlook s.ob) y v := fun hb1 =>
    cvt_ok hm hc hb1 (fun i hi => hO i (by cases m <;> simp [objIds, hi])) (fun i hi => hL i (by cases m <;> simp only [lentIds] <;> first | exact hi | exact List.mem_append_right _ hi)) (by simpa using hl) fun i x v h1 h2 => hv (i + 1) x v (by simpa using h1) (by simpa using h2)
   have fin : ∀ {y0 : TV}, y0.within (· ∈ R) → VR w (Lent F w π (tlook s.ob) B) π (tlook s.ob) y0 v0 → b1 = true → (y0 :: l).length = (x :: xs).length ∧ ∀ (i : Nat) (y : TV) (v : Value), (y0 :: l)[i]? = some y → (v0 :: vs)[i]? = some v → y.within (· ∈ R) ∧ VR w (Lent F w π (tlook s.ob) B) π (tlook s.ob) y v := fun {y0} h1 h2 hb1 => by
    obtain ⟨r1, r2⟩ := rec' hb1
    refine ⟨by simp [r1], fun i y v hy hv => ?_⟩
    cases i with
    | zero => simp at hy hv; subst hy; subst hv; exact ⟨h1, h2⟩
    | succ i => simp at hy hv; exact r2 i y v hy hv
   cases m with
   | obj =>
    simp only [Option.some.injEq, Prod.mk.injEq] at h
    obtain ⟨rfl, rfl⟩ := h
    refine fin (TV.within_ids fun i hi => hO i (by simp [objIds, hi])) ?_ hb
    exact VR.evo ⟨hz, fun id o ho => ⟨o, ho, Step.refl o⟩⟩ hv0
   | lend t =>
    simp only at h
    split at h
    ·rename_i y b2 hy
     split at h
     ·rename_i hp
      simp only [Option.some.injEq, Prod.mk.injEq] at h
      obtain ⟨rfl, rfl⟩ := h
      simp only [Bool.and_eq_true] at hb
      refine fin trivial ?_ hb.2
      exact lend_ok hm hy hb.1 hp hv0 fun i hi ⟨o, ho, hlv⟩ => hL i (by simp only [lentIds, List.mem_append, List.mem_filter]; exact .inl ⟨hi, by rw [ho]; exact hlv⟩)
     ·cases h
    ·cases h
   | own t =>
    simp only at h
    split at h
    ·rename_i y b2 hy
     split at h
     ·rename_i hp
      simp only [Option.some.injEq, Prod.mk.injEq] at h
      obtain ⟨rfl, rfl⟩ := h
      simp only [Bool.and_eq_true] at hb
      exact fin trivial (DT.val_mono hz (TV.as_ok hy hb.1 hp hv0)) hb.2
     ·cases h
    ·cases h
  ·cases h
theorem cvt_len {L : Obs} : ∀ {mds : List Md} {xs as : List TV} {b : Bool}, cvt L mds xs = some (as, b) → as.length = xs.length
 | [], [], as, b, h => by
  simp only [cvt, Option.some.injEq, Prod.mk.injEq] at h
  obtain ⟨rfl, _⟩ := h; rfl
 | [], x :: xs, as, b, h => by simp [cvt] at h
 | m :: ms, [], as, b, h => by simp [cvt] at h
 | m :: ms, x :: xs, as, b, h => by
  simp only [cvt] at h
  split at h
  ·rename_i l b1 hc
   have := cvt_len hc
   cases m with
   | obj => simp only [Option.some.injEq, Prod.mk.injEq] at h; obtain ⟨rfl, _⟩ := h; simp [this]
   | lend t =>
    simp only at h
    split at h
    ·split at h
     ·simp only [Option.some.injEq, Prod.mk.injEq] at h; obtain ⟨rfl, _⟩ := h; simp [this]
     ·cases h
    ·cases h
   | own t =>
    simp only at h
    split at h
    ·split at h
     ·simp only [Option.some.injEq, Prod.mk.injEq] at h; obtain ⟨rfl, _⟩ := h; simp [this]
     ·cases h
    ·cases h
  ·cases h
theorem idx_nodup : ∀ {R : List Nat} {p : Nat}, nodupB R = true → p < R.length → idx R (R.getD p 0) = p
 | [], p, _, h => by simp at h
 | x :: r, 0, _, _ => by simp [idx]
 | x :: r, p + 1, h, hp => by
  simp only [nodupB, Bool.and_eq_true, Bool.not_eq_true'] at h
  have hp' : p < r.length := by simpa using hp
  have e : (x :: r).getD (p + 1) 0 = r.getD p 0 := by simp
  rw [e]
  simp only [idx]
  have hne : r.getD p 0 ≠ x := fun e2 => by
   have : r.getD p 0 = r[p] := by simp [hp']
   have hm : r.contains x = true := by rw [List.contains_iff_mem, ← e2, this]; exact List.getElem_mem hp'
   rw [hm] at h; simp at h
  rw [if_neg hne, idx_nodup h.2 hp']
theorem callE_ok (hE : EnvOk P E) {o : Oper} {g : Nat} {xs : List TV} {α : Type} {k : Eff → Option α} {r : α} (h : callE E (o.dst.getD 0) g xs (tlook s.ob) k = some r) (vals : Act → List Value)
  (hxs : ∀ (s' : TS) (π : Nat → Pl) (a : Act) (w : World), s'.sl = s.sl → RelM c F π s' a w → (vals a).length = xs.length ∧ ∀ (i : Nat) (x : TV) (v : Value), xs[i]? = some x → (vals a)[i]? = some v → VR w (Gz F w π (tlook s'.ob)) π (tlook s'.ob) x v)
  (hrun : ∀ (s' : TS) a w, s'.sl = s.sl → Rel c F s' a w → (∀ as w, (callFunc g as).run P w = .ok (.enter g as) w) → (execOp a.eval o).run P w = .ok (.enter g (vals a).toArray) w) :
  ∃ e, k e = some r ∧ (∀ (β : Type) (k' : Eff → Option β), callE E (o.dst.getD 0) g xs (tlook s.ob) k' = k' e) ∧ OpW P c F o (fun s' => s' = s.app o.dst e) s := by
 unfold callE at h ⊢
 cases hs : E.sig g xs with
 | none => rw [hs] at h; cases h
 | some mds =>
  rw [hs] at h
  simp only at h ⊢
  generalize hU : frzU (tlook s.ob) (ownIds mds xs) = U0 at h ⊢
  simp only [← tlook_append] at h ⊢
  cases hc : cvt (tlook (U0 ++ s.ob)) mds xs with
  | none => rw [hc] at h; cases h
  | some q =>
   obtain ⟨as, b⟩ := q
   rw [hc] at h
   simp only at h ⊢
   generalize hR : reachF 60 (tlook (U0 ++ s.ob)) (objIds mds xs) [] = R at h ⊢
   split at h
   ·rename_i hcond
    simp only [Bool.and_eq_true, List.all_eq_true] at hcond
    obtain ⟨⟨⟨k1, k2⟩, k3⟩, k4⟩ := hcond
    obtain ⟨hb, h⟩ := chk_some h
    subst hb
    obtain ⟨rv, O', h1, h2, h3⟩ := hE _ _ _ _ _ _ h
    split at h1
    ·rename_i hg
     simp only [Bool.and_eq_true, List.all_eq_true] at hg
     obtain ⟨⟨g1, g2⟩, g3⟩ := hg
     refine ⟨_, h1, fun β k' => ?_, ?_⟩
     ·rw [if_pos (by simp only [Bool.and_eq_true, List.all_eq_true]; exact ⟨⟨⟨k1, k2⟩, k3⟩, k4⟩)]
      show E.phi _ _ _ _ = _
      rw [h2]
      rw [if_pos (by simp only [Bool.and_eq_true, List.all_eq_true]; exact ⟨⟨g1, g2⟩, g3⟩)]
     ·-- the call itself
      let s1 : TS := ⟨s.sl, U0 ++ s.ob⟩
      have hmem : ∀ {i : Nat}, R.contains i = true ↔ i ∈ R := fun {i} => List.contains_iff_mem
      have hkey : ∀ i ∈ R, ∃ o', tlook s1.ob i = some o' ∧ o'.live = true ∧ o'.within (· ∈ R) := fun i hi => by
       have := k1 i hi
       cases ho : tlook (U0 ++ s.ob) i with
       | none => rw [ho] at this; cases this
       | some o' =>
        rw [ho] at this
        simp only [Bool.and_eq_true, TO.withinB, List.all_eq_true] at this
        refine ⟨o', rfl, this.1, ?_⟩
        exact (TO.within_ids fun j hj => hmem.1 (this.2 j hj))
      have hw1 : ∀ a w, Rel c F s a w → Rel c F s1 a w := fun a w ⟨π, hm⟩ => ⟨π, by have := hm.frzU (ownIds mds xs); rw [hU] at this; exact this⟩
      have hW : OpW P c F o (fun s' => s' = ⟨(s1.put o.dst (rv.ren (rhoR R (o.dst.getD 0)))).sl, renO (rhoR R (o.dst.getD 0)) O' ++ s1.ob⟩) s1 := by
       refine OpW.call h3 (rhoR R (o.dst.getD 0)) (tauR R) (· ∈ R) (· ∈ lentIds (tlook (U0 ++ s.ob)) mds xs) vals ?_ ?_ ?_ ?_ ?_ ?_ ?_ ?_ ?_ ?_
       ·exact fun a w hr he => hrun s1 a w rfl hr he
       ·exact fun a w ⟨π, hm⟩ => by rw [List.length_map, cvt_len hc]; exact (hxs s1 π a w rfl hm).1
       ·exact fun i hi => by
         obtain ⟨o', a1, a2, a3⟩ := hkey i hi
         refine ⟨o', a1, a2, a3, ?_, rho_tau hi⟩
         have := tlook_mapR R (fun i => ((tlook (U0 ++ s.ob) i).getD .dead).ren (tauR R)) R (fun _ h => h) i hi
         rw [this]
         have a1' : tlook (U0 ++ s.ob) i = some o' := a1
         rw [a1']; rfl
       ·exact fun j o' hj => tlook_mapR' R (fun i => ((tlook (U0 ++ s.ob) i).getD .dead).ren (tauR R)) R j o' hj
       ·exact fun i hi hi2 => by
         have := k3 i hi
         simp only [Bool.not_eq_true'] at this
         rw [hmem.2 hi2] at this; cases this
       ·intro π a w hm i x v hx hv
        obtain ⟨e1, e2⟩ := hxs s1 π a w rfl hm
        obtain ⟨c1, c2⟩ := cvt_ok (R := R) (B := (· ∈ lentIds (tlook (U0 ++ s.ob)) mds xs)) hm hc rfl (fun i hi => hmem.1 (k2 i hi)) (fun i hi => hi) e1 e2
        simp only [List.getElem?_map, Option.map_eq_some_iff] at hx
        obtain ⟨y, hy, rfl⟩ := hx
        obtain ⟨d1, d2⟩ := c2 i y v hy hv
        exact ⟨y, rfl, d1, d2⟩
       ·exact nodupB_inj g1
       ·exact fun j o' hj hn => by
         have := g2 (j, o') (tlook_mem hj)
         simp only at this
         split at this
         ·rename_i hin
          exfalso
          have hlt : j - 9000 < R.length := by omega
          have hi : R.getD (j - 9000) 0 ∈ R := by
           have : R.getD (j - 9000) 0 = R[j - 9000] := by simp [hlt]
           rw [this]; exact List.getElem_mem hlt
          have e1 : tauR R (R.getD (j - 9000) 0) = j := by
           unfold tauR; rw [idx_nodup k4 hlt]; omega
          have := tlook_mapR R (fun i => ((tlook (U0 ++ s.ob) i).getD .dead).ren (tauR R)) R (fun _ h => h) _ hi
          rw [e1] at this
          rw [hn] at this; cases this
         ·simpa using this
       ·exact fun j o1 o' hj hj' => by
         obtain ⟨i, hi, e⟩ := tlook_mapR' R _ R j o1 hj
         have hlt := (idx_get hi).1
         have := g2 (j, o') (tlook_mem hj')
         simp only at this
         rw [if_pos (by unfold tauR at e; omega)] at this
         simp only [Bool.or_eq_true] at this
         rcases this with h | h
         ·exact .inl h
         ·cases o' <;> first | exact .inr rfl | cases h
       ·simp only [Bool.or_eq_true] at g3
        rcases g3 with g3 | g3
        ·left
         intro i hi
         rw [List.isEmpty_iff.1 g3] at hi
         simp at hi
        ·simp only [Bool.and_eq_true, List.all_eq_true] at g3
         exact .inr ⟨TV.sc_of g3.1, fun j o' hj => TO.sc_of (g3.2 (j, o') (tlook_mem hj))⟩
      intro nn a w next Q hr hn
      refine hW nn a w next Q (hw1 a w hr) fun s' a' w' hs' hr' => hn s' a' w' ?_ hr'
      rw [hs']
      show _ = s.app o.dst _
      simp only [TS.app, List.append_assoc]
      cases o.dst <;> rfl
    ·cases h1
   ·cases h
theorem run_callv {f : FuncId} (he : ∀ (as : Array Value) (w : World), (callFunc f as).run P w = .ok (.enter f as) w) {o : Oper} {x : Operand} {xs : Array Operand} {ts : Array TypeId} (ho : o.op = .call { callee := .value x, args := xs, argTypes := ts }) (a : Act) (w : World) {fs cs : Array Value} (hx : a.eval x = .func (.func f) fs cs) :
  (execOp a.eval o).run P w = .ok (.enter f (fs.toList ++ xs.toList.map a.eval ++ cs.toList).toArray) w := by
 obtain ⟨dst, op, ty, pos, after, guard⟩ := o
 simp only at ho
 subst ho
 have h1 : execOp a.eval ⟨dst, .call { callee := .value x, args := xs, argTypes := ts }, ty, pos, after, guard⟩ = (do let d ← Deferred.ofValue (a.eval x) (xs.map a.eval); invoke d.target d.args) := rfl
 rw [h1, hx]
 have h2 : (Deferred.ofValue (.func (.func f) fs cs) (xs.map a.eval)) = pure { target := .fn (.func f) cs, args := fs ++ xs.map a.eval } := rfl
 rw [h2]
 simp only [Sem.run_bind, Sem.run_pure, Result.andThen_ok]
 show (callFunc f (fs ++ xs.map a.eval ++ cs)).run P w = _
 rw [he]
 congr 2
 apply Array.ext'
 simp
theorem run_callm (hT : TOK P E.TI) {T : TypeId} {name : String} {g : FuncId} (hm : (E.TI T).mth.lookup name = some g) (he : ∀ (as : Array Value) (w : World), (callFunc g as).run P w = .ok (.enter g as) w) {o : Oper} {x : Operand} {xs : Array Operand} {ts : Array TypeId} (ho : o.op = .call { callee := .invoke x name, args := xs, argTypes := ts }) (a : Act) (w : World) {u : Value} (hx : a.eval x = .iface T u) :
  (execOp a.eval o).run P w = .ok (.enter g (u :: xs.toList.map a.eval).toArray) w := by
 obtain ⟨dst, op, ty, pos, after, guard⟩ := o
 simp only at ho
 subst ho
 have h1 : execOp a.eval ⟨dst, .call { callee := .invoke x name, args := xs, argTypes := ts }, ty, pos, after, guard⟩ = (do let d ← (pure { target := .fn (.method name) #[], args := #[a.eval x] ++ xs.map a.eval } : Sem Deferred); invoke d.target d.args) := rfl
 rw [h1, hx]
 simp only [Sem.run_bind, Sem.run_pure, Result.andThen_ok]
 have h2 : ∀ (A : Array Value), A[0]? = some (Value.iface T u) → invoke (.fn (.method name) #[]) A = callMethod (Value.iface T u) name (A.extract 1 A.size) := fun A hA => by
  simp only [invoke, hA]
 have h4 : (#[Value.iface T u] ++ xs.map a.eval).extract 1 (#[Value.iface T u] ++ xs.map a.eval).size = xs.map a.eval := by
  apply Array.ext'
  simp [List.extract]
  exact List.take_of_length_le (by simp)
 rw [h2 _ (by rw [Array.getElem?_append_left (by simp)]; rfl), h4]
 have h3 : ∃ n, P.types.size + Made.depth = n + 1 := ⟨P.types.size + 99, rfl⟩
 obtain ⟨n, hn⟩ := h3
 simp only [callMethod, Sem.run_bind, run_program, Result.andThen_ok, hn, (hT T).mth name g hm]
 rw [he]
 congr 2
 apply Array.ext'
 simp
theorem eff_ok (hT : TOK P E.TI) (hE : EnvOk P E) {o : Oper} {α : Type} {k : Eff → Option α} {r : α} (h : eff E o s.ev (tlook s.ob) k = some r) :
  ∃ e, k e = some r ∧ (∀ (β : Type) (k' : Eff → Option β), eff E o s.ev (tlook s.ob) k' = k' e) ∧ OpW P c F o (fun s' => s' = s.app o.dst e) s := by
 unfold eff at h ⊢
 cases he : effN E o s.ev (tlook s.ob) with
 | some e =>
  rw [he] at h
  simp only at h ⊢
  obtain ⟨hb, h⟩ := chk_some h
  exact ⟨e, h, fun β k' => by rw [hb]; rfl, EffOk.opW fun π a w hm => effN_ok hT he hb hm⟩
 | none =>
  rw [he] at h
  simp only at h ⊢
  obtain ⟨dst, op, ty, pos, after, guard⟩ := o
  simp only at h ⊢
  cases op with
  | pick q x y =>
   simp only at h ⊢
   cases hq : s.ev q with
   | dv t b =>
    rw [hq] at h
    cases t with
    | bool =>
     simp only at h ⊢
     have fin : ∀ (z : Operand), (∀ π a w, RelM c F π s a w → (execOp a.eval ⟨dst, .pick q x y, ty, pos, after, guard⟩).run P w = .ok (.value (a.eval z)) w) → OpW P c F ⟨dst, .pick q x y, ty, pos, after, guard⟩ (fun s' => s' = s.app dst ⟨s.ev z, [], true⟩) s := fun z hz =>
      EffOk.opW (o := ⟨dst, .pick q x y, ty, pos, after, guard⟩) fun π a w hm => ⟨_, w, π, .inl (hz π a w hm), hm, hm.ev z⟩
     cases b with
     | true =>
      refine ⟨⟨s.ev x, [], true⟩, h, fun β k' => rfl, fin x fun π a w hm => ?_⟩
      have hq' : a.eval q = .bool true := hm.evb hq
      simp [execOp, hq', asBool]
     | false =>
      refine ⟨⟨s.ev y, [], true⟩, h, fun β k' => rfl, fin y fun π a w hm => ?_⟩
      have hq' : a.eval q = .bool false := hm.evb hq
      simp [execOp, hq', asBool]
    | _ => cases h
   | _ => rw [hq] at h; cases h
  | next x is =>
   cases is with
   | false => cases h
   | true =>
   simp only at h ⊢
   cases hq : s.ev x with
   | row id =>
    rw [hq] at h
    simp only at h ⊢
    cases ho : tlook s.ob id with
    | none => rw [ho] at h; cases h
    | some o =>
     rw [ho] at h
     cases o with
     | sit l =>
      simp only at h ⊢
      cases l with
      | nil =>
       refine ⟨_, h, fun β k' => rfl, EffOk.opW (o := ⟨dst, .next x true, ty, pos, after, guard⟩) fun π a w hm => ?_⟩
       have hv := hm.ev x
       rw [hq] at hv
       exact ⟨_, w, π, .inl (exec_value (e := Instr.next (a.eval x) true ty) rfl ((snext_ok hm ho hv ty).1 rfl)), hm, ⟨#[.bool false], rfl, rfl, fun j hj => by
        obtain rfl : j = 0 := by omega
        exact ⟨_, rfl, rfl⟩⟩⟩
      | cons p r =>
       refine ⟨_, h, fun β k' => rfl, EffOk.opW (o := ⟨dst, .next x true, ty, pos, after, guard⟩) fun π a w hm => ?_⟩
       have hv := hm.ev x
       rw [hq] at hv
       obtain ⟨w', h1, h2⟩ := (snext_ok hm ho hv ty).2 p r rfl
       exact ⟨_, w', π, .inl (exec_value (e := Instr.next (a.eval x) true ty) rfl h1), h2, ⟨_, rfl, rfl, fun j hj => by
        match j, hj with
        | 0, _ => exact ⟨_, rfl, rfl⟩
        | 1, _ => exact ⟨_, rfl, rfl⟩
        | 2, _ => exact ⟨_, rfl, rfl⟩⟩⟩
     | _ => cases h
   | _ => rw [hq] at h; cases h
  | call cl =>
   obtain ⟨callee, args, ats⟩ := cl
   simp only at h ⊢
   cases callee with
   | value x =>
    simp only at h ⊢
    cases hx : s.ev x with
    | fn g k1 n f =>
     rw [hx] at h
     simp only at h ⊢
     let vals : Act → List Value := fun a => match a.eval x with | .func _ fs cs => fs.toList ++ args.toList.map a.eval ++ cs.toList | _ => []
     have hfn : ∀ (s' : TS) (π : Nat → Pl) (a : Act) (w : World), s'.sl = s.sl → RelM c F π s' a w → ∃ fs cs : Array Value, a.eval x = .func (.func g) fs cs ∧ fs.size = k1 ∧ cs.size = n ∧ (∀ j, j < k1 → ∃ u, fs[j]? = some u ∧ VR w (Gz F w π (tlook s'.ob)) π (tlook s'.ob) (f j) u) ∧ ∀ j, j < n → ∃ u, cs[j]? = some u ∧ VR w (Gz F w π (tlook s'.ob)) π (tlook s'.ob) (f (k1 + j)) u := fun s' π a w hsl hm => by
      have e1 : s'.ev x = s.ev x := by cases x <;> simp only [TS.ev, hsl]
      have := hm.ev x
      rw [e1, hx] at this
      exact this
     refine callE_ok (o := ⟨dst, .call { callee := .value x, args := args, argTypes := ats }, ty, pos, after, guard⟩) hE h vals (fun s' π a w hsl hm => ?_) fun s' a w hsl hr he => ?_
     ·obtain ⟨fs, cs, e1, e2, e3, e4, e5⟩ := hfn s' π a w hsl hm
      have hvals : vals a = fs.toList ++ args.toList.map a.eval ++ cs.toList := by simp only [vals, e1]
      refine ⟨by rw [hvals]; simp [fnArgs, e2, e3], fun i z v hz hv => ?_⟩
      rw [hvals] at hv
      simp only [fnArgs] at hz
      by_cases h1 : i < k1
      ·rw [List.append_assoc, List.getElem?_append_left (by simpa using h1)] at hz
       rw [List.append_assoc, List.getElem?_append_left (by simp [e2]; omega)] at hv
       obtain ⟨u, a1, a2⟩ := e4 i h1
       rw [Array.getElem?_toList, a1] at hv
       obtain rfl := Option.some.inj hv
       rw [List.getElem?_map, List.getElem?_range h1] at hz
       simp only [Option.map_some, Option.some.injEq] at hz
       subst hz; exact a2
      ·by_cases h2 : i < k1 + args.size
       ·rw [List.append_assoc, List.getElem?_append_right (by simp; omega), List.getElem?_append_left (by simp; omega)] at hz
        rw [List.append_assoc, List.getElem?_append_right (by simp [e2]; omega), List.getElem?_append_left (by simp [e2]; omega)] at hv
        simp only [List.length_map, List.length_range, List.getElem?_map, Option.map_eq_some_iff] at hz
        simp only [Array.length_toList, e2, List.getElem?_map, Option.map_eq_some_iff] at hv
        obtain ⟨y1, hy1, rfl⟩ := hz
        obtain ⟨y2, hy2, rfl⟩ := hv
        rw [hy1] at hy2; obtain rfl := Option.some.inj hy2
        have e1 : s'.ev y1 = s.ev y1 := by cases y1 <;> simp only [TS.ev, hsl]
        rw [← e1]; exact hm.ev y1
       ·rw [List.getElem?_append_right (by simp; omega)] at hz
        rw [List.getElem?_append_right (by simp [e2]; omega)] at hv
        simp only [List.length_append, List.length_map, List.length_range, Array.length_toList] at hz hv
        rw [e2] at hv
        have hlt : i - (k1 + args.size) < n := by
         have := (List.getElem?_eq_some_iff.1 hz).1
         simpa using this
        obtain ⟨u, a1, a2⟩ := e5 _ hlt
        rw [Array.getElem?_toList, a1] at hv
        obtain rfl := Option.some.inj hv
        rw [List.getElem?_map, List.getElem?_range hlt] at hz
        simp only [Option.map_some, Option.some.injEq] at hz
        subst hz; exact a2
     ·obtain ⟨π, hm⟩ := hr
      obtain ⟨fs, cs, e1, _⟩ := hfn s' π a w hsl hm
      have hvals : vals a = fs.toList ++ args.toList.map a.eval ++ cs.toList := by simp only [vals, e1]
      rw [hvals]
      exact run_callv he rfl a w e1
    | _ => rw [hx] at h; cases h
   | invoke x name =>
    simp only at h ⊢
    cases hx : s.ev x with
    | dv u y =>
     rw [hx] at h
     simp only at h ⊢
     have key : ∀ (u : DT) (y : u.den), ivkE E (dst.getD 0) name (args.toList.map s.ev) (tlook s.ob) k u y = some r →
       (∀ (s' : TS) (π : Nat → Pl) (a : Act) (w : World), s'.sl = s.sl → RelM c F π s' a w → u.cell y 0 w (Gz F w π (tlook s'.ob)) (a.eval x)) →
       ∃ e, k e = some r ∧ (∀ (β : Type) (k' : Eff → Option β), ivkE E (dst.getD 0) name (args.toList.map s.ev) (tlook s.ob) k' u y = k' e) ∧ OpW P c F ⟨dst, .call { callee := .invoke x name, args := args, argTypes := ats }, ty, pos, after, guard⟩ (fun s' => s' = s.app dst e) s := by
      intro u
      induction u with
      | ifc T t u' _ ih =>
       intro y h hv
       cases y with
       | inr b => exact ih b h hv
       | inl b =>
        simp only [ivkE, ifElim] at h ⊢
        split at h
        ·cases h
        rename_i hag
        have hag : t.agg = false := by simpa using hag
        simp only [hag, Bool.false_eq_true, if_false]
        split at h
        ·rename_i g hg
         have hb : ∀ (s' : TS) (π : Nat → Pl) (a : Act) (w : World), s'.sl = s.sl → RelM c F π s' a w → ∃ z, a.eval x = .iface T z ∧ t.val b w (Gz F w π (tlook s'.ob)) z := fun s' π a w e1 e2 => by
          obtain ⟨z, h1, _, h3⟩ := hv s' π a w e1 e2
          exact ⟨z, h1, (DT.val_one hag).2 h3⟩
         let vals : Act → List Value := fun a => match a.eval x with | .iface _ z => z :: args.toList.map a.eval | _ => []
         refine callE_ok (o := ⟨dst, .call { callee := .invoke x name, args := args, argTypes := ats }, ty, pos, after, guard⟩) hE h vals (fun s' π a w hsl hm => ?_) fun s' a w hsl hr he => ?_
         ·obtain ⟨z, e1, e2⟩ := hb s' π a w hsl hm
          have hvals : vals a = z :: args.toList.map a.eval := by simp only [vals, e1]
          refine ⟨by rw [hvals]; simp, fun i p v hp hv => ?_⟩
          rw [hvals] at hv
          cases i with
          | zero => simp at hp hv; subst hp; subst hv; exact e2
          | succ i =>
           simp only [List.getElem?_cons_succ, List.getElem?_map, Option.map_eq_some_iff] at hp hv
           obtain ⟨y1, hy1, rfl⟩ := hp
           obtain ⟨y2, hy2, rfl⟩ := hv
           rw [hy1] at hy2; obtain rfl := Option.some.inj hy2
           have e1 : s'.ev y1 = s.ev y1 := by cases y1 <;> simp only [TS.ev, hsl]
           rw [← e1]; exact hm.ev y1
         ·obtain ⟨π, hm⟩ := hr
          obtain ⟨z, e1, _⟩ := hb s' π a w hsl hm
          have hvals : vals a = z :: args.toList.map a.eval := by simp only [vals, e1]
          rw [hvals]
          exact run_callm hT hg he rfl a w e1
        ·cases h
      | _ => intro y h; cases h
     refine key u y h fun s' π a w hsl hm => ?_
     have e1 : s'.ev x = s.ev x := by cases x <;> simp only [TS.ev, hsl]
     have := hm.ev x
     rw [e1, hx] at this
     cases u with
     | ifc T t u' => exact (DT.val_one rfl).1 this
     | _ => cases h
    | _ => rw [hx] at h; cases h
   | _ => cases h
  | _ => cases h
end
end

section
inductive Place where
 | slot (i : Nat)
 | fld (id j : Nat)
 deriving DecidableEq
structure Norm where
 keep : List Nat
 objs : List Nat
 rows : List (Place × Nat × DT)
 dat : List (Nat × DT)
def Place.tv (s : TS) : Place → TV
 | .slot i => s.sl.getD i .any
 | .fld id j => match tlook s.ob id with
  | some (.rcd fs) => fs.getD j .any
  | _ => .any
def TO.rm : TO → Bool
 | .row _ _ => true
 | .map _ _ _ => true
 | _ => false
def rowSrc (L : Obs) (x : TV) (t : DT) : Option (Option Nat × TO) :=
 match x with
 | .row id => match L id with
  | some (.row t' l) => if t' = t then some (some id, .row t' l) else none
  | some (.map kt vt l) => if t = .tup (.pair kt vt) then some (some id, .map kt vt l) else none
  | _ => none
 | .nl => some (none, .row t [])
 | _ => none
def srcs (s : TS) : List (Place × Nat × DT) → Option (List (Nat × Option Nat × TO))
 | [] => some []
 | (x, id, t) :: r => match rowSrc (tlook s.ob) (x.tv s) t with
  | some (q, o) => match srcs s r with
   | some L => some ((id, q, o) :: L)
   | none => none
  | none => none
theorem rowSrc_ok {L : Obs} {x : TV} {t : DT} {q : Option Nat} {o : TO} (h : rowSrc L x t = some (q, o)) : (∃ id, x = .row id ∧ q = some id ∧ L id = some o ∧ o.rm = true) ∨ (x = .nl ∧ q = none ∧ o = .row t []) := by
 unfold rowSrc at h
 split at h
 ·rename_i id
  split at h
  ·rename_i t' l ho
   split at h
   ·simp only [Option.some.injEq, Prod.mk.injEq] at h
    obtain ⟨rfl, rfl⟩ := h
    exact .inl ⟨id, rfl, rfl, ho, rfl⟩
   ·cases h
  ·rename_i kt vt l ho
   split at h
   ·simp only [Option.some.injEq, Prod.mk.injEq] at h
    obtain ⟨rfl, rfl⟩ := h
    exact .inl ⟨id, rfl, rfl, ho, rfl⟩
   ·cases h
  ·cases h
 ·simp only [Option.some.injEq, Prod.mk.injEq] at h
  obtain ⟨rfl, rfl⟩ := h
  exact .inr ⟨rfl, rfl, rfl⟩
 ·cases h
def newAt (rows : List (Place × Nat × DT)) (p : Place) : Option Nat := (rows.find? fun q => q.1 == p).map (·.2.1)
def normTV (nm : Norm) (p : Place) (x : TV) : TV :=
 match newAt nm.rows p with
 | some id => .row id
 | none => if x.withinB nm.objs then x else .any
def normFlds (nm : Norm) (id : Nat) : Nat → List TV → List TV
 | _, [] => []
 | j, x :: r => normTV nm (.fld id j) x :: normFlds nm id (j + 1) r
def goTV (mv : Nat → Option Nat) : TV → TV
 | .vrow id a b => match mv id with
  | some n => .vrow n a b
  | none => .any
 | _ => .any
def normSlot (nm : Norm) (mv : Nat → Option Nat) (i : Nat) (x : TV) : TV :=
 match newAt nm.rows (.slot i) with
 | some id => .row id
 | none => if nm.keep.contains i && x.withinB nm.objs then x else if nm.keep.contains i then goTV mv x else .any
def normSlots (nm : Norm) (mv : Nat → Option Nat) : Nat → List TV → List TV
 | _, [] => []
 | i, x :: r => normSlot nm mv i x :: normSlots nm mv (i + 1) r
def mvOf (A : List (Nat × Option Nat × TO)) (id : Nat) : Option Nat :=
 match A with
 | [] => none
 | p :: r => if p.2.1 = some id then some p.1 else mvOf r id
theorem mvOf_some : ∀ {A : List (Nat × Option Nat × TO)} {id n : Nat}, mvOf A id = some n → ∃ p ∈ A, p.1 = n ∧ p.2.1 = some id
 | [], id, n, h => by cases h
 | p :: r, id, n, h => by
  simp only [mvOf] at h
  split at h
  ·rename_i e; obtain rfl := Option.some.inj h; exact ⟨p, by simp, rfl, e⟩
  ·obtain ⟨q, h1, h2⟩ := mvOf_some h; exact ⟨q, by simp [h1], h2⟩
def keptSrcs (s : TS) (nm : Norm) (moved : List Nat) : List Nat → Option (List (Nat × Option Nat × TO))
 | [] => some []
 | id :: r => match tlook s.ob id with
  | some o => match keptSrcs s nm moved r with
   | some L => some ((if moved.contains id then (id, none, .dead) else (id, some id, match o with | .rcd fs => .rcd (normFlds nm id 0 fs) | o => o)) :: L)
   | none => none
  | none => none
def pinR (i : Nat) : Bool := 9000 ≤ i && i < 10000
def pinQ (pp : List Nat) (i : Nat) : Bool := pinR i || pp.contains i
def TS.norm0 (pp : List Nat) (nm : Norm) (s : TS) : Option TS :=
 match srcs s nm.rows with
 | some A => match keptSrcs s nm (A.filterMap (·.2.1)) nm.objs with
  | some B => if nodupB ((A ++ B).map (·.1)) && nodupB ((A ++ B).filterMap (·.2.1)) && nm.rows.all (fun p => (match p.1 with | .slot i => decide (i < s.sl.length) | .fld id j => nm.objs.contains id && !(A.filterMap (·.2.1)).contains id && (match tlook s.ob id with | some (.rcd fs) => decide (j < fs.length) && decide ((fs.getD j .any).size = 1) && (fs.getD j .any).nagg | _ => false)) && !pinQ pp p.2.1) && s.ob.all (fun p => !pinQ pp p.1 || nm.objs.contains p.1)
   then some ⟨normSlots nm (mvOf A) 0 s.sl, (A ++ B).map fun p => (p.1, p.2.2)⟩ else none
  | none => none
 | none => none
theorem normSlots_get (nm : Norm) (mv : Nat → Option Nat) : ∀ (l : List TV) (i j : Nat), (normSlots nm mv i l)[j]? = (l[j]?).map (normSlot nm mv (i + j))
 | [], i, j => by simp [normSlots]
 | x :: r, i, 0 => by simp [normSlots]
 | x :: r, i, j + 1 => by
  simp only [normSlots, List.getElem?_cons_succ]
  rw [normSlots_get nm mv r (i + 1) j]
  congr 2
  omega
theorem normFlds_get (nm : Norm) (id : Nat) : ∀ (l : List TV) (i j : Nat), (normFlds nm id i l)[j]? = (l[j]?).map (normTV nm (.fld id (i + j)))
 | [], i, j => by simp [normFlds]
 | x :: r, i, 0 => by simp [normFlds]
 | x :: r, i, j + 1 => by
  simp only [normFlds, List.getElem?_cons_succ]
  rw [normFlds_get nm id r (i + 1) j]
  congr 3
  omega
theorem normSlots_len (nm : Norm) (mv : Nat → Option Nat) : ∀ (l : List TV) (i : Nat), (normSlots nm mv i l).length = l.length
 | [], i => rfl
 | x :: r, i => by simp [normSlots, normSlots_len nm mv r (i + 1)]
theorem normFlds_len (nm : Norm) (id : Nat) : ∀ (l : List TV) (i : Nat), (normFlds nm id i l).length = l.length
 | [], i => rfl
 | x :: r, i => by simp [normFlds, normFlds_len nm id r (i + 1)]
theorem srcs_ok {s : TS} : ∀ {l : List (Place × Nat × DT)} {A : List (Nat × Option Nat × TO)}, srcs s l = some A → ∀ q ∈ l, ∃ o, (q.2.1, (match q.1.tv s with | .row id => some id | _ => none), o) ∈ A ∧ ((∃ id, q.1.tv s = .row id ∧ tlook s.ob id = some o ∧ o.rm = true) ∨ (q.1.tv s = .nl ∧ o = .row q.2.2 []))
 | [], A, h => by simp
 | (x, id, t) :: r, A, h => by
  simp only [srcs] at h
  split at h
  ·rename_i q o hq
   split at h
   ·rename_i L hL
    obtain rfl := Option.some.inj h
    intro p hp
    rcases List.mem_cons.1 hp with rfl | hp
    ·refine ⟨o, ?_⟩
     rcases rowSrc_ok hq with ⟨id0, e0, rfl, e1, e2⟩ | ⟨e0, rfl, e1⟩
     ·exact ⟨by rw [e0]; simp, .inl ⟨id0, e0, e1, e2⟩⟩
     ·exact ⟨by rw [e0]; simp, .inr ⟨e0, e1⟩⟩
    ·obtain ⟨l', h1, h2⟩ := srcs_ok hL p hp
     exact ⟨l', by simp [h1], h2⟩
   ·cases h
  ·cases h
theorem srcs_mem {s : TS} : ∀ {l : List (Place × Nat × DT)} {A : List (Nat × Option Nat × TO)}, srcs s l = some A → ∀ p ∈ A, (∃ q ∈ l, q.2.1 = p.1) ∧ ((∃ old, p.2.1 = some old ∧ tlook s.ob old = some p.2.2 ∧ p.2.2.rm = true) ∨ (p.2.1 = none ∧ ∃ t, p.2.2 = .row t []))
 | [], A, h => by simp only [srcs, Option.some.injEq] at h; subst h; simp
 | (x, id, t) :: r, A, h => by
  simp only [srcs] at h
  split at h
  ·rename_i q o hq
   split at h
   ·rename_i L hL
    obtain rfl := Option.some.inj h
    intro p hp
    rcases List.mem_cons.1 hp with rfl | hp
    ·refine ⟨⟨(x, id, t), by simp, rfl⟩, ?_⟩
     rcases rowSrc_ok hq with ⟨id0, e0, rfl, e1, e2⟩ | ⟨e0, rfl, e1⟩
     ·exact .inl ⟨id0, rfl, e1, e2⟩
     ·exact .inr ⟨rfl, t, e1⟩
    ·obtain ⟨⟨q', h0, h1⟩, h2⟩ := srcs_mem hL p hp
     exact ⟨⟨q', by simp [h0], h1⟩, h2⟩
   ·cases h
  ·cases h
theorem keptSrcs_ok {s : TS} {nm : Norm} {moved : List Nat} : ∀ {l : List Nat} {B : List (Nat × Option Nat × TO)}, keptSrcs s nm moved l = some B → ∀ id ∈ l, ∃ o, tlook s.ob id = some o ∧ (if moved.contains id then (id, none, TO.dead) else (id, some id, match o with | .rcd fs => .rcd (normFlds nm id 0 fs) | o => o)) ∈ B
 | [], B, h => by simp
 | id :: r, B, h => by
  simp only [keptSrcs] at h
  split at h
  ·rename_i o ho
   split at h
   ·rename_i L hL
    obtain rfl := Option.some.inj h
    intro j hj
    rcases List.mem_cons.1 hj with rfl | hj
    ·exact ⟨o, ho, List.mem_cons_self⟩
    ·obtain ⟨o', h1, h2⟩ := keptSrcs_ok hL j hj
     exact ⟨o', h1, List.mem_cons_of_mem _ h2⟩
   ·cases h
  ·cases h
theorem keptSrcs_mem {s : TS} {nm : Norm} {moved : List Nat} : ∀ {l : List Nat} {B : List (Nat × Option Nat × TO)}, keptSrcs s nm moved l = some B → ∀ p ∈ B, p.1 ∈ l ∧ ∃ o, tlook s.ob p.1 = some o ∧ ((moved.contains p.1 = true ∧ p.2 = (none, .dead)) ∨ (moved.contains p.1 = false ∧ p.2 = (some p.1, match o with | .rcd fs => .rcd (normFlds nm p.1 0 fs) | o => o)))
 | [], B, h => by simp only [keptSrcs, Option.some.injEq] at h; subst h; simp
 | id :: r, B, h => by
  simp only [keptSrcs] at h
  split at h
  ·rename_i o ho
   split at h
   ·rename_i L hL
    obtain rfl := Option.some.inj h
    intro p hp
    rcases List.mem_cons.1 hp with rfl | hp
    ·cases hc : moved.contains id with
     | true => exact ⟨by simp, o, by simpa using ho, .inl ⟨by simpa using hc, by simp⟩⟩
     | false => exact ⟨by simp, o, by simpa using ho, .inr ⟨by simpa using hc, by simp⟩⟩
    ·obtain ⟨h1, h2⟩ := keptSrcs_mem hL p hp
     exact ⟨by simp [h1], h2⟩
   ·cases h
  ·cases h
def ent : List (Nat × Option Nat × TO) → Nat → Option (Option Nat × TO)
 | [], _ => none
 | (i, q) :: r, j => if j = i then some q else ent r j
theorem ent_look (C : List (Nat × Option Nat × TO)) (i : Nat) : tlook (C.map fun p => (p.1, p.2.2)) i = (ent C i).map (·.2) := by
 induction C with
 | nil => rfl
 | cons p r ih =>
  obtain ⟨j, q⟩ := p
  simp only [List.map_cons, tlook, ent]
  split
  ·rfl
  ·exact ih
theorem ent_mem {C : List (Nat × Option Nat × TO)} {i : Nat} {q : Option Nat × TO} (h : ent C i = some q) : (i, q) ∈ C := by
 induction C with
 | nil => cases h
 | cons p r ih =>
  obtain ⟨j, q'⟩ := p
  simp only [ent] at h
  split at h
  ·rename_i e; subst e; obtain rfl := Option.some.inj h; simp
  ·simp [ih h]
theorem ent_of : ∀ {C : List (Nat × Option Nat × TO)}, nodupB (C.map (·.1)) = true → ∀ {p : Nat × Option Nat × TO}, p ∈ C → ent C p.1 = some p.2
 | [], _, p, h => by simp at h
 | (j, q) :: r, hn, p, h => by
  simp only [List.map_cons, nodupB, Bool.and_eq_true, Bool.not_eq_true'] at hn
  rcases List.mem_cons.1 h with rfl | h
  ·simp [ent]
  ·have hne : p.1 ≠ j := fun e => by
    have : (r.map (·.1)).contains j = true := by rw [List.contains_iff_mem]; exact List.mem_map.2 ⟨p, h, e⟩
    rw [this] at hn; simp at hn
   simp only [ent, if_neg hne]
   exact ent_of hn.2 h
theorem ent_inj : ∀ {C : List (Nat × Option Nat × TO)}, nodupB (C.filterMap (·.2.1)) = true → nodupB (C.map (·.1)) = true → ∀ {p q : Nat × Option Nat × TO} {old : Nat}, p ∈ C → q ∈ C → p.2.1 = some old → q.2.1 = some old → p.1 = q.1
 | [], _, _, p, q, old, h, _, _, _ => by simp at h
 | x :: r, hn, hm, p, q, old, hp, hq, e1, e2 => by
  simp only [List.map_cons, nodupB, Bool.and_eq_true] at hm
  simp only [List.filterMap_cons] at hn
  have cont : ∀ {y : Nat × Option Nat × TO}, y ∈ r → y.2.1 = some old → (r.filterMap (·.2.1)).contains old = true := fun hy e => by
   rw [List.contains_iff_mem]; exact List.mem_filterMap.2 ⟨_, hy, e⟩
  cases hx : x.2.1 with
  | none =>
   rw [hx] at hn
   rcases List.mem_cons.1 hp with rfl | hp
   ·rw [hx] at e1; cases e1
   ·rcases List.mem_cons.1 hq with rfl | hq
    ·rw [hx] at e2; cases e2
    ·exact ent_inj hn hm.2 hp hq e1 e2
  | some z =>
   rw [hx] at hn
   simp only [nodupB, Bool.and_eq_true, Bool.not_eq_true'] at hn
   rcases List.mem_cons.1 hp with hp' | hp' <;> rcases List.mem_cons.1 hq with hq' | hq'
   ·rw [hp', hq']
   ·rw [hp', hx] at e1; obtain rfl := Option.some.inj e1
    rw [cont hq' e2] at hn; simp at hn
   ·rw [hq', hx] at e2; obtain rfl := Option.some.inj e2
    rw [cont hp' e1] at hn; simp at hn
   ·exact ent_inj hn.2 hm.2 hp' hq' e1 e2
theorem size_any_of {nm : Norm} {p : Place} {x : TV} (h : newAt nm.rows p = none) : (normTV nm p x).size = x.size ∧ ∀ o q c, x.floc o q = some c → x.finb q → (normTV nm p x).floc o q = some c ∧ (normTV nm p x).finb q := by
 unfold normTV
 rw [h]
 simp only
 split
 ·exact ⟨rfl, fun _ _ _ a b => ⟨a, b⟩⟩
 ·rename_i hn
  cases x with
  | dv t y => exact absurd (by simp [TV.withinB, TV.ids]) hn
  | _ => exact ⟨rfl, fun _ _ _ a b => ⟨a, b⟩⟩
theorem tag_normTV {nm : Norm} {p : Place} {x : TV} (h : (normTV nm p x).size = x.size) : (normTV nm p x).tag = x.tag := by
 unfold normTV at h ⊢
 split
 ·rename_i n hn
  rw [hn] at h
  rw [tag_none (x := x) (by have : 1 = x.size := h; omega)]; rfl
 ·split
  ·rfl
  ·rename_i hn
   cases x with
   | dv t y => exact absurd (by simp [TV.withinB, TV.ids]) hn
   | _ => rfl
theorem tag_norm {nm : Norm} {id : Nat} {fs : List TV} (h : ∀ (j : Nat) (x : TV), fs[j]? = some x → (normTV nm (.fld id j) x).size = x.size) : tagOf (normFlds nm id 0 fs) = tagOf fs := by
 unfold tagOf
 rw [List.getLast?_eq_getElem?, List.getLast?_eq_getElem?, normFlds_len, normFlds_get, Nat.zero_add]
 cases hx : fs[fs.length - 1]? with
 | none => rfl
 | some x => simp [tag_normTV (h _ _ hx)]
theorem newAt_some {rows : List (Place × Nat × DT)} {p : Place} {n : Nat} (h : newAt rows p = some n) : ∃ q ∈ rows, q.1 = p ∧ q.2.1 = n := by
 unfold newAt at h
 obtain ⟨q, hq, rfl⟩ := Option.map_eq_some_iff.1 h
 exact ⟨q, List.mem_of_find?_eq_some hq, by simpa using List.find?_some hq, rfl⟩
theorem within_of_B {R : List Nat} {x : TV} (h : x.withinB R = true) : x.within (· ∈ R) := by
 simp only [TV.withinB, List.all_eq_true, List.contains_iff_mem] at h
 exact TV.within_ids h
section
variable {P : Program} {c : Cx} {F : Nat → Prop} {s : TS} {π : Nat → Pl} {a : Act} {w : World}

theorem norm0_ok {pp : List Nat} (hpin : ∀ id p, c.pin id = some p → pinQ pp id = true) {nm : Norm} {s' : TS} (h : s.norm0 pp nm = some s') (hm : RelM c F π s a w) : ∃ π', RelM c F π' s' a w := by
 unfold TS.norm0 at h
 split at h
 ·rename_i A hA
  split at h
  ·rename_i B hB
   split at h
   ·rename_i hcond
    obtain rfl := Option.some.inj h
    simp only [Bool.and_eq_true] at hcond
    obtain ⟨⟨⟨n1, n2⟩, n3⟩, n4⟩ := hcond
    simp only [List.all_eq_true, Bool.and_eq_true, Bool.not_eq_true', Bool.or_eq_true] at n3 n4
    generalize hC : A ++ B = C at n1 n2 ⊢
    let O' := tlook (C.map fun p => (p.1, p.2.2))
    have hO' : ∀ i, O' i = (ent C i).map (·.2) := ent_look C
    let π' : Nat → Pl := fun i => match ent C i with | some (some old, _) => π old | _ => ⟨none, 0, 0⟩
    -- what an entry is
    have hent : ∀ {i : Nat} {q : Option Nat × TO}, ent C i = some q → ((i, q) ∈ A ∨ (i, q) ∈ B) := fun h => by
     have := ent_mem h
     rw [← hC] at this
     exact List.mem_append.1 this
    have hsrc : ∀ {i : Nat} {q : Option Nat × TO} {old : Nat}, ent C i = some q → q.1 = some old → ∃ o, tlook s.ob old = some o ∧ (q.2.live = o.live) ∧ ((o.rm = true ∧ q.2 = o) ∨ (i = old ∧ i ∈ nm.objs ∧ q.2 = match o with | .rcd fs => .rcd (normFlds nm i 0 fs) | o => o)) := fun {i q old} he hq => by
     rcases hent he with h | h
     ·obtain ⟨_, e2⟩ := srcs_mem hA _ h
      rcases e2 with ⟨old', e3, e4, e5⟩ | ⟨e3, _⟩
      ·simp only at e3 e4 e5
       rw [hq] at e3; obtain rfl := Option.some.inj e3
       exact ⟨_, e4, rfl, .inl ⟨e5, rfl⟩⟩
      ·simp only at e3; rw [hq] at e3; cases e3
     ·obtain ⟨e0, o, e1, e2⟩ := keptSrcs_mem hB _ h
      rcases e2 with ⟨_, e3⟩ | ⟨_, e3⟩
      ·simp only at e3; rw [e3] at hq; cases hq
      ·simp only at e3 e1 e0
       rw [e3] at hq
       obtain rfl := Option.some.inj hq
       exact ⟨o, e1, by rw [e3]; cases o <;> rfl, .inr ⟨rfl, e0, by rw [e3]⟩⟩
    have hno : ∀ {i : Nat} {q : Option Nat × TO}, ent C i = some q → q.1 = none → (∃ t, q.2 = .row t []) ∨ q.2 = .dead := fun {i q} he hq => by
     rcases hent he with h | h
     ·obtain ⟨_, e2⟩ := srcs_mem hA _ h
      rcases e2 with ⟨old', e3, _⟩ | ⟨_, t, e1⟩
      ·simp only at e3; rw [hq] at e3; cases e3
      ·exact .inl ⟨t, e1⟩
     ·obtain ⟨e0, o, e1, e2⟩ := keptSrcs_mem hB _ h
      rcases e2 with ⟨_, e3⟩ | ⟨_, e3⟩
      ·exact .inr (by simp only at e3; rw [e3])
      ·simp only at e3; rw [e3] at hq; cases hq
    have own : ∀ {i g : Nat}, Own π' O' i g → ∃ old q, ent C i = some q ∧ q.1 = some old ∧ Own π (tlook s.ob) old g := fun {i g} ⟨h1, o1, h2, h3⟩ => by
     rw [hO'] at h2
     obtain ⟨q, he, rfl⟩ := Option.map_eq_some_iff.1 h2
     cases hq : q.1 with
     | none =>
      have : (π' i).g = none := by simp only [π', he]; obtain ⟨q1, q2⟩ := q; simp only at hq; subst hq; rfl
      rw [this] at h1; cases h1
     | some old =>
      obtain ⟨o, e1, e2, _⟩ := hsrc he hq
      have : π' i = π old := by simp only [π', he]; obtain ⟨q1, q2⟩ := q; simp only at hq; subst hq; rfl
      rw [this] at h1
      exact ⟨old, q, he, hq, h1, o, e1, e2 ▸ h3⟩
    have fz : FzTo w (Gz F w π (tlook s.ob)) w (Gz F w π' O') := fun b ⟨h0, h1, h2⟩ => ⟨⟨h0, h1, fun i hi => by
     obtain ⟨old, q, _, _, h3⟩ := own hi
     exact h2 old h3⟩, rfl⟩
    -- kept objects go on
    have hkeep : ∀ id o, id ∈ nm.objs → tlook s.ob id = some o → ∃ o', O' id = some o' ∧ Step w (Gz F w π' O') (π id) (π' id) o o' := fun id o hid ho => by
     obtain ⟨o1, e1, e2⟩ := keptSrcs_ok hB id hid
     rw [ho] at e1; obtain rfl := Option.some.inj e1
     have hmem : ∀ {x}, x ∈ B → x ∈ C := fun h => by rw [← hC]; exact List.mem_append_right _ h
     have he := ent_of n1 (hmem e2)
     by_cases hmv : (A.filterMap (·.2.1)).contains id = true
     ·simp only [hmv, if_true] at he
      exact ⟨.dead, by rw [hO', he]; rfl, by cases o <;> trivial⟩
     ·simp only [hmv, Bool.false_eq_true, if_false] at he
      have hpi : π' id = π id := by simp only [π', he]
      refine ⟨_, by rw [hO', he]; rfl, ?_⟩
      rw [hpi]
      cases o with
      | rcd fs =>
       refine ⟨rfl, normFlds_len nm id fs 0, fun j x hx => ?_⟩
       refine ⟨_, by rw [normFlds_get, hx]; rfl, ?_⟩
       rw [Nat.zero_add]
       cases hna : newAt nm.rows (.fld id j) with
       | none => exact size_any_of hna
       | some n =>
        obtain ⟨q, q1, q2, q3⟩ := newAt_some hna
        have := (n3 q q1).1
        rw [q2] at this
        simp only [Bool.and_eq_true, Bool.not_eq_true', ho, decide_eq_true_eq] at this
        have hfd : fs.getD j .any = x := by simp [List.getD, hx]
        rw [hfd] at this
        have hsz : x.size = 1 := this.2.1.2
        have hnag := this.2.2
        have : normTV nm (.fld id j) x = .row n := by simp only [normTV, hna]
        rw [this]
        refine ⟨hsz.symm, fun o p c h1 _ => ?_⟩
        have hp : p = [] ∧ c = o := by
         cases x with
         | dv t z =>
          simp only [TV.nagg, Bool.not_eq_true'] at hnag
          simp only [TV.floc] at h1
          obtain ⟨L, hL, hc⟩ := Option.map_eq_some_iff.1 h1
          have : p = [] := by
           cases p with
           | nil => rfl
           | cons i p => cases t <;> first | (simp [DT.agg] at hnag; done) | simp [DT.at] at hL
          subst this
          rw [DT.at_nil] at hL; obtain rfl := Option.some.inj hL
          exact ⟨rfl, by simpa using hc.symm⟩
         | _ =>
          simp only [TV.floc] at h1
          cases p with
          | nil => exact ⟨rfl, by simpa using h1.symm⟩
          | cons i p => cases h1
        obtain ⟨rfl, rfl⟩ := hp
        exact ⟨rfl, trivial⟩
      | row t l => exact ⟨rfl, rfl, rfl⟩
      | map kt vt l => rfl
      | iter kt vt l cur => rfl
      | sit l => rfl
      | frz t l => rfl
      | fmp kt vt l => rfl
      | dead => trivial
    -- rows at places
    have hrow : ∀ {p : Place} {n : Nat} {v : Value}, newAt nm.rows p = some n → VR w (Gz F w π (tlook s.ob)) π (tlook s.ob) (p.tv s) v → VR w (Gz F w π' O') π' O' (.row n) v := fun {p n v} hna hv => by
     obtain ⟨q, q1, rfl, rfl⟩ := newAt_some hna
     obtain ⟨l', e1, e2⟩ := srcs_ok hA q q1
     have he := ent_of n1 (show _ ∈ C from by rw [← hC]; exact List.mem_append_left _ e1)
     simp only at he
     simp only [VR, hO', he, Option.map_some]
     rcases e2 with ⟨id, e3, e4, e5⟩ | ⟨e3, rfl⟩
     ·rw [e3] at hv he
      simp only [VR, e4] at hv
      simp only [π', he]
      cases l' <;> first | exact hv | (simp [TO.rm] at e5; done)
     ·rw [e3] at hv he
      have hv' : v = .slice none 0 0 := hv
      simp only [π', he]
      rw [hv']; rfl
    refine ⟨π', hm.kept, hm.hF, hm.defers, by rw [normSlots_len]; exact hm.size, fun i x hx => ?_, fun id o ho => ?_, fun i j g hi hj => ?_, fun id g hg => ?_, fun id p o0 hp => ?_, hm.glb.mono fz⟩
    ·rw [normSlots_get, Nat.zero_add] at hx
     obtain ⟨y, hy, rfl⟩ := Option.map_eq_some_iff.1 hx
     have hv := hm.slot i y hy
     show VR w (Gz F w π' O') π' O' (normSlot nm (mvOf A) i y) _
     unfold normSlot
     cases hna : newAt nm.rows (.slot i) with
     | some n =>
      refine hrow hna ?_
      have : Place.tv s (.slot i) = y := by simp [Place.tv, List.getD, hy]
      rw [this]; exact hv
     | none =>
      simp only
      split
      ·rename_i hk
       simp only [Bool.and_eq_true] at hk
       exact VR.evoS (· ∈ nm.objs) fz hkeep (within_of_B hk.2) hv
      ·split
       ·cases y with
        | vrow id0 a0 b0 =>
         simp only [goTV]
         cases hmo : mvOf A id0 with
         | none => trivial
         | some n =>
          obtain ⟨pe, p1, rfl, p3⟩ := mvOf_some hmo
          obtain ⟨_, e2⟩ := srcs_mem hA _ p1
          rcases e2 with ⟨old, e3, e4, e5⟩ | ⟨e3, _⟩
          ·rw [p3] at e3; obtain rfl := Option.some.inj e3
           have he := ent_of n1 (show _ ∈ C from by rw [← hC]; exact List.mem_append_left _ p1)
           simp only [VR, e4] at hv
           obtain ⟨pe1, pe2, pe3⟩ := pe
           simp only at p3 e5 he hv ⊢
           subst p3
           simp only [VR, hO', he, Option.map_some, π']
           cases pe3 <;> first | exact hv | trivial
          ·rw [p3] at e3; cases e3
        | _ => trivial
       ·trivial
    ·have ho' : O' id = some o := ho
     rw [hO'] at ho'
     obtain ⟨q, he, rfl⟩ := Option.map_eq_some_iff.1 ho'
     show OR w (Gz F w π' O') π' O' id q.2
     cases hq : q.1 with
     | none =>
      rcases hno he hq with ⟨t, e⟩ | e
      ·rw [e]; refine .inl ⟨?_, rfl⟩
       simp only [π', he]; obtain ⟨q1, q2⟩ := q; simp only at hq; subst hq; rfl
      ·rw [e]; trivial
     | some old =>
      obtain ⟨o1, e1, e2, e3⟩ := hsrc he hq
      have hpi : π' id = π old := by simp only [π', he]; obtain ⟨q1, q2⟩ := q; simp only at hq; subst hq; rfl
      have hor := hm.obj old o1 e1
      have rowOk : ∀ {t : DT} {l : List t.den}, OR w (Gz F w π (tlook s.ob)) π (tlook s.ob) old (.row t l) → OR w (Gz F w π' O') π' O' id (.row t l) := fun {t l} h => by
       simp only [OR] at h ⊢
       rw [hpi]
       rcases h with h | ⟨g, cur, e, h1, h2, h3, h4, h5, h6⟩
       ·exact .inl h
       ·refine .inr ⟨g, cur, e, h1, h2, h3, h4, h5, fun i hi cc hcc => ?_⟩
        obtain ⟨u, b1, b2, b3⟩ := h6 i hi cc hcc
        exact ⟨u, b1, b2, DT.cell_mono fz b3⟩
      have mapOk : ∀ {kt vt : DT} {l : List (kt.den × vt.den)}, OR w (Gz F w π (tlook s.ob)) π (tlook s.ob) old (.map kt vt l) → OR w (Gz F w π' O') π' O' id (.map kt vt l) := fun {kt vt l} h => by
       simp only [OR] at h ⊢
       rw [hpi]
       obtain ⟨g, es, ck, h1, h2, h3, h4, h5, h6⟩ := h
       refine ⟨g, es, ck, h1, h2, h3, h4, h5, fun i e he => ?_⟩
       obtain ⟨x, b1, b2, b3⟩ := h6 i e he
       exact ⟨x, b1, DT.val_mono fz b2, DT.val_mono fz b3⟩
      rcases e3 with ⟨erm, e4⟩ | ⟨rfl, hid, e4⟩
      ·rw [e4]
       cases o1 with
       | row t l => exact rowOk hor
       | map kt vt l => exact mapOk hor
       | _ => simp [TO.rm] at erm
      ·rw [e4]
       cases o1 with
       | row t l => exact rowOk hor
       | map kt vt l => exact mapOk hor
       | iter kt vt l cur =>
        simp only [OR] at hor ⊢
        rw [hpi]
        obtain ⟨r, h1, h2⟩ := hor
        exact ⟨r, h1, h2.mono fz rfl⟩
       | sit l =>
        simp only [OR] at hor ⊢
        rw [hpi]
        exact hor
       | frz t l => trivial
       | fmp kt vt l => trivial
       | dead => trivial
       | rcd fs =>
        simp only [OR] at hor ⊢
        rw [hpi]
        obtain ⟨g, cur, e, h1, h2, h3⟩ := hor
        have hsizes : ∀ j x, fs[j]? = some x → (normTV nm (.fld id j) x).size = x.size := fun j x hx => by
         obtain ⟨o', b1, b2⟩ := hkeep id (.rcd fs) hid e1
         rw [hO', he] at b1
         simp only [Option.map_some, Option.some.injEq] at b1
         rw [← b1, e4] at b2
         obtain ⟨_, _, b3⟩ := b2
         obtain ⟨y, c1, c2, _⟩ := b3 j x hx
         rw [normFlds_get, hx, Nat.zero_add] at c1
         simp only [Option.map_some, Option.some.injEq] at c1
         rw [c1]; exact c2
        have hoffs : ∀ j, offs (normFlds nm id 0 fs) j = offs fs j := offs_eq (normFlds_len nm id fs 0) fun j x hx => ⟨_, by rw [normFlds_get, hx]; rfl, by rw [Nat.zero_add]; exact hsizes j x hx⟩
        refine ⟨g, cur, e, h1, ⟨h2.1, h2.2.on (tag_norm hsizes) rfl (by rw [hoffs, normFlds_len])⟩, fun j x hx cc hcc => ?_⟩
        rw [normFlds_get, Nat.zero_add] at hx
        obtain ⟨y, hy, rfl⟩ := Option.map_eq_some_iff.1 hx
        rw [hsizes j y hy] at hcc
        obtain ⟨u, b1, b2, b3⟩ := h3 j y hy cc hcc
        refine ⟨u, by rw [hoffs]; exact b1, b2, ?_⟩
        show (normTV nm (.fld id j) y).fcell w (Gz F w π' O') π' O' cc u
        unfold normTV
        cases hna : newAt nm.rows (.fld id j) with
        | some n =>
         simp only
         have htv : Place.tv s (.fld id j) = y := by simp [Place.tv, e1, List.getD, hy]
         obtain ⟨q', q1, q2, q3⟩ := newAt_some hna
         obtain ⟨l', _, e6⟩ := srcs_ok hA q' q1
         rw [q2, htv] at e6
         have hvy : VR w (Gz F w π (tlook s.ob)) π (tlook s.ob) y u := by
          rcases e6 with ⟨id', rfl, _⟩ | ⟨rfl, _⟩ <;> exact b3
         exact hrow hna (by rw [htv]; exact hvy)
        | none =>
         simp only
         split
         ·rename_i hk
          have hw := within_of_B hk
          cases y with
          | dv t z => exact DT.cell_mono fz b3
          | _ => exact VR.evoS (· ∈ nm.objs) fz hkeep hw b3
         ·trivial
    ·obtain ⟨o1, q1, a1, a2, a3⟩ := own hi
     obtain ⟨o2, q2, b1, b2, b3⟩ := own hj
     have := hm.inj o1 o2 g a3 b3
     subst this
     exact ent_inj n2 n1 (ent_mem a1) (ent_mem b1) a2 b2
    ·obtain ⟨old, q, _, _, h3⟩ := own hg
     exact hm.new old g h3
    ·obtain ⟨o, ho, hl⟩ := hm.pin id p o0 hp
     have hin : id ∈ nm.objs := by
      rcases n4 (id, o) (tlook_mem ho) with h | h
      ·have := hpin id _ hp; simp only at h; rw [this] at h; cases h
      ·simpa using h
     obtain ⟨o', h1, h2⟩ := hkeep id o hin ho
     refine ⟨o', h1, fun hlv => ?_⟩
     obtain ⟨h3, h4, h5⟩ := h2.shp hlv
     exact ⟨h4.trans (hl h3).1, (hl h3).2.trans h5⟩
   ·cases h
  ·cases h
 ·cases h
theorem RelM.gz_freed (hm : RelM c F π s a w) {id g : Nat} {o o' : TO} (ho : tlook s.ob id = some o) (hl : o.live = true) (hl' : o'.live = false) (hg : (π id).g = some g) : Gz F w π (tlook ((id, o') :: s.ob)) g :=
 ⟨hm.hF g (hm.new id g ⟨hg, o, ho, hl⟩).1, (hm.new id g ⟨hg, o, ho, hl⟩).2, fun j ⟨h1, o1, h2, h3⟩ => by
  rw [tlook_cons] at h2
  by_cases e : j = id
  ·rw [if_pos e] at h2; obtain rfl := Option.some.inj h2; rw [hl'] at h3; cases h3
  ·rw [if_neg e] at h2
   exact e (hm.inj j id g ⟨h1, o1, h2, h3⟩ ⟨hg, o, ho, hl⟩)⟩
theorem RelM.reslot (hm : RelM c F π s a w) {i : Nat} {x : TV} (hx : VR w (Gz F w π (tlook s.ob)) π (tlook s.ob) x (a.tmps.getD i undef)) : RelM c F π ⟨s.sl.set i x, s.ob⟩ a w :=
 ⟨hm.kept, hm.hF, hm.defers, by simpa using hm.size, fun j y hy => by
  simp only [List.getElem?_set] at hy
  by_cases e : i = j
  ·subst e
   simp only [if_true] at hy
   split at hy
   ·obtain rfl := Option.some.inj hy; exact hx
   ·cases hy
  ·rw [if_neg e] at hy; exact hm.slot j y hy, hm.obj, hm.inj, hm.new, hm.pin, hm.glb⟩
def cutAt (i : Nat) (s : TS) : TS :=
 match s.sl.getD i .any with
 | .vrow id a b => match tlook s.ob id with
  | some (.row t l) => ⟨s.sl.set i (.dv (.sl t) ((l.take b).drop a)), (id, .frz t l) :: s.ob⟩
  | _ => s
 | _ => s
def nFields : DT → Nat
 | .pair _ b => nFields b + 1
 | _ => 0
def asmRows (L : Obs) (t : DT) : Nat → List TV → Option (List t.den)
 | 0, fs => match fs with
  | [] => some []
  | _ => none
 | n + 1, fs => match asmTV L t (fs.take (nFields t)) with
  | some (y, true) => (asmRows L t n (fs.drop (nFields t))).map fun l => y :: l
  | _ => none
def cutView (i : Nat) (t : DT) (s : TS) : TS :=
 match s.sl.getD i .any with
 | .view id 0 [] k n 0 n' => match tlook s.ob id with
  | some (.rcd fs) => match asmRows (ovr (frzU (tlook s.ob) (fs.flatMap TV.rowId)) (tlook s.ob)) t n fs with
   | some l => if k = t.size ∧ n' = n then ⟨s.sl.set i (.dv (.sl t) l), (id, .dead) :: (frzU (tlook s.ob) (fs.flatMap TV.rowId) ++ s.ob)⟩ else s
   | none => s
  | _ => s
 | _ => s
def cutAll : List (Nat × DT) → TS → TS
 | [], s => s
 | (i, .sl t) :: r, s => cutAll r (cutView i t (cutAt i s))
 | (i, _) :: r, s => cutAll r (cutAt i s)
theorem cutAt_ok (hm : RelM c F π s a w) (i : Nat) : RelM c F π (cutAt i s) a w := by
 unfold cutAt
 split
 ·rename_i id p q hi
  split
  ·rename_i t l ho
   have hv := hm.slotD i
   rw [hi] at hv
   simp only [VR, ho] at hv
   obtain ⟨h1, h2, p0, cp, h3, h4, h5, h6, h7⟩ := hv
   refine RelM.reslot (s := ⟨s.sl, (id, .frz t l) :: s.ob⟩) (hm.freeze ho) ?_
   have hlen : ((l.take q).drop p).length = q - p := by simp; omega
   refine (DT.val_one (t := .sl t) rfl).2 ?_
   show SlP (fun _ _ _ => True) t.size ((l.take q).drop p).length _ w _ _
   rw [hlen]
   refine ⟨p0, cp, h3, h4, h5, h6, trivial, fun hn => ?_⟩
   obtain ⟨g, hg, e1⟩ := h7 (by omega)
   have hor := hm.obj id _ ho
   simp only [OR] at hor
   rcases hor with ⟨hn', _⟩ | ⟨g', cur, e, k1, k2, k3, k4, k5, k6⟩
   ·rw [hg] at hn'; cases hn'
   ·rw [hg] at k1; obtain rfl := Option.some.inj k1
    have hGg := hm.gz_freed (o' := .frz t l) ho rfl rfl hg
    have hz : FzTo w (Gz F w π (tlook s.ob)) w (Gz F w π (tlook ((id, .frz t l) :: s.ob))) := fun b hb => ⟨⟨hb.1, hb.2.1, fun j ⟨r1, o1, r2, r3⟩ => by
     rw [tlook_cons] at r2
     by_cases e : j = id
     ·rw [if_pos e] at r2; obtain rfl := Option.some.inj r2; cases r3
     ·rw [if_neg e] at r2; exact hb.2.2 j ⟨r1, o1, r2, r3⟩⟩, rfl⟩
    refine ⟨g, _, e1, hGg, fun j hj cc hc => ?_⟩
    obtain ⟨u, a1, a2, a3⟩ := k6 (p + j) (by omega) cc hc
    refine ⟨u, ?_, a2, ?_⟩
    ·rw [cell_at k2]
     rw [show (π id).q + p * t.size + j * t.size + cc = (π id).q + (p + j) * t.size + cc by rw [Nat.add_mul]; omega]
     exact a1
    ·show t.cell (((l.take q).drop p).getD j t.dflt) cc w _ u
     rw [getD_slice l p q j t.dflt h2 (by omega)]
     exact DT.cell_mono hz a3
  ·exact hm
 ·exact hm
theorem asm_size {L : Obs} : ∀ {t : DT} {fs : List TV} {y : t.den} {b : Bool}, asmTV L t fs = some (y, b) → fs.length = nFields t ∧ offs fs (nFields t) = t.size := by
 intro t
 induction t with
 | unit => intro fs y b h; cases fs with
  | nil => exact ⟨rfl, rfl⟩
  | cons x r => simp [asmTV] at h
 | pair p q ihp ihq =>
  intro fs y b h
  cases fs with
  | nil => simp [asmTV] at h
  | cons x r =>
   simp only [asmTV] at h
   split at h
   ·split at h
    ·rename_i hr
     split at h
     ·rename_i hk
      simp only [Bool.and_eq_true, beq_iff_eq] at hk
      obtain ⟨h1, h2⟩ := ihq hr
      exact ⟨by simp [nFields, h1], by simp only [nFields, offs, DT.size, h2, hk.1]⟩
     ·cases h
    ·cases h
   ·cases h
 | _ => intro fs y b h; cases fs <;> simp [asmTV] at h
theorem offs_take : ∀ (fs : List TV) (m j : Nat), j ≤ m → offs (fs.take m) j = offs fs j
  | [], m, j, h => by simp
  | x :: r, 0, j, h => by obtain rfl : j = 0 := by omega
                          simp [offs]
  | x :: r, m + 1, 0, h => rfl
  | x :: r, m + 1, j + 1, h => by simp only [List.take_succ_cons, offs]; rw [offs_take r m j (by omega)]
theorem offs_drop : ∀ (fs : List TV) (m j : Nat), m ≤ fs.length → offs fs (m + j) = offs fs m + offs (fs.drop m) j
 | fs, 0, j, h => by simp only [Nat.zero_add, List.drop_zero, show offs fs 0 = 0 by cases fs <;> rfl]
 | [], m + 1, j, h => by simp at h
 | x :: r, m + 1, j, h => by
  rw [show m + 1 + j = (m + j) + 1 by omega]
  simp only [offs, List.drop_succ_cons]
  rw [offs_drop r m j (by simpa using h)]
  omega
theorem asmRows_ok {w : World} {G : Nat → Prop} {π : Nat → Pl} {O : Obs} {t : DT} : ∀ {n : Nat} {fs : List TV} {l : List t.den} {cells : Nat → Option Value}, asmRows O t n fs = some l → (∀ (j : Nat) (x : TV), fs[j]? = some x → ∀ cc, cc < x.size → ∃ u, cells (offs fs j + cc) = some u ∧ u.oneCell' = true ∧ x.fcell w G π O cc u) →
  l.length = n ∧ ∀ e, e < n → ∀ cc, cc < t.size → ∃ u, cells (e * t.size + cc) = some u ∧ u.oneCell' = true ∧ t.cell (l.getD e t.dflt) cc w G u
 | 0, fs, l, cells, h, _ => by
  simp only [asmRows] at h
  split at h
  ·obtain rfl := Option.some.inj h; exact ⟨rfl, fun e he => by omega⟩
  ·cases h
 | n + 1, fs, l, cells, h, hc => by
  simp only [asmRows] at h
  split at h
  ·rename_i y hy
   obtain ⟨l', hl, rfl⟩ := Option.map_eq_some_iff.1 h
   obtain ⟨s1, s2⟩ := asm_size hy
   have hlen : nFields t ≤ fs.length := by rw [List.length_take] at s1; omega
   have hoff : offs fs (nFields t) = t.size := by rw [← s2, offs_take _ _ _ (Nat.le_refl _)]
   obtain ⟨r1, r2⟩ := asmRows_ok (cells := fun q => cells (t.size + q)) hl fun j x hx cc hcc => by
    rw [List.getElem?_drop] at hx
    obtain ⟨u, a1, a2⟩ := hc (nFields t + j) x hx cc hcc
    refine ⟨u, ?_, a2⟩
    rw [offs_drop _ _ _ hlen, hoff] at a1
    rw [← a1]; congr 1; omega
   refine ⟨by simp [r1], fun e he cc hcc => ?_⟩
   cases e with
   | zero =>
    have := asm_ok (w := w) (G := G) (π := π) (cells := cells) hy rfl (fun j x hx cc hcc => by
     rw [List.getElem?_take] at hx
     split at hx
     ·rename_i hj
      rw [offs_take _ _ _ (Nat.le_of_lt hj)]
      exact hc j x hx cc hcc
     ·cases hx) cc hcc
    obtain ⟨u, a1, a2, a3⟩ := this
    exact ⟨u, by rw [Nat.zero_mul, Nat.zero_add]; exact a1, a2, a3⟩
   | succ e =>
    obtain ⟨u, a1, a2, a3⟩ := r2 e (by omega) cc hcc
    exact ⟨u, by rw [← a1]; congr 1; rw [Nat.add_mul]; omega, a2, a3⟩
  ·cases h
theorem cutView_ok (hm : RelM c F π s a w) (i : Nat) (t : DT) : RelM c F π (cutView i t s) a w := by
 unfold cutView
 split
 ·rename_i id k n n' hi
  split
  ·rename_i fs ho
   split
   ·rename_i l hl
    split
    ·rename_i hc
     obtain ⟨rfl, rfl⟩ := hc
     have hm1 := hm.frzU (fs.flatMap TV.rowId)
     have hlk : tlook (frzU (tlook s.ob) (fs.flatMap TV.rowId) ++ s.ob) = ovr (frzU (tlook s.ob) (fs.flatMap TV.rowId)) (tlook s.ob) := tlook_append _ _
     have hUn : tlook (frzU (tlook s.ob) (fs.flatMap TV.rowId)) id = none := by
      cases h : tlook (frzU (tlook s.ob) (fs.flatMap TV.rowId)) id with
      | none => rfl
      | some o =>
       obtain ⟨t', l', h1, _⟩ := frzU_look h
       rw [ho] at h1; cases h1
     generalize frzU (tlook s.ob) (fs.flatMap TV.rowId) = U at hm1 hlk hl hUn ⊢
     have ho1 : tlook (U ++ s.ob) id = some (.rcd fs) := by
      rw [hlk]; unfold ovr; rw [hUn]; exact ho
     have hv := hm1.slotD i
     simp only at hv
     rw [hi] at hv
     simp only [VR, ho1] at hv
     obtain ⟨c0, g, pp, q1, q2, q3, q4, q5, q6, q7, q8⟩ := hv rfl
     simp only [TO.loc, Option.some.injEq] at q1
     subst q1
     obtain ⟨g', cur, e, r1, r2, r3⟩ := hm1.obj id _ ho1
     rw [q3] at r1; obtain rfl := Option.some.inj r1
     rw [← hlk] at hl
     obtain ⟨z1, z2⟩ := asmRows_ok (w := w) (G := Gz F w π (tlook (U ++ s.ob))) (π := π) (cells := fun q => cur[(π id).q + q]?) hl fun j x hx cc hcc => by
      obtain ⟨u, a1, a2⟩ := r3 j x hx cc hcc
      exact ⟨u, by rw [← a1]; congr 1; omega, a2⟩
     have hm2 : RelM c F π ⟨s.sl, (id, .dead) :: (U ++ s.ob)⟩ a w := hm1.dead ho1
     have hGg := hm1.gz_freed (o' := .dead) ho1 rfl rfl q3
     have hz : FzTo w (Gz F w π (tlook (U ++ s.ob))) w (Gz F w π (tlook ((id, .dead) :: (U ++ s.ob)))) := gz_dead hm1 ho1
     refine RelM.reslot (s := ⟨s.sl, (id, .dead) :: (U ++ s.ob)⟩) hm2 ((DT.val_one (t := .sl t) rfl).2 ?_)
     show SlP (fun _ _ _ => True) t.size l.length _ w _ _
     rw [z1]
     refine ⟨some pp, n', by rw [q7]; simp, Nat.le_refl _, q6, (fun h => by cases h), trivial, fun hn => ?_⟩
     obtain rfl := q8 hn
     refine ⟨g, (π id).q, by simp only [Nat.add_zero, Nat.zero_mul], hGg, fun j hj cc hc => ?_⟩
     obtain ⟨u, a1, a2, a3⟩ := z2 j hj cc hc
     refine ⟨u, ?_, a2, DT.cell_mono hz a3⟩
     rw [cell_at r2.1, ← a1]
     congr 1
     omega
    ·exact hm
   ·exact hm
  ·exact hm
 ·exact hm
theorem cutAll_ok : ∀ {rsp : List (Nat × DT)} {s : TS}, RelM c F π s a w → RelM c F π (cutAll rsp s) a w
 | [], s, hm => hm
 | (i, t) :: r, s, hm => by
  cases t <;> first | exact cutAll_ok (rsp := r) (cutView_ok (cutAt_ok hm i) i _) | exact cutAll_ok (rsp := r) (cutAt_ok hm i)
def setData : List (Nat × DT) → TS → Option (TS × Bool)
 | [], s => some (s, true)
 | (i, t) :: r, s => if t.plain then (match (s.sl.getD i .any).as (tlook s.ob) t with
  | some (y, b) => match setData r ⟨s.sl.set i (.dv t y), s.ob⟩ with
   | some (s', b') => some (s', b && b')
   | none => none
  | none => none) else none
def toData (rsp : List (Nat × DT)) (s : TS) : Option (TS × Bool) :=
 let s1 := cutAll rsp s
 setData rsp ⟨s1.sl, frzU (tlook s1.ob) (rsp.flatMap fun p => (s1.sl.getD p.1 .any).rowId) ++ s1.ob⟩
theorem setData_ok : ∀ {rsp : List (Nat × DT)} {s s' : TS} {b : Bool}, setData rsp s = some (s', b) → b = true → RelM c F π s a w → RelM c F π s' a w
 | [], s, s', b, h, _, hm => by
  simp only [setData, Option.some.injEq, Prod.mk.injEq] at h
  obtain ⟨rfl, _⟩ := h
  exact hm
 | (i, t) :: r, s, s', b, h, hb, hm => by
  simp only [setData] at h
  split at h
  ·rename_i hp
   split at h
   ·rename_i y b1 hy
    split at h
    ·rename_i s2 b2 hr
     simp only [Option.some.injEq, Prod.mk.injEq] at h
     obtain ⟨rfl, rfl⟩ := h
     simp only [Bool.and_eq_true] at hb
     refine setData_ok hr hb.2 ⟨hm.kept, hm.hF, hm.defers, by simpa using hm.size, fun j x hx => ?_, hm.obj, hm.inj, hm.new, hm.pin, hm.glb⟩
     simp only [List.getElem?_set] at hx
     by_cases e : i = j
     ·subst e
      simp only [if_true] at hx
      split at hx
      ·obtain rfl := Option.some.inj hx
       exact TV.as_ok hy hb.1 hp (hm.slotD i)
      ·cases hx
     ·rw [if_neg e] at hx; exact hm.slot j x hx
    ·cases h
   ·cases h
  ·cases h
theorem toData_ok {rsp : List (Nat × DT)} {s s' : TS} {b : Bool} (h : toData rsp s = some (s', b)) (hb : b = true) (hm : RelM c F π s a w) : RelM c F π s' a w :=
 setData_ok h hb ((cutAll_ok (rsp := rsp) hm).frzU _)
def TS.normP (pp : List Nat) (nm : Norm) (s : TS) : Option TS :=
 match nm.dat with
 | [] => s.norm0 pp nm
 | _ => match toData nm.dat s with
  | some (s0, true) => s0.norm0 pp nm
  | _ => none
def TS.norm (nm : Norm) (s : TS) : Option TS := s.normP [] nm
theorem norm_ok {pp : List Nat} (hpin : ∀ id p, c.pin id = some p → pinQ pp id = true) {nm : Norm} {s' : TS} (h : s.normP pp nm = some s') (hm : RelM c F π s a w) : ∃ π', RelM c F π' s' a w := by
 unfold TS.normP at h
 split at h
 ·exact norm0_ok hpin h hm
 ·split at h
  ·rename_i s0 h0; exact norm0_ok hpin h (toData_ok h0 rfl hm)
  ·cases h
theorem RelM.ext (hm : RelM c F π s a w) {x : TV} {v : Value} (hx : VR w (Gz F w π (tlook s.ob)) π (tlook s.ob) x v) : RelM c F π ⟨s.sl ++ [x], s.ob⟩ { a with tmps := a.tmps.push v } w := by
 refine ⟨hm.kept, hm.hF, hm.defers, by simp [hm.size], fun j y hy => ?_, hm.obj, hm.inj, hm.new, hm.pin, hm.glb⟩
 rw [List.getElem?_append] at hy
 split at hy
 ·rename_i hlt
  have hlt' : j < a.tmps.size := by rw [hm.size]; exact hlt
  have e : (a.tmps.push v).getD j undef = a.tmps.getD j undef := by
   simp only [Array.getD_eq_getD_getElem?, Array.getElem?_push]
   rw [if_neg (by omega)]
  rw [e]; exact hm.slot j y hy
 ·rename_i hge
  have e0 : j = s.sl.length := by
   have := (List.getElem?_eq_some_iff.1 hy).1
   simp at this; omega
  subst e0
  simp at hy
  subst hy
  have e : (a.tmps.push v).getD s.sl.length undef = v := by
   simp only [Array.getD_eq_getD_getElem?, Array.getElem?_push, hm.size]
   simp
  rw [e]; exact hx
def resM (TI : Nat → TD) (s : TS) : List ResultVar → Option (List TV)
 | [] => some []
 | .tmp t :: r => (resM TI s r).map fun l => s.sl.getD t .any :: l
 | .cell t T :: r => match (s.sl.getD t .any).ld (TI T) (tlook s.ob) with
  | some x => (resM TI s r).map fun l => x :: l
  | none => none
theorem run_asAddr {P : Program} {T : TypeId} {v v' : Value} {w : World} (h : (Instr.loadAt T v).run P w = .ok v' w) : (do loadVar T (← asAddr v)).run P w = .ok v' w := by
 cases v with
 | pointer o => cases o with
  | none => simp [Instr.loadAt, Instr.sureAddr] at h
  | some a => exact h
 | _ => simp [Instr.loadAt, Instr.sureAddr] at h
def rdV (P : Program) (tmps : Array Value) (w : World) : ResultVar → Value → Prop
 | .tmp t, v => v = tmps.getD t undef
 | .cell t T, v => (do loadVar T (← asAddr (tmps.getD t undef))).run P w = .ok v w
theorem resM_ok {P : Program} {TI : Nat → TD} (hT : TOK P TI) (hm : RelM c F π s a w) : ∀ {rs : List ResultVar} {l : List TV}, resM TI s rs = some l → ∃ vs : List Value, vs.length = l.length ∧ vs.length = rs.length ∧
  (∀ (i : Nat) (r : ResultVar) (v : Value), rs[i]? = some r → vs[i]? = some v → rdV P a.tmps w r v) ∧ ∀ (i : Nat) (x : TV) (v : Value), l[i]? = some x → vs[i]? = some v → VR w (Gz F w π (tlook s.ob)) π (tlook s.ob) x v
 | [], l, h => by
  simp only [resM, Option.some.injEq] at h; subst h
  exact ⟨[], rfl, rfl, fun i r v h => by simp at h, fun i x v h => by simp at h⟩
 | .tmp t :: r, l, h => by
  simp only [resM, Option.map_eq_some_iff] at h
  obtain ⟨l', h1, rfl⟩ := h
  obtain ⟨vs, a1, a2, a3, a4⟩ := resM_ok hT hm h1
  refine ⟨a.tmps.getD t undef :: vs, by simp [a1], by simp [a2], fun i q v hq hv => ?_, fun i x v hx hv => ?_⟩
  ·cases i with
   | zero => obtain rfl := Option.some.inj hq; obtain rfl := Option.some.inj hv; rfl
   | succ i => exact a3 i q v (by simpa using hq) (by simpa using hv)
  ·cases i with
   | zero => obtain rfl := Option.some.inj hx; obtain rfl := Option.some.inj hv; exact hm.slotD t
   | succ i => exact a4 i x v (by simpa using hx) (by simpa using hv)
 | .cell t T :: r, l, h => by
  simp only [resM] at h
  split at h
  ·rename_i y hy
   simp only [Option.map_eq_some_iff] at h
   obtain ⟨l', h1, rfl⟩ := h
   obtain ⟨vs, a1, a2, a3, a4⟩ := resM_ok hT hm h1
   obtain ⟨v0, b1, b2⟩ := TV.ld_ok (P := P) hT hm hy (hm.slotD t)
   refine ⟨v0 :: vs, by simp [a1], by simp [a2], fun i q v hq hv => ?_, fun i x v hx hv => ?_⟩
   ·cases i with
    | zero => obtain rfl := Option.some.inj hq; obtain rfl := Option.some.inj hv; exact run_asAddr b1
    | succ i => exact a3 i q v (by simpa using hq) (by simpa using hv)
   ·cases i with
    | zero => obtain rfl := Option.some.inj hx; obtain rfl := Option.some.inj hv; exact b2
    | succ i => exact a4 i x v (by simpa using hx) (by simpa using hv)
  ·cases h
end
end

section
section
variable {P : Program} {TI : Nat → TD} {c : Cx} {F : Nat → Prop} {s : TS} {π : Nat → Pl} {a : Act} {w : World}

theorem app_room (hT : TOK P TI) {T ty : TypeId} (hk : (TI T).kd = 2) {t : DT} (he : (TI T).elem = t.size) {l m : List t.den} (hm : RelM c F π s a w) {d id : Nat} (hd : tlook s.ob d = none) (hid : tlook s.ob id = some (.row t l)) {y : TV} {v vy : Value}
  (hv : VR w (Gz F w π (tlook s.ob)) π (tlook s.ob) (.row id) v) (hy : y.data (tlook s.ob) = some ⟨t, m⟩) (hvy : VR w (Gz F w π (tlook s.ob)) π (tlook s.ob) y vy)
  {g : Nat} (o1 : (π id).g = some g) (hroom : l.length + m.length ≤ (π id).cap) :
  ∃ v' w', (Builtin.append_ #[T, T] ty #[v, vy]).run P w = .ok v' w' ∧ RelM c F (updP π d (π id)) ⟨s.sl, (d, .row t (l ++ m)) :: (id, .dead) :: s.ob⟩ a w' ∧ v' = ((updP π d (π id)) d).hdr (l ++ m).length := by
 obtain ⟨e, ie, b1, b2, b3, b4, b5, b6, b7, b8⟩ := (hT T).sl hk
 have hsz : ie.size = t.size := b3.trans he
 have hne : d ≠ id := fun e => by subst e; rw [hd] at hid; cases hid
 have hlive : (TO.row t l).live = true := rfl
 obtain ⟨ds, p, c0, h2, e2, f2⟩ := src_ok (P := P) hm hy hvy
 simp only [VR, hid] at hv
 have hor := hm.obj id _ hid
 simp only [OR] at hor
 rcases hor with ⟨o1', _⟩ | ⟨g', cur, e', o1', o2, o3, o4, o5, o6⟩
 ·rw [o1] at o1'; cases o1'
 rw [o1] at o1'; obtain rfl := Option.some.inj o1'
 have hv' : v = .slice (some ⟨g, (π id).q, none⟩) l.length (π id).cap := by rw [hv, Pl.hdr, o1]
 subst e2
 have f2' := f2 w fun _ _ _ => rfl
 rw [← hsz] at f2'
 have hcap2 : (l.length + m.length) * t.size ≤ (π id).cap * t.size := Nat.mul_le_mul_right _ hroom
 rw [Nat.add_mul] at hcap2
 have hfit : (π id).q + l.length * ie.size + ds.length ≤ cur.size := by rw [hsz, h2.len]; omega
 have hrun := run_app_room (P := P) (ty := ty) b1 b2 (o := (π id).q) o2 (by rw [h2.len, hsz]) h2.flat f2' hroom hfit
 have hheap := setRow_blk o2 (spl_size cur ((π id).q + l.length * ie.size) ds hfit)
 have hoth : ∀ b, b ≠ g → (w.setRow g (spl cur ((π id).q + l.length * ie.size) ds)).heap[b]? = w.heap[b]? := fun b hb => setRow_other w g b _ hb
 have hsize : (w.setRow g (spl cur ((π id).q + l.length * ie.size) ds)).heap.size = w.heap.size := by simp
 have hown : Own π (tlook s.ob) id g := ⟨o1, _, hid, rfl⟩
 have own : ∀ i b, Own (updP π d (π id)) (tlook ((d, .row t (l ++ m)) :: (id, .dead) :: s.ob)) i b → (i = d ∧ b = g) ∨ (i ≠ d ∧ i ≠ id ∧ Own π (tlook s.ob) i b) := fun i b ⟨r1, o', r2, r3⟩ => by
  rw [tlook_cons, tlook_cons] at r2
  by_cases e1 : i = d
  ·subst e1
   simp only [updP, if_true, o1, Option.some.injEq] at r1
   exact .inl ⟨rfl, r1.symm⟩
  ·rw [if_neg e1] at r2
   simp only [updP, if_neg e1] at r1
   by_cases e2 : i = id
   ·rw [if_pos e2] at r2; obtain rfl := Option.some.inj r2; simp [TO.live] at r3
   ·rw [if_neg e2] at r2; exact .inr ⟨e1, e2, r1, o', r2, r3⟩
 have E : Evo w (Gz F w π (tlook s.ob)) π (tlook s.ob) (w.setRow g (spl cur ((π id).q + l.length * ie.size) ds)) (Gz F (w.setRow g (spl cur ((π id).q + l.length * ie.size) ds)) (updP π d (π id)) (tlook ((d, .row t (l ++ m)) :: (id, .dead) :: s.ob))) (updP π d (π id)) (tlook ((d, .row t (l ++ m)) :: (id, .dead) :: s.ob)) := by
  refine ⟨fun b ⟨r0, r1, r2⟩ => ⟨⟨r0, by rw [hsize]; exact r1, fun i hi => ?_⟩, hoth b fun e => r2 id (e ▸ hown)⟩, fun i o ho => ?_⟩
  ·rcases own i b hi with ⟨_, rfl⟩ | ⟨_, _, h⟩
   ·exact r2 id hown
   ·exact r2 i h
  ·have e1 : i ≠ d := fun e => by subst e; rw [hd] at ho; cases ho
   by_cases e2 : i = id
   ·exact ⟨.dead, by rw [tlook_cons, if_neg e1, tlook_cons, if_pos e2], by simp [Step]⟩
   ·exact ⟨o, by rw [tlook_cons, if_neg e1, tlook_cons, if_neg e2]; exact ho, by simp only [updP, if_neg e1]; exact Step.refl o⟩
 have hbar := hm.new id g hown
 refine ⟨_, _, by rw [hv']; exact hrun, ?_, by simp [updP, Pl.hdr, o1]⟩
 refine hm.go (hm.kept.on ⟨rfl, rfl, rfl⟩ (by rw [hsize]; exact Nat.le_refl _) fun b hb => hoth b fun e => hbar.1 (e ▸ hb)) E (fun i o ho => ?_) (fun i j b hi hj => ?_) (fun i b hi => ?_)
 ·by_cases e1 : i = d
  ·rw [tlook_cons, if_pos e1] at ho
   obtain rfl := Option.some.inj ho
   subst e1
   refine .inr ⟨g, _, e', by simp [updP, o1], hheap, by simpa [updP] using hroom, by simpa [updP] using o4, by simp only [updP, if_true]; rw [spl_size _ _ _ hfit]; exact o5, fun j hj cc hcc => ?_⟩
   simp only [updP, if_true]
   rw [spl_get _ _ _ _ hfit, getD_append]
   by_cases hjl : j < l.length
   ·have : j * t.size + t.size ≤ l.length * t.size := by have := Nat.mul_le_mul_right t.size (show j + 1 ≤ l.length by omega); rw [Nat.add_mul] at this; omega
    rw [if_pos hjl, if_neg (by rw [hsz]; omega)]
    obtain ⟨u, r1, r2, r3⟩ := o6 j hjl cc hcc
    exact ⟨u, r1, r2, DT.cell_mono E.fz r3⟩
   ·rw [List.length_append] at hj
    have hle : l.length * t.size ≤ j * t.size := Nat.mul_le_mul_right _ (by omega)
    have hlt : (j - l.length) * t.size + cc < m.length * t.size := idx_lt (by omega) hcc
    have hsub : (j - l.length) * t.size = j * t.size - l.length * t.size := Nat.sub_mul _ _ _
    rw [if_neg hjl, if_pos (by rw [hsz, h2.len]; omega)]
    obtain ⟨u, r1, r2, r3⟩ := h2.el (j - l.length) (by omega) cc hcc
    exact ⟨u, by rw [← r1, hsz]; congr 1; omega, r2, DT.cell_mono E.fz r3⟩
  ·rw [tlook_cons, if_neg e1, tlook_cons] at ho
   by_cases e2 : i = id
   ·rw [if_pos e2] at ho; obtain rfl := Option.some.inj ho; trivial
   ·rw [if_neg e2] at ho
    exact (hm.obj i o ho).evo E (by simp only [updP, if_neg e1]) fun b hb hl => hoth b fun e => e2 (hm.inj i id g ⟨e ▸ hb, o, ho, hl⟩ hown)
 ·rcases own i b hi with ⟨r1, r2⟩ | ⟨r1, r2, r3⟩ <;> rcases own j b hj with ⟨r4, r5⟩ | ⟨r4, r5, r6⟩
  ·exact r1.trans r4.symm
  ·exact absurd (hm.inj j id g (r2 ▸ r6) hown) r5
  ·exact absurd (hm.inj i id g (r5 ▸ r3) hown) r2
  ·exact hm.inj i j b r3 r6
 ·rw [hsize]
  rcases own i b hi with ⟨_, rfl⟩ | ⟨_, _, r3⟩
  ·exact hbar
  ·exact hm.new i b r3
def twin (E : Env) (o : Oper) (s : TS) : Option (TS × TS × Bool) :=
 match o.dst with
 | none => none
 | some d => match E.tw d with
  | none => none
  | some k => match o.op with
   | .call c => match c.callee, c.args.toList, c.argTypes.toList with
    | .builtin .append, [x, y], [T, T'] => match s.ev x, s.sl.getD k .any, tlook s.ob d with
     | .row id, .vrow id' a0 n, none => match tlook s.ob id, (s.ev y).data (tlook s.ob) with
      | some (.row t l), some ⟨t', m⟩ => if h : t' = t then (if id' = id ∧ T' = T ∧ k ≠ d ∧ (E.TI T).kd = 2 ∧ (E.TI T).elem = t.size then
        some (⟨(s.sl.set k (.vrow d a0 n)).set d (.row d), (d, .row t (l ++ h ▸ m)) :: (id, .dead) :: s.ob⟩,
         ⟨(s.sl.set k (.dv (.sl t) ((l.take n).drop a0))).set d (.row d), (d, .row t (l ++ h ▸ m)) :: (id, .frz t l) :: s.ob⟩, small (l.length + m.length) (E.TI T).eb) else none) else none
      | _, _ => none
     | _, _, _ => none
    | _, _, _ => none
   | .move x => match s.ev x with
    | .row id => match tlook s.ob id with
     | some (.row t l) => some (⟨s.sl.set d (.vrow id 0 l.length), s.ob⟩, ⟨s.sl.set d (.vrow id 0 l.length), s.ob⟩, true)
     | _ => none
    | _ => none
   | _ => none
theorem twin_ok {E : Env} (hT : TOK P E.TI) {o : Oper} {s1 s2 : TS} {b : Bool} (h : twin E o s = some (s1, s2, b)) (hb : b = true) : OpW P c F o (fun s' => s' = s1 ∨ s' = s2) s := by
 intro nn a w next Q ⟨π, hm⟩ hn
 obtain ⟨dst, op, ty, pos, after, gd⟩ := o
 unfold twin at h
 simp only at h
 split at h
 ·cases h
 rename_i d
 split at h
 ·cases h
 rename_i k hk
 cases op with
 | call cl =>
  obtain ⟨callee, args, ats⟩ := cl
  simp only at h
  split at h
  ·rename_i x y T T' hxs hts
   split at h
   ·rename_i id id' a0 n hx hsk hd
    split at h
    ·rename_i t l t' m hid hy
     split at h
     ·rename_i e2
      subst e2
      split at h
      ·rename_i hc
       obtain ⟨rfl, rfl, hkd, hk2, hel⟩ := hc
       simp only [Option.some.injEq, Prod.mk.injEq] at h
       obtain ⟨rfl, rfl, rfl⟩ := h
       have ha : args = #[x, y] := by apply Array.ext'; simpa using hxs
       have ht : ats = #[T', T'] := by apply Array.ext'; simpa using hts
       subst ha; subst ht
       have hvx := hm.ev x
       have hvy := hm.ev y
       rw [hx] at hvx
       have hexec : ∀ {v : Value} {w' : World}, (Builtin.append_ #[T', T'] ty #[a.eval x, a.eval y]).run P w = .ok v w' → (execOp a.eval ⟨some d, .call { callee := .builtin .append, args := #[x, y], argTypes := #[T', T'] }, ty, pos, after, gd⟩).run P w = .ok (.value v) w' := fun h =>
        exec_value (e := Builtin.append_ #[T', T'] ty #[a.eval x, a.eval y]) (by rw [BigFrame.execOp_builtin, BigFrame.builtin_append]; simp) h
       have hsk' := hm.slotD k
       rw [hsk] at hsk'
       have hne : d ≠ id' := fun e => by subst e; rw [hd] at hid; cases hid
       have goal : ∀ {v : Value} {w' : World} {s' : TS}, (Builtin.append_ #[T', T'] ty #[a.eval x, a.eval y]).run P w = .ok v w' → (s' = _ ∨ s' = _) → Rel c F s' (a.put (some d) v) w' → Oper.wpIn c.fen nn P _ a w next Q := fun hr hk hR => wpIn_value (hexec hr) (hn _ _ _ hk hR)
       have put : ∀ {π' : Nat → Pl} {sl : List TV} {ob : List (Nat × TO)} {w' : World} {v : Value}, RelM c F π' ⟨sl, ob⟩ a w' → tlook ob d = some (.row t' (l ++ m)) → v = (π' d).hdr (l ++ m).length → Rel c F ⟨sl.set d (.row d), ob⟩ (a.put (some d) v) w' := fun {π' sl ob w' v} h1 h2 h3 =>
        ⟨π', h1.put (some d) (x := .row d) (v := v) (by show VR _ _ _ (tlook ob) (.row d) v; simp only [VR, h2]; exact h3)⟩
       by_cases hroom : ∃ g, (π id').g = some g ∧ l.length + m.length ≤ (π id').cap
       ·obtain ⟨g, o1, hr⟩ := hroom
        obtain ⟨v', w', g1, g2, g3⟩ := app_room (P := P) (ty := ty) hT hk2 hel hm hd hid hvx hy hvy o1 hr
        refine goal g1 (.inl rfl) (put (π' := updP π d (π id')) (RelM.reslot g2 (i := k) ?_) (by rw [tlook_cons, if_pos rfl]) g3)
        show VR _ _ _ (tlook ((d, .row t' (l ++ m)) :: (id', .dead) :: s.ob)) (.vrow d a0 n) _
        simp only [VR, hid] at hsk'
        simp only [VR, tlook_cons, if_true]
        obtain ⟨q1, q2, p, cp, q3, q4, q5, q6, q7⟩ := hsk'
        refine ⟨q1, by simp; omega, p, cp, q3, q4, q5, q6, fun hlt => ?_⟩
        simp only [updP, if_true]
        exact q7 hlt
       ·have hcut := cutAt_ok hm k
        have ecut : cutAt k s = ⟨s.sl.set k (.dv (.sl t') ((l.take n).drop a0)), (id', .frz t' l) :: s.ob⟩ := by
         unfold cutAt; rw [hsk]; simp only [hid]
        rw [ecut] at hcut
        have hd' : tlook ((id', .frz t' l) :: s.ob) d = none := by rw [tlook_cons, if_neg hne]; exact hd
        have hz : FzTo w (Gz F w π (tlook s.ob)) w (Gz F w π (tlook ((id', .frz t' l) :: s.ob))) := fun b ⟨r0, r1, r2⟩ => ⟨⟨r0, r1, fun i ⟨r3, o', r4, r5⟩ => by
         rw [tlook_cons] at r4
         by_cases e : i = id'
         ·rw [if_pos e] at r4; obtain rfl := Option.some.inj r4; cases r5
         ·rw [if_neg e] at r4; exact r2 i ⟨r3, o', r4, r5⟩⟩, rfl⟩
        obtain ⟨cs, q, cap, h1, e1, f1⟩ := src_ok (P := P) (t := t') (l := l) hm (x := .row id') (by simp only [TV.data, hid]) hvx
        obtain ⟨ds, p, c0, h2, e2, f2⟩ := src_ok (P := P) hm hy hvy
        by_cases hcap : cap < l.length + m.length
        ·rw [e1, e2] at goal
         rw [e1] at f1
         rw [e2] at f2
         obtain ⟨⟨v', w', π', g1, g2, g3⟩⟩ := app_grow (P := P) (ty := ty) hT hk2 hel hb hcut hd' (h1.mono hz) (h2.mono hz) (f1 w.drew fun _ _ _ => rfl) (f2 w.drew fun _ _ _ => rfl) hcap
         exact goal g1 (.inr rfl) (put (π' := π') g2 (by rw [tlook_cons, if_pos rfl]) g3)
        ·-- a nil slice, and nothing to append
         have hor := hm.obj id' _ hid
         simp only [OR] at hor
         simp only [VR, hid] at hvx
         rcases hor with ⟨o1, o2⟩ | ⟨g, cur, e', o1, o2, o3, o4, o5, o6⟩
         ·subst o2
          have hv' : a.eval x = .slice none 0 0 := by rw [hvx, Pl.hdr, o1]
          rw [hv'] at e1
          simp only [Value.slice.injEq] at e1
          obtain ⟨_, _, rfl⟩ := e1
          have hm0 : m = [] := by simpa using hcap
          subst hm0
          obtain ⟨e, ie, b1, b2, b3, b4, b5, b6, b7, b8⟩ := (hT T').sl hk2
          have hsz : ie.size = t'.size := b3.trans hel
          have f2' := f2 w fun _ _ _ => rfl
          rw [← hsz] at f2'
          have hds : ds = [] := List.eq_nil_of_length_eq_zero (by rw [h2.len]; simp)
          subst hds
          refine goal (v := .slice none 0 0) (w' := w) ?_ (.inr rfl) (put (π' := updP π d ⟨none, 0, 0⟩) (hcut.newNil t' hd') (by rw [tlook_cons, if_pos rfl]) (by simp [updP, Pl.hdr]))
          rw [hv', e2]
          rw [e2] at f2'
          simp only [List.length_nil] at f2'
          simp [Builtin.append_, run_underlying b1, sizeOf, typeInfo, b2, Builtin.lenOf, f2']
         ·exfalso
          have hv' : a.eval x = .slice (some ⟨g, (π id').q, none⟩) l.length (π id').cap := by rw [hvx, Pl.hdr, o1]
          rw [hv'] at e1
          simp only [Value.slice.injEq] at e1
          exact hroom ⟨g, o1, by omega⟩
      ·cases h
     ·cases h
    ·cases h
   ·cases h
  ·cases h
 | move x =>
  simp only at h
  split at h
  ·rename_i id hx
   split at h
   ·rename_i t l hid
    simp only [Option.some.injEq, Prod.mk.injEq] at h
    obtain ⟨rfl, rfl, rfl⟩ := h
    have hvx := hm.ev x
    rw [hx] at hvx
    have hex := exec_value (P := P) (a := a) (o := ⟨some d, .move x, ty, pos, after, gd⟩) (e := (pure (a.eval x) : Sem Value)) (v := a.eval x) (w := w) (w' := w) (by simp [execOp]) rfl
    refine wpIn_value hex ?_
    refine hn _ _ _ (.inl rfl) ⟨π, hm.put (some d) (x := .vrow id 0 l.length) (v := a.eval x) ?_⟩
    simp only [VR, hid] at hvx ⊢
    have hor := hm.obj id _ hid
    simp only [OR] at hor
    rcases hor with ⟨o1, o2⟩ | ⟨g, cur, e', o1, o2, o3, o4, o5, o6⟩
    ·subst o2
     rw [hvx, Pl.hdr, o1]
     exact ⟨Nat.le_refl _, Nat.le_refl _, none, 0, rfl, Nat.le_refl _, by simp [maxLen], fun _ => rfl, fun h => by simp at h⟩
    ·rw [hvx, Pl.hdr, o1]
     exact ⟨Nat.zero_le _, Nat.le_refl _, some ⟨g, (π id).q, none⟩, (π id).cap, rfl, by omega, o4, (fun h => by cases h), fun _ => ⟨g, rfl, by simp⟩⟩
   ·cases h
  ·cases h
 | _ => cases h
end
end

section
def elz (id : Nat) (p0 : List Nat) (t : DT) (y : t.den) (x : TV) : TV :=
 match x with
 | .ptr i a p => if i = id then (if a = 0 ∧ p = p0 then .el t y [] else .any) else x
 | _ => if x.ids.contains id then .any else x
def TO.boxed : TO → Option ((t : DT) × t.den × List Nat)
 | .rcd [.dv t y] => some ⟨t, y, [0]⟩
 | .row t [y] => some ⟨t, y, []⟩
 | _ => none
def TS.boxFz1 (pp : List Nat) (id : Nat) (s : TS) : Option TS :=
 match (tlook s.ob id).bind TO.boxed with
 | some ⟨t, y, p0⟩ => if !pinQ pp id && s.ob.all (fun p => p.1 == id || !p.2.ids.contains id) then some ⟨s.sl.map (elz id p0 t y), s.ob.filter fun p => p.1 != id⟩ else none
 | _ => none
def TS.boxFz (pp : List Nat) : List Nat → TS → Option TS
 | [], s => some s
 | id :: r, s => match s.boxFz1 pp id with
  | some s1 => TS.boxFz pp r s1
  | none => none
theorem tlook_filter (id : Nat) : ∀ (O : List (Nat × TO)) (i : Nat), tlook (O.filter fun p => p.1 != id) i = if i = id then none else tlook O i
 | [], i => by simp [tlook]
 | (j, o) :: r, i => by
  have ih := tlook_filter id r i
  by_cases hj : j = id
  ·subst hj
   simp only [List.filter_cons, bne_self_eq_false, Bool.false_eq_true, if_false, ih, tlook_cons]
   by_cases e : i = j
   ·simp [e]
   ·simp [e]
  ·have : (j != id) = true := by simpa using hj
   simp only [List.filter_cons, this, if_true, tlook_cons, ih]
   by_cases e : i = j
   ·subst e; simp [hj]
   ·simp [e]
theorem within_ne {id : Nat} : ∀ {x : TV}, (∀ i ∈ x.ids, i ≠ id) → x.within (· ≠ id) := by
 intro x
 induction x with
 | row i => intro h; exact h i (by simp [TV.ids])
 | vrow i a b => intro h; exact h i (by simp [TV.ids])
 | ptr i a p => intro h; exact h i (by simp [TV.ids])
 | view i a p k n b c => intro h; exact h i (by simp [TV.ids])
 | fn g k n f ih => intro h j hj; exact ih j fun i hi => h i (by simp only [TV.ids, List.mem_flatMap, List.mem_range]; exact ⟨j, hj, hi⟩)
 | tup n f ih => intro h j hj; exact ih j fun i hi => h i (by simp only [TV.ids, List.mem_flatMap, List.mem_range]; exact ⟨j, hj, hi⟩)
 | st n f ih => intro h j hj; exact ih j fun i hi => h i (by simp only [TV.ids, List.mem_flatMap, List.mem_range]; exact ⟨j, hj, hi⟩)
 | _ => intro _; trivial
theorem ne_of_contains {l : List Nat} {id : Nat} (h : l.contains id = false) : ∀ i ∈ l, i ≠ id := fun i hi e => by
 subst e
 rw [List.contains_iff_mem.2 hi] at h; cases h
section
variable {c : Cx} {F : Nat → Prop} {s : TS} {π : Nat → Pl} {a : Act} {w : World}

theorem TO.boxed_ok {id : Nat} {o : TO} {t : DT} {y : t.den} {p0 : List Nat} (h : o.boxed = some ⟨t, y, p0⟩) (ho : tlook s.ob id = some o) (hm : RelM c F π s a w) : o.live = true ∧ ∃ g cur e, (π id).g = some g ∧ Blk w g cur e ∧
  (∀ cc, cc < t.size → ∃ u, cur[(π id).q + cc]? = some u ∧ u.oneCell' = true ∧ t.cell y cc w (Gz F w π (tlook s.ob)) u) ∧ ∀ v, VR w (Gz F w π (tlook s.ob)) π (tlook s.ob) (.ptr id 0 p0) v → v = .pointer (some ⟨g, (π id).q, none⟩) := by
 unfold TO.boxed at h
 split at h
 ·rename_i t' y'
  simp only [Option.some.injEq, Sigma.mk.injEq] at h
  obtain ⟨rfl, h⟩ := h
  obtain ⟨rfl, rfl⟩ := Prod.mk.inj (eq_of_heq h)
  obtain ⟨g, cur, e, hg, hw, hc⟩ := hm.obj id _ ho
  refine ⟨rfl, g, cur, e, hg, hw.1, fun cc hcc => ?_, fun v hv => ?_⟩
  ·obtain ⟨u, u1, u2, u3⟩ := hc 0 (.dv t' y') rfl cc hcc
   exact ⟨u, by rw [← u1]; simp [offs], u2, u3⟩
  ·obtain ⟨cc, g1, k1, k2, k3, k4⟩ := (by simpa only [VR, ho] using hv : TO.live (.rcd [.dv t' y']) = true → _) rfl
   have k1' : TV.floc (.dv t' y') (offs [TV.dv t' y'] 0) [] = some cc := k1
   simp only [TV.floc, DT.at_nil, Option.map_some, offs, Option.some.injEq] at k1'
   have hcc : cc = 0 := by have : 0 + 0 = cc := k1'; omega
   rw [hg] at k3; obtain rfl := Option.some.inj k3
   subst hcc
   exact k4
 ·rename_i t' y'
  simp only [Option.some.injEq, Sigma.mk.injEq] at h
  obtain ⟨rfl, h⟩ := h
  obtain ⟨rfl, rfl⟩ := Prod.mk.inj (eq_of_heq h)
  rcases hm.obj id _ ho with h1 | ⟨g, cur, e, hg, hw, _, _, _, hc⟩
  ·cases h1.2
  refine ⟨rfl, g, cur, e, hg, hw, fun cc hcc => ?_, fun v hv => ?_⟩
  ·obtain ⟨u, u1, u2, u3⟩ := hc 0 (by simp) cc hcc
   exact ⟨u, by rw [← u1]; simp, u2, u3⟩
  ·obtain ⟨cc, g1, k1, k2, k3, k4⟩ := (by simpa only [VR, ho] using hv : TO.live (.row t' [y']) = true → _) rfl
   have k1' : (t'.at []).map (fun L => 0 * t'.size + L.off) = some cc := k1
   simp only [DT.at_nil, Option.map_some, Option.some.injEq] at k1'
   have hcc : cc = 0 := by have : 0 * t'.size + 0 = cc := k1'; omega
   rw [hg] at k3; obtain rfl := Option.some.inj k3
   subst hcc
   exact k4
 ·cases h
theorem boxFz1_ok {pp : List Nat} (hpin : ∀ id p, c.pin id = some p → pinQ pp id = true) {id : Nat} {s' : TS} (h : s.boxFz1 pp id = some s') (hm : RelM c F π s a w) : RelM c F π s' a w := by
 unfold TS.boxFz1 at h
 split at h
 ·rename_i t y p0 ho'
  obtain ⟨o0, ho, hbx⟩ := Option.bind_eq_some_iff.1 ho'
  obtain ⟨hlive, g, cur, e, hg, hw, hc, hptr⟩ := TO.boxed_ok hbx ho hm
  split at h
  ·rename_i hb
   obtain rfl := Option.some.inj h
   simp only [Bool.and_eq_true, Bool.not_eq_true', List.all_eq_true, Bool.or_eq_true, beq_iff_eq] at hb
   obtain ⟨hnp, hids⟩ := hb
   have hlk := tlook_filter id s.ob
   have own : ∀ i g, Own π (tlook (s.ob.filter fun p => p.1 != id)) i g → i ≠ id ∧ Own π (tlook s.ob) i g := fun i g ⟨h1, o, h2, h3⟩ => by
    rw [hlk] at h2
    by_cases e : i = id
    ·rw [if_pos e] at h2; cases h2
    ·rw [if_neg e] at h2; exact ⟨e, h1, o, h2, h3⟩
   have fz : FzTo w (Gz F w π (tlook s.ob)) w (Gz F w π (tlook (s.ob.filter fun p => p.1 != id))) := fun b ⟨h0, h1, h2⟩ => ⟨⟨h0, h1, fun i hi => h2 i (own i b hi).2⟩, rfl⟩
   have hob : ∀ i o, i ≠ id → tlook s.ob i = some o → ∃ o', tlook (s.ob.filter fun p => p.1 != id) i = some o' ∧ Step w (Gz F w π (tlook (s.ob.filter fun p => p.1 != id))) (π i) (π i) o o' := fun i o hi ho' => ⟨o, by rw [hlk, if_neg hi]; exact ho', Step.refl o⟩
   have keep : ∀ {x : TV} {v : Value}, x.ids.contains id = false → VR w (Gz F w π (tlook s.ob)) π (tlook s.ob) x v → VR w (Gz F w π (tlook (s.ob.filter fun p => p.1 != id))) π (tlook (s.ob.filter fun p => p.1 != id)) x v := fun {x v} hx hv =>
    VR.evoS (· ≠ id) fz hob (within_ne (ne_of_contains hx)) hv
   -- the box
   have hown : Own π (tlook s.ob) id g := ⟨hg, _, ho, hlive⟩
   have hGg : Gz F w π (tlook (s.ob.filter fun p => p.1 != id)) g := ⟨hm.hF g (hm.new id g hown).1, (hm.new id g hown).2, fun i hi => by
    obtain ⟨h1, h2⟩ := own i g hi
    exact h1 (hm.inj i id g h2 hown)⟩
   refine ⟨hm.kept, hm.hF, hm.defers, by simpa using hm.size, fun i x hx => ?_, fun i o hi => ?_, fun i j g' hi hj => hm.inj i j g' (own i g' hi).2 (own j g' hj).2, fun i g' hi => hm.new i g' (own i g' hi).2, fun i p o0 hp => ?_, hm.glb.mono fz⟩
   ·simp only [List.getElem?_map, Option.map_eq_some_iff] at hx
    obtain ⟨x0, hx0, rfl⟩ := hx
    have hv := hm.slot i x0 hx0
    have gen : ∀ {x0 : TV}, VR w (Gz F w π (tlook s.ob)) π (tlook s.ob) x0 (a.tmps.getD i undef) → VR w (Gz F w π (tlook (s.ob.filter fun p => p.1 != id))) π (tlook (s.ob.filter fun p => p.1 != id)) (if x0.ids.contains id then .any else x0) (a.tmps.getD i undef) := fun {x0} hv => by
     cases hc' : x0.ids.contains id with
     | true => simp only [if_true]; trivial
     | false => simp only [Bool.false_eq_true, if_false]; exact keep hc' hv
    cases x0 with
    | ptr i1 a1 p1 =>
     simp only [elz]
     by_cases e1 : i1 = id
     ·rw [if_pos e1]
      subst e1
      split
      ·-- the pointer to the box
       rename_i hap
       obtain ⟨rfl, rfl⟩ := hap
       refine ⟨g, (π i1).q, _, DT.at_nil t, DT.inb_nil t, hptr _ hv, hGg, fun cix hcix => ?_⟩
       obtain ⟨u, u1, u2, u3⟩ := hc cix hcix
       refine ⟨u, ?_, u2, DT.cell_mono fz u3⟩
       rw [cell_at hw, ← u1]
      ·trivial
     ·rw [if_neg e1]
      exact keep (by simp only [TV.ids, List.contains_cons, List.contains_nil, Bool.or_false, beq_eq_false_iff_ne]; exact fun q => e1 q.symm) hv
    | _ => exact gen hv
   ·rw [hlk] at hi
    by_cases e1 : i = id
    ·rw [if_pos e1] at hi; cases hi
    ·rw [if_neg e1] at hi
     have h1 := hm.obj i o hi
     cases o with
     | row t' l =>
      rcases h1 with h1 | ⟨g1, cur1, e2, a1, a2, a3, a4, a5, a6⟩
      ·exact .inl h1
      ·refine .inr ⟨g1, cur1, e2, a1, a2, a3, a4, a5, fun j hj cc hcc => ?_⟩
       obtain ⟨u, b1, b2, b3⟩ := a6 j hj cc hcc
       exact ⟨u, b1, b2, DT.cell_mono fz b3⟩
     | rcd fs =>
      obtain ⟨g1, cur1, e2, a1, a2, a3⟩ := h1
      refine ⟨g1, cur1, e2, a1, a2, fun j x hx cc hcc => ?_⟩
      obtain ⟨u, b1, b2, b3⟩ := a3 j x hx cc hcc
      refine ⟨u, b1, b2, ?_⟩
      have hmem : (i, TO.rcd fs) ∈ s.ob := tlook_mem hi
      have hn : (TO.rcd fs).ids.contains id = false := by
       rcases hids (i, .rcd fs) hmem with h | h
       ·exact absurd h e1
       ·simpa using h
      have hxn : x.ids.contains id = false := by
       cases hc' : x.ids.contains id with
       | false => rfl
       | true =>
        exfalso
        have : (TO.rcd fs).ids.contains id = true := by
         simp only [List.contains_iff_mem, TO.ids, List.mem_flatMap]
         exact ⟨x, List.mem_of_getElem? hx, List.contains_iff_mem.1 hc'⟩
        rw [hn] at this; cases this
      cases x with
      | dv t' y' => exact DT.cell_mono fz b3
      | _ => exact keep hxn b3
     | map kt vt l =>
      obtain ⟨g1, es, ck, a1, a2, a3, a4, a5, a6⟩ := h1
      refine ⟨g1, es, ck, a1, a2, a3, a4, a5, fun j e2 he => ?_⟩
      obtain ⟨x, b1, b2, b3⟩ := a6 j e2 he
      exact ⟨x, b1, DT.val_mono fz b2, DT.val_mono fz b3⟩
     | iter kt vt l cur =>
      obtain ⟨r, a1, a2⟩ := h1
      exact ⟨r, a1, a2.mono fz rfl⟩
     | sit l => exact h1
     | frz t' l => trivial
     | fmp kt vt l => trivial
     | dead => trivial
   ·obtain ⟨o, h1, h2⟩ := hm.pin i p o0 hp
    have hi : i ≠ id := fun e1 => by
     subst e1
     rw [hpin i _ hp] at hnp; cases hnp
    exact ⟨o, by rw [hlk, if_neg hi]; exact h1, h2⟩
  ·cases h
 ·cases h
theorem boxFz_ok {pp : List Nat} (hpin : ∀ id p, c.pin id = some p → pinQ pp id = true) : ∀ {ids : List Nat} {s s' : TS}, s.boxFz pp ids = some s' → RelM c F π s a w → RelM c F π s' a w
 | [], s, s', h, hm => by
  obtain rfl := Option.some.inj h; exact hm
 | id :: r, s, s', h, hm => by
  simp only [TS.boxFz] at h
  split at h
  ·rename_i s1 h1; exact boxFz_ok hpin h (boxFz1_ok hpin h1 hm)
  ·cases h
end
end

section
open Go.ChangeMaps (setBlock)

section
variable {P : Program} {c : Cx} {F : Nat → Prop} {s : TS}

def iterO (o : Oper) (s : TS) : Option (Nat × ((kt : DT) × (vt : DT) × List (kt.den × vt.den))) :=
 match o.op with
 | .next x false => match s.ev x with
  | .row id => match tlook s.ob id with
   | some (.iter kt vt l _) => some (id, ⟨kt, vt, l⟩)
   | _ => none
  | _ => none
 | _ => none
def nextS (o : Oper) (s : TS) (id : Nat) (kt vt : DT) (rest : List (kt.den × vt.den)) (p : kt.den × vt.den) : TS :=
 ⟨(s.put o.dst (.tup 3 fun i => ([.dv .bool true, .dv kt p.1, .dv vt p.2] : List TV).getD i .any)).sl, (id, .iter kt vt rest (some p)) :: s.ob⟩
def overS (o : Oper) (s : TS) : TS := s.put o.dst (.tup 1 fun i => ([.dv .bool false] : List TV).getD i .any)
theorem split_filter : ∀ {ls : List MapEntry} {e : MapEntry} {j : Nat}, (ls.map (·.born)).Nodup → ls[j]? = some e → ls.filter (fun x => !(x.born == e.born)) = ls.take j ++ ls.drop (j + 1)
 | [], e, j, _, h => by simp at h
 | x :: r, e, 0, hn, h => by
  simp only [List.getElem?_cons_zero, Option.some.injEq] at h
  subst h
  simp only [List.map_cons, List.nodup_cons, List.mem_map] at hn
  simp only [List.filter_cons, beq_self_eq_true, Bool.not_true, Bool.false_eq_true, if_false, List.take_zero, List.nil_append, Nat.zero_add, List.drop_succ_cons, List.drop_zero]
  rw [List.filter_eq_self]
  intro y hy
  simp only [Bool.not_eq_true', beq_eq_false_iff_ne]
  exact fun q => hn.1 ⟨y, hy, q⟩
 | x :: r, e, j + 1, hn, h => by
  simp only [List.getElem?_cons_succ] at h
  simp only [List.map_cons, List.nodup_cons, List.mem_map] at hn
  have hx : (x.born == e.born) = false := by
   simp only [beq_eq_false_iff_ne]
   exact fun q => hn.1 ⟨e, List.mem_of_getElem? h, q.symm⟩
  simp only [List.filter_cons, hx, Bool.not_false, if_true, List.take_succ_cons, List.cons_append, List.drop_succ_cons]
  rw [split_filter hn.2 h]
theorem next_ok {o : Oper} {id : Nat} {kt vt : DT} {l : List (kt.den × vt.den)} (h : iterO o s = some (id, ⟨kt, vt, l⟩)) :
  OpW P c F o (fun s' => (l = [] ∧ s' = overS o s) ∨ ∃ pre p post, l = pre ++ p :: post ∧ s' = nextS o s id kt vt (pre ++ post) p) s := by
 intro nn a w next Q ⟨π, hm⟩ hn
 obtain ⟨dst, op, ty, pos, after, gd⟩ := o
 unfold iterO at h
 simp only at h
 split at h
 ·rename_i x
  split at h
  ·rename_i id' hx
   split at h
   ·rename_i kt' vt' l' cur ho
    simp only [Option.some.injEq, Prod.mk.injEq, Sigma.mk.injEq] at h
    obtain ⟨rfl, rfl, h⟩ := h
    obtain ⟨rfl, h⟩ := Sigma.mk.inj (eq_of_heq h)
    obtain rfl := eq_of_heq h
    have hv := hm.ev x
    rw [hx] at hv
    simp only [VR, ho] at hv
    obtain ⟨r0, e1, hv⟩ := hv
    obtain ⟨r, k1, lx, h0, g, es, ck, seen, ls, h1, h2, h3, h4, h5, h6, h7, h8, h9⟩ := hm.obj id' _ ho
    rw [k1] at e1; obtain rfl := Option.some.inj e1
    have hexec : ∀ {v : Value} {w' : World}, (Instr.next (.pointer (some ⟨r, 0, none⟩)) false ty).run P w = .ok v w' → (execOp a.eval ⟨dst, .next x false, ty, pos, after, gd⟩).run P w = .ok (.value v) w' := fun h =>
     exec_value (e := Instr.next (a.eval x) false ty) rfl (by rw [hv]; exact h)
    have hlf : (leftOf es seen).toList = ls := by rw [h6, leftOf, Array.toList_filter]
    rcases run_next_at (P := P) w ty r g ck ck seen es ck h1 h3 h4 (Nat.le_refl _) with ⟨q1, q2⟩ | ⟨e, q1, w1, q2, q3⟩
    ·have hl : l' = [] := List.eq_nil_of_length_eq_zero (by rw [← h0.length_eq, ← h7, ← hlf]; simpa using q1)
     refine wpIn_value (hexec q2) (hn _ _ _ (.inl ⟨hl, rfl⟩) ⟨π, hm.put dst ⟨_, rfl, rfl, fun j hj => ?_⟩⟩)
     match j, hj with
     | 0, _ => exact ⟨.bool false, rfl, (DT.val_one (t := .bool) rfl).2 rfl⟩
    ·rw [hlf] at q1
     obtain ⟨j, hj, he⟩ := List.getElem_of_mem q1
     have hej : ls[j]? = some e := by rw [List.getElem?_eq_getElem hj, he]
     obtain ⟨p, p1, p2, p3⟩ := h8 j e hej
     have hjl : j < lx.length := by omega
     have hp : lx[j] = p := by rw [List.getElem?_eq_getElem hjl] at p1; exact Option.some.inj p1
     have hspl : lx = lx.take j ++ p :: lx.drop (j + 1) := by
      rw [← hp, List.getElem_cons_drop, List.take_append_drop]
     obtain ⟨pre, post, hl'⟩ : ∃ pre post, l' = pre ++ p :: post := List.append_of_mem (h0.mem_iff.1 (by rw [← hp]; exact List.getElem_mem hjl))
     have hq : (lx.take j ++ lx.drop (j + 1)).Perm (pre ++ post) := by
      rw [hspl, hl'] at h0
      exact (List.perm_middle.symm.trans (h0.trans List.perm_middle)).cons_inv
     have hm1 : RelM c F π s a w1 := by
      rcases q2 with rfl | rfl
      ·exact hm
      ·exact hm.drew
     have hw1 : ∀ b : Nat, w1.heap[b]? = w.heap[b]? := by
      rcases q2 with rfl | rfl <;> exact fun _ => rfl
     have hsz1 : w1.heap.size = w.heap.size := by rcases q2 with rfl | rfl <;> rfl
     have hes : e ∈ es.toList := by rw [h6] at q1; exact (List.mem_filter.1 q1).1
     have hr1 : w1.heap[r]? = some (.mapIter (some g) ck seen ck) := (hw1 r).trans h1
     obtain ⟨s1, s2⟩ := MapKept.heap_set (o' := .mapIter (some g) ck (seen.push e.born) ck) hr1
     have hoth : ∀ b, b ≠ r → (setBlock w1 r (.mapIter (some g) ck (seen.push e.born) ck)).heap[b]? = w1.heap[b]? := fun b hb => s2 b hb
     have hszs : (setBlock w1 r (.mapIter (some g) ck (seen.push e.born) ck)).heap.size = w1.heap.size := by simp [setBlock]
     have E : Evo w1 (Gz F w1 π (tlook s.ob)) π (tlook s.ob) (setBlock w1 r (.mapIter (some g) ck (seen.push e.born) ck)) (Gz F (setBlock w1 r (.mapIter (some g) ck (seen.push e.born) ck)) π (tlook ((id', .iter kt' vt' (pre ++ post) (some p)) :: s.ob))) π (tlook ((id', .iter kt' vt' (pre ++ post) (some p)) :: s.ob)) :=
      Evo.set ho k1 rfl rfl (fun _ => rfl) hoth hszs
     have fz1 : FzTo w (Gz F w π (tlook s.ob)) w1 (Gz F w1 π (tlook s.ob)) := fun b ⟨r0, r1, r2⟩ => ⟨⟨r0, by rw [hsz1]; exact r1, r2⟩, hw1 b⟩
     have hfz : FzTo w (Gz F w π (tlook s.ob)) (setBlock w1 r (.mapIter (some g) ck (seen.push e.born) ck)) (Gz F (setBlock w1 r (.mapIter (some g) ck (seen.push e.born) ck)) π (tlook ((id', .iter kt' vt' (pre ++ post) (some p)) :: s.ob))) := fun b hb => by
      obtain ⟨a1, a2⟩ := fz1 b hb
      obtain ⟨a3, a4⟩ := E.fz b a1
      exact ⟨a3, a4.trans a2⟩
     have hnl : (ls.map (·.born)).Nodup := by rw [h6]; exact (List.filter_sublist.map _).nodup h5
     have hls' : (es.toList.filter fun x => !(seen.push e.born).contains x.born) = ls.take j ++ ls.drop (j + 1) := by
      rw [← split_filter hnl hej, h6, List.filter_filter]
      congr 1
      funext x
      simp only [Array.contains_push]
      cases hb : (x.born == e.born) <;> simp
     have hG := hfz g h2
     have hR := hm1.set (o' := .iter kt' vt' (pre ++ post) (some p)) ho k1 rfl rfl (fun _ => rfl) hoth hszs ⟨rfl, rfl, rfl⟩
      ⟨r, k1, lx.take j ++ lx.drop (j + 1), hq, g, es, ck, seen.push e.born, ls.take j ++ ls.drop (j + 1), s1, hG.1, hG.2.trans h3, h4, h5, hls'.symm, by simp [h7], fun i e' he' => by
       have key : ∀ q, ls[q]? = some e' → (lx.take j ++ lx.drop (j + 1))[i]? = lx[q]? → ∃ y, (lx.take j ++ lx.drop (j + 1))[i]? = some y ∧ kt'.val y.1 _ _ e'.key ∧ vt'.val y.2 _ _ e'.val := fun q hq hq2 => by
        obtain ⟨y, y1, y2, y3⟩ := h8 q e' hq
        exact ⟨y, hq2.trans y1, DT.val_mono hfz y2, DT.val_mono hfz y3⟩
       by_cases hi : i < j
       ·rw [List.getElem?_append_left (by simp; omega), List.getElem?_take_of_lt hi] at he'
        exact key i he' (by rw [List.getElem?_append_left (by simp; omega), List.getElem?_take_of_lt hi])
       ·rw [List.getElem?_append_right (by simp; omega), List.getElem?_drop] at he'
        refine key _ he' ?_
        rw [List.getElem?_append_right (by simp; omega), List.getElem?_drop]
        congr 1
        simp; omega, fun p' hp' => by
       obtain rfl := Option.some.inj hp'
       exact ⟨e, seen, hes, rfl, DT.val_mono hfz p2, DT.val_mono hfz p3⟩⟩
     refine wpIn_value (hexec q3) (hn _ _ _ (.inr ⟨pre, p, post, hl', rfl⟩) ⟨π, ?_⟩)
     have hput := hR.put dst (x := .tup 3 fun i => ([.dv .bool true, .dv kt' p.1, .dv vt' p.2] : List TV).getD i .any) (v := .tuple #[.bool true, e.key, e.val]) ⟨_, rfl, rfl, fun i hi => by
      match i, hi with
      | 0, _ => exact ⟨.bool true, rfl, (DT.val_one (t := .bool) rfl).2 rfl⟩
      | 1, _ => exact ⟨e.key, rfl, DT.val_mono hfz p2⟩
      | 2, _ => exact ⟨e.val, rfl, DT.val_mono hfz p3⟩⟩
     cases dst <;> exact hput
   ·cases h
  ·cases h
 ·cases h
end
end

section
variable {α : Type}

def pg (E : Env) (ops : Array Oper) (o : Oper) (s : TS) (k : TS → List Nat → Option α) : Option α :=
 match o.guard with
 | none => eff E o s.ev (tlook s.ob) fun e => k (s.app o.dst e) (e.u.map (·.1))
 | some (j, g) => match (ops[j]?).bind (·.dst) with
  | some d => match s.sl[d]? with
   | some (.dv .bool t) => cond t
     (cond g (eff E o (s.put (some d) (.dv .bool true)).ev (tlook s.ob) fun e => k ((s.put (some d) (.dv .bool true)).app o.dst e) (e.u.map (·.1))) (k ((s.put (some d) (.dv .bool true)).put o.dst (.cst undef)) []))
     (cond g (k ((s.put (some d) (.dv .bool false)).put o.dst (.cst undef)) []) (eff E o (s.put (some d) (.dv .bool false)).ev (tlook s.ob) fun e => k ((s.put (some d) (.dv .bool false)).app o.dst e) (e.u.map (·.1))))
   | some (.cst (.tuple _)) => k (s.put o.dst (.cst undef)) []
   | _ => none
  | none => none
class Jn (α : Type) where
 jn : Option α → Option α → Option α
 ok : ∀ {x y : Option α} {r : α}, jn x y = some r → x = some r ∧ y = some r
instance (priority := low) jnNone (α : Type) : Jn α := ⟨fun _ _ => none, fun h => by cases h⟩
def jnU (x y : Option Unit) : Option Unit :=
 match x, y with
 | some _, some _ => some ()
 | _, _ => none
instance jnUnit : Jn Unit := ⟨jnU, fun {x y r} h => by
 cases x with
 | none => cases h
 | some x => cases y with
  | none => cases h
  | some y => exact ⟨rfl, rfl⟩⟩
def eachF {β : Type} [Jn α] (f : β → List β → Option α) (pre : List β) (p : β) : List β → Option α
 | [] => f p pre
 | q :: r => Jn.jn (f p (pre ++ q :: r)) (eachF f (pre ++ [p]) q r)
def eachK {β : Type} [Jn α] (l : List β) (x0 : Option α) (f : β → List β → Option α) : Option α :=
 match l with
 | [] => x0
 | p :: r => eachF f [] p r
theorem eachF_ok {β : Type} [Jn α] {f : β → List β → Option α} {z : α} : ∀ {r pre : List β} {p : β}, eachF f pre p r = some z → ∀ u q v, pre ++ p :: r = u ++ q :: v → (pre.length ≤ u.length) → f q (u ++ v) = some z
 | [], pre, p, h, u, q, v, e, hl => by
  have e1 := congrArg List.length e
  simp only [List.length_append, List.length_cons, List.length_nil] at e1
  obtain ⟨rfl, e2⟩ := List.append_inj e (by omega)
  obtain ⟨rfl, rfl⟩ := List.cons.inj e2
  simpa [eachF] using h
 | x :: r, pre, p, h, u, q, v, e, hl => by
  simp only [eachF] at h
  obtain ⟨h1, h2⟩ := Jn.ok h
  rcases Nat.lt_or_ge pre.length u.length with hlt | hge
  ·exact eachF_ok h2 u q v (by simpa using e) (by simp; omega)
  ·obtain ⟨rfl, e2⟩ := List.append_inj e (by omega)
   obtain ⟨rfl, rfl⟩ := List.cons.inj e2
   exact h1
theorem eachK_ok {β : Type} [Jn α] {l : List β} {x0 : Option α} {f : β → List β → Option α} {z : α} (h : eachK l x0 f = some z) : (l = [] → x0 = some z) ∧ ∀ u q v, l = u ++ q :: v → f q (u ++ v) = some z := by
 cases l with
 | nil => exact ⟨fun _ => h, fun u q v e => by simp at e⟩
 | cons p r => exact ⟨(fun e => by cases e), fun u q v e => eachF_ok (pre := []) h u q v e (Nat.zero_le _)⟩
def rops [Jn α] (E : Env) (ops : Array Oper) : List Oper → TS → (TS → Option α) → Option α
 | [], s, k => k s
 | o :: r, s, k => match o.guard with
  | some _ => pg E ops o s fun s' _ => rops E ops r s' k
  | none => match twin E o s with
   | some (s1, s2, b) => chk b (Jn.jn (rops E ops r s1 k) (rops E ops r s2 k))
   | none => match iterO o s with
    | some (id, ⟨kt, vt, l⟩) => eachK l (rops E ops r (overS o s) k) fun p rest => rops E ops r (nextS o s id kt vt rest p) k
    | none => pg E ops o s fun s' _ => rops E ops r s' k
def opsOf (op : Op) : List Operand := op.operands.toList
def looks (ops : Array Oper) (o : Oper) : List Operand :=
 opsOf o.op ++ (match o.guard with
  | some (j, _) => (match (ops[j]?).bind (·.dst) with
   | some d => [.tmp d]
   | none => [])
  | none => [])
def flat : Op → Bool
 | .move _ => true
 | .assign _ => true
 | _ => false
def rdOf (o : Oper) (s : TS) : List Nat :=
 (if flat o.op then [] else reachF 60 (tlook s.ob) ((opsOf o.op).flatMap fun x => (s.ev x).ids) []) ++ (match o.dst with | some d => [d, 2000000 + d] | none => [])
def apt (ops : Array Oper) (x i : Oper) : Bool :=
  (match x.dst with
   | some d => (looks ops i).all (fun z => match z with | .tmp t => t != d | _ => true) && i.dst != some d
   | none => true) &&
  (match i.dst with
   | some d => (looks ops x).all (fun z => match z with | .tmp t => t != d | _ => true)
   | none => true)
def disj (a b : List Nat) : Bool := a.all fun i => !b.contains i
structure Lab where
 i : Nat
 rd : List Nat
 ks : List Nat
def waits (o : Oper) (x : Nat) : Bool := o.after.toList.any fun e => e.on == x && Region.binds .any e
def waitsT (ops : Array Oper) : Nat → Oper → Nat → Bool
 | 0, _, _ => false
 | f + 1, o, x => o.after.toList.any fun e => Region.binds .any e && (e.on == x || match ops[e.on]? with
  | some oe => waitsT ops f oe x
  | none => false)
def okPair (ops : Array Oper) (x i : Lab) : Bool :=
 match ops[x.i]?, ops[i.i]? with
 | some ox, some oi => waits oi x.i || (apt ops ox oi && disj x.ks i.rd && disj x.ks i.ks && disj i.ks x.rd) || waitsT ops 4 oi x.i
 | _, _ => false
def closedB (o : Oper) (s : TS) (R : List Nat) : Bool :=
 flat o.op || ((opsOf o.op).flatMap fun x => (s.ev x).ids).all (fun i => R.contains i) && R.all fun i => match tlook s.ob i with
  | some ob => ob.ids.all fun j => R.contains j
  | none => true
def prun (E : Env) (ops : Array Oper) : Nat → List Oper → List Lab → TS → (TS → Option α) → Option α
 | _, [], _, s, k => k s
 | n, o :: l, hist, s, k =>
  if closedB o s (rdOf o s) then
   pg E ops o s fun s' ks => if hist.all fun x => okPair ops x ⟨n, rdOf o s, ks⟩ then prun E ops (n + 1) l (⟨n, rdOf o s, ks⟩ :: hist) s' k else none
  else none
def drawnOk (ops : Array Oper) : Bool :=
 (List.range ops.size).all fun i => match ops[i]? with
  | some o => o.after.toList.all fun e => !Region.binds .any e || decide (e.on < i)
  | none => true
def inBlk (id : Nat) : Exit → Exit
 | .exit i => if i = id then .normal else .exit i
 | e => e
abbrev Kont (α : Type) := Exit → TS → Option α
def kseq (f : TS → Kont α → Option α) (k : Kont α) : Kont α := fun e s => match e with
 | .normal => f s k
 | .exit i => k (.exit i) s
 | .ret => k .ret s
 | _ => none
def kblk (id : Nat) (k : Kont α) : Kont α := fun e s => k (inBlk id e) s
def kloop (nm : TS → Option TS) (k : Kont α) (rec : TS → Option α) : Kont α := fun e s => match e with
 | .normal => match nm s with
  | some s1 => rec s1
  | none => none
 | .exit i => k (.exit i) s
 | .ret => k .ret s
 | _ => none
def loopK (body : TS → Kont α → Option α) (nm : TS → Option TS) (k : Kont α) : Nat → TS → Option α
 | 0, _ => none
 | n + 1, s => body s (kloop nm k (loopK body nm k n))
def headId : Code → Nat
 | .region id _ _ => id
 | .seq a _ => headId a
 | .block _ a => headId a
 | .loop a => headId a
 | _ => 0
def TS.lit (s : TS) (c : Operand) (b : Bool) : TS :=
 match c with
 | .tmp t => s.put (some t) (.dv .bool b)
 | _ => s
def preR (pp : List Nat) (lv : Nat → Option Norm) (id : Nat) (s : TS) : Option TS :=
 match lv (1000000 + id) with
 | some nm => TS.boxFz pp nm.objs s
 | none => some s
def seqK {β : Type} (rnd : β → TS → Kont α → Option α) (nrm : TS → Option TS) (k : Kont α) : List β → TS → Option α
 | [], s1 => k .normal s1
 | x :: r, s1 => rnd x s1 fun e s' => match e with
  | .normal => match nrm s' with
   | some s2 => seqK rnd nrm k r s2
   | none => none
  | .exit i => k (.exit i) s'
  | .ret => k .ret s'
  | _ => none
def keepB (O O' : List (Nat × TO)) : Bool := O.all fun p => match tlook O' p.1 with
 | some o => o.live || (match o with | .dead => true | _ => false)
 | none => true
def roundK (as_ body : List Nat → TS → Kont α → Option α) (p : Tmp) (x : TV) (s1 : TS) (K : Kont α) : Option α :=
 as_ (s1.ob.map (·.1)) (s1.put (some p) x) fun e s2 => match e with
  | .normal => if keepB s1.ob s2.ob then body (s2.ob.map (·.1)) s2 (fun e s3 => if keepB s2.ob s3.ob then K e ⟨s1.sl, s3.ob⟩ else none) else none
  | _ => none
def denP [Jn α] (E : Env) (lv : Nat → Option Norm) (N : Nat) : Code → List Nat → TS → Kont α → Option α
 | .skip, pp, s, k => k .normal s
 | .region id ops dr, pp, s, k => match preR pp lv id s with
  | some s1 => cond dr (if drawnOk ops then prun E ops 0 ops.toList [] s1 fun s' => k .normal s' else none) (rops E ops ops.toList s1 fun s' => k .normal s')
  | none => none
 | .seq a b, pp, s, k => denP E lv N a pp s (kseq (denP E lv N b pp) k)
 | .cond c a b, pp, s, k => match s.ev c with
  | .dv .bool t => cond t (denP E lv N a pp (s.lit c true) k) (denP E lv N b pp (s.lit c false) k)
  | _ => none
 | .block id a, pp, s, k => denP E lv N a pp s (kblk id k)
 | .loop a, pp, s, k => match lv (headId a) with
  | some nm => match s.normP pp nm with
   | some s1 => loopK (denP E lv N a pp) (TS.normP pp nm) k N s1
   | none => none
  | none => none
 | .rangeFunc g ps a b, pp, s, k => match lv (headId b), ps.toList with
  | some nm, [p] => match s.normP pp nm with
   | some s1 => match E.seq (s1.ev g) with
    | some (bb, ⟨t, xs⟩) => chk bb (seqK (fun x s1 K => roundK (denP E lv N a) (denP E lv N b) p (.dv t x) s1 K) (TS.normP pp nm) k xs s1)
    | none => none
   | none => none
  | _, _ => none
 | .exit id, pp, s, k => k (.exit id) s
 | .ret, pp, s, k => k .ret s
 | _, _, _, _ => none
def den [Jn α] (E : Env) (lv : Nat → Option Norm) (N : Nat) (c : Code) (s : TS) (k : Kont α) : Option α := denP E lv N c [] s k
def sub : Code → List Nat → Code
 | .seq a _, 0 :: p => sub a p
 | .seq _ b, _ :: p => sub b p
 | .cond _ a _, 0 :: p => sub a p
 | .cond _ _ b, _ :: p => sub b p
 | .block _ a, _ :: p => sub a p
 | .loop a, _ :: p => sub a p
 | .rangeFunc _ _ a _, 0 :: p => sub a p
 | .rangeFunc _ _ _ b, _ :: p => sub b p
 | c, _ => c
def kontP [Jn α] (E : Env) (lv : Nat → Option Norm) (N : Nat) (pp : List Nat) : Code → List Nat → Kont α → Kont α
 | .seq a b, 0 :: p, k => kontP E lv N pp a p (kseq (denP E lv N b pp) k)
 | .seq _ b, _ :: p, k => kontP E lv N pp b p k
 | .cond _ a _, 0 :: p, k => kontP E lv N pp a p k
 | .cond _ _ b, _ :: p, k => kontP E lv N pp b p k
 | .block id a, _ :: p, k => kontP E lv N pp a p (kblk id k)
 | _, _, k => k
def kont [Jn α] (E : Env) (lv : Nat → Option Norm) (N : Nat) (c : Code) (p : List Nat) (k : Kont α) : Kont α := kontP E lv N [] c p k
structure End where
 rsp : List (Nat × DT)
 nm : Norm
def finS (TI : Nat → TD) (en : End) (rs : List ResultVar) (dec : List TV → List (Nat × TO) → Option α) (s : TS) : Option α :=
 match resM TI s rs with
 | some l => match toData en.rsp ⟨s.sl ++ l, s.ob⟩ with
  | some (s0, b) => chk b (match s0.norm en.nm with
   | some s1 => dec (s1.sl.drop s.sl.length) s1.ob
   | none => none)
  | none => none
 | none => none
def fin (TI : Nat → TD) (en : End) (rs : List ResultVar) (dec : List TV → List (Nat × TO) → Option α) : Kont α := fun e s =>
 match e with
 | .normal => finS TI en rs dec s
 | .ret => finS TI en rs dec s
 | _ => none
structure FnC where
 ρ : Type
 sig : List TV → Option (List Md)
 ans : List TV → List (Nat × TO) → Option ρ
 enc : List TV → List (Nat × TO) → ρ → TV
 obs : List TV → List (Nat × TO) → ρ → List (Nat × TO)
def sigL : List (Nat × FnC) → Nat → List TV → Option (List Md)
 | [], _, _ => none
 | (i, c) :: r, f, xs => if f = i then (match c.sig xs with
  | some m => some m
  | none => sigL r f xs) else sigL r f xs
def phiL : List (Nat × FnC) → Nat → List TV → List (Nat × TO) → (TV → List (Nat × TO) → Option α) → Option α
 | [], _, _, _, _ => none
 | (i, c) :: r, f, args, Of, k => if f = i then (match c.ans args Of with
  | some x => k (c.enc args Of x) (c.obs args Of x)
  | none => phiL r f args Of k) else phiL r f args Of k
def mkE (TI : Nat → TD) (TY : Nat → DT) (L : List (Nat × FnC)) (rc : Nat → Option (List (Option DT))) (fz : Nat → Bool) : Env where
 TI := TI
 TY := TY
 rc := rc
 fz := fz
 tw := fun _ => none
 sig := sigL L
 phi := fun f args Of k => phiL L f args Of k
 seq := fun _ => none
def mkEw (TI : Nat → TD) (TY : Nat → DT) (L : List (Nat × FnC)) (rc : Nat → Option (List (Option DT))) (fz : Nat → Bool) (tw : Nat → Option Nat) : Env := { mkE TI TY L rc fz with tw := tw }
def callF [Jn α] (E : Env) (lv : Nat → Option Norm) (N : Nat) (en : End) (c : Code) (rs : List ResultVar) (nt : Nat) (args : List TV) (O : List (Nat × TO)) (dec : List TV → List (Nat × TO) → Option α) : Option α :=
 den E lv N c ⟨args ++ List.replicate nt .any, O⟩ (fin E.TI en rs dec)
end

section
theorem lit_put {s : TS} {d : Nat} {x : TV} (h : s.sl[d]? = some x) : s.put (some d) x = s := by
 obtain ⟨sl, ob⟩ := s
 simp only [TS.put, TS.mk.injEq, and_true]
 have hl := (List.getElem?_eq_some_iff.1 h).1
 apply List.ext_getElem?
 intro i
 by_cases e : d = i
 ·subst e; rw [List.getElem?_set_self hl]; exact h.symm
 ·rw [List.getElem?_set_ne e]
theorem TS.lit_eq {s : TS} {c : Operand} {t : Bool} (h : s.ev c = .dv .bool t) : s.lit c t = s := by
 cases c with
 | tmp d =>
  simp only [TS.lit]
  refine lit_put ?_
  simp only [TS.ev, List.getD] at h
  cases e : s.sl[d]? with
  | none => rw [e] at h; cases h
  | some x => rw [e] at h; exact congrArg some h
 | _ => rfl
inductive St (P : Program) (E : Env) (c : Cx) (F : Nat → Prop) (ops : Array Oper) (o : Oper) (s : TS) : TS → List Nat → Prop
 | run (hg : o.guard = none) (e : Eff) (hd : ∀ (β : Type) (k' : Eff → Option β), eff E o s.ev (tlook s.ob) k' = k' e) : St P E c F ops o s (s.app o.dst e) (e.u.map (·.1))
 | want (j d : Nat) (g : Bool) (hg : o.guard = some (j, g)) (hd : (ops[j]?).bind (·.dst) = some d) (hs : s.sl[d]? = some (.dv .bool g)) (e : Eff) (he : ∀ (β : Type) (k' : Eff → Option β), eff E o s.ev (tlook s.ob) k' = k' e) : St P E c F ops o s (s.app o.dst e) (e.u.map (·.1))
 | pass (j d : Nat) (g t : Bool) (hg : o.guard = some (j, g)) (hd : (ops[j]?).bind (·.dst) = some d) (hs : s.sl[d]? = some (.dv .bool t)) (hne : t ≠ g) : St P E c F ops o s (s.put o.dst (.cst undef)) []
 | skip (j d : Nat) (g : Bool) (xs : Array Value) (hg : o.guard = some (j, g)) (hd : (ops[j]?).bind (·.dst) = some d) (hs : s.sl[d]? = some (.cst (.tuple xs))) : St P E c F ops o s (s.put o.dst (.cst undef)) []
section
variable {P : Program} {E : Env} {c : Cx} {F : Nat → Prop} {s : TS}

theorem pg_st (hT : TOK P E.TI) (hE : EnvOk P E) {ops : Array Oper} {o : Oper} {α : Type} {k : TS → List Nat → Option α} {r : α} (h : pg E ops o s k = some r) : ∃ s' ks, k s' ks = some r ∧ St P E c F ops o s s' ks := by
 unfold pg at h
 split at h
 ·rename_i hg
  obtain ⟨e, h1, h2, _⟩ := eff_ok (P := P) (c := c) (F := F) hT hE h
  exact ⟨_, _, h1, .run hg e h2⟩
 ·rename_i j g hg
  split at h
  ·rename_i d hd
   split at h
   ·rename_i t hs
    cases t with
    | true =>
     simp only [cond_true] at h
     rw [lit_put hs] at h
     cases g with
     | true =>
      simp only [cond_true] at h
      obtain ⟨e, h1, h2, _⟩ := eff_ok (P := P) (c := c) (F := F) hT hE h
      exact ⟨_, _, h1, .want j d true hg hd hs e h2⟩
     | false => exact ⟨_, _, h, .pass j d false true hg hd hs (by decide)⟩
    | false =>
     simp only [cond_false] at h
     rw [lit_put hs] at h
     cases g with
     | false =>
      simp only [cond_false] at h
      obtain ⟨e, h1, h2, _⟩ := eff_ok (P := P) (c := c) (F := F) hT hE h
      exact ⟨_, _, h1, .want j d false hg hd hs e h2⟩
     | true => exact ⟨_, _, h, .pass j d true false hg hd hs (by decide)⟩
   ·rename_i xs hs; exact ⟨_, _, h, .skip j d g xs hg hd hs⟩
   ·cases h
  ·cases h
theorem det_opW (hT : TOK P E.TI) (hE : EnvOk P E) {o : Oper} {e : Eff} (h : ∀ (β : Type) (k' : Eff → Option β), eff E o s.ev (tlook s.ob) k' = k' e) : OpW P c F o (fun s' => s' = s.app o.dst e) s := by
 obtain ⟨e', h1, h2, h3⟩ := eff_ok (P := P) (c := c) (F := F) (k := fun _ => some ()) (r := ()) hT hE (h Unit fun _ => some ())
 have : e' = e := by
  have a := h Eff fun x => some x
  rw [h2 Eff fun x => some x] at a
  exact Option.some.inj a
 subst this; exact h3
theorem RelM.yieldsNot {π : Nat → Pl} {a : Act} {w : World} (h : RelM c F π s a w) {ops : Array Oper} {j d : Nat} {xs : Array Value} (hd : (ops[j]?).bind (·.dst) = some d) (hs : s.sl[d]? = some (.cst (.tuple xs))) : yielded ops a.tmps j = none := by
 have h1 := h.slot d _ hs
 have hl : d < s.sl.length := (List.getElem?_eq_some_iff.1 hs).1
 have hl' : d < a.tmps.size := by rw [h.size]; exact hl
 have h2 : a.tmps.getD d undef = .tuple xs := h1
 have h3 : a.tmps[d]? = some (.tuple xs) := by
  rw [Array.getElem?_eq_getElem hl']; simp only [Array.getD, hl', dif_pos] at h2; exact congrArg some h2
 simp [yielded, hd, h3]
theorem PL.passU {ops : Array Oper} {o : Oper} {l : List Oper} {K : TS → Prop} {j d : Nat} {b b' : Bool} (hg : o.guard = some (j, b)) (hd : (ops[j]?).bind (·.dst) = some d) (hs : s.sl[d]? = some (.dv .bool b')) (hne : b' ≠ b)
  (h : PL P c F ops l K (s.put o.dst (.cst undef))) : PL P c F ops (o :: l) K s := fun nn a w Q hr hk => by
 have hr0 := hr
 obtain ⟨π, hm⟩ := hr0
 refine wpListIn_step fun K' hK' => ?_
 rw [if_neg (by simp [Region.wanted, hg, hm.yields hd hs]; exact hne)]
 exact ⟨fun _ _ => trivial, hK' _ _ (h nn _ w Q ⟨π, hm.put _ (x := .cst undef) rfl⟩ hk)⟩
theorem PL.skipU {ops : Array Oper} {o : Oper} {l : List Oper} {K : TS → Prop} {j d : Nat} {b : Bool} {xs : Array Value} (hg : o.guard = some (j, b)) (hd : (ops[j]?).bind (·.dst) = some d) (hs : s.sl[d]? = some (.cst (.tuple xs)))
  (h : PL P c F ops l K (s.put o.dst (.cst undef))) : PL P c F ops (o :: l) K s := fun nn a w Q hr hk => by
 have hr0 := hr
 obtain ⟨π, hm⟩ := hr0
 refine wpListIn_step fun K' hK' => ?_
 rw [if_neg (by simp [Region.wanted, hg, hm.yieldsNot hd hs])]
 exact ⟨fun _ _ => trivial, hK' _ _ (h nn _ w Q ⟨π, hm.put _ (x := .cst undef) rfl⟩ hk)⟩
theorem St.pl (hT : TOK P E.TI) (hE : EnvOk P E) {ops : Array Oper} {o : Oper} {l : List Oper} {K : TS → Prop} {s' : TS} {ks : List Nat} (h : St P E c F ops o s s' ks) (hk : PL P c F ops l K s') : PL P c F ops (o :: l) K s := by
 cases h with
 | run hg e hd => exact PL.opW hg ((det_opW hT hE hd).mono fun s2 e2 => by subst e2; exact hk)
 | want j d g hg hd hs e he => exact PL.wantW hg hd hs ((det_opW hT hE he).mono fun s2 e2 => by subst e2; exact hk)
 | pass j d g t hg hd hs hne => exact PL.passU hg hd hs hne hk
 | skip j d g xs hg hd hs => exact PL.skipU hg hd hs hk
theorem rops_ok (hT : TOK P E.TI) (hE : EnvOk P E) {ops : Array Oper} {α : Type} [Jn α] : ∀ (l : List Oper) {s : TS} {k : TS → Option α} {r : α}, rops E ops l s k = some r → PL P c F ops l (fun s' => k s' = some r) s
 | [], s, k, r, h => PL.nil h
 | o :: l, s, k, r, h => by
  have plain : pg E ops o s (fun s' _ => rops E ops l s' k) = some r → PL P c F ops (o :: l) (fun s' => k s' = some r) s := fun h => by
   obtain ⟨s', ks, h1, h2⟩ := pg_st (P := P) (c := c) (F := F) hT hE h
   exact h2.pl hT hE (rops_ok hT hE l h1)
  simp only [rops] at h
  split at h
  ·exact plain h
  ·rename_i hg
   split at h
   ·rename_i s1 s2 b htw
    obtain ⟨hb, h⟩ := chk_some h
    obtain ⟨h1, h2⟩ := Jn.ok h
    exact PL.opW hg ((twin_ok hT htw hb).mono fun s' e => by
     rcases e with rfl | rfl
     ·exact rops_ok hT hE l h1
     ·exact rops_ok hT hE l h2)
   ·split at h
    ·rename_i id kt vt l0 hit
     obtain ⟨h1, h2⟩ := eachK_ok h
     exact PL.opW hg ((next_ok hit).mono fun s' e => by
      rcases e with ⟨e, rfl⟩ | ⟨u, q, v, e, rfl⟩
      ·exact rops_ok hT hE l (h1 e)
      ·exact rops_ok hT hE l (h2 u q v e))
    ·exact plain h
end
end

section
section
variable {L L' : Obs} {x : TV}

theorem TV.data_local (h : ∀ i ∈ x.ids, L i = L' i) : x.data L = x.data L' := by
 cases x with
 | row id => simp only [TV.data, h id (by simp [TV.ids])]
 | vrow id a b => simp only [TV.data, h id (by simp [TV.ids])]
 | dv t y => cases t <;> rfl
 | _ => rfl
theorem TV.fdata_local (h : ∀ i ∈ x.ids, L i = L' i) : x.fdata L = x.fdata L' := by
 cases x with
 | row id => simp only [TV.fdata, h id (by simp [TV.ids])]
 | vrow id a b => simp only [TV.fdata, h id (by simp [TV.ids])]
 | dv t y => cases t <;> rfl
 | _ => rfl
theorem coAs_local (h : ∀ i ∈ x.ids, L i = L' i) (t : DT) : coAs L x t = coAs L' x t := by
 cases t <;> simp only [coAs, coSl, TV.fdata_local h]
theorem TV.as_local (h : ∀ i ∈ x.ids, L i = L' i) (t : DT) : x.as L t = x.as L' t := by
 cases x with
 | row id => simp only [TV.as]; exact coAs_local h t
 | vrow id a b => simp only [TV.as]; exact coAs_local h t
 | dv u y => simp only [TV.as]; split <;> first | rfl | exact coAs_local h t
 | _ => rfl
theorem TV.one'_local (h : ∀ i ∈ x.ids, L i = L' i) : x.one' L = x.one' L' := by
 cases x with
 | row id => simp only [TV.one', h id (by simp [TV.ids])]
 | ptr id i p => simp only [TV.one', h id (by simp [TV.ids])]
 | _ => rfl
theorem TV.idx_local (h : ∀ i ∈ x.ids, L i = L' i) (d : TD) (z : Int) : x.idx d L z = x.idx d L' z := by
 cases x with
 | view id i p k n a b => simp only [TV.idx, h id (by simp [TV.ids])]
 | row id => simp only [TV.idx, h id (by simp [TV.ids])]
 | vrow id a b => simp only [TV.idx, h id (by simp [TV.ids])]
 | ptr id i p => simp only [TV.idx, h id (by simp [TV.ids])]
 | dv t y => cases t <;> rfl
 | _ => rfl
theorem TV.fld_local (h : ∀ i ∈ x.ids, L i = L' i) (d : TD) (k : Nat) : x.fld d L k = x.fld d L' k := by
 cases x with
 | ptr id i p => simp only [TV.fld, h id (by simp [TV.ids])]
 | _ => rfl
theorem TV.ld_local (h : ∀ i ∈ x.ids, L i = L' i) (d : TD) : x.ld d L = x.ld d L' := by
 cases x with
 | ptr id i p => simp only [TV.ld, h id (by simp [TV.ids])]
 | _ => rfl
theorem lenTV_local (h : ∀ i ∈ x.ids, L i = L' i) (d : TD) : lenTV L d x = lenTV L' d x := by
 cases x with
 | row id => simp only [lenTV, h id (by simp [TV.ids])]
 | vrow id a b => simp only [lenTV, TV.data_local h]
 | dv t y => cases t <;> rfl
 | _ => rfl
theorem isNil_local : x.isNil L = x.isNil L' := by cases x <;> rfl
theorem bop_local (TI : Nat → TD) (op : BinOp) (T : Nat) (y : TV) : bopTV TI L op T x y = bopTV TI L' op T x y := by
 unfold bopTV
 split <;> first | rfl | (simp only [isNil_local (L := L) (L' := L')])
end

structure Agr (o : Oper) (ev : Operand → TV) (L L' : Obs) (R : List Nat) : Prop where
 ops : ∀ x ∈ opsOf o.op, ∀ i ∈ (ev x).ids, i ∈ R
 cl : ∀ i ∈ R, ∀ ob, L i = some ob → ∀ j ∈ ob.ids, j ∈ R
 dst : ∀ d, o.dst = some d → d ∈ R ∧ 2000000 + d ∈ R
 eq : ∀ i ∈ R, L i = L' i
section
variable {o : Oper} {ev : Operand → TV} {L L' : Obs} {R : List Nat}

theorem Agr.at (h : Agr o ev L L' R) {x : Operand} (hx : x ∈ opsOf o.op) : ∀ i ∈ (ev x).ids, L i = L' i := fun i hi => h.eq i (h.ops x hx i hi)
theorem tval_local (h : Agr o ev L L' R) (TI : Nat → TD) : tval TI ev L o.op = tval TI ev L' o.op := by
 have hat := @Agr.at _ _ _ _ _ h
 generalize o.op = op at hat
 cases op with
 | nilCheck x =>
  have := hat (x := x) (by simp [opsOf, Op.operands])
  simp only [tval]
  split <;> first | rfl | (rename_i id i p he; rw [he] at this; simp only [this id (by simp [TV.ids])])
 | binOp op t x y u => simp only [tval]; exact bop_local _ _ _ _
 | load T p => simp only [tval, TV.ld_local (hat (x := p) (by simp [opsOf, Op.operands]))]
 | indexAddr T x i => simp only [tval, TV.idx_local (hat (x := x) (by simp [opsOf, Op.operands]))]
 | fieldAddr T x i => simp only [tval, TV.fld_local (hat (x := x) (by simp [opsOf, Op.operands]))]
 | call c =>
  obtain ⟨callee, args, ats⟩ := c
  simp only [tval]
  split
  ·rename_i x T hx ht
   have ha : args = #[x] := by apply Array.ext'; simpa using hx
   subst ha
   rw [lenTV_local (hat (x := x) (by simp [opsOf, Op.operands, Call.operands]))]
  ·rfl
 | _ => rfl
theorem asm_local : ∀ {t : DT} {fs : List TV}, (∀ x ∈ fs, ∀ i ∈ x.ids, L i = L' i) → asmTV L t fs = asmTV L' t fs := by
 intro t
 induction t with
 | pair a b iha ihb =>
  intro fs h
  cases fs with
  | nil => rfl
  | cons x r => simp only [asmTV, TV.as_local (h x (by simp)), ihb (fs := r) fun y hy => h y (by simp [hy])]
 | _ => intro fs h; cases fs <;> rfl
theorem tmore_local (h : Agr o ev L L' R) (TI : Nat → TD) (TY : Nat → DT) : tmore TI TY ev L o.op = tmore TI TY ev L' o.op := by
 have hat := @Agr.at _ _ _ _ _ h
 have hops := h.ops
 have hcl := h.cl
 have heq := h.eq
 generalize o.op = op at hat hops
 cases op with
 | slice T x lo hi mx =>
  have hx := hat (x := x) (by simp [opsOf, Op.operands])
  simp only [tmore]
  split
  ·split
   ·rename_i id he; rw [he] at hx; simp only [hx id (by simp [TV.ids])]
   ·rename_i id i j he; rw [he] at hx; simp only [hx id (by simp [TV.ids])]
   ·rename_i id i p he; rw [he] at hx; simp only [hx id (by simp [TV.ids])]
   ·rfl
   ·rw [TV.fdata_local hx]
  ·rw [TV.fdata_local hx]
  ·rfl
 | load T p =>
  have hx := hat (x := p) (by simp [opsOf, Op.operands])
  have ho := hops p (by simp [opsOf, Op.operands])
  simp only [tmore]
  split
  ·rename_i id i he
   rw [he] at hx ho
   rw [← hx id (by simp [TV.ids])]
   split
   ·rename_i fs hfs
    rw [asm_local (L := L) (L' := L') fun x hxm i hi => heq i (hcl id (ho id (by simp [TV.ids])) _ hfs i (by simp only [TO.ids, List.mem_flatMap]; exact ⟨x, hxm, hi⟩))]
   ·rfl
  ·rfl
 | typeAssert x X T ok => cases ok <;> rfl
 | _ => rfl
theorem asL_local {t : DT} : ∀ {xs : List Operand}, (∀ x ∈ xs, ∀ i ∈ (ev x).ids, L i = L' i) → asL ev L t xs = asL ev L' t xs
 | [], _ => rfl
 | x :: r, h => by simp only [asL, TV.as_local (h x (by simp)), asL_local (xs := r) fun y hy => h y (by simp [hy])]
theorem tfill_local {t : DT} {d : TD} : ∀ {xs : List (Nat × Operand)} {z : t.den}, (∀ x ∈ xs, ∀ i ∈ (ev x.2).ids, L i = L' i) → tfill ev L t d xs z = tfill ev L' t d xs z
 | [], z, _ => rfl
 | (i, x) :: r, z, h => by
  simp only [tfill]
  split
  ·rename_i N hN
   have e := TV.as_local (h (i, x) (by simp)) N.u
   simp only at e
   rw [e]
   split
   ·rename_i y b hy
    split
    ·rw [tfill_local (xs := r) fun y hy => h y (by simp [hy])]
    ·rfl
   ·rfl
  ·rfl
theorem putP_local {x : TV} (h : ∀ i ∈ x.ids, L i = L' i) (ob : TO) (i : Nat) (p : List Nat) (d : TD) : ob.putP L i p x d = ob.putP L' i p x d := by
 cases ob with
 | row t l => simp only [TO.putP, TV.as_local h]
 | rcd fs =>
  cases p with
  | nil => rfl
  | cons j p =>
   simp only [TO.putP]
   split
   ·cases p with
    | nil => simp only [TV.one'_local h, TV.as_local h]
    | cons q p => simp only [TV.as_local h]
   ·rfl
 | _ => rfl
theorem tappend_local (TI : Nat → TD) (TY : Nat → DT) {d T : Nat} {x y : TV} (hd : L d = L' d) (hx : ∀ i ∈ x.ids, L i = L' i) (hy : ∀ i ∈ y.ids, L i = L' i) : tappend TI TY ev L d T x y = tappend TI TY ev L' d T x y := by
 unfold tappend
 rw [hd]
 split
 ·rfl
 ·split
  ·rename_i id; simp only [hx id (by simp [TV.ids]), TV.data_local hy]
  ·simp only [TV.data_local hy]
  ·simp only [TV.data_local hy]
  ·rfl
theorem tobj_local (h : Agr o ev L L' R) (TI : Nat → TD) (TY : Nat → DT) (rc : Nat → Option (List (Option DT))) : tobj TI TY rc ev L o.dst o.op = tobj TI TY rc ev L' o.dst o.op := by
 have hat := @Agr.at _ _ _ _ _ h
 have hdst : ∀ d, o.dst = some d → L d = L' d := fun d hd => h.eq d (h.dst d hd).1
 have hdst2 : ∀ d, o.dst = some d → L (2000000 + d) = L' (2000000 + d) := fun d hd => h.eq _ (h.dst d hd).2
 generalize o.op = op at hat
 generalize o.dst = dst at hdst hdst2
 cases op with
 | alloc T =>
  cases dst with
  | none => rfl
  | some d => simp only [tobj, hdst d rfl, hdst2 d rfl]
 | box T x =>
  have hx := hat (x := x) (by simp [opsOf, Op.operands])
  cases dst with
  | none => rfl
  | some d => simp only [tobj, hdst d rfl, TV.one'_local hx, TV.as_local hx]
 | buildSlice T n parts =>
  have hx := fun x => hat (x := x)
  cases dst with
  | none => rfl
  | some d =>
   simp only [tobj]
   split
   ·rename_i d' t hd' hT
    obtain rfl := Option.some.inj hd'
    rw [hdst d rfl, asL_local (L := L) (L' := L') fun x hxm => hx x (by simpa [opsOf, Op.operands] using hxm)]
   ·rfl
 | makeSlice T x y =>
  cases dst with
  | none => rfl
  | some d =>
   simp only [tobj]
   split
   ·rename_i d' _ _ _ _ hd' _ _
    obtain rfl := Option.some.inj hd'
    rw [hdst d rfl]
   ·rfl
 | build T parts =>
  simp only [tobj]
  rw [tfill_local (L := L) (L' := L') fun x hxm => hat (x := x.2) (by simp only [opsOf, Op.operands]; exact List.mem_map_of_mem hxm)]
 | store T p y =>
  have hp := hat (x := p) (by simp [opsOf, Op.operands])
  have hy := hat (x := y) (by simp [opsOf, Op.operands])
  simp only [tobj]
  split
  ·rename_i id i q he
   rw [he] at hp
   rw [hp id (by simp [TV.ids])]
   split
   ·rw [putP_local hy]
   ·rfl
  ·rfl
 | call c =>
  obtain ⟨callee, args, ats⟩ := c
  cases dst with
  | none => simp only [tobj]
  | some d =>
   simp only [tobj]
   split
   ·rename_i d' x y T T' hd' hxs hts
    obtain rfl := Option.some.inj hd'
    have ha : args = #[x, y] := by apply Array.ext'; simpa using hxs
    subst ha
    rw [tappend_local (ev := ev) (L := L) (L' := L') TI TY (hdst d rfl) (hat (x := x) (by simp [opsOf, Op.operands, Call.operands])) (hat (x := y) (by simp [opsOf, Op.operands, Call.operands]))]
   ·rfl
 | _ => rfl
theorem tfzApp_local (h : Agr o ev L L' R) (E : Env) : tfzApp E ev L o.dst o.op = tfzApp E ev L' o.dst o.op := by
 have hat := @Agr.at _ _ _ _ _ h
 have hdst : ∀ d, o.dst = some d → L d = L' d := fun d hd => h.eq d (h.dst d hd).1
 generalize o.op = op at hat
 generalize o.dst = dst at hdst
 cases op with
 | call c =>
  obtain ⟨callee, args, ats⟩ := c
  simp only [tfzApp]
  split
  ·rename_i d x y T T' hxs hts
   have ha : args = #[x, y] := by apply Array.ext'; simpa using hxs
   subst ha
   rw [hdst d rfl, TV.data_local (hat (x := y) (by simp [opsOf, Op.operands, Call.operands]))]
  ·rfl
 | box T x =>
  have hx := hat (x := x) (by simp [opsOf, Op.operands])
  simp only [tfzApp, TV.as_local hx]
 | assign x => simp only [tfzApp]
 | slice T x lo hi mx =>
  have hx := hat (x := x) (by simp [opsOf, Op.operands])
  simp only [tfzApp]
  unfold tmv
  split
  ·rename_i d
   rw [hdst d rfl]
   split
   ·split
    ·rename_i id a b h1 h2 h3 h4
     rw [h2] at hx
     rw [hx id (by simp [TV.ids])]
    ·rfl
   ·rfl
  ·rfl
 | _ => rfl
theorem tpart_local {d : TD} : ∀ {r : List (Nat × Operand)} {l : List TV}, (∀ x ∈ r, ∀ i ∈ (ev x.2).ids, L i = L' i) → tpart ev L d r l = tpart ev L' d r l
 | [], l, _ => rfl
 | (i, x) :: r, l, h => by
  have e : partOk L (ev x) = partOk L' (ev x) := by
   have hx := h (i, x) (by simp)
   simp only at hx
   cases hv : ev x with
   | dv t y => rfl
   | _ => simp only [partOk]; rw [hv] at hx; exact TV.one'_local hx
  simp only [tpart, e]
  split
  ·split
   ·exact tpart_local fun y hy => h y (by simp [hy])
   ·rfl
  ·rfl
theorem tst_local (h : Agr o ev L L' R) (TI : Nat → TD) (TY : Nat → DT) (rc : Nat → Option (List (Option DT))) : tst TI TY rc ev L o.dst o.op = tst TI TY rc ev L' o.dst o.op := by
 have hat := @Agr.at _ _ _ _ _ h
 have hdst : ∀ d, o.dst = some d → L d = L' d := fun d hd => h.eq d (h.dst d hd).1
 generalize o.op = op at hat
 generalize o.dst = dst at hdst
 cases op with
 | build T parts =>
  simp only [tst]
  split
  ·split
   ·rw [tpart_local (L := L) (L' := L') fun x hxm => hat (x := x.2) (by simp only [opsOf, Op.operands]; exact List.mem_map_of_mem hxm)]
   ·rfl
  ·rfl
 | store T p y =>
  have hp := hat (x := p) (by simp [opsOf, Op.operands])
  simp only [tst]
  split
  ·rename_i id i n f he he2
   rw [he] at hp
   rw [hp id (by simp [TV.ids])]
  ·rfl
 | box T x =>
  simp only [tst]
  split
  ·rename_i d n f he
   rw [hdst d rfl]
  ·rfl
 | call c =>
  obtain ⟨callee, args, ats⟩ := c
  simp only [tst]
  split
  ·rfl
  ·split
   ·rename_i d _ _ _ _ _ _
    rw [hdst d rfl]
   ·rfl
  ·rename_i x T hxs hts
   have ha : args = #[x] := by apply Array.ext'; simpa using hxs
   subst ha
   have hx := hat (x := x) (by simp [opsOf, Op.operands, Call.operands])
   split
   ·rename_i id i j he
    rw [he] at hx
    rw [hx id (by simp [TV.ids])]
   ·rfl
  ·rename_i x T hxs hts
   have ha : args = #[x] := by apply Array.ext'; simpa using hxs
   subst ha
   have hx := hat (x := x) (by simp [opsOf, Op.operands, Call.operands])
   split
   ·rename_i id i p k n i1 j1 he
    rw [he] at hx
    rw [hx id (by simp [TV.ids])]
   ·rfl
  ·rfl
 | indexAddr T x y =>
  have hx := hat (x := x) (by simp [opsOf, Op.operands])
  simp only [tst]
  have : ∀ z, tvi (TI T) L z (ev x) = tvi (TI T) L' z (ev x) := fun z => by
   unfold tvi
   split
   ·rename_i id i p k n i1 j1 he
    rw [he] at hx
    rw [hx id (by simp [TV.ids])]
   ·rfl
  simp only [this]
 | _ => rfl
theorem tcopy_local {TI : Nat → TD} {T : Nat} {x y : TV} (hx : ∀ i ∈ x.ids, L i = L' i) (hy : ∀ i ∈ y.ids, L i = L' i) : tcopy TI L T x y = tcopy TI L' T x y := by
 unfold tcopy
 split
 ·rename_i id i k n b
  rw [hx id (by simp [TV.ids]), TV.data_local hy]
 ·rfl
theorem tmap_local (h : Agr o ev L L' R) (TI : Nat → TD) : tmap TI ev L o.dst o.op = tmap TI ev L' o.dst o.op := by
 have hat := @Agr.at _ _ _ _ _ h
 have hdst : ∀ d, o.dst = some d → L d = L' d := fun d hd => h.eq d (h.dst d hd).1
 generalize o.op = op at hat
 generalize o.dst = dst at hdst
 cases op with
 | makeMap T r =>
  cases dst with
  | none => rfl
  | some d =>
   simp only [tmap]
   cases (TI T).mkv with
   | none => rfl
   | some kv => obtain ⟨kt, vt⟩ := kv; simp only [hdst d rfl]
 | lookup T m ix ok =>
  have hm := hat (x := m) (by simp [opsOf, Op.operands])
  simp only [tmap]
  split
  ·rename_i id he
   rw [he] at hm
   rw [hm id (by simp [TV.ids])]
   split
   ·rw [TV.as_local (hat (x := ix) (by simp [opsOf, Op.operands]))]
   ·rfl
  ·rfl
 | mapUpdate T m k y =>
  have hm := hat (x := m) (by simp [opsOf, Op.operands])
  simp only [tmap]
  split
  ·rename_i id he
   rw [he] at hm
   rw [hm id (by simp [TV.ids])]
   split
   ·rw [TV.as_local (hat (x := k) (by simp [opsOf, Op.operands])), TV.as_local (hat (x := y) (by simp [opsOf, Op.operands]))]
   ·rfl
  ·rfl
 | range T m =>
  have hm := hat (x := m) (by simp [opsOf, Op.operands])
  simp only [tmap]
  split
  ·rename_i d id he
   rw [he] at hm
   rw [hm id (by simp [TV.ids]), hdst d rfl]
  ·rfl
 | entry x =>
  have hx := hat (x := x) (by simp [opsOf, Op.operands])
  simp only [tmap]
  split
  ·rename_i id he
   rw [he] at hx
   rw [hx id (by simp [TV.ids])]
  ·rfl
 | insert T m k y =>
  have hm := hat (x := m) (by simp [opsOf, Op.operands])
  simp only [tmap]
  split
  ·rename_i id he
   rw [he] at hm
   rw [hm id (by simp [TV.ids])]
   split
   ·rw [TV.as_local (hat (x := k) (by simp [opsOf, Op.operands])), TV.as_local (hat (x := y) (by simp [opsOf, Op.operands]))]
   ·rfl
  ·rfl
 | call cl =>
  obtain ⟨callee, args, ats⟩ := cl
  simp only [tmap]
  split
  ·rfl
  ·rfl
  ·rename_i x y hxs
   have ha : args = #[x, y] := by apply Array.ext'; simpa using hxs
   subst ha
   split
   ·exact tcopy_local (hat (x := x) (by simp [opsOf, Op.operands, Call.operands])) (hat (x := y) (by simp [opsOf, Op.operands, Call.operands]))
   ·rfl
  ·rfl
 | _ => rfl
theorem tstr_local (h : Agr o ev L L' R) (TI : Nat → TD) : tstr TI ev L o.dst o.op = tstr TI ev L' o.dst o.op := by
 have hat := @Agr.at _ _ _ _ _ h
 have hdst : ∀ d, o.dst = some d → L d = L' d := fun d hd => h.eq d (h.dst d hd).1
 generalize o.op = op at hat
 generalize o.dst = dst at hdst
 cases op with
 | convert S T x =>
  have hx := hat (x := x) (by simp [opsOf, Op.operands])
  simp only [tstr]
  split
  ·cases dst with
   | none => rfl
   | some d => simp only [hdst d rfl]
  ·rw [TV.data_local hx]
 | range T x =>
  cases dst with
  | none => simp only [tstr]; split <;> first | rfl | contradiction
  | some d =>
   simp only [tstr]
   split
   ·rename_i d' _ he
    obtain rfl := Option.some.inj he
    rw [hdst _ rfl]
   ·rfl
 | call cl =>
  obtain ⟨callee, args, ats⟩ := cl
  simp only [tstr]
  split
  ·rename_i m k T r hxs hts
   have ha : args = #[m, k] := by apply Array.ext'; simpa using hxs
   subst ha
   have hm := hat (x := m) (by simp [opsOf, Op.operands, Call.operands])
   split
   ·rename_i id he
    rw [he] at hm
    rw [hm id (by simp [TV.ids])]
    split
    ·rw [TV.as_local (hat (x := k) (by simp [opsOf, Op.operands, Call.operands]))]
    ·rfl
   ·rfl
  ·rename_i m T r hxs hts
   have ha : args = #[m] := by apply Array.ext'; simpa using hxs
   subst ha
   have hm := hat (x := m) (by simp [opsOf, Op.operands, Call.operands])
   split
   ·rename_i id he
    rw [he] at hm
    rw [hm id (by simp [TV.ids])]
   ·rfl
  ·rfl
 | _ => rfl
theorem needs_local (h : Agr o ev L L' R) : needs ev L o.op = needs ev L' o.op := by
 have hat := @Agr.at _ _ _ _ _ h
 generalize o.op = op at hat
 cases op with
 | store T p y =>
  have hp := hat (x := p) (by simp [opsOf, Op.operands])
  simp only [needs]
  split
  ·rename_i id i q he; rw [he] at hp; simp only [hp id (by simp [TV.ids])]
  ·rfl
 | load T p =>
  have hp := hat (x := p) (by simp [opsOf, Op.operands])
  simp only [needs]
  split
  ·rename_i id i he; rw [he] at hp; simp only [hp id (by simp [TV.ids])]
  ·rfl
 | _ => rfl
theorem rowId_ids {x : TV} {i : Nat} (h : i ∈ x.rowId) : i ∈ x.ids := by
 cases x <;> first | exact h | simp [TV.rowId] at h
theorem needs_in (h : Agr o ev L L' R) : ∀ i ∈ needs ev L o.op, i ∈ R := by
 have hops := h.ops
 have hcl := h.cl
 generalize o.op = op at hops
 cases op with
 | buildSlice T n parts =>
  intro i hi
  simp only [needs, List.mem_flatMap] at hi
  obtain ⟨p, hp, hi⟩ := hi
  exact hops p.2 (by simp only [opsOf, Op.operands]; exact List.mem_map_of_mem hp) i (rowId_ids hi)
 | build T parts =>
  intro i hi
  simp only [needs, List.mem_flatMap] at hi
  obtain ⟨p, hp, hi⟩ := hi
  exact hops p.2 (by simp only [opsOf, Op.operands]; exact List.mem_map_of_mem hp) i (rowId_ids hi)
 | store T p y =>
  have hy := hops y (by simp [opsOf, Op.operands])
  intro i hi
  simp only [needs] at hi
  split at hi
  ·split at hi
   ·split at hi
    ·exact hy i (rowId_ids hi)
    ·simp at hi
   ·exact hy i (rowId_ids hi)
  ·simp at hi
 | load T p =>
  have hp := hops p (by simp [opsOf, Op.operands])
  intro i hi
  simp only [needs] at hi
  split at hi
  ·rename_i id j he
   rw [he] at hp
   split at hi
   ·rename_i fs hfs
    obtain ⟨x, hx, hi⟩ := List.mem_flatMap.1 hi
    exact hcl id (hp id (by simp [TV.ids])) _ hfs i (by simp only [TO.ids, List.mem_flatMap]; exact ⟨x, hx, rowId_ids hi⟩)
   ·simp at hi
  ·simp at hi
 | mapUpdate T m k y =>
  intro i hi
  simp only [needs, List.mem_append] at hi
  rcases hi with hi | hi
  ·exact hops k (by simp [opsOf, Op.operands]) i (rowId_ids hi)
  ·exact hops y (by simp [opsOf, Op.operands]) i (rowId_ids hi)
 | insert T m k y =>
  intro i hi
  simp only [needs, List.mem_append] at hi
  rcases hi with hi | hi
  ·exact hops k (by simp [opsOf, Op.operands]) i (rowId_ids hi)
  ·exact hops y (by simp [opsOf, Op.operands]) i (rowId_ids hi)
 | _ => intro i hi; simp [needs] at hi
theorem frzU_local {ids : List Nat} (h : ∀ i ∈ ids, L i = L' i) : frzU L ids = frzU L' ids := by
 unfold frzU
 induction ids with
 | nil => rfl
 | cons i r ih =>
  simp only [List.filterMap_cons, h i (by simp)]
  rw [ih fun j hj => h j (by simp [hj])]
theorem ovr_agr {U : List (Nat × TO)} (h : Agr o ev L L' R) (hU : ∀ i ob, tlook U i = some ob → ob.ids = []) : Agr o ev (ovr U L) (ovr U L') R :=
 ⟨h.ops, fun i hi ob hob j hj => by
  simp only [ovr] at hob
  cases hu : tlook U i with
  | some o' => rw [hu] at hob; obtain rfl := Option.some.inj hob; rw [hU i _ hu] at hj; simp at hj
  | none => rw [hu] at hob; exact h.cl i hi ob hob j hj, h.dst, fun i hi => by simp only [ovr, h.eq i hi]⟩
theorem frzU_ids {ids : List Nat} : ∀ i ob, tlook (frzU L ids) i = some ob → ob.ids = [] := fun i ob h => by
 obtain ⟨t, l, _, rfl⟩ := frzU_look h; rfl
theorem effN_local (h : Agr o ev L L' R) (E : Env) : effN E o ev L = effN E o ev L' := by
 unfold effN
 have h1 := needs_local h
 have h2 := frzU_local (L := L) (L' := L') (ids := needs ev L o.op) fun i hi => h.eq i (needs_in h i hi)
 rw [h1] at h2
 simp only [tst_local h, h1, h2]
 have h3 : Agr o ev (ovr (frzU L' (needs ev L' o.op)) L) (ovr (frzU L' (needs ev L' o.op)) L') R := ovr_agr h frzU_ids
 rw [tval_local h3, tmore_local h3, tfzApp_local h3, tobj_local h3, tmap_local h3, tstr_local h3]
end
end

section
section
variable {ev ev' : Operand → TV} {L : Obs}

theorem asL_ev {t : DT} : ∀ {xs : List Operand}, (∀ x ∈ xs, ev x = ev' x) → asL ev L t xs = asL ev' L t xs
 | [], _ => rfl
 | x :: r, h => by simp only [asL, h x (by simp), asL_ev (xs := r) fun y hy => h y (by simp [hy])]
theorem tfill_ev {t : DT} {d : TD} : ∀ {xs : List (Nat × Operand)} {z : t.den}, (∀ x ∈ xs, ev x.2 = ev' x.2) → tfill ev L t d xs z = tfill ev' L t d xs z
 | [], z, _ => rfl
 | (i, x) :: r, z, h => by
  have e : ev x = ev' x := h (i, x) (by simp)
  simp only [tfill, e]
  split
  ·split
   ·split
    ·rw [tfill_ev (xs := r) fun y hy => h y (by simp [hy])]
    ·rfl
   ·rfl
  ·rfl
theorem ixOf_ev {o : Option Operand} (h : ∀ x ∈ o.toList, ev x = ev' x) : ixOf ev o = ixOf ev' o := by
 cases o with
 | none => rfl
 | some x => simp only [ixOf, h x (by simp)]
theorem tval_ev (TI : Nat → TD) {op : Op} (h : ∀ x ∈ opsOf op, ev x = ev' x) : tval TI ev L op = tval TI ev' L op := by
 cases op with
 | call c =>
  obtain ⟨callee, args, ats⟩ := c
  simp only [tval]
  split
  ·rename_i x T hx ht
   have ha : args = #[x] := by apply Array.ext'; simpa using hx
   subst ha
   rw [h x (by simp [opsOf, Op.operands, Call.operands])]
  ·rfl
 | makeFunc fn first caps =>
  have e : (first ++ caps).toList.map ev = (first ++ caps).toList.map ev' := List.map_congr_left fun x hx => h x hx
  simp only [tval, e]
 | move x => simp only [tval, h x (by simp [opsOf, Op.operands])]
 | assign x => simp only [tval, h x (by simp [opsOf, Op.operands])]
 | nilCheck x => simp only [tval, h x (by simp [opsOf, Op.operands])]
 | binOp op t x y u => simp only [tval, h x (by simp [opsOf, Op.operands]), h y (by simp [opsOf, Op.operands])]
 | unOp op t x => simp only [tval, h x (by simp [opsOf, Op.operands])]
 | convert s d x => simp only [tval, h x (by simp [opsOf, Op.operands])]
 | extract x i => simp only [tval, h x (by simp [opsOf, Op.operands])]
 | load T x => simp only [tval, h x (by simp [opsOf, Op.operands])]
 | indexAddr T x y => simp only [tval, h x (by simp [opsOf, Op.operands]), h y (by simp [opsOf, Op.operands])]
 | fieldAddr T x y => simp only [tval, h x (by simp [opsOf, Op.operands])]
 | index T x y => simp only [tval, h x (by simp [opsOf, Op.operands]), h y (by simp [opsOf, Op.operands])]
 | _ => rfl
theorem tmore_ev (TI : Nat → TD) (TY : Nat → DT) {op : Op} (h : ∀ x ∈ opsOf op, ev x = ev' x) : tmore TI TY ev L op = tmore TI TY ev' L op := by
 cases op with
 | slice T x lo hi mx =>
  have h1 : ixOf ev lo = ixOf ev' lo := ixOf_ev fun y hy => h y (by simp [opsOf, Op.operands] at hy ⊢; simp [hy])
  have h2 : ixOf ev hi = ixOf ev' hi := ixOf_ev fun y hy => h y (by simp [opsOf, Op.operands] at hy ⊢; simp [hy])
  have h3 : ixOf ev mx = ixOf ev' mx := ixOf_ev fun y hy => h y (by simp [opsOf, Op.operands] at hy ⊢; simp [hy])
  simp only [tmore, h1, h2, h3, h x (by simp [opsOf, Op.operands])]
 | load T x => simp only [tmore, h x (by simp [opsOf, Op.operands])]
 | makeInterface T x => simp only [tmore, h x (by simp [opsOf, Op.operands])]
 | nilCheck x => simp only [tmore, h x (by simp [opsOf, Op.operands])]
 | fieldAddr T x i => simp only [tmore, h x (by simp [opsOf, Op.operands])]
 | binOp op T x y yt => simp only [tmore, h x (by simp [opsOf, Op.operands]), h y (by simp [opsOf, Op.operands])]
 | typeAssert x X T ok =>
  cases ok with
  | false => rfl
  | true => simp only [tmore, h x (by simp [opsOf, Op.operands])]
 | _ => rfl
theorem tappend_ev (TI : Nat → TD) (TY : Nat → DT) (d T : Nat) (x y : TV) : tappend TI TY ev L d T x y = tappend TI TY ev' L d T x y := rfl
theorem tobj_ev (TI : Nat → TD) (TY : Nat → DT) (rc : Nat → Option (List (Option DT))) {dst : Option Nat} {op : Op} (h : ∀ x ∈ opsOf op, ev x = ev' x) : tobj TI TY rc ev L dst op = tobj TI TY rc ev' L dst op := by
 cases op with
 | call c =>
  obtain ⟨callee, args, ats⟩ := c
  simp only [tobj]
  split
  ·rename_i x y T T' hx ht
   have ha : args = #[x, y] := by apply Array.ext'; simpa using hx
   subst ha
   rw [h x (by simp [opsOf, Op.operands, Call.operands]), h y (by simp [opsOf, Op.operands, Call.operands]), tappend_ev (ev' := ev')]
  ·rfl
 | box T x => simp only [tobj, h x (by simp [opsOf, Op.operands])]
 | buildSlice T n parts =>
  simp only [tobj]
  split
  ·rw [asL_ev (ev' := ev') fun x hx => h x (by simpa [opsOf, Op.operands] using hx)]
  ·rfl
 | makeSlice T x y => simp only [tobj, h x (by simp [opsOf, Op.operands]), h y (by simp [opsOf, Op.operands])]
 | build T parts =>
  simp only [tobj]
  rw [tfill_ev (ev' := ev') fun x hx => h x.2 (by simp only [opsOf, Op.operands]; exact List.mem_map_of_mem hx)]
 | store T x y => simp only [tobj, h x (by simp [opsOf, Op.operands]), h y (by simp [opsOf, Op.operands])]
 | _ => rfl
theorem tfzApp_ev (E : Env) {dst : Option Nat} {op : Op} (h : ∀ x ∈ opsOf op, ev x = ev' x) : tfzApp E ev L dst op = tfzApp E ev' L dst op := by
 cases op with
 | call c =>
  obtain ⟨callee, args, ats⟩ := c
  simp only [tfzApp]
  split
  ·rename_i x y T T' hx ht
   have ha : args = #[x, y] := by apply Array.ext'; simpa using hx
   subst ha
   rw [h x (by simp [opsOf, Op.operands, Call.operands]), h y (by simp [opsOf, Op.operands, Call.operands])]
  ·rfl
 | box T x => simp only [tfzApp, h x (by simp [opsOf, Op.operands])]
 | assign x => simp only [tfzApp, h x (by simp [opsOf, Op.operands])]
 | slice T x lo hi mx =>
  have h0 : ev x = ev' x := h x (by simp [opsOf, Op.operands])
  have h1 : ixOf ev lo = ixOf ev' lo := ixOf_ev fun y hy => h y (by simp [opsOf, Op.operands] at hy ⊢; simp [hy])
  have h2 : ixOf ev hi = ixOf ev' hi := ixOf_ev fun y hy => h y (by simp [opsOf, Op.operands] at hy ⊢; simp [hy])
  simp only [tfzApp, tmv, h0, h1, h2]
 | _ => rfl
theorem tmap_ev (TI : Nat → TD) {dst : Option Nat} {op : Op} (h : ∀ x ∈ opsOf op, ev x = ev' x) : tmap TI ev L dst op = tmap TI ev' L dst op := by
 cases op with
 | makeMap T r =>
  cases r with
  | none => rfl
  | some x => simp only [tmap, h x (by simp [opsOf, Op.operands])]
 | range T m => simp only [tmap, h m (by simp [opsOf, Op.operands])]
 | entry x => simp only [tmap, h x (by simp [opsOf, Op.operands])]
 | lookup T m ix ok => simp only [tmap, h m (by simp [opsOf, Op.operands]), h ix (by simp [opsOf, Op.operands])]
 | mapUpdate T m k y => simp only [tmap, h m (by simp [opsOf, Op.operands]), h k (by simp [opsOf, Op.operands]), h y (by simp [opsOf, Op.operands])]
 | insert T m k y => simp only [tmap, h m (by simp [opsOf, Op.operands]), h k (by simp [opsOf, Op.operands]), h y (by simp [opsOf, Op.operands])]
 | binOp op T x y yt => simp only [tmap, h x (by simp [opsOf, Op.operands]), h y (by simp [opsOf, Op.operands])]
 | call c =>
  obtain ⟨callee, args, ats⟩ := c
  simp only [tmap]
  split
  ·rename_i x y hx
   have ha : args = #[x, y] := by apply Array.ext'; simpa using hx
   subst ha
   rw [h x (by simp [opsOf, Op.operands, Call.operands]), h y (by simp [opsOf, Op.operands, Call.operands])]
  ·rename_i x y hx
   have ha : args = #[x, y] := by apply Array.ext'; simpa using hx
   subst ha
   rw [h x (by simp [opsOf, Op.operands, Call.operands]), h y (by simp [opsOf, Op.operands, Call.operands])]
  ·rename_i x y hx
   have ha : args = #[x, y] := by apply Array.ext'; simpa using hx
   subst ha
   rw [h x (by simp [opsOf, Op.operands, Call.operands]), h y (by simp [opsOf, Op.operands, Call.operands])]
  ·rfl
 | _ => rfl
theorem tpart_ev {d : TD} : ∀ {r : List (Nat × Operand)} {l : List TV}, (∀ x ∈ r, ev x.2 = ev' x.2) → tpart ev L d r l = tpart ev' L d r l
 | [], l, _ => rfl
 | (i, x) :: r, l, h => by
  have e : ev x = ev' x := h (i, x) (by simp)
  simp only [tpart, e]
  split
  ·split
   ·exact tpart_ev fun y hy => h y (by simp [hy])
   ·rfl
  ·rfl
theorem tst_ev (TI : Nat → TD) (TY : Nat → DT) (rc : Nat → Option (List (Option DT))) {dst : Option Nat} {op : Op} (h : ∀ x ∈ opsOf op, ev x = ev' x) : tst TI TY rc ev L dst op = tst TI TY rc ev' L dst op := by
 cases op with
 | build T parts =>
  simp only [tst]
  split
  ·split
   ·rw [tpart_ev (ev' := ev') fun x hx => h x.2 (by simp only [opsOf, Op.operands]; exact List.mem_map_of_mem hx)]
   ·rfl
  ·rfl
 | store T x y => simp only [tst, h x (by simp [opsOf, Op.operands]), h y (by simp [opsOf, Op.operands])]
 | box T x => simp only [tst, h x (by simp [opsOf, Op.operands])]
 | slice T x lo hi mx =>
  have h0 : ev x = ev' x := h x (by simp [opsOf, Op.operands])
  have h1 : ixOf ev lo = ixOf ev' lo := ixOf_ev fun y hy => h y (by simp [opsOf, Op.operands] at hy ⊢; simp [hy])
  have h2 : ixOf ev hi = ixOf ev' hi := ixOf_ev fun y hy => h y (by simp [opsOf, Op.operands] at hy ⊢; simp [hy])
  simp only [tst, h0, h1, h2]
 | call c =>
  obtain ⟨callee, args, ats⟩ := c
  simp only [tst]
  split
  ·rename_i x T hx ht
   have ha : args = #[x] := by apply Array.ext'; simpa using hx
   subst ha
   rw [h x (by simp [opsOf, Op.operands, Call.operands])]
  ·rename_i x y T T' hx ht
   have ha : args = #[x, y] := by apply Array.ext'; simpa using hx
   subst ha
   rw [h x (by simp [opsOf, Op.operands, Call.operands]), h y (by simp [opsOf, Op.operands, Call.operands])]
  ·rename_i x T hx ht
   have ha : args = #[x] := by apply Array.ext'; simpa using hx
   subst ha
   rw [h x (by simp [opsOf, Op.operands, Call.operands])]
  ·rename_i x T hx ht
   have ha : args = #[x] := by apply Array.ext'; simpa using hx
   subst ha
   rw [h x (by simp [opsOf, Op.operands, Call.operands])]
  ·rfl
 | indexAddr T x y => simp only [tst, h x (by simp [opsOf, Op.operands]), h y (by simp [opsOf, Op.operands])]
 | _ => rfl
theorem tstr_ev (TI : Nat → TD) {dst : Option Nat} {op : Op} (h : ∀ x ∈ opsOf op, ev x = ev' x) : tstr TI ev L dst op = tstr TI ev' L dst op := by
 cases op with
 | convert S T x => simp only [tstr, h x (by simp [opsOf, Op.operands])]
 | range T x => simp only [tstr, h x (by simp [opsOf, Op.operands])]
 | call c =>
  obtain ⟨callee, args, ats⟩ := c
  simp only [tstr]
  split
  ·rename_i m k T r hxs hts
   have ha : args = #[m, k] := by apply Array.ext'; simpa using hxs
   subst ha
   rw [h m (by simp [opsOf, Op.operands, Call.operands]), h k (by simp [opsOf, Op.operands, Call.operands])]
  ·rename_i m T r hxs hts
   have ha : args = #[m] := by apply Array.ext'; simpa using hxs
   subst ha
   rw [h m (by simp [opsOf, Op.operands, Call.operands])]
  ·rfl
 | _ => rfl
theorem needs_ev {op : Op} (h : ∀ x ∈ opsOf op, ev x = ev' x) : needs ev L op = needs ev' L op := by
 cases op with
 | buildSlice T n parts => simp only [needs, List.flatMap]; exact congrArg _ (List.map_congr_left fun p hp => by rw [h p.2 (by simp only [opsOf, Op.operands]; exact List.mem_map_of_mem hp)])
 | build T parts => simp only [needs, List.flatMap]; exact congrArg _ (List.map_congr_left fun p hp => by rw [h p.2 (by simp only [opsOf, Op.operands]; exact List.mem_map_of_mem hp)])
 | store T x y => simp only [needs, h x (by simp [opsOf, Op.operands]), h y (by simp [opsOf, Op.operands])]
 | load T x => simp only [needs, h x (by simp [opsOf, Op.operands])]
 | mapUpdate T m k y => simp only [needs, h k (by simp [opsOf, Op.operands]), h y (by simp [opsOf, Op.operands])]
 | insert T m k y => simp only [needs, h k (by simp [opsOf, Op.operands]), h y (by simp [opsOf, Op.operands])]
 | _ => rfl
theorem effN_ev (E : Env) {o : Oper} (h : ∀ x ∈ opsOf o.op, ev x = ev' x) : effN E o ev L = effN E o ev' L := by
 unfold effN
 rw [needs_ev h, tst_ev E.TI E.TY E.rc h]
 simp only [tval_ev E.TI h, tmore_ev E.TI E.TY h, tfzApp_ev E h, tobj_ev E.TI E.TY E.rc h, tmap_ev E.TI h, tstr_ev E.TI h]
theorem eff_ev {α : Type} (E : Env) {o : Oper} (h : ∀ x ∈ opsOf o.op, ev x = ev' x) (k : Eff → Option α) : eff E o ev L k = eff E o ev' L k := by
 obtain ⟨dst, op, ty, pos, after, g⟩ := o
 unfold eff
 rw [effN_ev E h]
 split
 ·rfl
 ·simp only
  cases op with
  | pick c x y => simp only [h c (by simp [opsOf, Op.operands]), h x (by simp [opsOf, Op.operands]), h y (by simp [opsOf, Op.operands])]
  | next x is => cases is with
   | false => rfl
   | true => simp only [h x (by simp [opsOf, Op.operands])]
  | call c =>
   obtain ⟨callee, args, ats⟩ := c
   cases callee with
   | value x =>
    have e : args.toList.map ev = args.toList.map ev' := List.map_congr_left fun y hy => h y (by simp [opsOf, Op.operands, Call.operands]; exact .inr (by simpa using hy))
    simp only [h x (by simp [opsOf, Op.operands, Call.operands]), e]
   | invoke x name =>
    have e : args.toList.map ev = args.toList.map ev' := List.map_congr_left fun y hy => h y (by simp [opsOf, Op.operands, Call.operands]; exact .inr (by simpa using hy))
    simp only [h x (by simp [opsOf, Op.operands, Call.operands]), e]
   | _ => rfl
  | _ => rfl
end

structure Cls (L L' : Obs) (R : List Nat) : Prop where
 cl : ∀ i ∈ R, ∀ ob, L i = some ob → ∀ j ∈ ob.ids, j ∈ R
 eq : ∀ i ∈ R, L i = L' i
section
variable {L L' : Obs} {R : List Nat}

theorem Cls.ovr {U : List (Nat × TO)} (h : Cls L L' R) (hU : ∀ i ob, tlook U i = some ob → ob.ids = []) : Cls (ovr U L) (Go.Proofs.YtmpbbkldopfkpaaDoor.ovr U L') R :=
 ⟨fun i hi ob hob j hj => by
  simp only [Go.Proofs.YtmpbbkldopfkpaaDoor.ovr] at hob
  cases hu : tlook U i with
  | some o' => rw [hu] at hob; obtain rfl := Option.some.inj hob; rw [hU i _ hu] at hj; simp at hj
  | none => rw [hu] at hob; exact h.cl i hi ob hob j hj, fun i hi => by simp only [Go.Proofs.YtmpbbkldopfkpaaDoor.ovr, h.eq i hi]⟩
theorem reachF_local (h : Cls L L' R) : ∀ (n : Nat) (todo acc : List Nat), (∀ i ∈ todo, i ∈ R) → reachF n L todo acc = reachF n L' todo acc
 | 0, _, _, _ => by simp only [reachF]
 | n + 1, [], acc, _ => by simp only [reachF]
 | n + 1, i :: todo, acc, ht => by
  simp only [reachF, ← h.eq i (ht i (by simp))]
  split
  ·exact reachF_local h n todo acc fun j hj => ht j (by simp [hj])
  ·cases ho : L i with
   | none => exact reachF_local h n todo acc fun j hj => ht j (by simp [hj])
   | some ob =>
    exact reachF_local h n _ _ fun j hj => by
     rcases List.mem_append.1 hj with q | q
     ·exact ht j (by simp [q])
     ·exact h.cl i (ht i (by simp)) ob ho j q
theorem reachF_in (h : Cls L L' R) : ∀ (n : Nat) (todo acc : List Nat), (∀ i ∈ todo, i ∈ R) → (∀ i ∈ acc, i ∈ R) → ∀ i ∈ reachF n L todo acc, i ∈ R
 | 0, _, acc, _, ha => by simp only [reachF]; exact ha
 | n + 1, [], acc, _, ha => by simp only [reachF]; exact ha
 | n + 1, i :: todo, acc, ht, ha => by
  simp only [reachF]
  split
  ·exact reachF_in h n todo acc (fun j hj => ht j (by simp [hj])) ha
  ·cases ho : L i with
   | none => exact reachF_in h n todo acc (fun j hj => ht j (by simp [hj])) ha
   | some ob =>
    exact reachF_in h n _ _ (fun j hj => by
     rcases List.mem_append.1 hj with q | q
     ·exact ht j (by simp [q])
     ·exact h.cl i (ht i (by simp)) ob ho j q) fun j hj => by
      rcases List.mem_append.1 hj with q | q
      ·exact ha j q
      ·simp at q; subst q; exact ht j (by simp)
theorem lend_local {x : TV} (h : ∀ i ∈ x.ids, L i = L' i) : x.lend L = x.lend L' := by
 cases x with
 | view id i p k n a b => simp only [TV.lend, h id (by simp [TV.ids])]
 | _ => simp only [TV.lend]; rw [TV.data_local h]
theorem lendAs_local {x : TV} (h : ∀ i ∈ x.ids, L i = L' i) (t : DT) : lendAs L x t = lendAs L' x t := by
 cases t <;> simp only [lendAs, lend_local h, TV.as_local h]
theorem cvt_local : ∀ {mds : List Md} {xs : List TV}, (∀ x ∈ xs, ∀ i ∈ x.ids, L i = L' i) → cvt L mds xs = cvt L' mds xs
 | [], [], _ => rfl
 | m :: ms, x :: xs, h => by
  simp only [cvt, cvt_local (mds := ms) (xs := xs) fun y hy => h y (by simp [hy])]
  split
  ·cases m with
   | obj => rfl
   | lend t => simp only [lendAs_local (h x (by simp))]
   | own t => simp only [TV.as_local (h x (by simp))]
  ·rfl
 | [], _ :: _, _ => rfl
 | _ :: _, [], _ => rfl
theorem ownIds_in : ∀ {mds : List Md} {xs : List TV}, ∀ i ∈ ownIds mds xs, ∃ x ∈ xs, i ∈ x.ids
 | [], _, i, h => by simp [ownIds] at h
 | m :: ms, [], i, h => by cases m <;> simp [ownIds] at h
 | m :: ms, x :: xs, i, h => by
  have ih := ownIds_in (mds := ms) (xs := xs) i
  cases m with
  | own t =>
   simp only [ownIds, List.mem_append] at h
   rcases h with h | h
   ·exact ⟨x, by simp, rowId_ids h⟩
   ·obtain ⟨y, a, b⟩ := ih h; exact ⟨y, by simp [a], b⟩
  | obj => simp only [ownIds] at h; obtain ⟨y, a, b⟩ := ih h; exact ⟨y, by simp [a], b⟩
  | lend t => simp only [ownIds] at h; obtain ⟨y, a, b⟩ := ih h; exact ⟨y, by simp [a], b⟩
theorem objIds_in : ∀ {mds : List Md} {xs : List TV}, ∀ i ∈ objIds mds xs, ∃ x ∈ xs, i ∈ x.ids
 | [], _, i, h => by simp [objIds] at h
 | m :: ms, [], i, h => by cases m <;> simp [objIds] at h
 | m :: ms, x :: xs, i, h => by
  have ih := objIds_in (mds := ms) (xs := xs) i
  cases m with
  | obj =>
   simp only [objIds, List.mem_append] at h
   rcases h with h | h
   ·exact ⟨x, by simp, h⟩
   ·obtain ⟨y, a, b⟩ := ih h; exact ⟨y, by simp [a], b⟩
  | own t => simp only [objIds] at h; obtain ⟨y, a, b⟩ := ih h; exact ⟨y, by simp [a], b⟩
  | lend t => simp only [objIds] at h; obtain ⟨y, a, b⟩ := ih h; exact ⟨y, by simp [a], b⟩
theorem lentIds_local : ∀ {mds : List Md} {xs : List TV}, (∀ x ∈ xs, ∀ i ∈ x.ids, L i = L' i) → lentIds L mds xs = lentIds L' mds xs
 | [], _, _ => by simp only [lentIds]
 | m :: ms, [], _ => by cases m <;> simp only [lentIds]
 | m :: ms, x :: xs, h => by
  have ih := lentIds_local (mds := ms) (xs := xs) fun y hy => h y (by simp [hy])
  cases m with
  | lend t =>
   simp only [lentIds, ih]
   congr 1
   exact List.filter_congr fun i hi => by rw [h x (by simp) i hi]
  | obj => simp only [lentIds, ih]
  | own t => simp only [lentIds, ih]
theorem callE_local {P : Program} {E : Env} (hE : EnvOk P E) {d g : Nat} {xs : List TV} {e : Eff} (hx : ∀ x ∈ xs, ∀ i ∈ x.ids, i ∈ R) (h : Cls L L' R) (hk : ∀ p ∈ e.u, L p.1 = L' p.1)
  (hd : ∀ (β : Type) (k' : Eff → Option β), callE E d g xs L k' = k' e) (β : Type) (k' : Eff → Option β) : callE E d g xs L' k' = k' e := by
 have h0 := hd Eff fun x => some x
 unfold callE at h0 ⊢
 cases hs : E.sig g xs with
 | none => rw [hs] at h0; cases h0
 | some mds =>
  rw [hs] at h0
  simp only at h0 ⊢
  have hown : ∀ i ∈ ownIds mds xs, i ∈ R := fun i hi => by obtain ⟨x, a, b⟩ := ownIds_in i hi; exact hx x a i b
  have hobj : ∀ i ∈ objIds mds xs, i ∈ R := fun i hi => by obtain ⟨x, a, b⟩ := objIds_in i hi; exact hx x a i b
  rw [← frzU_local (L := L) (L' := L') fun i hi => h.eq i (hown i hi)]
  have hU : ∀ i ob, tlook (frzU L (ownIds mds xs)) i = some ob → ob.ids = [] := frzU_ids
  have h1 := h.ovr hU
  have hk1 : ∀ p ∈ e.u, ovr (frzU L (ownIds mds xs)) L p.1 = ovr (frzU L (ownIds mds xs)) L' p.1 := fun p hp => by simp only [ovr, hk p hp]
  generalize frzU L (ownIds mds xs) = U0 at h0 h1 hk1 ⊢
  generalize ovr U0 L = L1 at h0 h1 hk1 ⊢
  generalize ovr U0 L' = L2 at h1 hk1 ⊢
  have hxe : ∀ x ∈ xs, ∀ i ∈ x.ids, L1 i = L2 i := fun x a i b => h1.eq i (hx x a i b)
  rw [← cvt_local hxe, ← reachF_local h1 60 (objIds mds xs) [] hobj, ← lentIds_local hxe]
  cases hc : cvt L1 mds xs with
  | none => rw [hc] at h0; cases h0
  | some q =>
   obtain ⟨as, b⟩ := q
   rw [hc] at h0
   simp only at h0 ⊢
   have hin := reachF_in h1 60 (objIds mds xs) [] hobj (fun i hi => by simp at hi)
   generalize reachF 60 L1 (objIds mds xs) [] = T at h0 hin ⊢
   split at h0
   ·rename_i hcond
    obtain ⟨hb, h0⟩ := chk_some h0
    subst hb
    obtain ⟨rv, O', g1, g2, _⟩ := hE _ _ _ _ _ _ h0
    simp only [Bool.and_eq_true, List.all_eq_true] at hcond
    obtain ⟨⟨⟨k1, k2⟩, k3⟩, k4⟩ := hcond
    rw [if_pos (by simp only [Bool.and_eq_true, List.all_eq_true]; exact ⟨⟨⟨fun i hi => by rw [← h1.eq i (hin i hi)]; exact k1 i hi, k2⟩, k3⟩, k4⟩)]
    have hm : (T.map fun i => (tauR T i, ((L1 i).getD .dead).ren (tauR T))) = T.map fun i => (tauR T i, ((L2 i).getD .dead).ren (tauR T)) := List.map_congr_left fun i hi => by rw [h1.eq i (hin i hi)]
    rw [hm] at g2
    show E.phi _ _ _ _ = _
    rw [g2]
    split at g1
    ·rename_i hg
     obtain rfl := Option.some.inj g1
     simp only [Bool.and_eq_true, List.all_eq_true] at hg
     obtain ⟨⟨q1, q2⟩, q3⟩ := hg
     rw [if_pos (by
      simp only [Bool.and_eq_true, List.all_eq_true]
      refine ⟨⟨q1, fun p hp => ?_⟩, q3⟩
      have hmem : (rhoR T d p.1, p.2.ren (rhoR T d)) ∈ renO (rhoR T d) O' ++ U0 := List.mem_append_left _ (by
       simp only [renO]; exact List.mem_map_of_mem (f := fun p => (rhoR T d p.1, p.2.ren (rhoR T d))) hp)
      rw [← hk1 _ hmem]
      exact q2 p hp)]
    ·cases g1
   ·cases h0
theorem eff_local {P : Program} {E : Env} (hE : EnvOk P E) {o : Oper} {ev : Operand → TV} {e : Eff} (h : Agr o ev L L' R) (hk : ∀ p ∈ e.u, L p.1 = L' p.1)
  (hd : ∀ (β : Type) (k' : Eff → Option β), eff E o ev L k' = k' e) (β : Type) (k' : Eff → Option β) : eff E o ev L' k' = k' e := by
 have hl := effN_local h E
 obtain ⟨dst, op, ty, pos, after, gd⟩ := o
 unfold eff at hd ⊢
 rw [← hl]
 cases hn : effN E ⟨dst, op, ty, pos, after, gd⟩ ev L with
 | some e' => simp only [hn] at hd ⊢; exact hd β k'
 | none =>
  simp only [hn] at hd ⊢
  cases op with
  | pick c x y => exact hd β k'
  | next x is => cases is with
   | false => exact hd β k'
   | true =>
    simp only at hd ⊢
    have hox := h.ops x (by simp [opsOf, Op.operands])
    cases hv : ev x with
    | row id =>
     rw [hv] at hd hox
     simp only at hd ⊢
     rw [← h.eq id (hox id (by simp [TV.ids]))]
     exact hd β k'
    | _ => rw [hv] at hd; exact hd β k'
  | call c =>
   obtain ⟨callee, args, ats⟩ := c
   cases callee with
   | value x =>
    simp only at hd ⊢
    have hox := h.ops x (by simp [opsOf, Op.operands, Call.operands])
    cases hv : ev x with
    | fn g k n f =>
     rw [hv] at hd hox
     simp only at hd ⊢
     refine callE_local hE (R := R) ?_ ⟨h.cl, h.eq⟩ hk hd β k'
     intro y hy i hi
     simp only [fnArgs, List.mem_append, List.mem_map, List.mem_range] at hy
     rcases hy with (⟨j, hj, rfl⟩ | ⟨z, hz, rfl⟩) | ⟨j, hj, rfl⟩
     ·exact hox i (by simp only [TV.ids, List.mem_flatMap, List.mem_range]; exact ⟨j, by omega, hi⟩)
     ·exact h.ops z (by simp [opsOf, Op.operands, Call.operands]; exact .inr (by simpa using hz)) i hi
     ·exact hox i (by simp only [TV.ids, List.mem_flatMap, List.mem_range]; exact ⟨k + j, by omega, hi⟩)
    | _ => rw [hv] at hd; have := hd Eff (fun x => some x); cases this
   | invoke x name =>
    simp only at hd ⊢
    cases hv : ev x with
    | dv u y =>
     rw [hv] at hd
     simp only at hd ⊢
     clear hv
     induction u with
     | ifc T t u' _ ih =>
      cases y with
      | inr b => exact ih b hd
      | inl b =>
       simp only [ivkE, ifElim] at hd ⊢
       split
       ·rename_i ha; simp only [ha, if_true] at hd; have := hd Eff (fun x => some x); cases this
       ·rename_i ha
        simp only [ha] at hd
        cases hg : (E.TI T).mth.lookup name with
        | none => simp only [hg] at hd; have := hd Eff (fun x => some x); cases this
        | some g =>
         simp only [hg] at hd ⊢
         refine callE_local hE (R := R) ?_ ⟨h.cl, h.eq⟩ hk hd β k'
         intro z hz i hi
         rcases List.mem_cons.1 hz with rfl | hz
         ·simp [TV.ids] at hi
         ·obtain ⟨p, hp, rfl⟩ := List.mem_map.1 hz
          exact h.ops p (by simp [opsOf, Op.operands, Call.operands]; exact .inr (by simpa using hp)) i hi
     | _ => have := hd Eff (fun x => some x); cases this
    | _ => rw [hv] at hd; have := hd Eff (fun x => some x); cases this
   | _ => have := hd Eff (fun x => some x); cases this
  | _ => have := hd Eff (fun x => some x); cases this
end
end

end Go.Proofs.YtmpbbkldopfkpaaDoor
