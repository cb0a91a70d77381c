/-
  Lifting Go functions to plain Lean functions, part Q: what code does, reckoned on typed states.
-/
import Derived.Test.YtbjfbbfglkmadaaDoorQPb
namespace Go.Proofs.YtbjfbbfglkmadaaDoor
open Go.RowKit
set_option linter.unusedVariables false

variable {α : Type}

/-- One operation, its guard too; what comes behind is told which objects were put anew. -/
def pg (E : Env) (ops : Array Oper) (o : Oper) (s : TS) (k : TS → List Nat → Option α) : Option α :=
  match o.guard with
  | none => eff E o s.ev (tlook s.ob) fun e => k (s.app o.dst e) (e.u.map (·.1))
  | some (j, g) => match (ops[j]?).bind (·.dst) with
    | some d => match s.sl[d]? with
      | some (.dv .bool t) => cond t
          (cond g (eff E o (s.put (some d) (.dv .bool true)).ev (tlook s.ob) fun e => k ((s.put (some d) (.dv .bool true)).app o.dst e) (e.u.map (·.1))) (k ((s.put (some d) (.dv .bool true)).put o.dst (.cst undef)) []))
          (cond g (k ((s.put (some d) (.dv .bool false)).put o.dst (.cst undef)) []) (eff E o (s.put (some d) (.dv .bool false)).ev (tlook s.ob) fun e => k ((s.put (some d) (.dv .bool false)).app o.dst e) (e.u.map (·.1))))
      | some (.cst (.tuple _)) => k (s.put o.dst (.cst undef)) []
      | _ => none
    | none => none

/-- Two ways that both must answer the same. -/
class Jn (α : Type) where
  jn : Option α → Option α → Option α
  ok : ∀ {x y : Option α} {r : α}, jn x y = some r → x = some r ∧ y = some r

instance (priority := low) jnNone (α : Type) : Jn α := ⟨fun _ _ => none, fun h => by cases h⟩

def jnU (x y : Option Unit) : Option Unit :=
  match x, y with
  | some _, some _ => some ()
  | _, _ => none

instance jnUnit : Jn Unit := ⟨jnU, fun {x y r} h => by
  cases x with
  | none => cases h
  | some x => cases y with
    | none => cases h
    | some y => exact ⟨rfl, rfl⟩⟩

/-- Whatever comes next, the answer must be the same. -/
def eachF {β : Type} [Jn α] (f : β → List β → Option α) (pre : List β) (p : β) : List β → Option α
  | [] => f p pre
  | q :: r => Jn.jn (f p (pre ++ q :: r)) (eachF f (pre ++ [p]) q r)
def eachK {β : Type} [Jn α] (l : List β) (x0 : Option α) (f : β → List β → Option α) : Option α :=
  match l with
  | [] => x0
  | p :: r => eachF f [] p r

theorem eachF_ok {β : Type} [Jn α] {f : β → List β → Option α} {z : α} : ∀ {r pre : List β} {p : β}, eachF f pre p r = some z → ∀ u q v, pre ++ p :: r = u ++ q :: v → (pre.length ≤ u.length) → f q (u ++ v) = some z
  | [], pre, p, h, u, q, v, e, hl => by
    have e1 := congrArg List.length e
    simp only [List.length_append, List.length_cons, List.length_nil] at e1
    obtain ⟨rfl, e2⟩ := List.append_inj e (by omega)
    obtain ⟨rfl, rfl⟩ := List.cons.inj e2
    simpa [eachF] using h
  | x :: r, pre, p, h, u, q, v, e, hl => by
    simp only [eachF] at h
    obtain ⟨h1, h2⟩ := Jn.ok h
    rcases Nat.lt_or_ge pre.length u.length with hlt | hge
    · exact eachF_ok h2 u q v (by simpa using e) (by simp; omega)
    · obtain ⟨rfl, e2⟩ := List.append_inj e (by omega)
      obtain ⟨rfl, rfl⟩ := List.cons.inj e2
      exact h1

theorem eachK_ok {β : Type} [Jn α] {l : List β} {x0 : Option α} {f : β → List β → Option α} {z : α} (h : eachK l x0 f = some z) : (l = [] → x0 = some z) ∧ ∀ u q v, l = u ++ q :: v → f q (u ++ v) = some z := by
  cases l with
  | nil => exact ⟨fun _ => h, fun u q v e => by simp at e⟩
  | cons p r => exact ⟨(fun e => by cases e), fun u q v e => eachF_ok (pre := []) h u q v e (Nat.zero_le _)⟩

def rops [Jn α] (E : Env) (ops : Array Oper) : List Oper → TS → (TS → Option α) → Option α
  | [], s, k => k s
  | o :: r, s, k => match o.guard with
    | some _ => pg E ops o s fun s' _ => rops E ops r s' k
    | none => match twin E o s with
      | some (s1, s2, b) => chk b (Jn.jn (rops E ops r s1 k) (rops E ops r s2 k))
      | none => match iterO o s with
        | some (id, ⟨kt, vt, l⟩) => eachK l (rops E ops r (overS o s) k) fun p rest => rops E ops r (nextS o s id kt vt rest p) k
        | none => pg E ops o s fun s' _ => rops E ops r s' k

/-- Operands of an operation. -/
def opsOf (op : Op) : List Operand := op.operands.toList

/-- What an operation looks at. -/
def looks (ops : Array Oper) (o : Oper) : List Operand :=
  opsOf o.op ++ (match o.guard with
    | some (j, _) => (match (ops[j]?).bind (·.dst) with
      | some d => [.tmp d]
      | none => [])
    | none => [])

/-- Operations that look at no object. -/
def flat : Op → Bool
  | .move _ => true
  | .assign _ => true
  | _ => false

/-- Objects that an operation can look at. -/
def rdOf (o : Oper) (s : TS) : List Nat :=
  (if flat o.op then [] else reachF 60 (tlook s.ob) ((opsOf o.op).flatMap fun x => (s.ev x).ids) []) ++ (match o.dst with | some d => [d, 2000000 + d] | none => [])

/-- May the two change places, as far as slots go? -/
def apt (ops : Array Oper) (x i : Oper) : Bool :=
  (match x.dst with
   | some d => (looks ops i).all (fun z => match z with | .tmp t => t != d | _ => true) && i.dst != some d
   | none => true) &&
  (match i.dst with
   | some d => (looks ops x).all (fun z => match z with | .tmp t => t != d | _ => true)
   | none => true)

def disj (a b : List Nat) : Bool := a.all fun i => !b.contains i

/-- An operation that has been carried out: its number, what it looked at, what it put anew. -/
structure Lab where
  i : Nat
  rd : List Nat
  ks : List Nat

def waits (o : Oper) (x : Nat) : Bool := o.after.toList.any fun e => e.on == x && Region.binds .any e

/-- Does an operation wait for another, by way of others? -/
def waitsT (ops : Array Oper) : Nat → Oper → Nat → Bool
  | 0, _, _ => false
  | f + 1, o, x => o.after.toList.any fun e => Region.binds .any e && (e.on == x || match ops[e.on]? with
    | some oe => waitsT ops f oe x
    | none => false)

/-- Two operations: one waits for the other, or they can change places. -/
def okPair (ops : Array Oper) (x i : Lab) : Bool :=
  match ops[x.i]?, ops[i.i]? with
  | some ox, some oi => waits oi x.i || (apt ops ox oi && disj x.ks i.rd && disj x.ks i.ks && disj i.ks x.rd) || waitsT ops 4 oi x.i
  | _, _ => false

/-- Is the list of what can be looked at closed? -/
def closedB (o : Oper) (s : TS) (R : List Nat) : Bool :=
  flat o.op || ((opsOf o.op).flatMap fun x => (s.ev x).ids).all (fun i => R.contains i) && R.all fun i => match tlook s.ob i with
    | some ob => ob.ids.all fun j => R.contains j
    | none => true

/-- A drawn region, in the order of the text; each pair of operations of which none waits for the other can change places. -/
def prun (E : Env) (ops : Array Oper) : Nat → List Oper → List Lab → TS → (TS → Option α) → Option α
  | _, [], _, s, k => k s
  | n, o :: l, hist, s, k =>
    if closedB o s (rdOf o s) then
      pg E ops o s fun s' ks => if hist.all fun x => okPair ops x ⟨n, rdOf o s, ks⟩ then prun E ops (n + 1) l (⟨n, rdOf o s, ks⟩ :: hist) s' k else none
    else none

/-- The edges lead back. -/
def drawnOk (ops : Array Oper) : Bool :=
  (List.range ops.size).all fun i => match ops[i]? with
    | some o => o.after.toList.all fun e => !Region.binds .any e || decide (e.on < i)
    | none => true

def inBlk (id : Nat) : Exit → Exit
  | .exit i => if i = id then .normal else .exit i
  | e => e

abbrev Kont (α : Type) := Exit → TS → Option α

def kseq (f : TS → Kont α → Option α) (k : Kont α) : Kont α := fun e s => match e with
  | .normal => f s k
  | .exit i => k (.exit i) s
  | .ret => k .ret s
  | _ => none

def kblk (id : Nat) (k : Kont α) : Kont α := fun e s => k (inBlk id e) s

def kloop (nm : TS → Option TS) (k : Kont α) (rec : TS → Option α) : Kont α := fun e s => match e with
  | .normal => match nm s with
    | some s1 => rec s1
    | none => none
  | .exit i => k (.exit i) s
  | .ret => k .ret s
  | _ => none

def loopK (body : TS → Kont α → Option α) (nm : TS → Option TS) (k : Kont α) : Nat → TS → Option α
  | 0, _ => none
  | n + 1, s => body s (kloop nm k (loopK body nm k n))

def headId : Code → Nat
  | .region id _ _ => id
  | .seq a _ => headId a
  | .block _ a => headId a
  | .loop a => headId a
  | _ => 0

def TS.lit (s : TS) (c : Operand) (b : Bool) : TS :=
  match c with
  | .tmp t => s.put (some t) (.dv .bool b)
  | _ => s

/-- What is done ahead of a region: boxes that are not turned any more are told as frozen memory. -/
def preR (pp : List Nat) (lv : Nat → Option Norm) (id : Nat) (s : TS) : Option TS :=
  match lv (1000000 + id) with
  | some nm => TS.boxFz pp nm.objs s
  | none => some s

/-- One round after another. -/
def seqK {β : Type} (rnd : β → TS → Kont α → Option α) (nrm : TS → Option TS) (k : Kont α) : List β → TS → Option α
  | [], s1 => k .normal s1
  | x :: r, s1 => rnd x s1 fun e s' => match e with
    | .normal => match nrm s' with
      | some s2 => seqK rnd nrm k r s2
      | none => none
    | .exit i => k (.exit i) s'
    | .ret => k .ret s'
    | _ => none

/-- What was there is alive, or dead. -/
def keepB (O O' : List (Nat × TO)) : Bool := O.all fun p => match tlook O' p.1 with
  | some o => o.live || (match o with | .dead => true | _ => false)
  | none => true

/-- A round: p is what it is handed; the slots are as they were when the loop began; objects stay. -/
def roundK (as_ body : List Nat → TS → Kont α → Option α) (p : Tmp) (x : TV) (s1 : TS) (K : Kont α) : Option α :=
  as_ (s1.ob.map (·.1)) (s1.put (some p) x) fun e s2 => match e with
    | .normal => if keepB s1.ob s2.ob then body (s2.ob.map (·.1)) s2 (fun e s3 => if keepB s2.ob s3.ob then K e ⟨s1.sl, s3.ob⟩ else none) else none
    | _ => none

/-- What stands behind a round. -/
def kround (sl : List TV) (O : List (Nat × TO)) (nrm : TS → Option TS) (k : Kont α) (T : TS → Option α) : Kont α := fun e s3 =>
  if keepB O s3.ob then (match e with
    | .normal => match nrm ⟨sl, s3.ob⟩ with
      | some s2 => T s2
      | none => none
    | .exit i => k (.exit i) ⟨sl, s3.ob⟩
    | .ret => k .ret ⟨sl, s3.ob⟩
    | _ => none) else none

/-- pp: what was there when the round began that this code runs in. -/
def denP [Jn α] (E : Env) (lv : Nat → Option Norm) (N : Nat) : Code → List Nat → TS → Kont α → Option α
  | .skip, pp, s, k => k .normal s
  | .region id ops dr, pp, s, k => match preR pp lv id s with
    | some s1 => cond dr (if drawnOk ops then prun E ops 0 ops.toList [] s1 fun s' => k .normal s' else none) (rops E ops ops.toList s1 fun s' => k .normal s')
    | none => none
  | .seq a b, pp, s, k => denP E lv N a pp s (kseq (denP E lv N b pp) k)
  | .cond c a b, pp, s, k => match s.ev c with
    | .dv .bool t => cond t (denP E lv N a pp (s.lit c true) k) (denP E lv N b pp (s.lit c false) k)
    | _ => none
  | .block id a, pp, s, k => denP E lv N a pp s (kblk id k)
  | .loop a, pp, s, k => match lv (headId a) with
    | some nm => match s.normP pp nm with
      | some s1 => loopK (denP E lv N a pp) (TS.normP pp nm) k N s1
      | none => none
    | none => none
  | .rangeFunc g ps a b, pp, s, k => match lv (headId b), ps.toList with
    | some nm, [p] => match s.normP pp nm with
      | some s1 => match E.seq (s1.ev g) with
        | some (bb, ⟨t, xs⟩) => chk bb (seqK (fun x s1 K => roundK (denP E lv N a) (denP E lv N b) p (.dv t x) s1 K) (TS.normP pp nm) k xs s1)
        | none => none
      | none => none
    | _, _ => none
  | .exit id, pp, s, k => k (.exit id) s
  | .ret, pp, s, k => k .ret s
  | _, _, _, _ => none
def den [Jn α] (E : Env) (lv : Nat → Option Norm) (N : Nat) (c : Code) (s : TS) (k : Kont α) : Option α := denP E lv N c [] s k

/-- A part of a code, by the way to it, and what comes behind it. -/
def sub : Code → List Nat → Code
  | .seq a _, 0 :: p => sub a p
  | .seq _ b, _ :: p => sub b p
  | .cond _ a _, 0 :: p => sub a p
  | .cond _ _ b, _ :: p => sub b p
  | .block _ a, _ :: p => sub a p
  | .loop a, _ :: p => sub a p
  | .rangeFunc _ _ a _, 0 :: p => sub a p
  | .rangeFunc _ _ _ b, _ :: p => sub b p
  | c, _ => c

def kontP [Jn α] (E : Env) (lv : Nat → Option Norm) (N : Nat) (pp : List Nat) : Code → List Nat → Kont α → Kont α
  | .seq a b, 0 :: p, k => kontP E lv N pp a p (kseq (denP E lv N b pp) k)
  | .seq _ b, _ :: p, k => kontP E lv N pp b p k
  | .cond _ a _, 0 :: p, k => kontP E lv N pp a p k
  | .cond _ _ b, _ :: p, k => kontP E lv N pp b p k
  | .block id a, _ :: p, k => kontP E lv N pp a p (kblk id k)
  | _, _, k => k
def kont [Jn α] (E : Env) (lv : Nat → Option Norm) (N : Nat) (c : Code) (p : List Nat) (k : Kont α) : Kont α := kontP E lv N [] c p k

/-- What a function's end looks like: which results are data; how the state is put. -/
structure End where
  rsp : List (Nat × DT)
  nm : Norm

def finS (TI : Nat → TD) (en : End) (rs : List ResultVar) (dec : List TV → List (Nat × TO) → Option α) (s : TS) : Option α :=
  match resM TI s rs with
  | some l => match toData en.rsp ⟨s.sl ++ l, s.ob⟩ with
    | some (s0, b) => chk b (match s0.norm en.nm with
      | some s1 => dec (s1.sl.drop s.sl.length) s1.ob
      | none => none)
    | none => none
  | none => none

def fin (TI : Nat → TD) (en : End) (rs : List ResultVar) (dec : List TV → List (Nat × TO) → Option α) : Kont α := fun e s =>
  match e with
  | .normal => finS TI en rs dec s
  | .ret => finS TI en rs dec s
  | _ => none

/-- What is told of one function. -/
structure FnC where
  ρ : Type
  sig : List TV → Option (List Md)
  ans : List TV → List (Nat × TO) → Option ρ
  enc : List TV → List (Nat × TO) → ρ → TV
  obs : List TV → List (Nat × TO) → ρ → List (Nat × TO)

/-- What is told of functions, the first word that fits. -/
def sigL : List (Nat × FnC) → Nat → List TV → Option (List Md)
  | [], _, _ => none
  | (i, c) :: r, f, xs => if f = i then (match c.sig xs with
    | some m => some m
    | none => sigL r f xs) else sigL r f xs

def phiL : List (Nat × FnC) → Nat → List TV → List (Nat × TO) → (TV → List (Nat × TO) → Option α) → Option α
  | [], _, _, _, _ => none
  | (i, c) :: r, f, args, Of, k => if f = i then (match c.ans args Of with
    | some x => k (c.enc args Of x) (c.obs args Of x)
    | none => phiL r f args Of k) else phiL r f args Of k

def mkE (TI : Nat → TD) (TY : Nat → DT) (L : List (Nat × FnC)) (rc : Nat → Option (List (Option DT))) (fz : Nat → Bool) : Env where
  TI := TI
  TY := TY
  rc := rc
  fz := fz
  tw := fun _ => none
  sig := sigL L
  phi := fun f args Of k => phiL L f args Of k
  seq := fun _ => none

/-- The same, with appends of which both ways are told. -/
def mkEw (TI : Nat → TD) (TY : Nat → DT) (L : List (Nat × FnC)) (rc : Nat → Option (List (Option DT))) (fz : Nat → Bool) (tw : Nat → Option Nat) : Env := { mkE TI TY L rc fz with tw := tw }

/-- A function, reckoned. -/
def callF [Jn α] (E : Env) (lv : Nat → Option Norm) (N : Nat) (en : End) (c : Code) (rs : List ResultVar) (nt : Nat) (args : List TV) (O : List (Nat × TO)) (dec : List TV → List (Nat × TO) → Option α) : Option α :=
  den E lv N c ⟨args ++ List.replicate nt .any, O⟩ (fin E.TI en rs dec)

end Go.Proofs.YtbjfbbfglkmadaaDoor
