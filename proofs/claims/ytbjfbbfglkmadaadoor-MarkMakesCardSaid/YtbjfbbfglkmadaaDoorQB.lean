/-
  Lifting Go functions to plain Lean functions, part B: typed states; what they say of a frame with its world; how that lasts.
-/
import Derived.Test.YtbjfbbfglkmadaaDoorQGV
namespace Go.Proofs.YtbjfbbfglkmadaaDoor
open Go.RowKit
set_option linter.unusedVariables false

/-- Typed values of a slot. nl: a nil slice; cst: a constant; row: an object's head (a slice's, a map's); vrow: some elements of a row; ptr: a place in an object; view: some elements of an array in an object; el: a place in frozen memory; fn: a function with what it has captured; tup: several results; st: a struct, field by field. -/
inductive TV where
  | any
  | dv (t : DT) (x : t.den)
  | nl
  | cst (v : Value)
  | row (id : Nat)
  | vrow (id a b : Nat)
  | ptr (id i : Nat) (p : List Nat)
  | view (id i : Nat) (p : List Nat) (k n a b : Nat)
  | el (t : DT) (x : t.den) (p : List Nat)
  | fn (g : FuncId) (k n : Nat) (f : Nat → TV)
  | tup (n : Nat) (f : Nat → TV)
  | st (n : Nat) (f : Nat → TV)

/-- Objects: rows (what a slice's head speaks of; a variable of a plain type, too), records (fields of any kind; a variable that is one cell, too), maps; frz: a row that will not change any more. -/
inductive TO where
  | row (t : DT) (l : List t.den)
  | rcd (fs : List TV)
  | map (kt vt : DT) (l : List (kt.den × vt.den))
  | frz (t : DT) (l : List t.den)
  | iter (kt vt : DT) (l : List (kt.den × vt.den)) (cur : Option (kt.den × vt.den))
  | dead

def TO.live : TO → Bool
  | .row _ _ => true
  | .rcd _ => true
  | .map _ _ _ => true
  | .iter _ _ _ _ => true
  | _ => false

def TV.size : TV → Nat
  | .dv t _ => t.size
  | _ => 1

/-- Where a field lies. -/
def offs : List TV → Nat → Nat
  | x :: r, j + 1 => x.size + offs r j
  | _, _ => 0

/-- Where a part of a field lies. -/
def TV.floc (x : TV) (o : Nat) (p : List Nat) : Option Nat :=
  match x with
  | .dv t _ => (t.at p).map fun L => o + L.off
  | _ => match p with
    | [] => some o
    | _ => none

def TV.finb (x : TV) (p : List Nat) : Prop :=
  match x with
  | .dv t _ => t.inb p
  | _ => True

/-- Where a part lies in an object. -/
def TO.loc : TO → Nat → List Nat → Option Nat
  | .row t l, i, p => (t.at p).map fun L => i * t.size + L.off
  | .rcd fs, i, [] => some i
  | .rcd fs, _, j :: p => match fs[j]? with
    | some x => x.floc (offs fs j) p
    | none => none
  | _, _, _ => none

def TO.okAt : TO → Nat → List Nat → Prop
  | .row t l, i, p => i < l.length ∧ t.inb p
  | .rcd fs, i, [] => True
  | .rcd fs, i, j :: p => match fs[j]? with
    | some x => x.finb p
    | none => True
  | _, _, _ => True

/-- Where an object lies: its block, the first cell, the capacity. -/
structure Pl where
  g : Option Nat
  q : Nat
  cap : Nat

/-- A row's head. -/
def Pl.hdr (P : Pl) (n : Nat) : Value :=
  match P.g with
  | none => .slice none 0 0
  | some g => .slice (some ⟨g, P.q, none⟩) n P.cap

abbrev Obs := Nat → Option TO

/-- Is it data? -/
def TV.isD : TV → Bool
  | .dv _ _ => true
  | _ => false

/-- A cell of what is data. -/
def TV.dcell (w : World) (G : Nat → Prop) (x : TV) (c : Nat) (u : Value) : Prop :=
  match x with
  | .dv t y => t.cell y c w G u
  | _ => True

theorem TV.dcell_mono {w w' : World} {G G' : Nat → Prop} (h : FzTo w G w' G') {x : TV} {c : Nat} {u : Value} (hx : x.dcell w G c u) : x.dcell w' G' c u := by
  cases x with
  | dv t y => exact DT.cell_mono h hx
  | _ => trivial

/-- WHAT A SLOT's VALUE SAYS. -/
def VR (w : World) (G : Nat → Prop) (π : Nat → Pl) (O : Obs) : TV → Value → Prop
  | .any, _ => True
  | .dv t x, v => t.val x w G v
  | .nl, v => v = .slice none 0 0
  | .cst u, v => v = u
  | .row id, v => match O id with
    | some (.row t l) => v = (π id).hdr l.length
    | some (.map _ _ _) => ∃ g, (π id).g = some g ∧ v = .map (some g)
    | some (.iter _ _ _ _) => ∃ g, (π id).g = some g ∧ v = .pointer (some ⟨g, 0, none⟩)
    | some (.frz t l) => (DT.sl t).cell l 0 w G v
    | some _ => True
    | none => False
  | .vrow id a b, v => match O id with
    | some (.row t l) => a ≤ b ∧ b ≤ l.length ∧ ∃ p cp, v = .slice p (b - a) cp ∧ b - a ≤ cp ∧ cp ≤ maxLen ∧ (p = none → cp = 0) ∧ (a < b → ∃ g, (π id).g = some g ∧ p = some ⟨g, (π id).q + a * t.size, none⟩)
    | some (.frz t l) => (DT.sl t).cell ((l.take b).drop a) 0 w G v
    | some _ => True
    | none => False
  | .ptr id i p, v => match O id with
    | some o => o.live = true → ∃ c g, o.loc i p = some c ∧ o.okAt i p ∧ (π id).g = some g ∧ v = .pointer (some ⟨g, (π id).q + c, none⟩)
    | none => False
  | .view id i p k n a b, v => match O id with
    | some o => o.live = true → ∃ c g pp, o.loc i p = some c ∧ o.okAt i p ∧ (π id).g = some g ∧ a ≤ b ∧ b ≤ n ∧ n ≤ maxLen ∧ v = .slice (some pp) (b - a) (n - a) ∧ (a < b → pp = ⟨g, (π id).q + c + a * k, none⟩)
    | none => False
  | .el t x p, v => ∃ b o L, t.at p = some L ∧ t.inb p ∧ v = .pointer (some ⟨b, o + L.off, none⟩) ∧ G b ∧ ∀ c, c < t.size → ∃ u, w.cell? ⟨b, o + c, none⟩ = some u ∧ u.oneCell' = true ∧ t.cell x c w G u
  | .fn g k n f, v => ∃ fs cs : Array Value, v = .func (.func g) fs cs ∧ fs.size = k ∧ cs.size = n ∧ (∀ j, j < k → ∃ u, fs[j]? = some u ∧ VR w G π O (f j) u) ∧ ∀ j, j < n → ∃ u, cs[j]? = some u ∧ VR w G π O (f (k + j)) u
  | .tup n f, v => ∃ vs : Array Value, v = .tuple vs ∧ vs.size = n ∧ ∀ j, j < n → ∃ u, vs[j]? = some u ∧ VR w G π O (f j) u
  | .st n f, v => ∃ vs : Array Value, v = .agg vs ∧ vs.size = offs ((List.range n).map f) n ∧ ∀ j, j < n → ∀ c, c < (f j).size → ∃ u, vs[offs ((List.range n).map f) j + c]? = some u ∧ u.oneCell' = true ∧ (f j).dcell w G c u ∧ ((f j).isD = false → VR w G π O (f j) u)

/-- A field's cells. -/
def TV.fcell (w : World) (G : Nat → Prop) (π : Nat → Pl) (O : Obs) (x : TV) (c : Nat) (u : Value) : Prop :=
  match x with
  | .dv t y => t.cell y c w G u
  | y => VR w G π O y u

theorem TV.fcell_of {w : World} {G : Nat → Prop} {π : Nat → Pl} {O : Obs} {x : TV} {c : Nat} {u : Value} (h1 : x.dcell w G c u) (h2 : x.isD = false → VR w G π O x u) : x.fcell w G π O c u := by
  cases x <;> first | exact h1 | exact h2 rfl

theorem TV.of_fcell {w : World} {G : Nat → Prop} {π : Nat → Pl} {O : Obs} {x : TV} {c : Nat} {u : Value} (h : x.fcell w G π O c u) : x.dcell w G c u ∧ (x.isD = false → VR w G π O x u) := by
  cases x with
  | dv t y => exact ⟨h, fun h => by cases h⟩
  | _ => exact ⟨trivial, fun _ => h⟩

/-- An iterator over a map that will not change any more: what is left; the entry that came last. -/
def ItOk (w : World) (G : Nat → Prop) (r : Nat) (kt vt : DT) (l : List (kt.den × vt.den)) (cur : Option (kt.den × vt.den)) : Prop :=
  ∃ (g : Nat) (es : Array MapEntry) (ck : Nat) (seen : Array Nat) (ls : List MapEntry), w.heap[r]? = some (.mapIter (some g) ck seen ck) ∧ G g ∧ w.heap[g]? = some (.map es ck) ∧ (∀ e ∈ es.toList, e.born < ck) ∧ (es.toList.map (·.born)).Nodup ∧
    ls = (es.toList.filter fun e => !seen.contains e.born) ∧ ls.length = l.length ∧ (∀ (i : Nat) (e : MapEntry), ls[i]? = some e → ∃ x, l[i]? = some x ∧ kt.val x.1 w G e.key ∧ vt.val x.2 w G e.val) ∧
    ∀ p, cur = some p → ∃ (e : MapEntry) (seen0 : Array Nat), e ∈ es.toList ∧ seen = seen0.push e.born ∧ kt.val p.1 w G e.key ∧ vt.val p.2 w G e.val

theorem ItOk.mono {w w' : World} {G G' : Nat → Prop} {r : Nat} {kt vt : DT} {l : List (kt.den × vt.den)} {cur : Option (kt.den × vt.den)} (h : ItOk w G r kt vt l cur) (fz : FzTo w G w' G') (hr : w'.heap[r]? = w.heap[r]?) : ItOk w' G' r kt vt l cur := by
  obtain ⟨g, es, ck, seen, ls, h1, h2, h3, h4, h5, h6, h7, h8, h9⟩ := h
  obtain ⟨f1, f2⟩ := fz g h2
  refine ⟨g, es, ck, seen, ls, hr.trans h1, f1, f2.trans h3, h4, h5, h6, h7, fun i e he => ?_, fun p hp => ?_⟩
  · obtain ⟨x, a1, a2, a3⟩ := h8 i e he
    exact ⟨x, a1, DT.val_mono fz a2, DT.val_mono fz a3⟩
  · obtain ⟨e, s0, a1, a2, a3, a4⟩ := h9 p hp
    exact ⟨e, s0, a1, a2, DT.val_mono fz a3, DT.val_mono fz a4⟩

/-- WHAT AN OBJECT SAYS. -/
def OR (w : World) (G : Nat → Prop) (π : Nat → Pl) (O : Obs) (id : Nat) : TO → Prop
  | .row t l => ((π id).g = none ∧ l = []) ∨ ∃ g cur e, (π id).g = some g ∧ w.heap[g]? = some (.cells cur e (0, 0)) ∧ l.length ≤ (π id).cap ∧ (π id).cap ≤ maxLen ∧ (π id).q + (π id).cap * t.size ≤ cur.size ∧
      ∀ i, i < l.length → ∀ c, c < t.size → ∃ u, cur[(π id).q + i * t.size + c]? = some u ∧ u.oneCell' = true ∧ t.cell (l.getD i t.dflt) c w G u
  | .rcd fs => ∃ g cur e, (π id).g = some g ∧ w.heap[g]? = some (.cells cur e (0, 0)) ∧ ∀ (j : Nat) (x : TV), fs[j]? = some x → ∀ c, c < x.size → ∃ u, cur[(π id).q + offs fs j + c]? = some u ∧ u.oneCell' = true ∧ x.fcell w G π O c u
  | .map kt vt l => ∃ g es ck, (π id).g = some g ∧ w.heap[g]? = some (.map es ck) ∧ es.size = l.length ∧ (∀ (i : Nat) (e : MapEntry), es[i]? = some e → e.born < ck) ∧ (∀ (i j : Nat) (e e' : MapEntry), es[i]? = some e → es[j]? = some e' → e.born = e'.born → i = j) ∧ ∀ (i : Nat) (e : MapEntry), es[i]? = some e → ∃ x, l[i]? = some x ∧ kt.val x.1 w G e.key ∧ vt.val x.2 w G e.val
  | .iter kt vt l cur => ∃ r, (π id).g = some r ∧ ItOk w G r kt vt l cur
  | _ => True

structure TS where
  sl : List TV
  ob : List (Nat × TO)

def tlook : List (Nat × TO) → Obs
  | [], _ => none
  | (t, o) :: r, i => if i = t then some o else tlook r i

/-- Whose block it is. -/
def Own (π : Nat → Pl) (O : Obs) (id g : Nat) : Prop := (π id).g = some g ∧ ∃ o, O id = some o ∧ o.live = true

/-- The blocks that do not change. -/
def Gz (F : Nat → Prop) (w : World) (π : Nat → Pl) (O : Obs) (b : Nat) : Prop := F b ∧ b < w.heap.size ∧ ∀ id, ¬ Own π O id b

/-- How the call began: its world; the blocks that it must not turn; the objects that it was handed, and where they lie. -/
structure Cx where
  w : World
  kp : Nat → Prop
  pin : Nat → Option (Pl × TO)
  rnd : Option Nat
  ds : List Nat
  no : List Nat

/-- The blocks that are nobody's. (no: records of loops, which turn from round to round.) -/
def Cx.bar (c : Cx) (b : Nat) : Prop := (c.kp b ∧ b < c.w.heap.size) ∨ b ∈ c.ds ∨ b ∈ c.no
/-- What a block that must not be turned holds. (ds: the blocks for the deferred calls of rounds.) -/
def Cx.blk (c : Cx) (b : Nat) : Option Obj := if b ∈ c.ds then some (.deferred (some [])) else c.w.heap[b]?
def dmark (D : Nat) : Deferred := { target := .collected D, args := #[] }

structure Kept (c : Cx) (w' : World) : Prop where
  os : w'.os = c.w.os
  tape : w'.tape = c.w.tape
  output : w'.output = c.w.output
  size : c.w.heap.size ≤ w'.heap.size
  block : ∀ b, c.bar b → b ∉ c.no → w'.heap[b]? = c.blk b
  no : ∀ b, b ∈ c.no → b < w'.heap.size

theorem Kept.lt {c : Cx} {w : World} (h : Kept c w) {b : Nat} (hb : c.bar b) : b < w.heap.size := by
  by_cases q : b ∈ c.no
  · exact h.no b q
  · have h1 := h.block b hb q
    unfold Cx.blk at h1
    rcases hb with hb | hb | hb
    · exact Nat.lt_of_lt_of_le hb.2 h.size
    · rw [if_pos hb] at h1; exact (Array.getElem?_eq_some_iff.1 h1).1
    · exact absurd hb q

theorem Kept.onN {c : Cx} {w w' : World} (h : Kept c w) (hos : w'.os = w.os ∧ w'.tape = w.tape ∧ w'.output = w.output) (hsz : w.heap.size ≤ w'.heap.size) (hb : ∀ b, c.bar b → b ∉ c.no → w'.heap[b]? = w.heap[b]?) : Kept c w' :=
  ⟨hos.1.trans h.os, hos.2.1.trans h.tape, hos.2.2.trans h.output, Nat.le_trans h.size hsz, fun b hb' q => (hb b hb' q).trans (h.block b hb' q), fun b hb => Nat.lt_of_lt_of_le (h.no b hb) hsz⟩

theorem Kept.on {c : Cx} {w w' : World} (h : Kept c w) (hos : w'.os = w.os ∧ w'.tape = w.tape ∧ w'.output = w.output) (hsz : w.heap.size ≤ w'.heap.size) (hb : ∀ b, c.bar b → w'.heap[b]? = w.heap[b]?) : Kept c w' := h.onN hos hsz fun b hb' _ => hb b hb'

/-- What stays of an object's shape. -/
def Shp : TO → TO → Prop
  | .row t l, .row t' l' => t' = t ∧ l'.length = l.length
  | .rcd fs, .rcd fs' => fs'.length = fs.length ∧ ∀ (j : Nat) (x : TV), fs[j]? = some x → ∃ y : TV, fs'[j]? = some y ∧ y.size = x.size ∧ ∀ o p c, x.floc o p = some c → x.finb p → y.floc o p = some c ∧ y.finb p
  | .map _ _ _, .map _ _ _ => True
  | .iter _ _ _ _, .iter _ _ _ _ => True
  | _, _ => False

theorem Shp.trans {a b d : TO} (h : Shp a b) (g : Shp b d) : Shp a d := by
  cases a <;> cases b <;> first | exact h.elim | (cases d <;> first | exact g.elim | skip)
  · exact ⟨g.1.trans h.1, g.2.trans h.2⟩
  · refine ⟨g.1.trans h.1, fun j x hx => ?_⟩
    obtain ⟨y, a1, a2, a3⟩ := h.2 j x hx
    obtain ⟨z, b1, b2, b3⟩ := g.2 j y a1
    exact ⟨z, b1, b2.trans a2, fun o p c h1 h2 => let ⟨q1, q2⟩ := a3 o p c h1 h2; b3 o p c q1 q2⟩
  · trivial
  · trivial

theorem Shp.refl {o : TO} (h : o.live = true) : Shp o o := by
  cases o with
  | row t l => exact ⟨rfl, rfl⟩
  | rcd fs => exact ⟨rfl, fun j x hx => ⟨x, hx, rfl, fun _ _ _ a b => ⟨a, b⟩⟩⟩
  | map kt vt l => trivial
  | iter kt vt l cur => trivial
  | frz t l => simp [TO.live] at h
  | dead => simp [TO.live] at h

/-- Package variables that are not turned lie in frozen memory. -/
def GlbOk (w : World) (G : Nat → Prop) : Prop := ∀ (g : Nat) (t : DT) (x : t.den), GTV g = some ⟨t, x⟩ → VR w G (fun _ => ⟨none, 0, 0⟩) (fun _ => none) (.el t x []) (.pointer (some ⟨g, 0, none⟩))

structure RelM (c : Cx) (F : Nat → Prop) (π : Nat → Pl) (s : TS) (a : Act) (w : World) : Prop where
  kept : Kept c w
  hF : ∀ b, ¬ c.bar b → F b
  defers : a.defers = c.ds.map dmark
  size : a.tmps.size = s.sl.length
  slot : ∀ i x, s.sl[i]? = some x → VR w (Gz F w π (tlook s.ob)) π (tlook s.ob) x (a.tmps.getD i undef)
  obj : ∀ id o, tlook s.ob id = some o → OR w (Gz F w π (tlook s.ob)) π (tlook s.ob) id o
  inj : ∀ i j g, Own π (tlook s.ob) i g → Own π (tlook s.ob) j g → i = j
  new : ∀ id g, Own π (tlook s.ob) id g → ¬ c.bar g ∧ g < w.heap.size
  pin : ∀ id p o0, c.pin id = some (p, o0) → ∃ o, tlook s.ob id = some o ∧ (o.live = true → π id = p ∧ Shp o0 o)
  glb : GlbOk w (Gz F w π (tlook s.ob))

def Rel (c : Cx) (F : Nat → Prop) (s : TS) (a : Act) (w : World) : Prop := ∃ π, RelM c F π s a w

/-- How an object goes on. -/
def Step (w' : World) (G' : Nat → Prop) (p p' : Pl) : TO → TO → Prop
  | _, .dead => True
  | .row t l, .row t' l' => p' = p ∧ t' = t ∧ l'.length = l.length
  | .row t l, .frz t' l' => TO.frz t' l' = .frz t l ∧ (DT.sl t).cell l 0 w' G' (p.hdr l.length)
  | .rcd fs, .rcd fs' => p' = p ∧ fs'.length = fs.length ∧ ∀ (j : Nat) (x : TV), fs[j]? = some x → ∃ y : TV, fs'[j]? = some y ∧ y.size = x.size ∧ ∀ o p c, x.floc o p = some c → x.finb p → y.floc o p = some c ∧ y.finb p
  | .map _ _ _, .map _ _ _ => p' = p
  | .iter _ _ _ _, .iter _ _ _ _ => p' = p
  | .frz t l, .frz t' l' => TO.frz t' l' = .frz t l
  | _, _ => False

/-- What lives on keeps its shape and its place. -/
theorem Step.shp {w' : World} {G' : Nat → Prop} {p p' : Pl} {o o' : TO} (h : Step w' G' p p' o o') (hl : o'.live = true) : o.live = true ∧ p' = p ∧ Shp o o' := by
  cases o' with
  | dead => simp [TO.live] at hl
  | frz t l => simp [TO.live] at hl
  | row t' l' => cases o with
    | row t l => exact ⟨rfl, h.1, h.2⟩
    | _ => exact h.elim
  | rcd fs' => cases o with
    | rcd fs => exact ⟨rfl, h.1, h.2⟩
    | _ => exact h.elim
  | map kt vt l => cases o with
    | map kt' vt' l' => exact ⟨rfl, h, trivial⟩
    | _ => exact h.elim
  | iter kt vt l cur => cases o with
    | iter kt' vt' l' cur' => exact ⟨rfl, h, trivial⟩
    | _ => exact h.elim

theorem Step.of_shp {w' : World} {G' : Nat → Prop} {p : Pl} {o o' : TO} (h : Shp o o') : Step w' G' p p o o' := by
  cases o <;> cases o' <;> first | exact h.elim | skip
  · exact ⟨rfl, h⟩
  · exact ⟨rfl, h⟩
  · rfl
  · rfl

theorem offs_eq : ∀ {fs fs' : List TV}, fs'.length = fs.length → (∀ (j : Nat) (x : TV), fs[j]? = some x → ∃ y : TV, fs'[j]? = some y ∧ y.size = x.size) → ∀ j, offs fs' j = offs fs j
  | [], [], _, _, j => rfl
  | [], y :: r, hl, _, j => by simp at hl
  | x :: r, [], hl, _, j => by simp at hl
  | x :: r, y :: r', hl, h, 0 => rfl
  | x :: r, y :: r', hl, h, j + 1 => by
    obtain ⟨y', hy, hs⟩ := h 0 x rfl
    simp only [List.getElem?_cons_zero, Option.some.injEq] at hy
    subst hy
    simp only [offs, hs]
    rw [offs_eq (by simpa using hl) (fun j x hx => h (j + 1) x (by simpa using hx)) j]

/-- A live object that goes on living keeps its parts' places. -/
theorem Step.loc {w' : World} {G' : Nat → Prop} {p p' : Pl} {o o' : TO} (h : Step w' G' p p' o o') (hl : o'.live = true) {i : Nat} {q : List Nat} {c : Nat} (hc : o.loc i q = some c) (hk : o.okAt i q) : o'.loc i q = some c ∧ o'.okAt i q ∧ p' = p ∧ o.live = true := by
  cases o' with
  | dead => simp [TO.live] at hl
  | frz t l => simp [TO.live] at hl
  | row t' l' =>
    cases o with
    | row t l =>
      obtain ⟨h1, rfl, h3⟩ := h
      exact ⟨hc, ⟨h3 ▸ hk.1, hk.2⟩, h1, rfl⟩
    | _ => exact h.elim
  | map kt vt l =>
    cases o with
    | map kt vt l => simp [TO.loc] at hc
    | _ => exact h.elim
  | iter kt vt l cur =>
    cases o with
    | iter kt vt l cur => simp [TO.loc] at hc
    | _ => exact h.elim
  | rcd fs' =>
    cases o with
    | rcd fs =>
      obtain ⟨h1, h2, h3⟩ := h
      cases q with
      | nil => exact ⟨hc, trivial, h1, rfl⟩
      | cons j q =>
        simp only [TO.loc] at hc
        have ho := offs_eq h2 (fun j x hx => let ⟨y, a, b, _⟩ := h3 j x hx; ⟨y, a, b⟩) j
        cases hj : fs[j]? with
        | none => rw [hj] at hc; cases hc
        | some x =>
          rw [hj] at hc
          obtain ⟨y, hy, hys, hyd⟩ := h3 j x hj
          simp only [TO.okAt, hj] at hk
          obtain ⟨a1, a2⟩ := hyd _ _ _ hc hk
          exact ⟨by simp only [TO.loc, hy, ho]; exact a1, by simp only [TO.okAt, hy]; exact a2, h1, rfl⟩
    | _ => exact h.elim

/-- All numbers are among these. -/
def TV.within (S : Nat → Prop) : TV → Prop
  | .row id => S id
  | .vrow id _ _ => S id
  | .ptr id _ _ => S id
  | .view id _ _ _ _ _ _ => S id
  | .fn _ k n f => ∀ j, j < k + n → (f j).within S
  | .tup n f => ∀ j, j < n → (f j).within S
  | .st n f => ∀ j, j < n → (f j).within S
  | _ => True

theorem TV.within_true : ∀ x : TV, x.within fun _ => True := by
  intro x
  induction x with
  | fn g k n f ih => exact fun j _ => ih j
  | tup n f ih => exact fun j _ => ih j
  | st n f ih => exact fun j _ => ih j
  | _ => trivial

/-- Some elements of a slice that is data. -/
theorem slice_of_hdr {w : World} {G : Nat → Prop} {t : DT} {l : List t.den} {p : Pl} (h : (DT.sl t).cell l 0 w G (p.hdr l.length)) {a b : Nat} (h1 : a ≤ b) (h2 : b ≤ l.length) {v : Value} {pp : Option Addr} {cp : Nat} (h3 : v = .slice pp (b - a) cp) (h4 : b - a ≤ cp) (h5 : cp ≤ maxLen) (h6 : pp = none → cp = 0)
    (h7 : a < b → ∃ g, p.g = some g ∧ pp = some ⟨g, p.q + a * t.size, none⟩) : (DT.sl t).cell ((l.take b).drop a) 0 w G v := by
  have hlen : ((l.take b).drop a).length = b - a := by simp; omega
  show SlP (fun _ _ _ => True) t.size ((l.take b).drop a).length _ w G v
  rw [hlen]
  refine ⟨pp, cp, h3, h4, h5, h6, trivial, fun hn => ?_⟩
  obtain ⟨g, hg, e1⟩ := h7 (by omega)
  obtain ⟨p', cap', k1, k2, k3, k4, k5, k6⟩ := h
  simp only [Pl.hdr, hg, Value.slice.injEq] at k1
  obtain ⟨k1, _, _⟩ := k1
  obtain ⟨b', o', e2, k7, k8⟩ := k6 (by omega)
  rw [← k1] at e2
  simp only [Option.some.injEq, Addr.mk.injEq, and_true] at e2
  obtain ⟨rfl, rfl⟩ := e2
  refine ⟨g, _, e1, k7, fun j hj c hc => ?_⟩
  obtain ⟨u, a1, a2, a3⟩ := k8 (a + j) (by omega) c hc
  refine ⟨u, ?_, a2, ?_⟩
  · rw [show p.q + a * t.size + j * t.size + c = p.q + (a + j) * t.size + c by rw [Nat.add_mul]; omega]; exact a1
  · have e : ((l.take b).drop a).getD j t.dflt = l.getD (a + j) t.dflt := by
      simp only [List.getD, List.getElem?_drop, List.getElem?_take]
      rw [if_pos (by omega)]
    show t.cell (((l.take b).drop a).getD j t.dflt) c w G u
    rw [e]; exact a3

structure Evo (w : World) (G : Nat → Prop) (π : Nat → Pl) (O : Obs) (w' : World) (G' : Nat → Prop) (π' : Nat → Pl) (O' : Obs) : Prop where
  fz : FzTo w G w' G'
  ob : ∀ id o, O id = some o → ∃ o', O' id = some o' ∧ Step w' G' (π id) (π' id) o o'

theorem VR.evoS {w w' : World} {G G' : Nat → Prop} {π π' : Nat → Pl} {O O' : Obs} (S : Nat → Prop) (hfz : FzTo w G w' G') (hob : ∀ id o, S id → O id = some o → ∃ o', O' id = some o' ∧ Step w' G' (π id) (π' id) o o') : ∀ {x : TV} {v : Value}, x.within S → VR w G π O x v → VR w' G' π' O' x v := by
  intro x
  induction x with
  | any => intro v _ _; trivial
  | dv t x => intro v hS h; exact DT.val_mono hfz h
  | nl => intro v hS h; exact h
  | cst u => intro v hS h; exact h
  | row id =>
    intro v hS h
    simp only [VR] at h ⊢
    cases ho : O id with
    | none => rw [ho] at h; exact h.elim
    | some o =>
      rw [ho] at h
      obtain ⟨o', ho', hs⟩ := hob id o hS ho
      rw [ho']
      cases o' with
      | dead => trivial
      | row t' l' => cases o with
        | row t l => obtain ⟨h1, rfl, h3⟩ := hs; simp only at h ⊢; rw [h1, h3]; exact h
        | _ => exact hs.elim
      | rcd fs' => trivial
      | map kt vt l => cases o with
        | map kt' vt' l' => have h1 : π' id = π id := hs; simp only at h ⊢; rw [h1]; exact h
        | _ => exact hs.elim
      | iter kt vt l cur => cases o with
        | iter kt' vt' l' cur' => have h1 : π' id = π id := hs; simp only at h ⊢; rw [h1]; exact h
        | _ => exact hs.elim
      | frz t' l' => cases o with
        | row t l =>
          obtain ⟨e, hs⟩ := hs
          injection e with e1 e2
          subst e1
          obtain rfl := eq_of_heq e2
          simp only at h ⊢; subst h; exact hs
        | frz t l =>
          have hs' : TO.frz t' l' = .frz t l := hs
          injection hs' with e1 e2
          subst e1
          obtain rfl := eq_of_heq e2
          exact DT.cell_mono (t := .sl t') (x := l') (j := 0) hfz h
        | _ => exact hs.elim
  | vrow id a b =>
    intro v hS h
    simp only [VR] at h ⊢
    cases ho : O id with
    | none => rw [ho] at h; exact h.elim
    | some o =>
      rw [ho] at h
      obtain ⟨o', ho', hs⟩ := hob id o hS ho
      rw [ho']
      cases o' with
      | row t' l' => cases o with
        | row t l => obtain ⟨h1, rfl, h3⟩ := hs; simp only at h ⊢; rw [h1, h3]; exact h
        | _ => exact hs.elim
      | frz t' l' => cases o with
        | row t l =>
          obtain ⟨e, hs⟩ := hs
          injection e with e1 e2
          subst e1
          obtain rfl := eq_of_heq e2
          obtain ⟨h1, h2, p, cp, h3, h4, h5, h6, h7⟩ := h
          exact slice_of_hdr hs h1 h2 h3 h4 h5 h6 h7
        | frz t l =>
          have hs' : TO.frz t' l' = .frz t l := hs
          injection hs' with e1 e2
          subst e1
          obtain rfl := eq_of_heq e2
          exact DT.cell_mono (t := .sl t') (x := (l'.take b).drop a) (j := 0) hfz h
        | _ => exact hs.elim
      | _ => trivial
  | ptr id i p =>
    intro v hS h
    simp only [VR] at h ⊢
    cases ho : O id with
    | none => rw [ho] at h; exact h.elim
    | some o =>
      rw [ho] at h
      obtain ⟨o', ho', hs⟩ := hob id o hS ho
      rw [ho']
      intro hl
      have hlo : o.live = true := by
        cases o' <;> first | (simp [TO.live] at hl; done) | (cases o <;> first | rfl | exact hs.elim)
      obtain ⟨c, g, h1, h2, h3, h4⟩ := h hlo
      obtain ⟨a1, a2, a3, _⟩ := hs.loc hl h1 h2
      exact ⟨c, g, a1, a2, by rw [a3]; exact h3, by rw [a3]; exact h4⟩
  | view id i p k n a b =>
    intro v hS h
    simp only [VR] at h ⊢
    cases ho : O id with
    | none => rw [ho] at h; exact h.elim
    | some o =>
      rw [ho] at h
      obtain ⟨o', ho', hs⟩ := hob id o hS ho
      rw [ho']
      intro hl
      have hlo : o.live = true := by
        cases o' <;> first | (simp [TO.live] at hl; done) | (cases o <;> first | rfl | exact hs.elim)
      obtain ⟨c, g, pp, h1, h2, h3, h4⟩ := h hlo
      obtain ⟨a1, a2, a3, _⟩ := hs.loc hl h1 h2
      exact ⟨c, g, pp, a1, a2, by rw [a3]; exact h3, by rw [a3]; exact h4⟩
  | el t x p =>
    intro v hS h
    obtain ⟨b, o, L, h1, h2, h3, h4, h5⟩ := h
    refine ⟨b, o, L, h1, h2, h3, (hfz b h4).1, fun c hc => ?_⟩
    obtain ⟨u, a1, a2, a3⟩ := h5 c hc
    exact ⟨u, (hfz.cell h4).trans a1, a2, DT.cell_mono hfz a3⟩
  | fn g k n f ih => intro v hS ⟨fs, cs, h1, h2, h3, h4, h5⟩; exact ⟨fs, cs, h1, h2, h3, fun j hj => let ⟨u, a, b⟩ := h4 j hj; ⟨u, a, ih j (hS j (by omega)) b⟩, fun j hj => let ⟨u, a, b⟩ := h5 j hj; ⟨u, a, ih _ (hS _ (by omega)) b⟩⟩
  | tup n f ih => intro v hS ⟨cs, h1, h2, h3⟩; exact ⟨cs, h1, h2, fun j hj => let ⟨u, a, b⟩ := h3 j hj; ⟨u, a, ih j (hS j hj) b⟩⟩
  | st n f ih => intro v hS ⟨cs, h1, h2, h3⟩; exact ⟨cs, h1, h2, fun j hj c hc => let ⟨u, a, b, d, e⟩ := h3 j hj c hc; ⟨u, a, b, TV.dcell_mono hfz d, fun hd => ih j (hS j hj) (e hd)⟩⟩

theorem VR.evo {w w' : World} {G G' : Nat → Prop} {π π' : Nat → Pl} {O O' : Obs} (E : Evo w G π O w' G' π' O') {x : TV} {v : Value} (h : VR w G π O x v) : VR w' G' π' O' x v :=
  VR.evoS (fun _ => True) E.fz (fun id o _ ho => E.ob id o ho) (TV.within_true x) h

theorem TV.fcell_evo {w w' : World} {G G' : Nat → Prop} {π π' : Nat → Pl} {O O' : Obs} (E : Evo w G π O w' G' π' O') {x : TV} {c : Nat} {u : Value} (h : x.fcell w G π O c u) : x.fcell w' G' π' O' c u := by
  cases x with
  | dv t y => exact DT.cell_mono E.fz h
  | _ => exact VR.evo E h

/-- An object of which nothing is turned. -/
theorem OR.evo {w w' : World} {G G' : Nat → Prop} {π π' : Nat → Pl} {O O' : Obs} (E : Evo w G π O w' G' π' O') {id : Nat} {o : TO} (h : OR w G π O id o) (hp : π' id = π id) (hb : ∀ g, (π id).g = some g → o.live = true → w'.heap[g]? = w.heap[g]?) : OR w' G' π' O' id o := by
  cases o with
  | row t l =>
    simp only [OR] at h ⊢
    rw [hp]
    rcases h with h | ⟨g, cur, e, h1, h2, h3, h4, h5, h6⟩
    · exact .inl h
    · refine .inr ⟨g, cur, e, h1, (hb g h1 rfl).trans h2, h3, h4, h5, fun i hi c hc => ?_⟩
      obtain ⟨u, a1, a2, a3⟩ := h6 i hi c hc
      exact ⟨u, a1, a2, DT.cell_mono E.fz a3⟩
  | rcd fs =>
    simp only [OR] at h ⊢
    rw [hp]
    obtain ⟨g, cur, e, h1, h2, h3⟩ := h
    refine ⟨g, cur, e, h1, (hb g h1 rfl).trans h2, fun j x hx c hc => ?_⟩
    obtain ⟨u, a1, a2, a3⟩ := h3 j x hx c hc
    exact ⟨u, a1, a2, TV.fcell_evo E a3⟩
  | map kt vt l =>
    simp only [OR] at h ⊢
    rw [hp]
    obtain ⟨g, es, ck, h1, h2, h3, h4, h5, h6⟩ := h
    refine ⟨g, es, ck, h1, (hb g h1 rfl).trans h2, h3, h4, h5, fun i e he => ?_⟩
    obtain ⟨x, a1, a2, a3⟩ := h6 i e he
    exact ⟨x, a1, DT.val_mono E.fz a2, DT.val_mono E.fz a3⟩
  | iter kt vt l cur =>
    simp only [OR] at h ⊢
    rw [hp]
    obtain ⟨r, h1, h2⟩ := h
    exact ⟨r, h1, h2.mono E.fz (hb r h1 rfl)⟩
  | _ => trivial

def TS.put (s : TS) (d : Option Nat) (x : TV) : TS :=
  match d with
  | some d => ⟨s.sl.set d x, s.ob⟩
  | none => s

theorem RelM.put {c : Cx} {F : Nat → Prop} {w : World} {π : Nat → Pl} {s : TS} {a : Act} (h : RelM c F π s a w) (d : Option Nat) {x : TV} {v : Value} (hx : VR w (Gz F w π (tlook s.ob)) π (tlook s.ob) x v) : RelM c F π (s.put d x) (a.put d v) w := by
  cases d with
  | none => exact h
  | some d =>
    refine ⟨h.kept, h.hF, h.defers, by simpa [TS.put, Act.put] using h.size, fun i y hy => ?_, h.obj, h.inj, h.new, h.pin, h.glb⟩
    simp only [TS.put, List.getElem?_set] at hy
    simp only [Act.put, TS.put]
    by_cases hd : d = i
    · subst hd
      simp only [if_true] at hy
      by_cases hl : d < s.sl.length
      · rw [if_pos hl] at hy
        obtain rfl := Option.some.inj hy
        have hd' : d < a.tmps.size := by rw [h.size]; exact hl
        have : (a.tmps.setIfInBounds d v).getD d undef = v := by simp [Array.getD, hd']
        rw [this]; exact hx
      · rw [if_neg hl] at hy; cases hy
    · rw [if_neg hd] at hy
      have : (a.tmps.setIfInBounds d v).getD i undef = a.tmps.getD i undef := by simp [Array.getD_eq_getD_getElem?, hd]
      rw [this]; exact h.slot i y hy

theorem GlbOk.mono {w w' : World} {G G' : Nat → Prop} (h : GlbOk w G) (fz : FzTo w G w' G') : GlbOk w' G' := fun g t x e =>
  VR.evo (O := fun _ => none) (O' := fun _ => none) ⟨fz, fun id o ho => by cases ho⟩ (h g t x e)

/-- THE STEP: world, places and objects go on. -/
theorem RelM.go {c : Cx} {F : Nat → Prop} {w w' : World} {π π' : Nat → Pl} {s : TS} {a : Act} (h : RelM c F π s a w) {O' : List (Nat × TO)} (hk : Kept c w')
    (E : Evo w (Gz F w π (tlook s.ob)) π (tlook s.ob) w' (Gz F w' π' (tlook O')) π' (tlook O'))
    (obj : ∀ id o, tlook O' id = some o → OR w' (Gz F w' π' (tlook O')) π' (tlook O') id o) (inj : ∀ i j g, Own π' (tlook O') i g → Own π' (tlook O') j g → i = j) (new : ∀ id g, Own π' (tlook O') id g → ¬ c.bar g ∧ g < w'.heap.size) : RelM c F π' ⟨s.sl, O'⟩ a w' where
  kept := hk
  hF := h.hF
  defers := h.defers
  size := h.size
  slot := fun i x hx => VR.evo E (h.slot i x hx)
  obj := obj
  inj := inj
  new := new
  pin := fun id p o0 hp => by
    obtain ⟨o, ho, hl⟩ := h.pin id p o0 hp
    obtain ⟨o', ho', hs⟩ := E.ob id o ho
    refine ⟨o', ho', fun hl' => ?_⟩
    obtain ⟨h1, h2, h3⟩ := hs.shp hl'
    exact ⟨h2.trans (hl h1).1, (hl h1).2.trans h3⟩
  glb := h.glb.mono E.fz

/-- Old blocks stay, nothing else turns. -/
theorem Evo.later {F : Nat → Prop} {w w' : World} {π : Nat → Pl} {O : Obs} (hb : Below w.heap.size w w') : Evo w (Gz F w π O) π O w' (Gz F w' π O) π O where
  fz := fun b ⟨h0, h1, h2⟩ => ⟨⟨h0, Nat.lt_of_lt_of_le h1 hb.size, h2⟩, hb.block b h1⟩
  ob := fun id o ho => ⟨o, ho, by
    cases o with
    | row t l => exact ⟨rfl, rfl, rfl⟩
    | rcd fs => exact ⟨rfl, rfl, fun j x hx => ⟨x, hx, rfl, fun _ _ _ a b => ⟨a, b⟩⟩⟩
    | map kt vt l => rfl
    | iter kt vt l cur => rfl
    | frz t l => rfl
    | dead => trivial⟩

theorem Step.refl {w' : World} {G' : Nat → Prop} {p : Pl} (o : TO) : Step w' G' p p o o := by
  cases o with
  | row t l => exact ⟨rfl, rfl, rfl⟩
  | rcd fs => exact ⟨rfl, rfl, fun j x hx => ⟨x, hx, rfl, fun _ _ _ a b => ⟨a, b⟩⟩⟩
  | map kt vt l => rfl
  | iter kt vt l cur => rfl
  | frz t l => rfl
  | dead => trivial

theorem Kept.below {c : Cx} {w w' : World} (h : Kept c w) (hb : Below w.heap.size w w') : Kept c w' :=
  h.on ⟨hb.os, hb.tape, hb.output⟩ hb.size fun b hb' => hb.block b (h.lt hb')

theorem RelM.later {c : Cx} {F : Nat → Prop} {w w' : World} {π : Nat → Pl} {s : TS} {a : Act} (h : RelM c F π s a w) (hb : Below w.heap.size w w') : RelM c F π s a w' :=
  h.go (O' := s.ob) (h.kept.below hb) (Evo.later hb) (fun id o ho => (h.obj id o ho).evo (Evo.later hb) rfl fun g hg hl => hb.block g (h.new id g ⟨hg, o, ho, hl⟩).2) h.inj
    (fun id g hg => ⟨(h.new id g hg).1, Nat.lt_of_lt_of_le (h.new id g hg).2 hb.size⟩)

theorem RelM.drew {c : Cx} {F : Nat → Prop} {w : World} {π : Nat → Pl} {s : TS} {a : Act} (h : RelM c F π s a w) : RelM c F π s a w.drew := h.later (Below.refl _ _).drew

def updP (π : Nat → Pl) (d : Nat) (p : Pl) : Nat → Pl := fun i => if i = d then p else π i

theorem tlook_cons (d : Nat) (o : TO) (O : List (Nat × TO)) (i : Nat) : tlook ((d, o) :: O) i = if i = d then some o else tlook O i := rfl

/-- A new object. (A block of its own, or none.) -/
theorem Evo.new {F : Nat → Prop} {w w' : World} {π : Nat → Pl} {O : List (Nat × TO)} {d : Nat} {p : Pl} {o : TO} (hb : Below w.heap.size w w') (hd : tlook O d = none) (hg : ∀ g, p.g = some g → w.heap.size ≤ g) :
    Evo w (Gz F w π (tlook O)) π (tlook O) w' (Gz F w' (updP π d p) (tlook ((d, o) :: O))) (updP π d p) (tlook ((d, o) :: O)) where
  fz := fun b ⟨h0, h1, h2⟩ => ⟨⟨h0, Nat.lt_of_lt_of_le h1 hb.size, fun id ⟨h3, o', h4, h5⟩ => by
    by_cases e : id = d
    · subst e
      simp only [updP, if_true] at h3
      have := hg b h3; omega
    · simp only [updP, if_neg e] at h3
      rw [tlook_cons, if_neg e] at h4
      exact h2 id ⟨h3, o', h4, h5⟩⟩, hb.block b h1⟩
  ob := fun id o' ho' => by
    have e : id ≠ d := fun e => by subst e; rw [hd] at ho'; cases ho'
    refine ⟨o', by rw [tlook_cons, if_neg e]; exact ho', ?_⟩
    simp only [updP, if_neg e]; exact Step.refl o'

theorem RelM.newOb {c : Cx} {F : Nat → Prop} {w w' : World} {π : Nat → Pl} {s : TS} {a : Act} (h : RelM c F π s a w) {d : Nat} {p : Pl} {o : TO} (hb : Below w.heap.size w w') (hd : tlook s.ob d = none) (hg : ∀ g, p.g = some g → w.heap.size ≤ g ∧ g < w'.heap.size)
    (ho : OR w' (Gz F w' (updP π d p) (tlook ((d, o) :: s.ob))) (updP π d p) (tlook ((d, o) :: s.ob)) d o) : RelM c F (updP π d p) ⟨s.sl, (d, o) :: s.ob⟩ a w' := by
  have E : Evo w (Gz F w π (tlook s.ob)) π (tlook s.ob) w' (Gz F w' (updP π d p) (tlook ((d, o) :: s.ob))) (updP π d p) (tlook ((d, o) :: s.ob)) := Evo.new hb hd fun g hg' => (hg g hg').1
  have own : ∀ id g, Own (updP π d p) (tlook ((d, o) :: s.ob)) id g → (id = d ∧ p.g = some g) ∨ (id ≠ d ∧ Own π (tlook s.ob) id g) := fun id g ⟨h1, o', h2, h3⟩ => by
    by_cases e : id = d
    · subst e; simp only [updP, if_true] at h1; exact .inl ⟨rfl, h1⟩
    · simp only [updP, if_neg e] at h1; rw [tlook_cons, if_neg e] at h2; exact .inr ⟨e, h1, o', h2, h3⟩
  refine h.go (h.kept.below hb) E (fun id o' ho' => ?_) (fun i j g hi hj => ?_) (fun id g hid => ?_)
  · rw [tlook_cons] at ho'
    by_cases e : id = d
    · rw [if_pos e] at ho'; obtain rfl := Option.some.inj ho'; subst e; exact ho
    · rw [if_neg e] at ho'
      exact (h.obj id o' ho').evo E (by simp only [updP, if_neg e]) fun g hg' hl => hb.block g (h.new id g ⟨hg', o', ho', hl⟩).2
  · rcases own i g hi with ⟨e1, h1⟩ | ⟨e1, h1⟩ <;> rcases own j g hj with ⟨e2, h2⟩ | ⟨e2, h2⟩
    · exact e1.trans e2.symm
    · have := (hg g h1).1; have := (h.new j g h2).2; omega
    · have := (hg g h2).1; have := (h.new i g h1).2; omega
    · exact h.inj i j g h1 h2
  · rcases own id g hid with ⟨e1, h1⟩ | ⟨e1, h1⟩
    · exact ⟨fun hb' => by have := (hg g h1).1; have := h.kept.lt hb'; omega, (hg g h1).2⟩
    · exact ⟨(h.new id g h1).1, Nat.lt_of_lt_of_le (h.new id g h1).2 hb.size⟩

/-- An object's content is turned, in its block. -/
theorem Evo.set {F : Nat → Prop} {w w' : World} {π : Nat → Pl} {O : List (Nat × TO)} {d g : Nat} {o o' : TO} (hd : tlook O d = some o) (hg : (π d).g = some g) (hl : o.live = true) (hl' : o'.live = true) (hs : ∀ G', Step w' G' (π d) (π d) o o') (hb : ∀ b, b ≠ g → w'.heap[b]? = w.heap[b]?) (hsz : w'.heap.size = w.heap.size) :
    Evo w (Gz F w π (tlook O)) π (tlook O) w' (Gz F w' π (tlook ((d, o') :: O))) π (tlook ((d, o') :: O)) where
  fz := fun b ⟨h0, h1, h2⟩ => ⟨⟨h0, by omega, fun id ⟨h3, o1, h4, h5⟩ => by
    by_cases e : id = d
    · subst e; exact h2 id ⟨h3, o, hd, hl⟩
    · rw [tlook_cons, if_neg e] at h4; exact h2 id ⟨h3, o1, h4, h5⟩⟩, hb b fun e => h2 d ⟨e ▸ hg, o, hd, hl⟩⟩
  ob := fun id o1 ho1 => by
    by_cases e : id = d
    · subst e
      rw [hd] at ho1; obtain rfl := Option.some.inj ho1
      exact ⟨o', by rw [tlook_cons, if_pos rfl], hs _⟩
    · exact ⟨o1, by rw [tlook_cons, if_neg e]; exact ho1, Step.refl o1⟩

theorem RelM.set {c : Cx} {F : Nat → Prop} {w w' : World} {π : Nat → Pl} {s : TS} {a : Act} (h : RelM c F π s a w) {d g : Nat} {o o' : TO} (hd : tlook s.ob d = some o) (hg : (π d).g = some g) (hl : o.live = true) (hl' : o'.live = true) (hs : ∀ G', Step w' G' (π d) (π d) o o') (hb : ∀ b, b ≠ g → w'.heap[b]? = w.heap[b]?) (hsz : w'.heap.size = w.heap.size)
    (hos : w'.os = w.os ∧ w'.tape = w.tape ∧ w'.output = w.output) (ho : OR w' (Gz F w' π (tlook ((d, o') :: s.ob))) π (tlook ((d, o') :: s.ob)) d o') : RelM c F π ⟨s.sl, (d, o') :: s.ob⟩ a w' := by
  have E : Evo w (Gz F w π (tlook s.ob)) π (tlook s.ob) w' (Gz F w' π (tlook ((d, o') :: s.ob))) π (tlook ((d, o') :: s.ob)) := Evo.set hd hg hl hl' hs hb hsz
  have own : ∀ id g, Own π (tlook ((d, o') :: s.ob)) id g → Own π (tlook s.ob) id g := fun id g ⟨h1, o1, h2, h3⟩ => by
    rw [tlook_cons] at h2
    by_cases e : id = d
    · exact ⟨h1, o, by rw [e]; exact hd, hl⟩
    · rw [if_neg e] at h2; exact ⟨h1, o1, h2, h3⟩
  refine h.go (h.kept.on hos (by omega) fun b hb' => hb b fun e => (h.new d g ⟨hg, o, hd, hl⟩).1 (e ▸ hb')) E (fun id o1 ho1 => ?_) (fun i j g hi hj => h.inj i j g (own i g hi) (own j g hj)) (fun id g hid => by rw [hsz]; exact h.new id g (own id g hid))
  · rw [tlook_cons] at ho1
    by_cases e : id = d
    · rw [if_pos e] at ho1; obtain rfl := Option.some.inj ho1; subst e; exact ho
    · rw [if_neg e] at ho1
      exact (h.obj id o1 ho1).evo E rfl fun g' hg' hl1 => hb g' fun e2 => e (h.inj id d g ⟨e2 ▸ hg', o1, ho1, hl1⟩ ⟨hg, o, hd, hl⟩)

/-- An object that is not live any more: dead, or frozen. -/
theorem RelM.kill {c : Cx} {F : Nat → Prop} {w : World} {π : Nat → Pl} {s : TS} {a : Act} (h : RelM c F π s a w) {d : Nat} {o o' : TO} (hd : tlook s.ob d = some o) (hl' : o'.live = false) (hs : ∀ G', (∀ g, (π d).g = some g → o.live = true → G' g) → FzTo w (Gz F w π (tlook s.ob)) w G' → Step w G' (π d) (π d) o o') : RelM c F π ⟨s.sl, (d, o') :: s.ob⟩ a w := by
  have own : ∀ id g, Own π (tlook ((d, o') :: s.ob)) id g → id ≠ d ∧ Own π (tlook s.ob) id g := fun id g ⟨h1, o1, h2, h3⟩ => by
    rw [tlook_cons] at h2
    by_cases e : id = d
    · rw [if_pos e] at h2; obtain rfl := Option.some.inj h2; rw [hl'] at h3; cases h3
    · rw [if_neg e] at h2; exact ⟨e, h1, o1, h2, h3⟩
  have fz : FzTo w (Gz F w π (tlook s.ob)) w (Gz F w π (tlook ((d, o') :: s.ob))) := fun b ⟨h0, h1, h2⟩ => ⟨⟨h0, h1, fun id hid => h2 id (own id b hid).2⟩, rfl⟩
  have E : Evo w (Gz F w π (tlook s.ob)) π (tlook s.ob) w (Gz F w π (tlook ((d, o') :: s.ob))) π (tlook ((d, o') :: s.ob)) := ⟨fz, fun id o1 ho1 => by
    by_cases e : id = d
    · subst e
      rw [hd] at ho1; obtain rfl := Option.some.inj ho1
      refine ⟨o', by rw [tlook_cons, if_pos rfl], hs _ (fun g hg hl => ⟨h.hF g (h.new id g ⟨hg, o, hd, hl⟩).1, (h.new id g ⟨hg, o, hd, hl⟩).2, fun j hj => ?_⟩) fz⟩
      obtain ⟨e1, e2⟩ := own j g hj
      exact e1 (h.inj j id g e2 ⟨hg, o, hd, hl⟩)
    · exact ⟨o1, by rw [tlook_cons, if_neg e]; exact ho1, Step.refl o1⟩⟩
  refine h.go h.kept E (fun id o1 ho1 => ?_) (fun i j g hi hj => h.inj i j g (own i g hi).2 (own j g hj).2) (fun id g hid => h.new id g (own id g hid).2)
  · rw [tlook_cons] at ho1
    by_cases e : id = d
    · rw [if_pos e] at ho1; obtain rfl := Option.some.inj ho1
      cases o' <;> first | trivial | (simp [TO.live] at hl')
    · rw [if_neg e] at ho1; exact (h.obj id o1 ho1).evo E rfl fun _ _ _ => rfl

theorem RelM.dead {c : Cx} {F : Nat → Prop} {w : World} {π : Nat → Pl} {s : TS} {a : Act} (h : RelM c F π s a w) {d : Nat} {o : TO} (hd : tlook s.ob d = some o) : RelM c F π ⟨s.sl, (d, .dead) :: s.ob⟩ a w :=
  h.kill hd rfl fun G' _ _ => by cases o <;> trivial

theorem cell_at {w : World} {g : Nat} {cur : Array Value} {e : TypeId} {z : Nat × Nat} (h : w.heap[g]? = some (.cells cur e z)) (o : Nat) : w.cell? ⟨g, o, none⟩ = cur[o]? := cell_of_row w g _ cur e z h

/-- An own row, read as a frozen slice; G': blocks among which is its own. -/
theorem OR.row_slice {w : World} {G G' : Nat → Prop} {π : Nat → Pl} {O : Obs} {id : Nat} {t : DT} {l : List t.den} (h : OR w G π O id (.row t l)) (hz : FzTo w G w G') (hg : ∀ g, (π id).g = some g → G' g) : (DT.sl t).cell l 0 w G' ((π id).hdr l.length) := by
  rcases h with ⟨h1, rfl⟩ | ⟨g, cur, e, h1, h2, h3, h4, h5, h6⟩
  · simp only [Pl.hdr, h1]
    exact ⟨none, 0, rfl, Nat.le_refl _, by simp [maxLen], fun _ => rfl, trivial, fun h => by simp at h⟩
  · simp only [Pl.hdr, h1]
    refine ⟨_, _, rfl, h3, h4, (fun h => by cases h), trivial, fun _ => ⟨g, _, rfl, hg g h1, fun i hi c hc => ?_⟩⟩
    obtain ⟨u, a1, a2, a3⟩ := h6 i hi c hc
    exact ⟨u, by rw [cell_at h2]; exact a1, a2, DT.cell_mono hz a3⟩

theorem RelM.freeze {c : Cx} {F : Nat → Prop} {w : World} {π : Nat → Pl} {s : TS} {a : Act} (h : RelM c F π s a w) {d : Nat} {t : DT} {l : List t.den} (hd : tlook s.ob d = some (.row t l)) : RelM c F π ⟨s.sl, (d, .frz t l) :: s.ob⟩ a w :=
  h.kill hd rfl fun G' hg hz => ⟨rfl, (h.obj d _ hd).row_slice hz fun g hg' => hg g hg' rfl⟩

/-- A nil slice as an object without a block. -/
theorem RelM.newNil {c : Cx} {F : Nat → Prop} {w : World} {π : Nat → Pl} {s : TS} {a : Act} (h : RelM c F π s a w) {d : Nat} (t : DT) (hd : tlook s.ob d = none) : RelM c F (updP π d ⟨none, 0, 0⟩) ⟨s.sl, (d, .row t []) :: s.ob⟩ a w :=
  h.newOb (Below.refl _ _) hd (fun g hg => by cases hg) (.inl ⟨by simp [updP], rfl⟩)

/-- Only what is looked up counts. -/
theorem RelM.same {c : Cx} {F : Nat → Prop} {w : World} {π : Nat → Pl} {s s' : TS} {a : Act} (h : RelM c F π s a w) (hs : s'.sl = s.sl) (ho : tlook s'.ob = tlook s.ob) : RelM c F π s' a w := by
  obtain ⟨h1, h2, h3, h4, h5, h6, h7, h8, h9, h10⟩ := h
  exact ⟨h1, h2, h3, by rw [hs]; exact h4, by rw [hs, ho]; exact h5, by rw [ho]; exact h6, by rw [ho]; exact h7, by rw [ho]; exact h8, by rw [ho]; exact h9, by rw [ho]; exact h10⟩

end Go.Proofs.YtbjfbbfglkmadaaDoor
