/-
  Lifting Go functions to plain Lean functions, part J: operations that make or turn memory.
-/
import Derived.Test.YtbjfbbfglkmadaaDoorQI
namespace Go.Proofs.YtbjfbbfglkmadaaDoor
open Go.RowKit
set_option linter.unusedVariables false

def asL (ev : Operand → TV) (L : Obs) (t : DT) : List Operand → Option (List t.den × Bool)
  | [] => some ([], true)
  | x :: r => match (ev x).as L t with
    | some (y, b) => match asL ev L t r with
      | some (l, b') => some (y :: l, b && b')
      | none => none
    | none => none

def small (n eb : Nat) : Bool := decide (n * eb ≤ 140737488355328) && decide (n ≤ 140737488355328)

def placeOf (d : TD) : Nat → Option (Nat × Nat) := if d.kd = 4 then fun i => d.offs[i]? else fun i => some (i * d.elem, d.elem)

/-- A literal's parts, put into the zero value. -/
def tfill (ev : Operand → TV) (O : Obs) (t : DT) (d : TD) : List (Nat × Operand) → t.den → Option (t.den × Bool)
  | [], z => some (z, true)
  | (i, x) :: r, z => match t.at [i] with
    | some L => match (ev x).as O L.u with
      | some (y, b) => if L.u.plain && t.inb1 i && L.fits z && placeOf d i == some (L.off, L.u.size) then (match tfill ev O t d r (L.put z y) with
        | some (v, b') => some (v, b && b')
        | none => none) else none
      | none => none
    | none => none

/-- The zero value, field by field. -/
def recZero : List (Option DT) → List Value → Option (List TV)
  | [], [] => some []
  | none :: r, v :: l => match recZero r l with
    | some fs => if v.oneCell' then some (tcst v :: fs) else none
    | none => none
  | some t :: r, l => if t.plain then (match zeroL t l with
    | some l' => (match recZero r l' with
      | some fs => some (.dv t t.dflt :: fs)
      | none => none)
    | none => none) else none
  | _, _ => none

/-- Surely one cell. -/
def TV.one : TV → Bool
  | .dv t _ => !t.agg && t.plain
  | .nl => true
  | .cst v => v.oneCell'
  | .el _ _ _ => true
  | .fn _ _ _ _ => true
  | _ => false

/-- Or an object's head. -/
def TV.one' (L : Obs) : TV → Bool
  | .row id => match L id with
    | some (.row _ _) => true
    | some (.frz _ _) => true
    | some (.map _ _ _) => true
    | _ => false
  | .ptr id _ _ => match L id with
    | some o => o.live
    | none => false
  | x => x.one

/-- A struct's fields. -/
def splitTV : (t : DT) → t.den → List TV
  | .pair a b, x => .dv a x.1 :: splitTV b x.2
  | _, _ => []

def TV.nagg : TV → Bool
  | .dv u _ => !u.agg
  | _ => true

def keepF (x y : TV) : Bool :=
  match x with
  | .dv t _ => if t.agg then (match y with | .dv u _ => decide (u = t) | _ => false) else decide (t.size = 1) && decide (y.size = 1) && y.nagg
  | _ => decide (y.size = 1) && y.nagg

/-- A field that is kept as data. -/
def TV.isSl : TV → Bool
  | .dv (.sl _) _ => true
  | .dv (.nsl _) _ => true
  | _ => false

def keepAll : List TV → List TV → Bool
  | [], [] => true
  | x :: r, y :: r' => keepF x y && keepAll r r'
  | _, _ => false

/-- An object with a part put anew. -/
def TO.putP (L : Obs) (o : TO) (i : Nat) (p : List Nat) (y : TV) (d : TD) : Option (TO × Bool) :=
  match o, p with
  | .row t l, p => match t.at p with
    | some N => match y.as L N.u with
      | some (z, b) => if d.kd != 0 && N.u.plain && d.size == N.u.size then some (.row t (l.set i (N.put (l.getD i t.dflt) z)), b && N.fits (l.getD i t.dflt)) else none
      | none => none
    | none => none
  | .rcd fs, j :: p => match fs[j]? with
    | some x => match p with
      | [] => if !x.isSl && keepF x y && y.one' L && (d.kd == 1 || d.kd == 2) then some (.rcd (fs.set j y), true) else (match x with
        | .dv t z => match y.as L t with
          | some (z', b) => if d.kd != 0 && t.plain && d.size == t.size then some (.rcd (fs.set j (.dv t z')), b) else none
          | none => none
        | _ => none)
      | q :: p => match x with
        | .dv t z => match t.at (q :: p) with
          | some N => match y.as L N.u with
            | some (z', b) => if d.kd != 0 && N.u.plain && d.size == N.u.size then some (.rcd (fs.set j (.dv t (N.put z z'))), b && N.fits z) else none
            | none => none
          | none => none
        | _ => none
    | none => none
  | .rcd fs, [] => match y with
    | .dv t z => if (i == 0 && (d.kd != 0 && t.plain && d.size == t.size)) && (decide (offs (splitTV t z) (splitTV t z).length = t.size) && keepAll fs (splitTV t z)) then some (.rcd (splitTV t z), true) else none
    | _ => none
  | _, _ => none

def mkOk (zl zc : Int) (eb : Nat) : Bool := decide (0 ≤ zl ∧ zl ≤ zc) && (decide (zc * eb ≤ 140737488355328) && decide (zc ≤ 140737488355328))

theorem mkOk_ok {zl zc : Int} {eb : Nat} (h : mkOk zl zc eb = true) : 0 ≤ zl ∧ zl ≤ zc ∧ zc * eb ≤ 140737488355328 ∧ zc ≤ 140737488355328 := by
  unfold mkOk at h
  simp only [Bool.and_eq_true, decide_eq_true_eq] at h
  exact ⟨h.1.1, h.1.2, h.2.1, h.2.2⟩

structure Eff where
  y : TV
  u : List (Nat × TO)
  b : Bool

def tappend (TI : Nat → TD) (TY : Nat → DT) (ev : Operand → TV) (L : Obs) (d : Nat) (T : Nat) (x y : TV) : Option Eff :=
  match L d with
  | some _ => none
  | none => match x with
    | .row id => match L id with
      | some (.row t l) => match y.data L with
        | some ⟨t', m⟩ => if h : t' = t then (if (TI T).kd == 2 && (TI T).elem == t.size then
            some ⟨.row d, [(d, .row t (l ++ h ▸ m)), (id, .dead)], small (l.length + m.length) (TI T).eb⟩ else none) else none
        | none => none
      | _ => none
    | .nl => match TY T, y.data L with
      | .sl t, some ⟨t', m⟩ => if t' = t then (if (TI T).kd == 2 && (TI T).elem == t'.size then some ⟨.row d, [(d, .row t' m)], small m.length (TI T).eb⟩ else none) else none
      | _, _ => none
    | .dv (.csl t) l => match y.data L with
      | some ⟨t', m⟩ => if h : t' = t then (if (TI T).kd == 2 && (TI T).elem == t.size then
            some ⟨.row d, [(d, .row t (l ++ h ▸ m))], decide (0 < m.length) && small (l.length + m.length) (TI T).eb⟩ else none) else none
      | none => none
    | _ => none

/-- Operations that make or turn memory. (rc: which variables are records, and of what fields.) -/
def isNilV : Value → Bool
  | .slice none 0 0 => true
  | _ => false

def tobj (TI : Nat → TD) (TY : Nat → DT) (rc : Nat → Option (List (Option DT))) (ev : Operand → TV) (L : Obs) (dst : Option Nat) : Op → Option Eff
  | .alloc T => match dst with
    | some d => match L d with
      | some _ => none
      | none => if (TI T).kd == 1 || (TI T).kd == 2 then (match rc d with
        | some [some (.arr 0 t)] => (match L (2000000 + d) with
          | some _ => none
          | none => if (TI T).kd == 2 && isZero (TI T).zero (.sl t) && t.plain then some ⟨.ptr d 0 [0], [(d, .rcd [.row (2000000 + d)]), (2000000 + d, .row t [])], true⟩ else none)
        | some [some t] => if isZero (TI T).zero t && t.plain && !t.agg then some ⟨.ptr d 0 [0], [(d, .rcd [.dv t t.dflt])], true⟩ else none
        | _ => some ⟨.ptr d 0 [0], [(d, .rcd [tcst (TI T).zero])], true⟩) else
        (match rc d with
        | some fs => (match recZero fs (TI T).zero.cells.toList with
          | some l => if (TI T).kd != 0 then some ⟨.ptr d 0 [], [(d, .rcd l)], true⟩ else none
          | none => none)
        | none => if (TI T).kd != 0 && isZero (TI T).zero (TY T) && (TY T).plain && (TI T).size == (TY T).size then some ⟨.ptr d 0 [], [(d, .row (TY T) [(TY T).dflt])], true⟩ else none)
    | none => none
  | .box T x => match dst with
    | some d => match L d with
      | some _ => none
      | none => if (TI T).kd == 1 || (TI T).kd == 2 then (if (ev x).one' L then some ⟨.ptr d 0 [0], [(d, .rcd [ev x])], true⟩ else none) else
        (match rc d with
        | some _ => (match ev x with
          | .dv t y => if (TI T).kd != 0 && t.agg && t.plain && decide (t = TY T) then some ⟨.ptr d 0 [], [(d, .rcd (splitTV t y))], true⟩ else none
          | _ => none)
        | none => match (ev x).as L (TY T) with
          | some (y, b) => if (TI T).kd != 0 && (TY T).plain && (TI T).size == (TY T).size then some ⟨.ptr d 0 [], [(d, .row (TY T) [y])], b⟩ else none
          | none => none)
    | none => none
  | .buildSlice T n parts => match dst, TY T with
    | some d, .sl t => match L d with
      | some _ => none
      | none => match asL ev L t (parts.toList.map (·.2)) with
        | some (l, b) => if (TI T).kd == 2 && (TI T).elem == t.size && t.plain && parts.toList.map (·.1) == List.range n && decide (n * (TI T).elem ≤ 16777216) then some ⟨.row d, [(d, .row t l)], b⟩ else none
        | none => none
    | _, _ => none
  | .makeSlice T l c => match dst, ev l, ev c with
    | some d, .dv (.int _) zl, .dv (.int _) zc => match L d with
      | some _ => none
      | none => match rc d with
       | some _ => if (TI T).kd == 2 && (TI T).ez.cells.toList.all isNilV then
            some ⟨.view d 0 [] (TI T).elem (Int.toNat zl) 0 (Int.toNat zl), [(d, .rcd (List.replicate (Int.toNat zl * (TI T).elem) .nl))], mkOk zl zc (TI T).eb && decide (zl = zc)⟩ else none
       | none => match TY T with
        | .sl t => if (TI T).kd == 2 && isZero (TI T).ez t && t.plain && (TI T).elem == t.size then
            some ⟨.row d, [(d, .row t (List.replicate (Int.toNat zl) t.dflt))], mkOk zl zc (TI T).eb⟩ else none
        | _ => none
    | _, _, _ => none
  | .build T parts => match tfill ev L (TY T) (TI T) parts.toList (TY T).dflt with
    | some (z, b) => if ((TI T).kd == 3 || (TI T).kd == 4) && (TY T).agg && (TY T).plain && (TI T).size == (TY T).size && isZero (TI T).zero (TY T) then some ⟨.dv (TY T) z, [], b⟩ else none
    | none => none
  | .store T p y => match dst, ev p with
    | none, .ptr id i q => match L id with
      | some o => match o.putP L i q (ev y) (TI T) with
        | some (o', b) => some ⟨.any, [(id, o')], b⟩
        | none => none
      | none => none
    | _, _ => none
  | .call c => match c.callee, dst, c.args.toList, c.argTypes.toList with
    | .builtin .append, some d, [x, y], [T, T'] => if T = T' then tappend TI TY ev L d T (ev x) (ev y) else none
    | _, _, _, _ => none
  | _ => none

section
variable {P : Program} {TI : Nat → TD} {TY : Nat → DT} {c : Cx} {F : Nat → Prop} {s : TS} {π : Nat → Pl} {a : Act} {w : World}

/-- A new row. -/
theorem RelM.newRow (hm : RelM c F π s a w) {w' : World} {d : Nat} (hd : tlook s.ob d = none) {t : DT} {l : List t.den} {cs : List Value} (hcl : CL w (Gz F w π (tlook s.ob)) t l cs) {cur : Array Value} {e : TypeId} {cap : Nat}
    (hb : Below w.heap.size w w') (hnew : w'.heap[w.heap.size]? = some (.cells cur e (0, 0))) (hpre : ∀ q, q < cs.length → cur[q]? = cs[q]?) (hsz : cap * t.size ≤ cur.size) (hn : l.length ≤ cap) (hcm : cap ≤ maxLen) :
    RelM c F (updP π d ⟨some w.heap.size, 0, cap⟩) ⟨s.sl, (d, .row t l) :: s.ob⟩ a w' := by
  have hlt : w.heap.size < w'.heap.size := (Array.getElem?_eq_some_iff.1 hnew).1
  have E := Evo.new (F := F) (π := π) (p := ⟨some w.heap.size, 0, cap⟩) (o := .row t l) hb hd fun g hg => by cases hg; exact Nat.le_refl _
  refine hm.newOb hb hd (fun g hg => by cases hg; exact ⟨Nat.le_refl _, hlt⟩) (.inr ⟨w.heap.size, cur, e, by simp [updP], hnew, by simpa [updP] using hn, by simpa [updP] using hcm, by simpa [updP] using hsz, fun i hi cc hcc => ?_⟩)
  obtain ⟨u, a1, a2, a3⟩ := hcl.el i hi cc hcc
  refine ⟨u, ?_, a2, DT.cell_mono E.fz a3⟩
  simp only [updP, if_true, Nat.zero_add]
  rw [hpre _ (by rw [hcl.len]; exact idx_lt hi hcc)]; exact a1

theorem VR.newRow {w' : World} {G : Nat → Prop} {d : Nat} {p : Pl} {t : DT} {l : List t.den} {O : List (Nat × TO)} : VR w' G (updP π d p) (tlook ((d, .row t l) :: O)) (.row d) (p.hdr l.length) := by
  simp [VR, tlook, updP]

/-- A new record, or a variable. -/
theorem RelM.newRcd (hm : RelM c F π s a w) {d : Nat} (hd : tlook s.ob d = none) {fs : List TV} {cur : Array Value} {e : TypeId}
    (hf : ∀ (j : Nat) (x : TV), fs[j]? = some x → ∀ cc, cc < x.size → ∃ u, cur[offs fs j + cc]? = some u ∧ u.oneCell' = true ∧ x.fcell w (Gz F w π (tlook s.ob)) π (tlook s.ob) cc u) :
    RelM c F (updP π d ⟨some w.heap.size, 0, 1⟩) ⟨s.sl, (d, .rcd fs) :: s.ob⟩ a (w.alloc (.cells cur e)) := by
  have hb : Below w.heap.size w (w.alloc (.cells cur e)) := (Below.refl _ _).alloc (Nat.le_refl _) _
  have E := Evo.new (F := F) (π := π) (p := ⟨some w.heap.size, 0, 1⟩) (o := .rcd fs) hb hd fun g hg => by cases hg; exact Nat.le_refl _
  refine hm.newOb hb hd (fun g hg => by cases hg; exact ⟨Nat.le_refl _, by simp⟩) ⟨w.heap.size, cur, e, by simp [updP], heap_alloc_new w _, fun j x hx cc hcc => ?_⟩
  obtain ⟨u, a1, a2, a3⟩ := hf j x hx cc hcc
  exact ⟨u, by simp only [updP, if_true, Nat.zero_add]; exact a1, a2, TV.fcell_evo E a3⟩

/-- What an operation of this part does. -/
def EffOk (P : Program) (c : Cx) (F : Nat → Prop) (s : TS) (π : Nat → Pl) (a : Act) (w : World) (o : Oper) (e : Eff) : Prop :=
  ∃ v w' π', ((execOp a.eval o).run P w = .ok (.value v) w' ∨ (execOp a.eval o).run P w = .ok .skip w' ∧ v = undef) ∧ RelM c F π' ⟨s.sl, e.u ++ s.ob⟩ a w' ∧ VR w' (Gz F w' π' (tlook (e.u ++ s.ob))) π' (tlook (e.u ++ s.ob)) e.y v

theorem TV.one_ok {x : TV} (h : x.one = true) {G : Nat → Prop} {O : Obs} {v : Value} (hv : VR w G π O x v) : v.oneCell' = true := by
  cases x with
  | dv t y => simp only [TV.one, Bool.and_eq_true, Bool.not_eq_true'] at h; exact DT.cell_one ((DT.val_one h.1).1 hv)
  | nl => have : v = _ := hv; subst this; rfl
  | cst u => have : v = _ := hv; subst this; exact h
  | el t y p => obtain ⟨b, o, L, _, _, rfl, _⟩ := hv; rfl
  | fn g k n f => obtain ⟨fs, cs, rfl, _⟩ := hv; rfl
  | _ => simp [TV.one] at h

theorem hdr_one (p : Pl) (n : Nat) : (p.hdr n).oneCell' = true := by unfold Pl.hdr; split <;> rfl

theorem TV.one_ok' {x : TV} {G : Nat → Prop} {O : Obs} (h : x.one' O = true) {v : Value} (hv : VR w G π O x v) : v.oneCell' = true := by
  cases x with
  | row id =>
    simp only [TV.one'] at h
    simp only [VR] at hv
    cases ho : O id with
    | none => rw [ho] at hv; exact hv.elim
    | some o =>
      rw [ho] at hv h
      cases o with
      | row t l => simp only at hv; subst hv; exact hdr_one _ _
      | frz t l => exact DT.cell_one (t := .sl t) (x := l) (j := 0) hv
      | map kt vt l => obtain ⟨g, _, rfl⟩ := hv; rfl
      | _ => cases h
  | ptr id i p =>
    simp only [TV.one'] at h
    simp only [VR] at hv
    cases ho : O id with
    | none => rw [ho] at hv; exact hv.elim
    | some o =>
      rw [ho] at hv h
      obtain ⟨c, g, _, _, _, rfl⟩ := hv h
      rfl
  | any => simp [TV.one', TV.one] at h
  | vrow id a b => simp [TV.one', TV.one] at h
  | view id i p k n a b => simp [TV.one', TV.one] at h
  | tup n f => simp [TV.one', TV.one] at h
  | st n f => simp [TV.one', TV.one] at h
  | dv t y => exact TV.one_ok (x := .dv t y) h hv
  | nl => exact TV.one_ok (x := .nl) h hv
  | cst v => exact TV.one_ok (x := .cst v) h hv
  | el t y p => exact TV.one_ok (x := .el t y p) h hv
  | fn g k n f => exact TV.one_ok (x := .fn g k n f) h hv

/-- A one-cell value as a field. -/
theorem TV.fcell_one {x : TV} {G : Nat → Prop} {O : Obs} (h : x.one' O = true) {v : Value} (hv : VR w G π O x v) : x.size = 1 ∧ x.fcell w G π O 0 v := by
  cases x with
  | dv t y =>
    have h' : (TV.dv t y).one = true := h
    simp only [TV.one, Bool.and_eq_true, Bool.not_eq_true'] at h'
    exact ⟨DT.size_one h'.1 h'.2, (DT.val_one h'.1).1 hv⟩
  | _ => exact ⟨rfl, hv⟩

theorem asL_ok {ev : Operand → TV} {G : Nat → Prop} {O : Obs} {t : DT} (hp : t.plain = true) : ∀ {xs : List Operand} {l : List t.den} {b : Bool}, asL ev O t xs = some (l, b) → b = true → (∀ x, VR w G π O (ev x) (a.eval x)) → l.length = xs.length ∧ ∀ (i : Nat) (x : Operand), xs[i]? = some x → t.val (l.getD i t.dflt) w G (a.eval x)
  | [], l, b, h, hb, hv => by
    simp only [asL, Option.some.injEq, Prod.mk.injEq] at h
    obtain ⟨rfl, _⟩ := h
    exact ⟨rfl, fun i x hx => by simp at hx⟩
  | x :: r, l, b, h, hb, hv => by
    simp only [asL] at h
    split at h
    · rename_i y b1 h1
      split at h
      · rename_i l1 b2 h2
        simp only [Option.some.injEq, Prod.mk.injEq] at h
        obtain ⟨rfl, rfl⟩ := h
        simp only [Bool.and_eq_true] at hb
        obtain ⟨e1, e2⟩ := asL_ok hp h2 hb.2 hv
        refine ⟨by simp [e1], fun i z hz => ?_⟩
        cases i with
        | zero => simp at hz; subst hz; exact TV.as_ok h1 hb.1 hp (hv x)
        | succ i => simp at hz; simpa using e2 i z hz
      · cases h
    · cases h

theorem heap_new (w : World) (o : Obj) : (w.alloc o).heap[w.heap.size]? = some o := heap_alloc_new w o

theorem rec_ok (hm : RelM c F π s a w) : ∀ {fs : List (Option DT)} {l : List Value} {xs : List TV}, recZero fs l = some xs → ∀ (j : Nat) (x : TV), xs[j]? = some x → ∀ cc, cc < x.size → ∃ u, l[offs xs j + cc]? = some u ∧ u.oneCell' = true ∧ x.fcell w (Gz F w π (tlook s.ob)) π (tlook s.ob) cc u
  | [], [], xs, h, j, x, hx => by simp only [recZero, Option.some.injEq] at h; subst h; simp at hx
  | [], v :: l, xs, h, j, x, hx => by simp [recZero] at h
  | none :: r, [], xs, h, j, x, hx => by simp [recZero] at h
  | none :: r, v :: l, xs, h, j, x, hx => by
    simp only [recZero] at h
    split at h
    · rename_i fs hfs
      split at h
      · rename_i hone
        obtain rfl := Option.some.inj h
        have hs : (tcst v).size = 1 := by unfold tcst; split <;> rfl
        intro cc hcc
        cases j with
        | zero =>
          simp at hx; subst hx
          obtain rfl : cc = 0 := by omega
          refine ⟨v, rfl, hone, ?_⟩
          unfold tcst
          split <;> rfl
        | succ j =>
          simp at hx
          obtain ⟨u, a1, a2⟩ := rec_ok hm hfs j x hx cc hcc
          refine ⟨u, ?_, a2⟩
          simp only [offs, hs, show 1 + offs fs j + cc = (offs fs j + cc) + 1 by omega, List.getElem?_cons_succ]
          exact a1
      · cases h
    · cases h
  | some t :: r, l, xs, h, j, x, hx => by
    simp only [recZero] at h
    split at h
    · rename_i hp
      split at h
      · rename_i l' hl'
        split at h
        · rename_i fs hfs
          obtain rfl := Option.some.inj h
          obtain ⟨m, rfl, e1, e2⟩ := zeroL_ok (w := w) (G := Gz F w π (tlook s.ob)) hp hl'
          intro cc hcc
          cases j with
          | zero =>
            simp at hx; subst hx
            have hcc' : cc < t.size := hcc
            obtain ⟨u, a1, a2, a3⟩ := e2 cc hcc'
            exact ⟨u, by simp only [offs, Nat.zero_add]; rw [List.getElem?_append_left (by omega)]; exact a1, a2, a3⟩
          | succ j =>
            simp at hx
            obtain ⟨u, a1, a2⟩ := rec_ok hm hfs j x hx cc hcc
            refine ⟨u, ?_, a2⟩
            simp only [offs, TV.size]
            rw [List.getElem?_append_right (by omega), e1, show t.size + offs fs j + cc - t.size = offs fs j + cc by omega]
            exact a1
        · cases h
      · cases h
    · cases h

theorem split_ok : ∀ {t : DT} {y : t.den} {l : List Value} {G : Nat → Prop} {O : Obs}, (∀ cc, cc < t.size → ∃ u, l[cc]? = some u ∧ u.oneCell' = true ∧ t.cell y cc w G u) → ∀ (j : Nat) (x : TV), (splitTV t y)[j]? = some x → ∀ cc, cc < x.size → ∃ u, l[offs (splitTV t y) j + cc]? = some u ∧ u.oneCell' = true ∧ x.fcell w G π O cc u := by
  intro t
  induction t with
  | pair a b iha ihb =>
    intro y l G O h j x hx cc hcc
    simp only [splitTV] at hx ⊢
    cases j with
    | zero =>
      simp at hx; subst hx
      have hcc' : cc < a.size := hcc
      obtain ⟨u, a1, a2, a3⟩ := h cc (by show cc < a.size + b.size; omega)
      refine ⟨u, by simp only [offs, Nat.zero_add]; exact a1, a2, ?_⟩
      have : (if cc < a.size then a.cell y.1 cc else b.cell y.2 (cc - a.size)) w G u := a3
      rw [if_pos hcc'] at this
      exact this
    | succ j =>
      simp at hx
      have hl : ∀ cc, cc < b.size → ∃ u, (l.drop a.size)[cc]? = some u ∧ u.oneCell' = true ∧ b.cell y.2 cc w G u := fun cc hcc => by
        obtain ⟨u, a1, a2, a3⟩ := h (a.size + cc) (by show a.size + cc < a.size + b.size; omega)
        refine ⟨u, by rw [List.getElem?_drop]; exact a1, a2, ?_⟩
        have : (if a.size + cc < a.size then a.cell y.1 (a.size + cc) else b.cell y.2 (a.size + cc - a.size)) w G u := a3
        rw [if_neg (by omega), show a.size + cc - a.size = cc by omega] at this
        exact this
      obtain ⟨u, a1, a2⟩ := ihb (O := O) hl j x hx cc hcc
      refine ⟨u, ?_, a2⟩
      rw [List.getElem?_drop] at a1
      simp only [offs, TV.size]
      rw [← a1]; congr 1; omega
  | _ => intro y l G O h j x hx; simp [splitTV] at hx

theorem alloc_ok (hT : TOK P TI) {rc : Nat → Option (List (Option DT))} {T : Nat} {dst : Option Nat} {ty : TypeId} {pos : String} {after : Array Edge} {g : Option (Nat × Bool)} {e : Eff} (h : tobj TI TY rc s.ev (tlook s.ob) dst (.alloc T) = some e) (hm : RelM c F π s a w) : EffOk P c F s π a w ⟨dst, .alloc T, ty, pos, after, g⟩ e := by
  simp only [tobj] at h
  split at h
  · rename_i d
    split at h
    · cases h
    · rename_i hd
      have hrun : (TI T).kd ≠ 0 → (execOp a.eval ⟨some d, .alloc T, ty, pos, after, g⟩).run P w = .ok (.value (.pointer (some ⟨w.heap.size, 0, none⟩))) (w.alloc (.cells (TI T).zero.cells T)) := fun hk => by
        obtain ⟨i, h1, h2, h3⟩ := (hT T).info hk
        refine exec_value (e := Instr.alloc T true (.tuple #[])) rfl ?_
        simp [Instr.alloc, zeroValue, typeInfo, h1, h3, newVar, newRow]
      split at h
      · rename_i hk
        simp only [Bool.or_eq_true, beq_iff_eq] at hk
        obtain ⟨hs, _⟩ := (hT T).one hk
        obtain ⟨z1, z2, z3, z4⟩ := (hT T).zc (by omega)
        have hone : (TI T).zero.oneCell' = true := by
          cases hz : (TI T).zero with
          | agg cs => have := z3 cs hz; omega
          | tuple cs =>
            have := z2
            rw [hz] at this
            exact this (.tuple cs) (by simp [Value.cells])
          | _ => rfl
        have hgen : ∀ {s0 : TS} {π0 : Nat → Pl} {q : TV}, RelM c F π0 s0 a w → tlook s0.ob d = none → q.size = 1 → (∀ o, q.floc 0 [] = some o → o = 0) → q.floc 0 [] = some 0 → q.finb [] → q.fcell w (Gz F w π0 (tlook s0.ob)) π0 (tlook s0.ob) 0 (TI T).zero →
            ∃ π', RelM c F π' ⟨s0.sl, (d, .rcd [q]) :: s0.ob⟩ a (w.alloc (.cells (TI T).zero.cells T)) ∧ VR (w.alloc (.cells (TI T).zero.cells T)) (Gz F (w.alloc (.cells (TI T).zero.cells T)) π' (tlook ((d, .rcd [q]) :: s0.ob))) π' (tlook ((d, .rcd [q]) :: s0.ob)) (.ptr d 0 [0]) (.pointer (some ⟨w.heap.size, 0, none⟩)) := fun {s0 π0 q} hm hd hq1 _ hq2 hq3 hq4 => by
          have hR := hm.newRcd hd (fs := [q]) (cur := (TI T).zero.cells) (e := T) fun j x hx cc hcc => by
            cases j with
            | zero =>
              simp at hx; subst hx
              obtain rfl : cc = 0 := by omega
              exact ⟨(TI T).zero, by rw [cells_one hone]; rfl, hone, hq4⟩
            | succ j => simp at hx
          refine ⟨_, hR, ?_⟩
          simp only [VR, tlook, if_true]
          exact fun _ => ⟨0, w.heap.size, by simp only [TO.loc, List.getElem?_cons_zero, offs]; exact hq2, by simp only [TO.okAt, List.getElem?_cons_zero]; exact hq3, by simp [updP], by simp [updP]⟩
        split at h
        · rename_i t hrc
          split at h
          · cases h
          · rename_i hd2
            split at h
            · rename_i hk2
              simp only [Bool.and_eq_true, beq_iff_eq] at hk2
              obtain rfl := Option.some.inj h
              have hne : d ≠ 2000000 + d := by omega
              have hz := (DT.val_one (t := .sl t) rfl).1 (isZero_ok (t := .sl t) (w := w) (G := Gz F w π (tlook s.ob)) hk2.2 hk2.1.2)
              obtain ⟨π', hR, hV⟩ := hgen (s0 := ⟨s.sl, (2000000 + d, .row t []) :: s.ob⟩) (q := .row (2000000 + d)) (hm.newNil t hd2) (by show tlook ((2000000 + d, .row t []) :: s.ob) d = none; rw [tlook_cons, if_neg hne]; exact hd) rfl (fun o h => by simpa [TV.floc] using h.symm) rfl trivial (by
                show VR _ _ _ _ _ _
                simp only [VR, tlook, if_true, updP, Pl.hdr]
                have := hk2.1.2
                unfold isZero at this
                simp only [DT.agg, Bool.false_eq_true, if_false, isZero1] at this
                split at this
                · assumption
                · cases this)
              exact ⟨_, _, π', .inl (hrun (by omega)), hR, hV⟩
            · cases h
        · rename_i t _ hrc
          split at h
          · rename_i hk2
            simp only [Bool.and_eq_true, Bool.not_eq_true'] at hk2
            obtain rfl := Option.some.inj h
            have hz := isZero_ok (t := t) (w := w) (G := Gz F w π (tlook s.ob)) hk2.1.2 hk2.1.1
            have hz' := (DT.val_one hk2.2).1 hz
            obtain ⟨π', hR, hV⟩ := hgen (q := .dv t t.dflt) hm hd (DT.size_one hk2.2 hk2.1.2) (fun o h => by simp [TV.floc, DT.at_nil] at h; omega) (by simp [TV.floc, DT.at_nil]) (DT.inb_nil _) hz'
            exact ⟨_, _, π', .inl (hrun (by omega)), hR, hV⟩
          · cases h
        · obtain rfl := Option.some.inj h
          obtain ⟨π', hR, hV⟩ := hgen (q := tcst (TI T).zero) hm hd (by unfold tcst; split <;> rfl) (fun o h => by
              generalize tcst (TI T).zero = q at h
              cases q <;> simp [TV.floc, DT.at_nil] at h <;> omega) (by generalize tcst (TI T).zero = q; cases q <;> simp [TV.floc, DT.at_nil]) (by generalize tcst (TI T).zero = q; cases q <;> simp [TV.finb, DT.inb_nil]) (by unfold tcst; split <;> first | rfl | (simp_all; done) | exact ‹_›)
          exact ⟨_, _, π', .inl (hrun (by omega)), hR, hV⟩
      · split at h
        · split at h
          · rename_i l hl
            split at h
            · rename_i hk
              simp only [bne_iff_ne, ne_eq] at hk
              obtain rfl := Option.some.inj h
              have hR := hm.newRcd hd (cur := (TI T).zero.cells) (e := T) fun j x hx cc hcc => by
                obtain ⟨u, a1, a2⟩ := rec_ok hm hl j x hx cc hcc
                exact ⟨u, by rw [← Array.getElem?_toList]; exact a1, a2⟩
              refine ⟨_, _, _, .inl (hrun hk), hR, ?_⟩
              simp only [VR, List.singleton_append, tlook, if_true]
              exact fun _ => ⟨0, w.heap.size, rfl, trivial, by simp [updP], by simp [updP]⟩
            · cases h
          · cases h
        · split at h
          · rename_i hk
            simp only [Bool.and_eq_true, bne_iff_ne, ne_eq, beq_iff_eq] at hk
            obtain ⟨⟨⟨k1, k2⟩, k3⟩, k4⟩ := hk
            obtain rfl := Option.some.inj h
            obtain ⟨v1, v2⟩ := DT.val_cells k3 (isZero_ok (w := w) (G := Gz F w π (tlook s.ob)) k3 k2)
            have hcl : CL w (Gz F w π (tlook s.ob)) (TY T) [(TY T).dflt] (TI T).zero.cells.toList := by
              refine ⟨by simp [v1], fun i hi cc hcc => ?_⟩
              obtain rfl : i = 0 := by simpa using hi
              obtain ⟨u, a1, a2, a3⟩ := v2 cc hcc
              exact ⟨u, by rw [Nat.zero_mul, Nat.zero_add, Array.getElem?_toList]; exact a1, a2, by simpa using a3⟩
            have hR := hm.newRow (cap := 1) hd hcl (w' := w.alloc (.cells (TI T).zero.cells T)) ((Below.refl _ _).alloc (Nat.le_refl _) _) (heap_new w _) (fun q _ => by rw [Array.getElem?_toList]) (by rw [v1]; omega) (by simp) (by simp [maxLen])
            refine ⟨_, _, _, .inl (hrun k1), hR, ?_⟩
            simp only [VR, List.singleton_append, tlook, if_true]
            refine fun _ => ⟨0, w.heap.size, by simp [TO.loc, DT.at_nil], ⟨by simp, DT.inb_nil _⟩, by simp [updP], by simp [updP]⟩
          · cases h
  · cases h

theorem box_ok (hT : TOK P TI) {rc : Nat → Option (List (Option DT))} {T : Nat} {x : Operand} {dst : Option Nat} {ty : TypeId} {pos : String} {after : Array Edge} {g : Option (Nat × Bool)} {e : Eff} (h : tobj TI TY rc s.ev (tlook s.ob) dst (.box T x) = some e) (hb : e.b = true) (hm : RelM c F π s a w) : EffOk P c F s π a w ⟨dst, .box T x, ty, pos, after, g⟩ e := by
  simp only [tobj] at h
  have hv := hm.ev x
  split at h
  · rename_i d
    split at h
    · cases h
    · rename_i hd
      have hrun : (execOp a.eval ⟨some d, .box T x, ty, pos, after, g⟩).run P w = .ok (.value (.pointer (some ⟨w.heap.size, 0, none⟩))) (w.alloc (.cells (a.eval x).cells T)) := by
        refine exec_value (e := Instr.box T (a.eval x)) rfl ?_
        simp [Instr.box, newVar, newRow]
      split at h
      · rename_i hk
        simp only [Bool.or_eq_true, beq_iff_eq] at hk
        split at h
        · rename_i h1
          obtain rfl := Option.some.inj h
          have hone := TV.one_ok' h1 hv
          obtain ⟨f1, f2⟩ := TV.fcell_one h1 hv
          have hR := hm.newRcd hd (fs := [s.ev x]) (cur := (a.eval x).cells) (e := T) fun j y hx cc hcc => by
            cases j with
            | zero =>
              simp at hx; subst hx
              obtain rfl : cc = 0 := by omega
              exact ⟨a.eval x, by rw [cells_one hone]; rfl, hone, f2⟩
            | succ j => simp at hx
          refine ⟨_, _, _, .inl hrun, hR, ?_⟩
          simp only [VR, List.singleton_append, tlook, if_true]
          refine fun _ => ⟨0, w.heap.size, ?_, ?_, by simp [updP], by simp [updP]⟩
          · simp only [TO.loc, List.getElem?_cons_zero]
            generalize s.ev x = q
            cases q <;> simp [TV.floc, DT.at_nil, offs]
          · simp only [TO.okAt, List.getElem?_cons_zero]
            generalize s.ev x = q
            cases q <;> simp [TV.finb, DT.inb_nil]
        · cases h
      · split at h
        · split at h
          · rename_i t y hx
            split at h
            · rename_i hk
              simp only [Bool.and_eq_true, bne_iff_ne, ne_eq, decide_eq_true_eq] at hk
              obtain rfl := Option.some.inj h
              rw [hx] at hv
              obtain ⟨cs, e1, e2, e3⟩ := (DT.val_agg hk.1.1.2).1 hv
              have hR := hm.newRcd hd (fs := splitTV t y) (cur := (a.eval x).cells) (e := T) fun j z hz cc hcc => by
                obtain ⟨u, a1, a2⟩ := split_ok (l := cs.toList) (O := tlook s.ob) (fun cc hcc => by
                  obtain ⟨u, b1, b2⟩ := e3 cc hcc
                  exact ⟨u, by rw [Array.getElem?_toList]; exact b1, b2⟩) j z hz cc hcc
                exact ⟨u, by rw [e1]; show cs[_]? = _; rw [← Array.getElem?_toList]; exact a1, a2⟩
              refine ⟨_, _, _, .inl hrun, hR, ?_⟩
              simp only [VR, List.singleton_append, tlook, if_true]
              exact fun _ => ⟨0, w.heap.size, rfl, trivial, by simp [updP], by simp [updP]⟩
            · cases h
          · cases h
        · split at h
          · rename_i y b hx
            split at h
            · rename_i hk
              simp only [Bool.and_eq_true, bne_iff_ne, ne_eq, beq_iff_eq] at hk
              obtain ⟨⟨k1, k3⟩, k4⟩ := hk
              obtain rfl := Option.some.inj h
              obtain ⟨v1, v2⟩ := DT.val_cells k3 (TV.as_ok hx hb k3 hv)
              have hcl : CL w (Gz F w π (tlook s.ob)) (TY T) [y] (a.eval x).cells.toList := by
                refine ⟨by simp [v1], fun i hi cc hcc => ?_⟩
                obtain rfl : i = 0 := by simpa using hi
                obtain ⟨u, a1, a2, a3⟩ := v2 cc hcc
                exact ⟨u, by rw [Nat.zero_mul, Nat.zero_add, Array.getElem?_toList]; exact a1, a2, by simpa using a3⟩
              have hR := hm.newRow (cap := 1) hd hcl (w' := w.alloc (.cells (a.eval x).cells T)) ((Below.refl _ _).alloc (Nat.le_refl _) _) (heap_new w _) (fun q _ => by rw [Array.getElem?_toList]) (by rw [v1]; omega) (by simp) (by simp [maxLen])
              refine ⟨_, _, _, .inl hrun, hR, ?_⟩
              simp only [VR, List.singleton_append, tlook, if_true]
              exact fun _ => ⟨0, w.heap.size, by simp [TO.loc, DT.at_nil], ⟨by simp, DT.inb_nil _⟩, by simp [updP], by simp [updP]⟩
            · cases h
          · cases h
  · cases h

end
end Go.Proofs.YtbjfbbfglkmadaaDoor
