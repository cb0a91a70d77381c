/-
  Lifting Go functions to plain Lean functions, part A: data of types as plain Lean values, and what they say of frozen memory.
-/
import Derived.WalkKit
namespace Go.Proofs.YtbjfbbfglkmadaaDoor
open Go.RowKit
set_option linter.unusedVariables false

/-- The types of data. A struct is a chain of pairs with 'unit' at its end; so is what is inside 'tup' (several results). sl: a slice; csl: one whose capacity is its length; nsl: one of which is told whether it is nil; fp: a pointer, or nil; ifn: the nil interface; ifc: an interface that holds something of type T, or is what comes after it. -/
inductive DT where
  | unit
  | int (k : IntKind)
  | bool
  | str
  | sl (t : DT)
  | csl (t : DT)
  | nsl (t : DT)
  | fp (t : DT)
  | arr (n : Nat) (t : DT)
  | pair (a b : DT)
  | tup (t : DT)
  | ifn
  | ifc (T : Nat) (t r : DT)
  deriving DecidableEq

@[reducible] def DT.den : DT → Type
  | .unit => Unit
  | .int _ => Int
  | .bool => Bool
  | .str => List UInt8
  | .sl t => List t.den
  | .csl t => List t.den
  | .nsl t => Option (List t.den)
  | .fp t => Option t.den
  | .arr _ t => List t.den
  | .pair a b => a.den × b.den
  | .tup t => t.den
  | .ifn => Unit
  | .ifc _ t r => t.den ⊕ r.den

def DT.dflt : (t : DT) → t.den
  | .unit => ()
  | .int _ => (0 : Int)
  | .bool => false
  | .str => []
  | .sl _ => []
  | .csl _ => []
  | .nsl _ => none
  | .fp _ => none
  | .arr n t => List.replicate n t.dflt
  | .pair a b => (a.dflt, b.dflt)
  | .tup t => t.dflt
  | .ifn => ()
  | .ifc _ _ r => .inr r.dflt

def DT.size : DT → Nat
  | .unit => 0
  | .arr n t => n * t.size
  | .pair a b => a.size + b.size
  | .tup _ => 0
  | _ => 1

def DT.agg : DT → Bool
  | .unit => true
  | .arr _ _ => true
  | .pair _ _ => true
  | _ => false

/-- No tuple is in it. -/
def DT.plain : DT → Bool
  | .sl t => t.plain
  | .csl t => t.plain
  | .nsl t => t.plain
  | .fp t => t.plain
  | .arr _ t => t.plain
  | .pair a b => a.plain && b.plain
  | .ifc _ t r => t.plain && r.plain
  | .tup _ => false
  | _ => true

/-- What is said of a cell: by a world, by the blocks that do not change, of a value. -/
abbrev CP := World → (Nat → Prop) → Value → Prop

/-- What is said of a slice's head. -/
def SlP (fl : Option Addr → Nat → Nat → Prop) (k n : Nat) (f : Nat → Nat → CP) : CP := fun w G v =>
  ∃ p cap, v = .slice p n cap ∧ n ≤ cap ∧ cap ≤ maxLen ∧ (p = none → cap = 0) ∧ fl p n cap ∧
    (0 < n → ∃ b o, p = some ⟨b, o, none⟩ ∧ G b ∧ ∀ i, i < n → ∀ c, c < k → ∃ u, w.cell? ⟨b, o + i * k + c, none⟩ = some u ∧ u.oneCell' = true ∧ f i c w G u)

/-- A value's cells. -/
def DT.cell : (t : DT) → t.den → Nat → CP
  | .unit, _, _ => fun _ _ _ => False
  | .int k, x, _ => fun _ _ v => v = .int k x
  | .bool, x, _ => fun _ _ v => v = .bool x
  | .str, x, _ => fun _ _ v => v = .string ⟨⟨x⟩⟩
  | .sl t, l, _ => SlP (fun _ _ _ => True) t.size l.length fun i c => t.cell (l.getD i t.dflt) c
  | .csl t, l, _ => SlP (fun _ n cap => cap = n) t.size l.length fun i c => t.cell (l.getD i t.dflt) c
  | .nsl t, x, _ => match x with
    | none => fun _ _ v => v = .slice none 0 0
    | some l => SlP (fun p _ _ => p ≠ none) t.size l.length fun i c => t.cell (l.getD i t.dflt) c
  | .fp t, x, _ => match x with
    | none => fun _ _ v => v = .pointer none
    | some y => fun w G v => ∃ b o, v = .pointer (some ⟨b, o, none⟩) ∧ G b ∧ ∀ c, c < t.size → ∃ u, w.cell? ⟨b, o + c, none⟩ = some u ∧ u.oneCell' = true ∧ t.cell y c w G u
  | .arr n t, l, j => t.cell (l.getD (j / t.size) t.dflt) (j % t.size)
  | .pair a b, x, j => if j < a.size then a.cell x.1 j else b.cell x.2 (j - a.size)
  | .tup _, _, _ => fun _ _ _ => False
  | .ifn, _, _ => fun _ _ v => v = .nilIface
  | .ifc T t r, x, _ => match x with
    | .inl y => fun w G v => ∃ u, v = .iface T u ∧ u.oneCell' = true ∧ t.cell y 0 w G u
    | .inr y => r.cell y 0

/-- A value. -/
def DT.val (t : DT) (x : t.den) : CP := fun w G v =>
  if t.agg = true then ∃ vs : Array Value, v = .agg vs ∧ vs.size = t.size ∧ ∀ j, j < t.size → ∃ u, vs[j]? = some u ∧ u.oneCell' = true ∧ t.cell x j w G u
  else t.cell x 0 w G v

/-- How the world goes on, for what is frozen. -/
def FzTo (w : World) (G : Nat → Prop) (w' : World) (G' : Nat → Prop) : Prop := ∀ b, G b → G' b ∧ w'.heap[b]? = w.heap[b]?

theorem FzTo.cell {w w' : World} {G G' : Nat → Prop} (h : FzTo w G w' G') {b o : Nat} (hb : G b) : w'.cell? ⟨b, o, none⟩ = w.cell? ⟨b, o, none⟩ :=
  World.cell?_of_block (w := w) (a := ⟨b, o, none⟩) (h b hb).2

theorem SlP.mono {w w' : World} {G G' : Nat → Prop} (h : FzTo w G w' G') {fl : Option Addr → Nat → Nat → Prop} {k n : Nat} {f g : Nat → Nat → CP} (hf : ∀ i c v, f i c w G v → g i c w' G' v) {v : Value} (hv : SlP fl k n f w G v) : SlP fl k n g w' G' v := by
  obtain ⟨p, cap, h1, h2, h3, h4, h5, h6⟩ := hv
  refine ⟨p, cap, h1, h2, h3, h4, h5, fun hn => ?_⟩
  obtain ⟨b, o, a1, a2, a3⟩ := h6 hn
  refine ⟨b, o, a1, (h b a2).1, fun i hi c hc => ?_⟩
  obtain ⟨u, b1, b2, b3⟩ := a3 i hi c hc
  exact ⟨u, (h.cell a2).trans b1, b2, hf i c u b3⟩

theorem DT.cell_mono {w w' : World} {G G' : Nat → Prop} (h : FzTo w G w' G') : ∀ {t : DT} {x : t.den} {j : Nat} {v : Value}, t.cell x j w G v → t.cell x j w' G' v := by
  intro t
  induction t with
  | unit => intro x j v hv; exact hv
  | int k => intro x j v hv; exact hv
  | bool => intro x j v hv; exact hv
  | str => intro x j v hv; exact hv
  | sl t ih => intro x j v hv; exact SlP.mono h (fun i c v hv => ih hv) hv
  | csl t ih => intro x j v hv; exact SlP.mono h (fun i c v hv => ih hv) hv
  | nsl t ih =>
    intro x j v hv
    cases x with
    | none => exact hv
    | some l => exact SlP.mono (fl := fun p _ _ => p ≠ none) (k := t.size) (n := l.length) (f := fun i c => t.cell (l.getD i t.dflt) c) (g := fun i c => t.cell (l.getD i t.dflt) c) h (fun i c v hv => ih hv) hv
  | fp t ih =>
    intro x j v hv
    cases x with
    | none => exact hv
    | some y =>
      obtain ⟨b, o, h1, h2, h3⟩ := hv
      refine ⟨b, o, h1, (h b h2).1, fun c hc => ?_⟩
      obtain ⟨u, b1, b2, b3⟩ := h3 c hc
      exact ⟨u, (h.cell h2).trans b1, b2, ih b3⟩
  | arr n t ih => intro x j v hv; exact ih (x := x.getD (j / t.size) t.dflt) (j := j % t.size) hv
  | pair a b iha ihb =>
    intro x j v hv
    simp only [DT.cell] at hv ⊢
    split
    · rename_i hj; rw [if_pos hj] at hv; exact iha hv
    · rename_i hj; rw [if_neg hj] at hv; exact ihb hv
  | tup t ih => intro x j v hv; exact hv
  | ifn => intro x j v hv; exact hv
  | ifc T t r iht ihr =>
    intro x j v hv
    cases x with
    | inl y => obtain ⟨u, h1, h2, h3⟩ := hv; exact ⟨u, h1, h2, iht h3⟩
    | inr y => exact ihr (x := y) (j := 0) hv

theorem DT.val_mono {w w' : World} {G G' : Nat → Prop} (h : FzTo w G w' G') {t : DT} {x : t.den} {v : Value} (hv : t.val x w G v) : t.val x w' G' v := by
  unfold DT.val at hv ⊢
  split at hv
  · rename_i ha
    obtain ⟨vs, h1, h2, h3⟩ := hv
    rw [if_pos ha]
    refine ⟨vs, h1, h2, fun j hj => ?_⟩
    obtain ⟨u, a1, a2, a3⟩ := h3 j hj
    exact ⟨u, a1, a2, DT.cell_mono h a3⟩
  · rename_i ha; rw [if_neg ha]; exact DT.cell_mono h hv

theorem SlP.one {w : World} {G : Nat → Prop} {fl : Option Addr → Nat → Nat → Prop} {k n : Nat} {f : Nat → Nat → CP} {v : Value} (h : SlP fl k n f w G v) : v.oneCell' = true := by
  obtain ⟨p, cap, rfl, _⟩ := h; rfl

/-- A cell's value is one cell. -/
theorem DT.cell_one {w : World} {G : Nat → Prop} : ∀ {t : DT} {x : t.den} {j : Nat} {v : Value}, t.cell x j w G v → v.oneCell' = true := by
  intro t
  induction t with
  | unit => intro x j v hv; exact hv.elim
  | int k => intro x j v hv; have : v = _ := hv; subst this; rfl
  | bool => intro x j v hv; have : v = _ := hv; subst this; rfl
  | str => intro x j v hv; have : v = _ := hv; subst this; rfl
  | sl t ih => intro x j v hv; exact SlP.one hv
  | csl t ih => intro x j v hv; exact SlP.one hv
  | nsl t ih =>
    intro x j v hv
    cases x with
    | none => have : v = _ := hv; subst this; rfl
    | some l => exact SlP.one (fl := fun p _ _ => p ≠ none) (k := t.size) (n := l.length) (f := fun i c => t.cell (l.getD i t.dflt) c) hv
  | fp t ih =>
    intro x j v hv
    cases x with
    | none => have : v = _ := hv; subst this; rfl
    | some y => obtain ⟨b, o, rfl, _⟩ := hv; rfl
  | arr n t ih => intro x j v hv; exact ih (x := x.getD (j / t.size) t.dflt) (j := j % t.size) hv
  | pair a b iha ihb =>
    intro x j v hv
    simp only [DT.cell] at hv
    split at hv
    · exact iha hv
    · exact ihb hv
  | tup t ih => intro x j v hv; exact hv.elim
  | ifn => intro x j v hv; have : v = _ := hv; subst this; rfl
  | ifc T t r iht ihr =>
    intro x j v hv
    cases x with
    | inl y => obtain ⟨u, rfl, _⟩ := hv; rfl
    | inr y => exact ihr (x := y) (j := 0) hv

theorem DT.val_agg {t : DT} (ha : t.agg = true) {x : t.den} {w : World} {G : Nat → Prop} {v : Value} : t.val x w G v ↔ ∃ vs : Array Value, v = .agg vs ∧ vs.size = t.size ∧ ∀ j, j < t.size → ∃ u, vs[j]? = some u ∧ u.oneCell' = true ∧ t.cell x j w G u := by
  unfold DT.val; rw [if_pos ha]
theorem DT.val_one {t : DT} (ha : t.agg = false) {x : t.den} {w : World} {G : Nat → Prop} {v : Value} : t.val x w G v ↔ t.cell x 0 w G v := by
  unfold DT.val; rw [if_neg (by simp [ha])]

theorem DT.size_one {t : DT} (ha : t.agg = false) (hp : t.plain = true) : t.size = 1 := by
  cases t <;> first | rfl | (simp [DT.agg] at ha; done) | (simp [DT.plain] at hp; done)

/-- A value's cells, all of them. -/
theorem DT.val_cells {t : DT} (hp : t.plain = true) {x : t.den} {w : World} {G : Nat → Prop} {v : Value} (h : t.val x w G v) : v.cells.size = t.size ∧ ∀ c, c < t.size → ∃ u, v.cells[c]? = some u ∧ u.oneCell' = true ∧ t.cell x c w G u := by
  cases ha : t.agg with
  | true =>
    rw [DT.val_agg ha] at h
    obtain ⟨vs, rfl, h2, h3⟩ := h
    exact ⟨h2, h3⟩
  | false =>
    rw [DT.val_one ha] at h
    have h1 := DT.cell_one h
    have hc : v.cells = #[v] := by cases v <;> first | rfl | (simp [Value.oneCell'] at h1)
    have hs := DT.size_one ha hp
    rw [hc, hs]
    refine ⟨rfl, fun c hc => ?_⟩
    obtain rfl : c = 0 := by omega
    exact ⟨v, rfl, h1, h⟩

/-- A part of a value of type t. -/
structure Lens (t : DT) where
  u : DT
  get : t.den → u.den
  put : t.den → u.den → t.den
  off : Nat
  fits : t.den → Bool

def DT.at : (t : DT) → List Nat → Option (Lens t)
  | t, [] => some ⟨t, fun x => x, fun _ y => y, 0, fun _ => true⟩
  | .pair a b, i :: p => match i with
    | 0 => match a.at p with
      | some s => some ⟨s.u, fun x => s.get x.1, fun x y => (s.put x.1 y, x.2), s.off, fun x => s.fits x.1⟩
      | none => none
    | j + 1 => match b.at (j :: p) with
      | some s => some ⟨s.u, fun x => s.get x.2, fun x y => (x.1, s.put x.2 y), a.size + s.off, fun x => s.fits x.2⟩
      | none => none
  | .arr n t, i :: p => match t.at p with
    | some s => some ⟨s.u, fun l => s.get (l.getD i t.dflt), fun l y => l.set i (s.put (l.getD i t.dflt) y), i * t.size + s.off, fun l => decide (i < l.length) && s.fits (l.getD i t.dflt)⟩
    | none => none
  | _, _ => none

/-- The indices of a path lie within their arrays. -/
def DT.inb : (t : DT) → List Nat → Prop
  | _, [] => True
  | .pair a b, i :: p => match i with
    | 0 => a.inb p
    | j + 1 => b.inb (j :: p)
  | .arr n t, i :: p => i < n ∧ t.inb p
  | _, _ => False

theorem DT.at_nil (t : DT) : t.at [] = some ⟨t, fun x => x, fun _ y => y, 0, fun _ => true⟩ := by cases t <;> rfl
theorem DT.inb_nil (t : DT) : t.inb [] := by cases t <;> trivial

theorem mul_lt_of {i n k : Nat} (hi : i < n) : i * k + k ≤ n * k := by
  have := Nat.mul_le_mul_right k (Nat.succ_le_of_lt hi)
  rw [Nat.succ_mul] at this; exact this

/-- A part lies within, and its cells are the whole's. -/
theorem DT.at_cell : ∀ {t : DT} {p : List Nat} {s : Lens t}, t.at p = some s → t.inb p → s.off + s.u.size ≤ t.size ∧ ∀ (x : t.den) (c : Nat), c < s.u.size → t.cell x (s.off + c) = s.u.cell (s.get x) c := by
  intro t p s h hb
  match p with
  | [] => rw [DT.at_nil] at h; obtain rfl := Option.some.inj h; exact ⟨by simp, fun x c hc => by simp⟩
  | i :: p =>
  induction t generalizing p i with
  | arr n t ih =>
      simp only [DT.at] at h
      simp only [DT.inb] at hb
      split at h
      · rename_i s' hs'
        obtain rfl := Option.some.inj h
        have key : s'.off + s'.u.size ≤ t.size ∧ ∀ (x : t.den) (c : Nat), c < s'.u.size → t.cell x (s'.off + c) = s'.u.cell (s'.get x) c := by
          match p with
          | [] => rw [DT.at_nil] at hs'; obtain rfl := Option.some.inj hs'; exact ⟨by simp, fun x c hc => by simp⟩
          | j :: p => exact ih j p hs' hb.2
        obtain ⟨h1, h2⟩ := key
        refine ⟨?_, fun x c hc => ?_⟩
        · show i * t.size + s'.off + s'.u.size ≤ n * t.size
          have := mul_lt_of (k := t.size) hb.1
          omega
        · have hc' : c < s'.u.size := hc
          have hpos : 0 < t.size := by omega
          show t.cell (x.getD ((i * t.size + s'.off + c) / t.size) t.dflt) ((i * t.size + s'.off + c) % t.size) = s'.u.cell (s'.get (x.getD i t.dflt)) c
          rw [show i * t.size + s'.off + c = (s'.off + c) + i * t.size by omega, Nat.add_mul_div_right _ _ hpos, Nat.add_mul_mod_self_right, Nat.div_eq_of_lt (by omega), Nat.mod_eq_of_lt (by omega), Nat.zero_add]
          exact h2 _ c hc'
      · cases h
  | pair a b iha ihb =>
      cases i with
      | zero =>
        simp only [DT.at] at h
        simp only [DT.inb] at hb
        split at h
        · rename_i s' hs'
          obtain rfl := Option.some.inj h
          have key : s'.off + s'.u.size ≤ a.size ∧ ∀ (x : a.den) (c : Nat), c < s'.u.size → a.cell x (s'.off + c) = s'.u.cell (s'.get x) c := by
            match p with
            | [] => rw [DT.at_nil] at hs'; obtain rfl := Option.some.inj hs'; exact ⟨by simp, fun x c hc => by simp⟩
            | j :: p => exact iha j p hs' hb
          obtain ⟨h1, h2⟩ := key
          refine ⟨?_, fun x c hc => ?_⟩
          · show s'.off + s'.u.size ≤ a.size + b.size; omega
          · have hc' : c < s'.u.size := hc
            show (if s'.off + c < a.size then a.cell x.1 (s'.off + c) else _) = _
            rw [if_pos (by omega)]; exact h2 _ c hc'
        · cases h
      | succ i =>
        simp only [DT.at] at h
        simp only [DT.inb] at hb
        split at h
        · rename_i s' hs'
          obtain rfl := Option.some.inj h
          obtain ⟨h1, h2⟩ := ihb i p hs' hb
          refine ⟨?_, fun x c hc => ?_⟩
          · show a.size + s'.off + s'.u.size ≤ a.size + b.size; omega
          · have hc' : c < s'.u.size := hc
            show (if a.size + s'.off + c < a.size then a.cell x.1 _ else b.cell x.2 (a.size + s'.off + c - a.size)) = _
            rw [if_neg (by omega), show a.size + s'.off + c - a.size = s'.off + c by omega]; exact h2 _ c hc'
        · cases h
  | _ => simp [DT.at] at h

theorem getD_set_eq {α : Type} (l : List α) (i : Nat) (x d : α) (h : i < l.length) : (l.set i x).getD i d = x := by simp [h]
theorem getD_set_ne {α : Type} (l : List α) (i j : Nat) (x d : α) (h : i ≠ j) : (l.set i x).getD j d = l.getD j d := by simp [List.getD, List.getElem?_set_ne h]

/-- A value with a part exchanged. -/
theorem DT.at_put : ∀ {t : DT} {p : List Nat} {s : Lens t}, t.at p = some s → t.inb p → ∀ (x : t.den) (y : s.u.den), s.fits x = true → ∀ c, c < t.size → t.cell (s.put x y) c = if s.off ≤ c ∧ c < s.off + s.u.size then s.u.cell y (c - s.off) else t.cell x c := by
  intro t p s h hb
  match p with
  | [] => rw [DT.at_nil] at h; obtain rfl := Option.some.inj h; intro x y hf c hc; simp; intro h; omega
  | i :: p =>
  induction t generalizing p i with
  | arr n t ih =>
      simp only [DT.at] at h
      simp only [DT.inb] at hb
      split at h
      · rename_i s' hs'
        obtain rfl := Option.some.inj h
        obtain ⟨h1, h2⟩ := DT.at_cell hs' hb.2
        have key : ∀ (x : t.den) (y : s'.u.den), s'.fits x = true → ∀ c, c < t.size → t.cell (s'.put x y) c = if s'.off ≤ c ∧ c < s'.off + s'.u.size then s'.u.cell y (c - s'.off) else t.cell x c := by
          match p with
          | [] => rw [DT.at_nil] at hs'; obtain rfl := Option.some.inj hs'; intro x y hf c hc; simp; intro h; omega
          | j :: p => exact ih j p hs' hb.2
        intro x y hf c hc
        simp only [Bool.and_eq_true, decide_eq_true_eq] at hf
        have hc' : c < n * t.size := hc
        have hpos : 0 < t.size := by
          rcases Nat.eq_zero_or_pos t.size with h | h
          · rw [h] at hc'; simp at hc'
          · exact h
        have hm : c % t.size < t.size := Nat.mod_lt _ hpos
        have hd : c = t.size * (c / t.size) + c % t.size := (Nat.div_add_mod c t.size).symm
        show t.cell ((x.set i (s'.put (x.getD i t.dflt) y)).getD (c / t.size) t.dflt) (c % t.size) = if i * t.size + s'.off ≤ c ∧ c < i * t.size + s'.off + s'.u.size then s'.u.cell y (c - (i * t.size + s'.off)) else t.cell (x.getD (c / t.size) t.dflt) (c % t.size)
        by_cases e : i = c / t.size
        · rw [← e, getD_set_eq _ _ _ _ hf.1, key _ y hf.2 _ hm]
          rw [← e, Nat.mul_comm] at hd
          by_cases q : s'.off ≤ c % t.size ∧ c % t.size < s'.off + s'.u.size
          · rw [if_pos q, if_pos (by omega), show c - (i * t.size + s'.off) = c % t.size - s'.off by omega]
          · rw [if_neg q, if_neg (by omega)]
        · rw [getD_set_ne _ _ _ _ _ e, if_neg]
          intro ⟨q1, q2⟩
          apply e
          have : c / t.size = i := by
            rw [show c = (c - i * t.size) + i * t.size by omega, Nat.add_mul_div_right _ _ hpos, Nat.div_eq_of_lt (by omega), Nat.zero_add]
          exact this.symm
      · cases h
  | pair a b iha ihb =>
      cases i with
      | zero =>
        simp only [DT.at] at h
        simp only [DT.inb] at hb
        split at h
        · rename_i s' hs'
          obtain rfl := Option.some.inj h
          obtain ⟨h1, h2⟩ := DT.at_cell hs' hb
          have key : ∀ (x : a.den) (y : s'.u.den), s'.fits x = true → ∀ c, c < a.size → a.cell (s'.put x y) c = if s'.off ≤ c ∧ c < s'.off + s'.u.size then s'.u.cell y (c - s'.off) else a.cell x c := by
            match p with
            | [] => rw [DT.at_nil] at hs'; obtain rfl := Option.some.inj hs'; intro x y hf c hc; simp; intro h; omega
            | j :: p => exact iha j p hs' hb
          intro x y hf c hc
          show (if c < a.size then a.cell (s'.put x.1 y) c else b.cell x.2 (c - a.size)) = if s'.off ≤ c ∧ c < s'.off + s'.u.size then s'.u.cell y (c - s'.off) else (if c < a.size then a.cell x.1 c else b.cell x.2 (c - a.size))
          by_cases q : c < a.size
          · rw [if_pos q, if_pos q]; exact key _ y hf _ q
          · rw [if_neg q, if_neg q, if_neg (by omega)]
        · cases h
      | succ i =>
        simp only [DT.at] at h
        simp only [DT.inb] at hb
        split at h
        · rename_i s' hs'
          obtain rfl := Option.some.inj h
          obtain ⟨h1, h2⟩ := DT.at_cell hs' hb
          intro x y hf c hc
          have hc' : c < a.size + b.size := hc
          show (if c < a.size then a.cell x.1 c else b.cell (s'.put x.2 y) (c - a.size)) = if a.size + s'.off ≤ c ∧ c < a.size + s'.off + s'.u.size then s'.u.cell y (c - (a.size + s'.off)) else (if c < a.size then a.cell x.1 c else b.cell x.2 (c - a.size))
          by_cases q : c < a.size
          · rw [if_pos q, if_pos q, if_neg (by omega)]
          · rw [if_neg q, if_neg q, ihb i p hs' hb _ y hf _ (by omega)]
            by_cases q2 : s'.off ≤ c - a.size ∧ c - a.size < s'.off + s'.u.size
            · rw [if_pos q2, if_pos (by omega), show c - (a.size + s'.off) = c - a.size - s'.off by omega]
            · rw [if_neg q2, if_neg (by omega)]
        · cases h
  | _ => simp [DT.at] at h

/-- One step further down. -/
theorem DT.at_step : ∀ {t : DT} {p : List Nat} {s : Lens t} {i : Nat} {r : Lens s.u}, t.at p = some s → s.u.at [i] = some r → ∃ q, t.at (p ++ [i]) = some q ∧ q.u = r.u ∧ q.off = s.off + r.off := by
  intro t p s i r h hr
  match p with
  | [] => rw [DT.at_nil] at h; obtain rfl := Option.some.inj h; exact ⟨r, hr, rfl, by simp⟩
  | i' :: p =>
  induction t generalizing p i' with
  | arr n t ih =>
      simp only [DT.at] at h
      split at h
      · rename_i s' hs'
        obtain rfl := Option.some.inj h
        have key : ∃ q, t.at (p ++ [i]) = some q ∧ q.u = r.u ∧ q.off = s'.off + r.off := by
          match p with
          | [] => rw [DT.at_nil] at hs'; obtain rfl := Option.some.inj hs'; exact ⟨r, hr, rfl, by simp⟩
          | j :: p => exact ih hr j p hs'
        obtain ⟨q, h1, h2, h3⟩ := key
        simp only [List.cons_append, DT.at, h1]
        exact ⟨_, rfl, h2, by show i' * t.size + q.off = i' * t.size + s'.off + r.off; omega⟩
      · cases h
  | pair a b iha ihb =>
      cases i' with
      | zero =>
        simp only [DT.at] at h
        split at h
        · rename_i s' hs'
          obtain rfl := Option.some.inj h
          have key : ∃ q, a.at (p ++ [i]) = some q ∧ q.u = r.u ∧ q.off = s'.off + r.off := by
            match p with
            | [] => rw [DT.at_nil] at hs'; obtain rfl := Option.some.inj hs'; exact ⟨r, hr, rfl, by simp⟩
            | j :: p => exact iha hr j p hs'
          obtain ⟨q, h1, h2, h3⟩ := key
          simp only [List.cons_append, DT.at, h1]
          exact ⟨_, rfl, h2, h3⟩
        · cases h
      | succ i' =>
        simp only [DT.at] at h
        split at h
        · rename_i s' hs'
          obtain rfl := Option.some.inj h
          obtain ⟨q, h1, h2, h3⟩ := ihb hr i' p hs'
          simp only [List.cons_append] at h1
          simp only [List.cons_append, DT.at, h1]
          exact ⟨_, rfl, h2, by show a.size + q.off = a.size + s'.off + r.off; omega⟩
        · cases h
  | _ => simp [DT.at] at h

/-- A path's index stays within the arrays. -/
theorem DT.inb_step : ∀ {t : DT} {p : List Nat} {s : Lens t} {i : Nat}, t.at p = some s → t.inb p → s.u.inb [i] → t.inb (p ++ [i]) := by
  intro t p s i h hb hi
  match p with
  | [] => rw [DT.at_nil] at h; obtain rfl := Option.some.inj h; exact hi
  | i' :: p =>
  induction t generalizing p i' with
  | arr n t ih =>
      simp only [DT.at] at h
      simp only [DT.inb] at hb
      split at h
      · rename_i s' hs'
        obtain rfl := Option.some.inj h
        simp only [List.cons_append, DT.inb]
        refine ⟨hb.1, ?_⟩
        match p with
        | [] => rw [DT.at_nil] at hs'; obtain rfl := Option.some.inj hs'; exact hi
        | j :: p => exact ih hi j p hs' hb.2
      · cases h
  | pair a b iha ihb =>
      cases i' with
      | zero =>
        simp only [DT.at] at h
        simp only [DT.inb] at hb
        split at h
        · rename_i s' hs'
          obtain rfl := Option.some.inj h
          show a.inb (p ++ [i])
          match p with
          | [] => rw [DT.at_nil] at hs'; obtain rfl := Option.some.inj hs'; exact hi
          | j :: p => exact iha hi j p hs' hb
        · cases h
      | succ i' =>
        simp only [DT.at] at h
        simp only [DT.inb] at hb
        split at h
        · rename_i s' hs'
          obtain rfl := Option.some.inj h
          exact ihb hi i' p hs' hb
        · cases h
  | _ => simp [DT.at] at h

end Go.Proofs.YtbjfbbfglkmadaaDoor
