/-
  Lifting Go functions to plain Lean functions, part F: what is told of types; operations that turn no memory.
-/
import Derived.Test.YtbjfbbfglkmadaaDoorQE
namespace Go.Proofs.YtbjfbbfglkmadaaDoor
open Go.RowKit
set_option linter.unusedVariables false

/-- Every cell of the value is one cell. -/
def Flat (u : Value) : Prop := ∀ c ∈ u.cells, c.oneCell' = true

/-- What the logic is told of a type. kd: 0 nothing, 1 one cell, 2 a slice, 3 an array, 4 a struct. st: strings. eqd: values that are compared by ==. -/
structure TD where
  kd : Nat := 0
  size : Nat := 1
  zero : Value := undef
  elem : Nat := 0
  eb : Nat := 0
  ez : Value := undef
  len : Nat := 0
  offs : List (Nat × Nat) := []
  ik : Option IntKind := none
  bl : Bool := false
  st : Bool := false
  mp : Option (Nat × Nat) := none
  eqd : Option DT := none
  one1 : Bool := false
  mkv : Option (DT × DT) := none
  mth : List (String × Nat) := []
  pt : Bool := false

/-- Are two values equal? (Where == may ask.) -/
def DT.beq : (t : DT) → t.den → t.den → Bool
  | .unit, _, _ => true
  | .int _, a, b => decide ((a : Int) = b)
  | .bool, a, b => a == b
  | .str, a, b => a == b
  | .arr n t, a, b => (List.range n).all fun i => t.beq (a.getD i t.dflt) (b.getD i t.dflt)
  | .pair t u, a, b => t.beq a.1 b.1 && u.beq a.2 b.2
  | _, _, _ => false

/-- Keys of maps, as data. -/
structure MapKey (P : Program) (k : TypeId) (t : DT) : Prop where
  plain : t.plain = true
  check : ∀ (x : t.den) (w : World) (G : Nat → Prop) (v : Value) (b : Bool), t.val x w G v → (Instr.checkKey b 10000 k v).run P w = .ok () w
  under : ∃ d, P.underlying k = some d ∧ ((∀ (x y : t.den) (w : World) (G : Nat → Prop) (u v : Value), t.val x w G u → t.val y w G v → Instr.sameNow d u v = some (t.beq x y)) ∨
    ((∀ (x y : t.den) (w : World) (G : Nat → Prop) (u v : Value), t.val x w G u → t.val y w G v → Instr.sameNow d u v = none) ∧ ∀ (x y : t.den) (w : World) (G : Nat → Prop) (u v : Value), t.val x w G u → t.val y w G v → (Op.equal k u v).run P w = .ok (t.beq x y) w))
  same : ∀ (x y : t.den) (w : World) (G : Nat → Prop) (u v : Value), t.val x w G u → t.val y w G v → t.beq x y = true → Instr.sameBits 10000 v u = true

/-- Zero values, as data. -/
def isZero0 (v : Value) (t : DT) : Prop := ∀ (w : World) (G : Nat → Prop), t.val t.dflt w G v

structure TFact (P : Program) (T : TypeId) (d : TD) : Prop where
  info : d.kd ≠ 0 → ∃ i, P.info? T = some i ∧ i.size = d.size ∧ i.zero = some d.zero
  zc : d.kd ≠ 0 → d.zero.cells.size = d.size ∧ Flat d.zero ∧ (∀ cs, d.zero = .agg cs → 2 < d.kd) ∧ 0 < d.size
  one : d.kd = 1 ∨ d.kd = 2 → d.size = 1 ∧ ∀ (w : World), (isAgg T).run P w = .ok false w
  many : d.kd = 3 ∨ d.kd = 4 → (∃ cs, d.zero = .agg cs) ∧ ∀ (w : World), (isAgg T).run P w = .ok true w
  sl : d.kd = 2 → ∃ e ie, P.underlying T = some (.slice e) ∧ P.info? e = some ie ∧ ie.size = d.elem ∧ ie.bytes = d.eb ∧ ie.zero = some d.ez ∧ d.ez.cells.size = d.elem ∧ Flat d.ez ∧ 0 < d.elem
  arr : d.kd = 3 → ∃ e ie, P.underlying T = some (.array d.len e) ∧ P.info? e = some ie ∧ ie.size = d.elem
  str : d.kd = 4 → ∃ fs, P.underlying T = some (.struct fs) ∧ fs.size = d.offs.length ∧ ∀ (i : Nat) (p : Nat × Nat), d.offs[i]? = some p → ∃ f fi, fs[i]? = some f ∧ f.offset = p.1 ∧ P.info? f.type = some fi ∧ fi.size = p.2 ∧ 0 < p.2
  strp : d.kd = 4 → ∃ fs, P.underlying T = some (.struct fs) ∧ fs.toList.mapM (fun f => (P.info? f.type).map fun i => (f.offset, i.size)) = some d.offs
  int : ∀ k, d.ik = some k → P.underlying T = some (.int k)
  bool : d.bl = true → P.underlying T = some .bool
  string : d.st = true → P.underlying T = some .string
  map : ∀ k v, d.mp = some (k, v) → P.underlying T = some (.map k v)
  mapk : ∀ kt vt, d.mkv = some (kt, vt) → ∃ k v i z, P.underlying T = some (.map k v) ∧ MapKey P k kt ∧ P.info? v = some i ∧ i.zero = some z ∧ isZero0 z vt ∧ vt.plain = true
  one1 : d.one1 = true → ∀ e, P.underlying T = some (.array d.len e) → ∀ w : World, (isAgg e).run P w = .ok false w
  eq : ∀ t, d.eqd = some t → t.agg = true ∧ ∀ (x y : t.den) (u v : Value) (w : World) (G : Nat → Prop) (op : BinOp) (ox oy : Operand), t.val x w G u → t.val y w G v → (eqGuard op T ox oy u v).run P w = .ok () w ∧ (Op.equal T u v).run P w = .ok (t.beq x y) w
  mth : ∀ name g, d.mth.lookup name = some g → ∀ (n : Nat) (v : Value) (w : World), (Go.method (n + 1) T v name).run P w = .ok (g, v) w := by intro name g h; simp at h
  ptr : d.pt = true → ∃ e, P.underlying T = some (.pointer e) := by intro h; simp at h

def TOK (P : Program) (TI : Nat → TD) : Prop := ∀ T, TFact P T (TI T)

theorem cells_one {u : Value} (h : u.oneCell' = true) : u.cells = #[u] := by cases u <;> first | rfl | (simp [Value.oneCell'] at h)

/-- Cells at a place. -/
def HeldC (w : World) (G : Nat → Prop) (b o : Nat) (u : DT) (y : u.den) : Prop := ∀ c, c < u.size → ∃ z, w.cell? ⟨b, o + c, none⟩ = some z ∧ z.oneCell' = true ∧ u.cell y c w G z

theorem HeldC.part {w : World} {G : Nat → Prop} {b o : Nat} {t : DT} {x : t.den} {p : List Nat} {L : Lens t} (h : HeldC w G b o t x) (hL : t.at p = some L) (hb : t.inb p) : HeldC w G b (o + L.off) L.u (L.get x) := fun c hc => by
  obtain ⟨h1, h2⟩ := DT.at_cell hL hb
  obtain ⟨z, a1, a2, a3⟩ := h (L.off + c) (by omega)
  refine ⟨z, by rw [Nat.add_assoc]; exact a1, a2, ?_⟩
  rw [← h2 x c hc]; exact a3

/-- The type of a loaded part. -/
def okL (d : TD) (u : DT) : Bool := if u.agg then (d.kd == 3 || d.kd == 4) && d.size == u.size else (d.kd == 1 || d.kd == 2) && u.plain

section
variable {P : Program} {TI : Nat → TD}

theorem isAgg_of (hT : TOK P TI) {T : TypeId} (w : World) : ((TI T).kd = 1 ∨ (TI T).kd = 2 → (isAgg T).run P w = .ok false w) ∧ ((TI T).kd = 3 ∨ (TI T).kd = 4 → (isAgg T).run P w = .ok true w) :=
  ⟨fun h => ((hT T).one h).2 w, fun h => ((hT T).many h).2 w⟩

theorem sizeOf_of (hT : TOK P TI) {T : TypeId} (h : (TI T).kd ≠ 0) (w : World) : (sizeOf T).run P w = .ok (TI T).size w := by
  obtain ⟨i, h1, h2, _⟩ := (hT T).info h
  simp [sizeOf, typeInfo, h1, h2]

theorem add_lit (b o n : Nat) : (⟨b, o, none⟩ : Addr).add n = ⟨b, o + n, none⟩ := by unfold Addr.add; split <;> simp_all

theorem run_loadAt_one (hT : TOK P TI) {T : TypeId} {w : World} {b o : Nat} {z : Value} (h : (TI T).kd = 1 ∨ (TI T).kd = 2) (hc : w.cell? ⟨b, o, none⟩ = some z) : (Instr.loadAt T (.pointer (some ⟨b, o, none⟩))).run P w = .ok z w := by
  simp [Instr.loadAt, Instr.sureAddr, loadVar, (isAgg_of hT w).1 h, hc]

theorem run_loadAt_many (hT : TOK P TI) {T : TypeId} {w : World} {b o : Nat} (z : Nat → Value) (h : (TI T).kd = 3 ∨ (TI T).kd = 4) (hc : ∀ j, j < (TI T).size → w.cell? ⟨b, o + j, none⟩ = some (z j)) :
    (Instr.loadAt T (.pointer (some ⟨b, o, none⟩))).run P w = .ok (.agg ((List.range (TI T).size).map z).toArray) w := by
  have hk : (TI T).kd ≠ 0 := by omega
  have h1 := run_loadCells (P := P) w ⟨b, o, none⟩ (TI T).size z (fun j hj => by rw [add_lit]; exact hc j hj)
  simp [Instr.loadAt, Instr.sureAddr, loadVar, (isAgg_of hT w).2 h, sizeOf_of hT hk w, h1]

theorem run_load (hT : TOK P TI) {T : TypeId} {w : World} {G : Nat → Prop} {b o : Nat} {u : DT} {y : u.den} (hk : okL (TI T) u = true) (h : HeldC w G b o u y) : ∃ v, (Instr.loadAt T (.pointer (some ⟨b, o, none⟩))).run P w = .ok v w ∧ u.val y w G v := by
  unfold okL at hk
  cases ha : u.agg with
  | true =>
    simp only [ha, if_true, Bool.and_eq_true, Bool.or_eq_true, beq_iff_eq] at hk
    obtain ⟨hk1, hk2⟩ := hk
    have hch : ∀ j, ∃ z, j < u.size → w.cell? ⟨b, o + j, none⟩ = some z ∧ z.oneCell' = true ∧ u.cell y j w G z := fun j => by
      by_cases hj : j < u.size
      · obtain ⟨z, a⟩ := h j hj; exact ⟨z, fun _ => a⟩
      · exact ⟨undef, fun h => absurd h hj⟩
    obtain ⟨zs, hzs⟩ := Classical.axiomOfChoice hch
    refine ⟨_, run_loadAt_many hT zs hk1 (fun j hj => (hzs j (hk2 ▸ hj)).1), ?_⟩
    rw [DT.val_agg ha]
    refine ⟨_, rfl, by simp [hk2], fun j hj => ?_⟩
    obtain ⟨a1, a2, a3⟩ := hzs j hj
    exact ⟨zs j, by simp [hk2, hj], a2, a3⟩
  | false =>
    simp only [ha, Bool.false_eq_true, if_false, Bool.and_eq_true, Bool.or_eq_true, beq_iff_eq] at hk
    obtain ⟨z, a1, a2, a3⟩ := h 0 (by rw [DT.size_one ha hk.2]; omega)
    exact ⟨z, run_loadAt_one hT hk.1 a1, (DT.val_one ha).2 a3⟩

theorem exec_value {a : Act} {o : Oper} {e : Sem Value} {v : Value} {w w' : World} (h : execOp a.eval o = (do pure (.value (← e)))) (hr : e.run P w = .ok v w') : (execOp a.eval o).run P w = .ok (.value v) w' := by
  rw [h]; simp [hr]

theorem run_equal_bool {t : TypeId} {p q : Bool} {w : World} (h : P.underlying t = some .bool) : (Op.equal t (.bool p) (.bool q)).run P w = .ok (p == q) w := by
  show (Op.equalIn (9999 + 1) t (.bool p) (.bool q)).run P w = _
  unfold Op.equalIn
  simp only [Sem.run_bind, run_underlying h, Result.andThen]
  rfl

theorem binOp_eql_bool (t : TypeId) (p q : Bool) : binOp .eql t (.bool p) (.bool q) = (do pure (.bool (← Op.equal t (.bool p) (.bool q)))) := rfl
theorem binOp_neq_bool (t : TypeId) (p q : Bool) : binOp .neq t (.bool p) (.bool q) = (do pure (.bool (!(← Op.equal t (.bool p) (.bool q))))) := rfl

def pureV : Sem Value → Option Value
  | .pure v => some v
  | _ => none

theorem pureV_run {e : Sem Value} {x : Value} (h : pureV e = some x) (w : World) : e.run P w = .ok x w := by
  cases e with
  | pure v => simp only [pureV, Option.some.injEq] at h; subst h; rfl
  | _ => simp [pureV] at h

end

def ofValue : Value → Option TV
  | .int k n => some (.dv (.int k) n)
  | .bool b => some (.dv .bool b)
  | _ => none

theorem ofValue_ok {v : Value} {x : TV} (h : ofValue v = some x) {w : World} {G : Nat → Prop} {π : Nat → Pl} {O : Obs} : VR w G π O x v := by
  unfold ofValue at h
  split at h
  · obtain rfl := Option.some.inj h; rfl
  · obtain rfl := Option.some.inj h; rfl
  · cases h

/-- Constants that are a type's zero. -/
def isZero1 (v : Value) : (t : DT) → Bool
  | .int k => (match v with | .int k' n => decide (k = k') && decide (n = 0) | _ => false)
  | .bool => (match v with | .bool b => !b | _ => false)
  | .str => (match v with | .string s => s.data.toList.isEmpty | _ => false)
  | .sl _ => (match v with | .slice none 0 0 => true | _ => false)
  | .csl _ => (match v with | .slice none 0 0 => true | _ => false)
  | .nsl _ => (match v with | .slice none 0 0 => true | _ => false)
  | .fp _ => (match v with | .pointer none => true | _ => false)
  | _ => false

def isZeroL : (t : DT) → List Value → Option (List Value)
  | .unit, l => some l
  | .arr n t, l => (List.range n).foldl (fun r _ => r.bind (isZeroL t)) (some l)
  | .pair a b, l => (isZeroL a l).bind (isZeroL b)
  | t, v :: l => if isZero1 v t then some l else none
  | _, [] => none

/-- The slices' own elements, whatever is told of them. -/
def TV.data (L : Obs) : TV → Option (Σ t : DT, List t.den)
  | .dv (.sl t) l => some ⟨t, l⟩
  | .dv (.csl t) l => some ⟨t, l⟩
  | .dv (.nsl t) l => some ⟨t, l.getD []⟩
  | .row id => match L id with
    | some (.row t l) => some ⟨t, l⟩
    | some (.frz t l) => some ⟨t, l⟩
    | _ => none
  | .vrow id a b => match L id with
    | some (.row t l) => some ⟨t, (l.take b).drop a⟩
    | some (.frz t l) => some ⟨t, (l.take b).drop a⟩
    | _ => none
  | _ => none

/-- The frozen ones among them. -/
def TV.fdata (L : Obs) : TV → Option (Σ t : DT, List t.den)
  | .dv (.sl t) l => some ⟨t, l⟩
  | .dv (.csl t) l => some ⟨t, l⟩
  | .dv (.nsl t) l => some ⟨t, l.getD []⟩
  | .row id => match L id with
    | some (.frz t l) => some ⟨t, l⟩
    | _ => none
  | .vrow id a b => match L id with
    | some (.frz t l) => some ⟨t, (l.take b).drop a⟩
    | _ => none
  | _ => none

theorem SlP.weak {w : World} {G : Nat → Prop} {fl : Option Addr → Nat → Nat → Prop} {k n : Nat} {f : Nat → Nat → CP} {v : Value} (h : SlP fl k n f w G v) : SlP (fun _ _ _ => True) k n f w G v := by
  obtain ⟨p, cap, h1, h2, h3, h4, h5, h6⟩ := h
  exact ⟨p, cap, h1, h2, h3, h4, trivial, h6⟩

theorem TV.fdata_ok {w : World} {G : Nat → Prop} {π : Nat → Pl} {O : Obs} {x : TV} {v : Value} {t : DT} {l : List t.den} (h : x.fdata O = some ⟨t, l⟩) (hv : VR w G π O x v) : (DT.sl t).cell l 0 w G v := by
  cases x with
  | dv u y =>
    have hv' : u.val y w G v := hv
    cases u with
    | sl u => simp only [TV.fdata, Option.some.injEq, Sigma.mk.injEq] at h; obtain ⟨rfl, h⟩ := h; obtain rfl := eq_of_heq h; exact (DT.val_one rfl).1 hv'
    | csl u => simp only [TV.fdata, Option.some.injEq, Sigma.mk.injEq] at h; obtain ⟨rfl, h⟩ := h; obtain rfl := eq_of_heq h; exact SlP.weak ((DT.val_one rfl).1 hv')
    | nsl u =>
      simp only [TV.fdata, Option.some.injEq, Sigma.mk.injEq] at h; obtain ⟨rfl, h⟩ := h; obtain rfl := eq_of_heq h
      have h1 := (DT.val_one rfl).1 hv'
      cases y with
      | none => have : v = _ := h1; subst this; exact ⟨none, 0, rfl, Nat.le_refl _, by simp [maxLen], fun _ => rfl, trivial, fun h => by simp at h⟩
      | some y => exact SlP.weak (fl := fun p _ _ => p ≠ none) (k := u.size) (n := y.length) (f := fun i c => u.cell (y.getD i u.dflt) c) h1
    | _ => simp [TV.fdata] at h
  | row id =>
    simp only [VR] at hv
    cases ho : O id with
    | none => rw [ho] at hv; exact hv.elim
    | some o =>
      rw [ho] at hv
      cases o with
      | frz t' l' => simp only [TV.fdata, ho, Option.some.injEq, Sigma.mk.injEq] at h; obtain ⟨rfl, h⟩ := h; obtain rfl := eq_of_heq h; exact hv
      | _ => simp [TV.fdata, ho] at h
  | vrow id a b =>
    simp only [VR] at hv
    cases ho : O id with
    | none => rw [ho] at hv; exact hv.elim
    | some o =>
      rw [ho] at hv
      cases o with
      | frz t' l' => simp only [TV.fdata, ho, Option.some.injEq, Sigma.mk.injEq] at h; obtain ⟨rfl, h⟩ := h; obtain rfl := eq_of_heq h; exact hv
      | _ => simp [TV.fdata, ho] at h
  | _ => simp [TV.fdata] at h

/-- Any slice's head: length and capacity. -/
theorem TV.data_len {w : World} {F : Nat → Prop} {c : Cx} {π : Nat → Pl} {s : TS} {a : Act} (hm : RelM c F π s a w) {x : TV} {v : Value} {t : DT} {l : List t.den} (h : x.data (tlook s.ob) = some ⟨t, l⟩) (hv : VR w (Gz F w π (tlook s.ob)) π (tlook s.ob) x v) : ∃ p cap, v = .slice p l.length cap := by
  have ofF : x.fdata (tlook s.ob) = some ⟨t, l⟩ → ∃ p cap, v = .slice p l.length cap := fun h => by
    obtain ⟨p, cap, h1, _⟩ := TV.fdata_ok h hv; exact ⟨p, cap, h1⟩
  cases x with
  | dv u y => exact ofF (by cases u <;> exact h)
  | row id =>
    simp only [VR] at hv
    cases ho : tlook s.ob id with
    | none => rw [ho] at hv; exact hv.elim
    | some o =>
      rw [ho] at hv
      cases o with
      | frz t' l' => exact ofF (by simp only [TV.fdata, ho]; simp only [TV.data, ho] at h; exact h)
      | row t' l' =>
        simp only [TV.data, ho, Option.some.injEq, Sigma.mk.injEq] at h
        obtain ⟨rfl, h⟩ := h; obtain rfl := eq_of_heq h
        simp only at hv
        subst hv
        unfold Pl.hdr
        rcases hm.obj id _ ho with ⟨h1, h2⟩ | ⟨g, cur, e, h1, _⟩
        · rw [h1]; subst h2; exact ⟨none, 0, rfl⟩
        · rw [h1]; exact ⟨_, _, rfl⟩
      | _ => simp [TV.data, ho] at h
  | vrow id i j =>
    simp only [VR] at hv
    cases ho : tlook s.ob id with
    | none => rw [ho] at hv; exact hv.elim
    | some o =>
      rw [ho] at hv
      cases o with
      | row t' l' =>
        simp only [TV.data, ho, Option.some.injEq, Sigma.mk.injEq] at h
        obtain ⟨rfl, h⟩ := h; obtain rfl := eq_of_heq h
        obtain ⟨h1, h2, p, cp, h3, _⟩ := hv
        refine ⟨p, cp, ?_⟩
        rw [h3]
        congr 1
        simp; omega
      | frz t' l' => exact ofF (by simp only [TV.fdata, ho]; simp only [TV.data, ho] at h; exact h)
      | _ => simp [TV.data, ho] at h
  | _ => simp [TV.data] at h

end Go.Proofs.YtbjfbbfglkmadaaDoor
