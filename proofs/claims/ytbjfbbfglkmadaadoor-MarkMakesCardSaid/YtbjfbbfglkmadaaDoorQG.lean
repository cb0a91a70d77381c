/-
  Lifting Go functions to plain Lean functions, part G: operations that turn no memory, on typed states.
-/
import Derived.Test.YtbjfbbfglkmadaaDoorQF
namespace Go.Proofs.YtbjfbbfglkmadaaDoor
open Go.RowKit
set_option linter.unusedVariables false

/-- A part of an object that is plain data. -/
def TO.part : TO → Nat → List Nat → Option (Σ u : DT, u.den)
  | .row t l, i, p => match t.at p with
    | some L => some ⟨L.u, L.get (l.getD i t.dflt)⟩
    | none => none
  | .rcd fs, _, j :: p => match fs[j]? with
    | some (.dv t x) => match t.at p with
      | some L => some ⟨L.u, L.get x⟩
      | none => none
    | _ => none
  | _, _, _ => none

/-- May one step further down be taken? -/
def DT.inb1 : DT → Nat → Bool
  | .pair _ _, 0 => true
  | .pair _ b, i + 1 => b.inb1 i
  | .arr n _, i => decide (i < n)
  | _, _ => false

theorem DT.inb_arr {n i : Nat} {t : DT} (h : i < n) : (DT.arr n t).inb [i] := by simp only [DT.inb]; exact ⟨h, trivial⟩

theorem DT.inb_of : ∀ {t : DT} {i : Nat}, t.inb1 i = true → t.inb [i]
  | .pair a _, 0, _ => DT.inb_nil a
  | .pair _ b, i + 1, h => DT.inb_of (t := b) h
  | .arr n t, i, h => DT.inb_arr (by simpa [DT.inb1] using h)
  | .unit, _, h => by simp [DT.inb1] at h
  | .int _, _, h => by simp [DT.inb1] at h
  | .bool, _, h => by simp [DT.inb1] at h
  | .str, _, h => by simp [DT.inb1] at h
  | .sl _, _, h => by simp [DT.inb1] at h
  | .csl _, _, h => by simp [DT.inb1] at h
  | .nsl _, _, h => by simp [DT.inb1] at h
  | .fp _, _, h => by simp [DT.inb1] at h
  | .tup _, _, h => by simp [DT.inb1] at h
  | .ifn, _, h => by simp [DT.inb1] at h
  | .ifc _ _ _, _, h => by simp [DT.inb1] at h

theorem TO.part_loc {o : TO} {i c : Nat} {p : List Nat} {u : DT} {y : u.den} (hp : o.part i p = some ⟨u, y⟩) (hc : o.loc i p = some c) (hk : o.okAt i p) {k : Nat} {r : Lens u} (hr : u.at [k] = some r) (hi : u.inb1 k = true) :
    o.loc i (p ++ [k]) = some (c + r.off) ∧ o.okAt i (p ++ [k]) ∧ o.part i (p ++ [k]) = some ⟨r.u, r.get y⟩ := by
  have hib := DT.inb_of hi
  have aux : ∀ {t : DT} {p : List Nat} {L : Lens t} {x : t.den}, t.at p = some L → t.inb p → ∀ {u : DT} {y : u.den}, (⟨L.u, L.get x⟩ : Σ u : DT, u.den) = ⟨u, y⟩ → ∀ {r : Lens u}, u.at [k] = some r → u.inb [k] → ∃ q, t.at (p ++ [k]) = some q ∧ t.inb (p ++ [k]) ∧ q.off = L.off + r.off ∧ (⟨q.u, q.get x⟩ : Σ u : DT, u.den) = ⟨r.u, r.get y⟩ := by
    intro t p L x hL hb
    intro u y he r hr hib
    have hstep : ∀ {t : DT} {p : List Nat} {L : Lens t}, t.at p = some L → ∀ {r : Lens L.u}, L.u.at [k] = some r → ∃ q, t.at (p ++ [k]) = some q ∧ q.off = L.off + r.off ∧ ∀ x, (⟨q.u, q.get x⟩ : Σ u : DT, u.den) = ⟨r.u, r.get (L.get x)⟩ := by
      intro t
      induction t with
      | arr n t ih =>
        intro p L h r hr
        cases p with
        | nil => rw [DT.at_nil] at h; obtain rfl := Option.some.inj h; exact ⟨r, hr, by simp, fun x => rfl⟩
        | cons i p =>
          simp only [DT.at] at h
          split at h
          · rename_i s' hs'
            obtain rfl := Option.some.inj h
            obtain ⟨q, a1, a2, a3⟩ := ih hs' hr
            simp only [List.cons_append, DT.at, a1]
            exact ⟨_, rfl, by show i * t.size + q.off = i * t.size + s'.off + r.off; omega, fun x => a3 _⟩
          · cases h
      | pair a b iha ihb =>
        intro p L h r hr
        cases p with
        | nil => rw [DT.at_nil] at h; obtain rfl := Option.some.inj h; exact ⟨r, hr, by simp, fun x => rfl⟩
        | cons i p =>
          cases i with
          | zero =>
            simp only [DT.at] at h
            split at h
            · rename_i s' hs'
              obtain rfl := Option.some.inj h
              obtain ⟨q, a1, a2, a3⟩ := iha hs' hr
              simp only [List.cons_append, DT.at, a1]
              exact ⟨_, rfl, a2, fun x => a3 _⟩
            · cases h
          | succ i =>
            simp only [DT.at] at h
            split at h
            · rename_i s' hs'
              obtain rfl := Option.some.inj h
              obtain ⟨q, a1, a2, a3⟩ := ihb hs' hr
              simp only [List.cons_append] at a1
              simp only [List.cons_append, DT.at, a1]
              exact ⟨_, rfl, by show a.size + q.off = a.size + s'.off + r.off; omega, fun x => a3 _⟩
            · cases h
      | _ =>
        intro p L h r hr
        cases p with
        | nil => rw [DT.at_nil] at h; obtain rfl := Option.some.inj h; exact ⟨r, hr, by simp, fun x => rfl⟩
        | cons i p => simp [DT.at] at h
    simp only [Sigma.mk.injEq] at he
    obtain ⟨rfl, he⟩ := he
    obtain rfl := eq_of_heq he
    obtain ⟨q, a1, a2, a3⟩ := hstep hL hr
    exact ⟨q, a1, DT.inb_step hL hb hib, a2, a3 x⟩
  cases o with
  | row t l =>
    simp only [TO.part] at hp
    cases hL : t.at p with
    | none => rw [hL] at hp; cases hp
    | some L =>
      rw [hL] at hp
      simp only [TO.loc, hL, Option.map_some, Option.some.injEq] at hc
      subst hc
      obtain ⟨q, a1, a2, a3, a4⟩ := aux (x := l.getD i t.dflt) hL hk.2 (Option.some.inj hp) hr hib
      refine ⟨?_, ⟨hk.1, a2⟩, ?_⟩
      · simp only [TO.loc, a1, Option.map_some, a3, Nat.add_assoc]
      · simp only [TO.part, a1]; exact congrArg some a4
  | rcd fs =>
    cases p with
    | nil => simp [TO.part] at hp
    | cons j p =>
      simp only [TO.part] at hp
      cases hj : fs[j]? with
      | none => rw [hj] at hp; cases hp
      | some z =>
        rw [hj] at hp
        cases z with
        | dv t x =>
          simp only at hp
          cases hL : t.at p with
          | none => rw [hL] at hp; cases hp
          | some L =>
            rw [hL] at hp
            simp only [TO.loc, hj, TV.floc, hL, Option.map_some, Option.some.injEq] at hc
            subst hc
            simp only [TO.okAt, hj, TV.finb] at hk
            obtain ⟨q, a1, a2, a3, a4⟩ := aux (x := x) hL hk (Option.some.inj hp) hr hib
            refine ⟨?_, ?_, ?_⟩
            · simp only [List.cons_append, TO.loc, hj, TV.floc, a1, Option.map_some, a3, Nat.add_assoc]
            · simp only [List.cons_append, TO.okAt, hj, TV.finb]; exact a2
            · simp only [List.cons_append, TO.part, hj, a1]; exact congrArg some a4
        | _ => cases hp
  | _ => simp [TO.part] at hp

section
variable {P : Program} {TI : Nat → TD} {c : Cx} {F : Nat → Prop} {s : TS} {π : Nat → Pl} {a : Act} {w : World}

/-- A part of an object, in memory. -/
theorem RelM.part (hm : RelM c F π s a w) {id i : Nat} {p : List Nat} {o : TO} (ho : tlook s.ob id = some o) {v : Value} (hv : VR w (Gz F w π (tlook s.ob)) π (tlook s.ob) (.ptr id i p) v) {u : DT} {y : u.den} (hp : o.part i p = some ⟨u, y⟩) :
    ∃ g k, o.loc i p = some k ∧ o.okAt i p ∧ (π id).g = some g ∧ v = .pointer (some ⟨g, (π id).q + k, none⟩) ∧ HeldC w (Gz F w π (tlook s.ob)) g ((π id).q + k) u y := by
  simp only [VR, ho] at hv
  have hor := hm.obj id o ho
  cases o with
  | row t l =>
    obtain ⟨k, g, h1, h2, h3, h4⟩ := hv rfl
    refine ⟨g, k, h1, h2, h3, h4, fun e he => ?_⟩
    simp only [TO.part] at hp
    cases hL : t.at p with
    | none => rw [hL] at hp; cases hp
    | some L =>
      rw [hL] at hp
      simp only [Option.some.injEq, Sigma.mk.injEq] at hp
      obtain ⟨rfl, hp⟩ := hp
      obtain rfl := eq_of_heq hp
      simp only [TO.loc, hL, Option.map_some, Option.some.injEq] at h1
      subst h1
      obtain ⟨b1, b2⟩ := DT.at_cell hL h2.2
      rcases hor with ⟨q1, rfl⟩ | ⟨g', cur, e', q1, q2, q3, q4, q5, q6⟩
      · simp [TO.okAt] at h2
      · rw [h3] at q1; obtain rfl := Option.some.inj q1
        obtain ⟨z, a1, a2, a3⟩ := q6 i h2.1 (L.off + e) (by omega)
        refine ⟨z, by rw [cell_at q2, ← a1]; congr 1; omega, a2, ?_⟩
        rw [← b2 _ e he]; exact a3
  | rcd fs =>
    obtain ⟨k, g, h1, h2, h3, h4⟩ := hv rfl
    refine ⟨g, k, h1, h2, h3, h4, fun e he => ?_⟩
    cases p with
    | nil => simp [TO.part] at hp
    | cons j p =>
      simp only [TO.part] at hp
      cases hj : fs[j]? with
      | none => rw [hj] at hp; cases hp
      | some z =>
        rw [hj] at hp
        cases z with
        | dv t x =>
          simp only at hp
          cases hL : t.at p with
          | none => rw [hL] at hp; cases hp
          | some L =>
            rw [hL] at hp
            simp only [Option.some.injEq, Sigma.mk.injEq] at hp
            obtain ⟨rfl, hp⟩ := hp
            obtain rfl := eq_of_heq hp
            simp only [TO.loc, hj, TV.floc, hL, Option.map_some, Option.some.injEq] at h1
            subst h1
            simp only [TO.okAt, hj, TV.finb] at h2
            obtain ⟨b1, b2⟩ := DT.at_cell hL h2
            obtain ⟨g', cur, e', q1, q2, q3⟩ := hor
            rw [h3] at q1; obtain rfl := Option.some.inj q1
            obtain ⟨z, a1, a2, a3⟩ := q3 j _ hj (L.off + e) (by simp only [TV.size]; omega)
            refine ⟨z, by rw [cell_at q2, ← a1]; congr 1; omega, a2, ?_⟩
            rw [← b2 _ e he]; exact a3
        | _ => cases hp
  | _ => simp [TO.part] at hp

/-- A field that is one cell, in memory. -/
theorem RelM.field (hm : RelM c F π s a w) {id i j : Nat} {fs : List TV} (ho : tlook s.ob id = some (.rcd fs)) {v : Value} (hv : VR w (Gz F w π (tlook s.ob)) π (tlook s.ob) (.ptr id i [j]) v) {x : TV} (hj : fs[j]? = some x) (hx : ∀ t y, x ≠ .dv t y) :
    ∃ g z, (π id).g = some g ∧ v = .pointer (some ⟨g, (π id).q + offs fs j, none⟩) ∧ w.cell? ⟨g, (π id).q + offs fs j, none⟩ = some z ∧ VR w (Gz F w π (tlook s.ob)) π (tlook s.ob) x z := by
  simp only [VR, ho] at hv
  obtain ⟨k, g, h1, h2, h3, h4⟩ := hv rfl
  obtain ⟨g', cur, e', q1, q2, q3⟩ := hm.obj id _ ho
  rw [h3] at q1; obtain rfl := Option.some.inj q1
  have hk : k = offs fs j := by
    simp only [TO.loc, hj, TV.floc] at h1
    cases x <;> first | exact absurd rfl (hx _ _) | exact (Option.some.inj h1).symm
  subst hk
  have hs : x.size = 1 := by cases x <;> first | exact absurd rfl (hx _ _) | rfl
  obtain ⟨z, a1, a2, a3⟩ := q3 j x hj 0 (by omega)
  refine ⟨g, z, h3, h4, by rw [cell_at q2, ← a1]; rfl, ?_⟩
  cases x <;> first | exact absurd rfl (hx _ _) | exact a3

end

/-- An element's address. -/
def TV.idx (d : TD) (L : Obs) (z : Int) : TV → Option (TV × Bool)
  | .dv (.sl t) l => if d.kd == 2 && d.elem == t.size then some (.el t (l.getD z.toNat t.dflt) [], decide (0 ≤ z ∧ z < (l.length : Int))) else none
  | .dv (.csl t) l => if d.kd == 2 && d.elem == t.size then some (.el t (l.getD z.toNat t.dflt) [], decide (0 ≤ z ∧ z < (l.length : Int))) else none
  | .row id => match L id with
    | some (.row t l) => if d.kd == 2 && d.elem == t.size then some (.ptr id z.toNat [], decide (0 ≤ z ∧ z < (l.length : Int))) else none
    | some (.frz t l) => if d.kd == 2 && d.elem == t.size then some (.el t (l.getD z.toNat t.dflt) [], decide (0 ≤ z ∧ z < (l.length : Int))) else none
    | _ => none
  | .vrow id i j => match L id with
    | some (.row t l) => if d.kd == 2 && d.elem == t.size then some (.ptr id (i + z.toNat) [], decide (0 ≤ z ∧ z < ((j - i : Nat) : Int))) else none
    | some (.frz t l) => if d.kd == 2 && d.elem == t.size then some (.el t (((l.take j).drop i).getD z.toNat t.dflt) [], decide (0 ≤ z ∧ z < (((l.take j).drop i).length : Int))) else none
    | _ => none
  | .ptr id i p => match L id with
    | some o => match o.part i p with
      | some ⟨.arr n u, _⟩ => if d.kd == 3 && d.elem == u.size && d.len == n then some (.ptr id i (p ++ [z.toNat]), decide (0 ≤ z ∧ z < (n : Int))) else none
      | _ => none
    | none => none
  | .view id i p k n a b => match L id, p with
    | some (.rcd fs), [] => if d.kd == 2 && d.elem == k then some (.ptr id (i + (a + z.toNat) * k) [], decide (0 ≤ z ∧ z < ((b - a : Nat) : Int))) else none
    | _, _ => none
  | .el t x p => match t.at p with
    | some L => match L.u with
      | .arr n u => if d.kd == 3 && d.elem == u.size && d.len == n then some (.el t x (p ++ [z.toNat]), decide (0 ≤ z ∧ z < (n : Int))) else none
      | _ => none
    | none => none
  | _ => none

/-- A field's address. -/
def TV.fld (d : TD) (L : Obs) (k : Nat) : TV → Option TV
  | .ptr id i p => match L id with
    | some o => match d.offs[k]? with
      | some (off, _) => match o.part i p with
        | some ⟨u, _⟩ => match u.at [k] with
          | some r => if d.kd == 4 && r.off == off && u.inb1 k then some (.ptr id i (p ++ [k])) else none
          | none => none
        | none => match o, p with
          | .rcd fs, [] => match (List.range fs.length).find? (fun j => offs fs j == i + off) with
            | some j => if d.kd == 4 then some (.ptr id 0 [j]) else none
            | none => none
          | _, _ => none
      | none => none
    | none => none
  | .el t y p => match t.at p with
    | some L' => match L'.u.at [k], d.offs[k]? with
      | some r, some (off, _) => if d.kd == 4 && r.off == off && L'.u.inb1 k then some (.el t y (p ++ [k])) else none
      | _, _ => none
    | none => none
  | _ => none

/-- What lies at an address. -/
def TV.ld (d : TD) (L : Obs) : TV → Option TV
  | .el t x p => match t.at p with
    | some L' => if okL d L'.u then some (.dv L'.u (L'.get x)) else none
    | none => none
  | .ptr id i p => match L id with
    | some o => match o.part i p with
      | some ⟨u, y⟩ => if okL d u then some (.dv u y) else none
      | none => match o, p with
        | .rcd fs, [j] => match fs[j]? with
          | some x => if d.kd == 1 || d.kd == 2 then some x else none
          | none => none
        | _, _ => none
    | none => none
  | _ => none

section
variable {P : Program} {TI : Nat → TD} {c : Cx} {F : Nat → Prop} {s : TS} {π : Nat → Pl} {a : Act} {w : World}

theorem arr_at (n z : Nat) (u : DT) : ∃ r : Lens (.arr n u), (DT.arr n u).at [z] = some r ∧ r.u = u ∧ r.off = z * u.size := by
  simp only [DT.at, DT.at_nil]
  exact ⟨_, rfl, rfl, by simp⟩

theorem run_idx_sl (hT : TOK P TI) {T : TypeId} (hk : (TI T).kd = 2) {b o n cap : Nat} {k : IntKind} {z : Int} (h0 : 0 ≤ z) (h1 : z < (n : Int)) : (Instr.indexAt T (.slice (some ⟨b, o, none⟩) n cap) (.int k z)).run P w = .ok (.pointer (some ⟨b, o + z.toNat * (TI T).elem, none⟩)) w := by
  obtain ⟨e, ie, b1, b2, b3, _⟩ := (hT T).sl hk
  simp [Instr.indexAt, asIntOf, run_underlying b1, sizeOf, typeInfo, b2, b3, h0, h1, add_lit]

theorem run_idx_arr (hT : TOK P TI) {T : TypeId} (hk : (TI T).kd = 3) {b o : Nat} {k : IntKind} {z : Int} (h0 : 0 ≤ z) (h1 : z < ((TI T).len : Int)) : (Instr.indexAt T (.pointer (some ⟨b, o, none⟩)) (.int k z)).run P w = .ok (.pointer (some ⟨b, o + z.toNat * (TI T).elem, none⟩)) w := by
  obtain ⟨e, ie, b1, b2, b3⟩ := (hT T).arr hk
  simp [Instr.indexAt, Instr.sureAddr, asIntOf, run_underlying b1, sizeOf, typeInfo, b2, b3, h0, h1, add_lit]

theorem run_fld (hT : TOK P TI) {T : TypeId} (hk : (TI T).kd = 4) {k off sz : Nat} (ho : (TI T).offs[k]? = some (off, sz)) {b o : Nat} : (Instr.fieldAt T (.pointer (some ⟨b, o, none⟩)) k).run P w = .ok (.pointer (some ⟨b, o + off, none⟩)) w := by
  obtain ⟨fs, b1, b2, b3⟩ := (hT T).str hk
  obtain ⟨f, fi, b4, b5, b6, b7, b8⟩ := b3 k _ ho
  have : fi.size ≠ 0 := by omega
  simp [Instr.fieldAt, Instr.sureAddr, run_underlying b1, b4, fieldPlace, sizeOf, typeInfo, b6, this, add_lit, b5]

theorem idx_frozen (hT : TOK P TI) {T : TypeId} (hk : (TI T).kd = 2) {t : DT} {l : List t.den} {v : Value} {G : Nat → Prop} {O : Obs} (hv : (DT.sl t).cell l 0 w G v) (he : (TI T).elem = t.size) {k : IntKind} {z : Int} (h0 : 0 ≤ z) (h1 : z < (l.length : Int)) :
    ∃ v', (Instr.indexAt T v (.int k z)).run P w = .ok v' w ∧ VR w G π O (.el t (l.getD z.toNat t.dflt) []) v' := by
  obtain ⟨p, cap, rfl, h3, h4, h5, _, h6⟩ := hv
  obtain ⟨b, o, rfl, a2, a3⟩ := h6 (by omega)
  refine ⟨_, run_idx_sl hT hk h0 h1, b, o + z.toNat * t.size, _, DT.at_nil t, DT.inb_nil t, by simp [he], a2, fun e hc => a3 z.toNat (by omega) e hc⟩

theorem TV.idx_ok (hT : TOK P TI) (hm : RelM c F π s a w) {T : TypeId} {x y : TV} {b : Bool} {z : Int} {k : IntKind} (h : x.idx (TI T) (tlook s.ob) z = some (y, b)) (hb : b = true) {v : Value} (hv : VR w (Gz F w π (tlook s.ob)) π (tlook s.ob) x v) :
    ∃ v', (Instr.indexAt T v (.int k z)).run P w = .ok v' w ∧ VR w (Gz F w π (tlook s.ob)) π (tlook s.ob) y v' := by
  have hsl : ∀ {t : DT} {l : List t.den}, (DT.sl t).cell l 0 w (Gz F w π (tlook s.ob)) v → (if (TI T).kd == 2 && (TI T).elem == t.size then some (TV.el t (l.getD z.toNat t.dflt) [], decide (0 ≤ z ∧ z < (l.length : Int))) else none) = some (y, b) → ∃ v', (Instr.indexAt T v (.int k z)).run P w = .ok v' w ∧ VR w (Gz F w π (tlook s.ob)) π (tlook s.ob) y v' := fun {t l} hc h => by
    split at h
    · rename_i hk
      simp only [Bool.and_eq_true, beq_iff_eq] at hk
      simp only [Option.some.injEq, Prod.mk.injEq] at h
      obtain ⟨rfl, rfl⟩ := h
      simp only [decide_eq_true_eq] at hb
      exact idx_frozen hT hk.1 hc hk.2 hb.1 hb.2
    · cases h
  cases x with
  | dv u l =>
    have hv' : u.val l w _ v := hv
    cases u with
    | sl t => exact hsl ((DT.val_one rfl).1 hv') h
    | csl t => exact hsl (t := t) (l := l) (SlP.weak ((DT.val_one rfl).1 hv')) h
    | _ => simp [TV.idx] at h
  | row id =>
    simp only [VR] at hv
    simp only [TV.idx] at h
    cases ho : tlook s.ob id with
    | none => rw [ho] at hv; exact hv.elim
    | some o =>
      rw [ho] at hv h
      cases o with
      | row t l =>
        simp only at hv h
        split at h
        · rename_i hk
          simp only [Bool.and_eq_true, beq_iff_eq] at hk
          simp only [Option.some.injEq, Prod.mk.injEq] at h
          obtain ⟨rfl, rfl⟩ := h
          simp only [decide_eq_true_eq] at hb
          subst hv
          rcases hm.obj id _ ho with ⟨h1, h2⟩ | ⟨g, cur, e, h1, h2, h3, h4, h5, h6⟩
          · subst h2; simp at hb; omega
          · unfold Pl.hdr
            rw [h1]
            refine ⟨_, run_idx_sl hT hk.1 hb.1 hb.2, ?_⟩
            simp only [VR, ho]
            refine fun _ => ⟨z.toNat * t.size, g, ?_, ⟨by omega, DT.inb_nil t⟩, h1, by rw [hk.2]⟩
            simp [TO.loc, DT.at_nil]
        · cases h
      | frz t l => exact hsl hv h
      | _ => cases h
  | vrow id i j =>
    simp only [VR] at hv
    simp only [TV.idx] at h
    cases ho : tlook s.ob id with
    | none => rw [ho] at hv; exact hv.elim
    | some o =>
      rw [ho] at hv h
      cases o with
      | row t l =>
        simp only at hv h
        split at h
        · rename_i hk
          simp only [Bool.and_eq_true, beq_iff_eq] at hk
          simp only [Option.some.injEq, Prod.mk.injEq] at h
          obtain ⟨rfl, rfl⟩ := h
          simp only [decide_eq_true_eq] at hb
          obtain ⟨h1, h2, p, cp, rfl, h4, h5, h6, h7⟩ := hv
          obtain ⟨g, hg, rfl⟩ := h7 (by omega)
          refine ⟨_, run_idx_sl hT hk.1 hb.1 hb.2, ?_⟩
          simp only [VR, ho]
          refine fun _ => ⟨(i + z.toNat) * t.size, g, ?_, ⟨by omega, DT.inb_nil t⟩, hg, by rw [hk.2, Nat.add_mul, Nat.add_assoc]⟩
          simp [TO.loc, DT.at_nil]
        · cases h
      | frz t l => exact hsl hv h
      | _ => cases h
  | ptr id i p =>
    simp only [TV.idx] at h
    cases ho : tlook s.ob id with
    | none => rw [ho] at h; cases h
    | some o =>
      rw [ho] at h
      simp only at h
      split at h
      · rename_i n u y0 hp
        split at h
        · rename_i hk
          simp only [Bool.and_eq_true, beq_iff_eq] at hk
          simp only [Option.some.injEq, Prod.mk.injEq] at h
          obtain ⟨rfl, rfl⟩ := h
          simp only [decide_eq_true_eq] at hb
          obtain ⟨g, k0, h1, h2, h3, rfl, h5⟩ := hm.part ho hv hp
          obtain ⟨r, r1, r2, r3⟩ := arr_at n z.toNat u
          obtain ⟨l1, l2, _⟩ := TO.part_loc hp h1 h2 r1 (by simp only [DT.inb1, decide_eq_true_eq]; omega)
          refine ⟨_, run_idx_arr hT hk.1.1 hb.1 (by rw [hk.2]; exact hb.2), ?_⟩
          simp only [VR, ho]
          refine fun _ => ⟨_, g, l1, l2, h3, ?_⟩
          rw [r3, hk.1.2, Nat.add_assoc]
        · cases h
      · cases h
  | view id i p k n i1 j1 =>
    simp only [TV.idx] at h
    split at h
    · rename_i fs ho
      split at h
      · rename_i hk
        simp only [Bool.and_eq_true, beq_iff_eq] at hk
        simp only [Option.some.injEq, Prod.mk.injEq] at h
        obtain ⟨rfl, rfl⟩ := h
        simp only [decide_eq_true_eq] at hb
        simp only [VR, ho] at hv
        obtain ⟨c0, g, pp, h1, h2, h3, h4, h5, h6, rfl, h8⟩ := hv rfl
        simp only [TO.loc, Option.some.injEq] at h1
        subst h1
        obtain rfl := h8 (by omega)
        refine ⟨_, run_idx_sl hT hk.1 hb.1 hb.2, ?_⟩
        simp only [VR, ho]
        exact fun _ => ⟨i + (i1 + z.toNat) * k, g, rfl, trivial, h3, by rw [hk.2, Nat.add_mul, Nat.add_assoc, Nat.add_assoc]⟩
      · cases h
    · cases h
  | el t x p =>
    simp only [TV.idx] at h
    split at h
    · rename_i L hL
      split at h
      · rename_i n u hu
        split at h
        · rename_i hk
          simp only [Bool.and_eq_true, beq_iff_eq] at hk
          simp only [Option.some.injEq, Prod.mk.injEq] at h
          obtain ⟨rfl, rfl⟩ := h
          simp only [decide_eq_true_eq] at hb
          obtain ⟨b0, o, L', h1, h2, rfl, h4, h5⟩ := hv
          rw [hL] at h1; obtain rfl := Option.some.inj h1
          obtain ⟨r, r1, r2, r3⟩ := arr_at n z.toNat u
          have r1' : ∃ r' : Lens L.u, L.u.at [z.toNat] = some r' ∧ r'.off = z.toNat * u.size := by rw [hu]; exact ⟨r, r1, r3⟩
          obtain ⟨r', r4, r5⟩ := r1'
          obtain ⟨q, q1, q2, q3⟩ := DT.at_step hL r4
          refine ⟨_, run_idx_arr hT hk.1.1 hb.1 (by rw [hk.2]; exact hb.2), b0, o, q, q1, DT.inb_step hL h2 (by rw [hu]; exact DT.inb_arr (by omega)), ?_, h4, h5⟩
          rw [q3, r5, hk.1.2, Nat.add_assoc]
        · cases h
      · cases h
    · cases h
  | _ => simp [TV.idx] at h

theorem TV.fld_ok (hT : TOK P TI) (hm : RelM c F π s a w) {T : TypeId} {x y : TV} {k : Nat} (h : x.fld (TI T) (tlook s.ob) k = some y) {v : Value} (hv : VR w (Gz F w π (tlook s.ob)) π (tlook s.ob) x v) :
    ∃ v', (Instr.fieldAt T v k).run P w = .ok v' w ∧ VR w (Gz F w π (tlook s.ob)) π (tlook s.ob) y v' := by
  cases x with
  | ptr id i p =>
    simp only [TV.fld] at h
    cases ho : tlook s.ob id with
    | none => rw [ho] at h; cases h
    | some o =>
      rw [ho] at h
      simp only at h
      split at h
      · rename_i off sz hoff
        split at h
        · rename_i u y0 hp
          split at h
          · rename_i r hr
            split at h
            · rename_i hk
              simp only [Bool.and_eq_true, beq_iff_eq] at hk
              obtain rfl := Option.some.inj h
              obtain ⟨g, k0, h1, h2, h3, rfl, h5⟩ := hm.part ho hv hp
              obtain ⟨l1, l2, _⟩ := TO.part_loc hp h1 h2 hr hk.2
              refine ⟨_, run_fld hT hk.1.1 hoff, ?_⟩
              simp only [VR, ho]
              refine fun _ => ⟨_, g, l1, l2, h3, ?_⟩
              rw [hk.1.2, Nat.add_assoc]
            · cases h
          · cases h
        · split at h
          · rename_i fs _
            split at h
            · rename_i j hj
              split at h
              · rename_i hkd
                simp only [beq_iff_eq] at hkd
                have hjo := List.find?_some hj
                have hjl : j < fs.length := by have := List.mem_of_find?_eq_some hj; simpa using this
                simp only [beq_iff_eq] at hjo
                obtain rfl := Option.some.inj h
                simp only [VR, ho] at hv
                obtain ⟨k0, g, h1, h2, h3, rfl⟩ := hv rfl
                simp only [TO.loc, Option.some.injEq] at h1
                subst h1
                refine ⟨_, run_fld hT hkd hoff, ?_⟩
                simp only [VR, ho]
                have hg : fs[j]? = some fs[j] := List.getElem?_eq_getElem hjl
                refine fun _ => ⟨offs fs j, g, ?_, ?_, h3, by rw [hjo, Nat.add_assoc]⟩
                · simp only [TO.loc, hg]
                  generalize fs[j] = q
                  cases q <;> simp [TV.floc, DT.at_nil]
                · simp only [TO.okAt, hg]
                  generalize fs[j] = q
                  cases q <;> simp [TV.finb, DT.inb_nil]
              · cases h
            · cases h
          · cases h
      · cases h
  | el t x p =>
    simp only [TV.fld] at h
    split at h
    · rename_i L hL
      split at h
      · rename_i r off sz hr hoff
        split at h
        · rename_i hk
          simp only [Bool.and_eq_true, beq_iff_eq] at hk
          obtain rfl := Option.some.inj h
          obtain ⟨b0, o, L', h1, h2, rfl, h4, h5⟩ := hv
          rw [hL] at h1; obtain rfl := Option.some.inj h1
          obtain ⟨q, q1, q2, q3⟩ := DT.at_step hL hr
          refine ⟨_, run_fld hT hk.1.1 hoff, b0, o, q, q1, DT.inb_step hL h2 (DT.inb_of hk.2), ?_, h4, h5⟩
          rw [q3, hk.1.2, Nat.add_assoc]
        · cases h
      · cases h
    · cases h
  | _ => simp [TV.fld] at h

theorem TV.ld_ok (hT : TOK P TI) (hm : RelM c F π s a w) {T : TypeId} {x y : TV} (h : x.ld (TI T) (tlook s.ob) = some y) {v : Value} (hv : VR w (Gz F w π (tlook s.ob)) π (tlook s.ob) x v) :
    ∃ v', (Instr.loadAt T v).run P w = .ok v' w ∧ VR w (Gz F w π (tlook s.ob)) π (tlook s.ob) y v' := by
  cases x with
  | ptr id i p =>
    simp only [TV.ld] at h
    cases ho : tlook s.ob id with
    | none => rw [ho] at h; cases h
    | some o =>
      rw [ho] at h
      simp only at h
      split at h
      · rename_i u y0 hp
        split at h
        · rename_i hk
          obtain rfl := Option.some.inj h
          obtain ⟨g, k0, h1, h2, h3, rfl, h5⟩ := hm.part ho hv hp
          exact run_load hT hk h5
        · cases h
      · rename_i hp
        split at h
        · rename_i fs j _
          split at h
          · rename_i x0 hj
            split at h
            · rename_i hk
              simp only [Bool.or_eq_true, beq_iff_eq] at hk
              obtain rfl := Option.some.inj h
              obtain ⟨g, z, h1, rfl, h3, h4⟩ := hm.field ho hv hj (fun t y e => by subst e; simp [TO.part, hj, DT.at_nil] at hp)
              exact ⟨z, run_loadAt_one hT hk h3, h4⟩
            · cases h
          · cases h
        · cases h
  | el t x p =>
    simp only [TV.ld] at h
    split at h
    · rename_i L hL
      split at h
      · rename_i hk
        obtain rfl := Option.some.inj h
        obtain ⟨b0, o, L', h1, h2, rfl, h4, h5⟩ := hv
        rw [hL] at h1; obtain rfl := Option.some.inj h1
        exact run_load hT hk (HeldC.part h5 hL h2)
      · cases h
    · cases h
  | _ => simp [TV.ld] at h

end
end Go.Proofs.YtbjfbbfglkmadaaDoor
