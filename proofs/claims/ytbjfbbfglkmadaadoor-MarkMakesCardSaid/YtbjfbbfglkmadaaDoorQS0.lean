/-
  Lifting Go functions to plain Lean functions, part S0: on what an operation's doing depends.
-/
import Derived.Test.YtbjfbbfglkmadaaDoorQR
namespace Go.Proofs.YtbjfbbfglkmadaaDoor
open Go.RowKit
set_option linter.unusedVariables false

section
variable {L L' : Obs} {x : TV}

theorem TV.data_local (h : ∀ i ∈ x.ids, L i = L' i) : x.data L = x.data L' := by
  cases x with
  | row id => simp only [TV.data, h id (by simp [TV.ids])]
  | vrow id a b => simp only [TV.data, h id (by simp [TV.ids])]
  | dv t y => cases t <;> rfl
  | _ => rfl

theorem TV.fdata_local (h : ∀ i ∈ x.ids, L i = L' i) : x.fdata L = x.fdata L' := by
  cases x with
  | row id => simp only [TV.fdata, h id (by simp [TV.ids])]
  | vrow id a b => simp only [TV.fdata, h id (by simp [TV.ids])]
  | dv t y => cases t <;> rfl
  | _ => rfl

theorem coAs_local (h : ∀ i ∈ x.ids, L i = L' i) (t : DT) : coAs L x t = coAs L' x t := by
  cases t <;> simp only [coAs, coSl, TV.fdata_local h]

theorem TV.as_local (h : ∀ i ∈ x.ids, L i = L' i) (t : DT) : x.as L t = x.as L' t := by
  cases x with
  | row id => simp only [TV.as]; exact coAs_local h t
  | vrow id a b => simp only [TV.as]; exact coAs_local h t
  | dv u y => simp only [TV.as]; split <;> first | rfl | exact coAs_local h t
  | _ => rfl

theorem TV.one'_local (h : ∀ i ∈ x.ids, L i = L' i) : x.one' L = x.one' L' := by
  cases x with
  | row id => simp only [TV.one', h id (by simp [TV.ids])]
  | ptr id i p => simp only [TV.one', h id (by simp [TV.ids])]
  | _ => rfl

theorem TV.idx_local (h : ∀ i ∈ x.ids, L i = L' i) (d : TD) (z : Int) : x.idx d L z = x.idx d L' z := by
  cases x with
  | view id i p k n a b => simp only [TV.idx, h id (by simp [TV.ids])]
  | row id => simp only [TV.idx, h id (by simp [TV.ids])]
  | vrow id a b => simp only [TV.idx, h id (by simp [TV.ids])]
  | ptr id i p => simp only [TV.idx, h id (by simp [TV.ids])]
  | dv t y => cases t <;> rfl
  | _ => rfl

theorem TV.fld_local (h : ∀ i ∈ x.ids, L i = L' i) (d : TD) (k : Nat) : x.fld d L k = x.fld d L' k := by
  cases x with
  | ptr id i p => simp only [TV.fld, h id (by simp [TV.ids])]
  | _ => rfl

theorem TV.ld_local (h : ∀ i ∈ x.ids, L i = L' i) (d : TD) : x.ld d L = x.ld d L' := by
  cases x with
  | ptr id i p => simp only [TV.ld, h id (by simp [TV.ids])]
  | _ => rfl

theorem lenTV_local (h : ∀ i ∈ x.ids, L i = L' i) (d : TD) : lenTV L d x = lenTV L' d x := by
  cases x with
  | row id => simp only [lenTV, h id (by simp [TV.ids])]
  | vrow id a b => simp only [lenTV, TV.data_local h]
  | dv t y => cases t <;> rfl
  | _ => rfl

theorem isNil_local : x.isNil L = x.isNil L' := by cases x <;> rfl

theorem bop_local (TI : Nat → TD) (op : BinOp) (T : Nat) (y : TV) : bopTV TI L op T x y = bopTV TI L' op T x y := by
  unfold bopTV
  split <;> first | rfl | (simp only [isNil_local (L := L) (L' := L')])

end

/-- Two views of the objects that agree on what an operation can look at. -/
structure Agr (o : Oper) (ev : Operand → TV) (L L' : Obs) (R : List Nat) : Prop where
  ops : ∀ x ∈ opsOf o.op, ∀ i ∈ (ev x).ids, i ∈ R
  cl : ∀ i ∈ R, ∀ ob, L i = some ob → ∀ j ∈ ob.ids, j ∈ R
  dst : ∀ d, o.dst = some d → d ∈ R ∧ 2000000 + d ∈ R
  eq : ∀ i ∈ R, L i = L' i

section
variable {o : Oper} {ev : Operand → TV} {L L' : Obs} {R : List Nat}

theorem Agr.at (h : Agr o ev L L' R) {x : Operand} (hx : x ∈ opsOf o.op) : ∀ i ∈ (ev x).ids, L i = L' i := fun i hi => h.eq i (h.ops x hx i hi)

theorem tval_local (h : Agr o ev L L' R) (TI : Nat → TD) : tval TI ev L o.op = tval TI ev L' o.op := by
  have hat := @Agr.at _ _ _ _ _ h
  generalize o.op = op at hat
  cases op with
  | nilCheck x =>
    have := hat (x := x) (by simp [opsOf, Op.operands])
    simp only [tval]
    split <;> first | rfl | (rename_i id i p he; rw [he] at this; simp only [this id (by simp [TV.ids])])
  | binOp op t x y u => simp only [tval]; exact bop_local _ _ _ _
  | load T p => simp only [tval, TV.ld_local (hat (x := p) (by simp [opsOf, Op.operands]))]
  | indexAddr T x i => simp only [tval, TV.idx_local (hat (x := x) (by simp [opsOf, Op.operands]))]
  | fieldAddr T x i => simp only [tval, TV.fld_local (hat (x := x) (by simp [opsOf, Op.operands]))]
  | call c =>
    obtain ⟨callee, args, ats⟩ := c
    simp only [tval]
    split
    · rename_i x T hx ht
      have ha : args = #[x] := by apply Array.ext'; simpa using hx
      subst ha
      rw [lenTV_local (hat (x := x) (by simp [opsOf, Op.operands, Call.operands]))]
    · rfl
  | _ => rfl

theorem asm_local : ∀ {t : DT} {fs : List TV}, (∀ x ∈ fs, ∀ i ∈ x.ids, L i = L' i) → asmTV L t fs = asmTV L' t fs := by
  intro t
  induction t with
  | pair a b iha ihb =>
    intro fs h
    cases fs with
    | nil => rfl
    | cons x r => simp only [asmTV, TV.as_local (h x (by simp)), ihb (fs := r) fun y hy => h y (by simp [hy])]
  | _ => intro fs h; cases fs <;> rfl

theorem tmore_local (h : Agr o ev L L' R) (TI : Nat → TD) (TY : Nat → DT) : tmore TI TY ev L o.op = tmore TI TY ev L' o.op := by
  have hat := @Agr.at _ _ _ _ _ h
  have hops := h.ops
  have hcl := h.cl
  have heq := h.eq
  generalize o.op = op at hat hops
  cases op with
  | slice T x lo hi mx =>
    have hx := hat (x := x) (by simp [opsOf, Op.operands])
    simp only [tmore]
    split
    · split
      · rename_i id he; rw [he] at hx; simp only [hx id (by simp [TV.ids])]
      · rename_i id i j he; rw [he] at hx; simp only [hx id (by simp [TV.ids])]
      · rename_i id i p he; rw [he] at hx; simp only [hx id (by simp [TV.ids])]
      · rfl
      · rw [TV.fdata_local hx]
    · rw [TV.fdata_local hx]
    · rfl
  | load T p =>
    have hx := hat (x := p) (by simp [opsOf, Op.operands])
    have ho := hops p (by simp [opsOf, Op.operands])
    simp only [tmore]
    split
    · rename_i id i he
      rw [he] at hx ho
      rw [← hx id (by simp [TV.ids])]
      split
      · rename_i fs hfs
        rw [asm_local (L := L) (L' := L') fun x hxm i hi => heq i (hcl id (ho id (by simp [TV.ids])) _ hfs i (by simp only [TO.ids, List.mem_flatMap]; exact ⟨x, hxm, hi⟩))]
      · rfl
    · rfl
  | typeAssert x X T ok => cases ok <;> rfl
  | _ => rfl

theorem asL_local {t : DT} : ∀ {xs : List Operand}, (∀ x ∈ xs, ∀ i ∈ (ev x).ids, L i = L' i) → asL ev L t xs = asL ev L' t xs
  | [], _ => rfl
  | x :: r, h => by simp only [asL, TV.as_local (h x (by simp)), asL_local (xs := r) fun y hy => h y (by simp [hy])]

theorem tfill_local {t : DT} {d : TD} : ∀ {xs : List (Nat × Operand)} {z : t.den}, (∀ x ∈ xs, ∀ i ∈ (ev x.2).ids, L i = L' i) → tfill ev L t d xs z = tfill ev L' t d xs z
  | [], z, _ => rfl
  | (i, x) :: r, z, h => by
    simp only [tfill]
    split
    · rename_i N hN
      have e := TV.as_local (h (i, x) (by simp)) N.u
      simp only at e
      rw [e]
      split
      · rename_i y b hy
        split
        · rw [tfill_local (xs := r) fun y hy => h y (by simp [hy])]
        · rfl
      · rfl
    · rfl

theorem putP_local {x : TV} (h : ∀ i ∈ x.ids, L i = L' i) (ob : TO) (i : Nat) (p : List Nat) (d : TD) : ob.putP L i p x d = ob.putP L' i p x d := by
  cases ob with
  | row t l => simp only [TO.putP, TV.as_local h]
  | rcd fs =>
    cases p with
    | nil => rfl
    | cons j p =>
      simp only [TO.putP]
      split
      · cases p with
        | nil => simp only [TV.one'_local h, TV.as_local h]
        | cons q p => simp only [TV.as_local h]
      · rfl
  | _ => rfl

theorem tappend_local (TI : Nat → TD) (TY : Nat → DT) {d T : Nat} {x y : TV} (hd : L d = L' d) (hx : ∀ i ∈ x.ids, L i = L' i) (hy : ∀ i ∈ y.ids, L i = L' i) : tappend TI TY ev L d T x y = tappend TI TY ev L' d T x y := by
  unfold tappend
  rw [hd]
  split
  · rfl
  · split
    · rename_i id; simp only [hx id (by simp [TV.ids]), TV.data_local hy]
    · simp only [TV.data_local hy]
    · simp only [TV.data_local hy]
    · rfl

theorem tobj_local (h : Agr o ev L L' R) (TI : Nat → TD) (TY : Nat → DT) (rc : Nat → Option (List (Option DT))) : tobj TI TY rc ev L o.dst o.op = tobj TI TY rc ev L' o.dst o.op := by
  have hat := @Agr.at _ _ _ _ _ h
  have hdst : ∀ d, o.dst = some d → L d = L' d := fun d hd => h.eq d (h.dst d hd).1
  have hdst2 : ∀ d, o.dst = some d → L (2000000 + d) = L' (2000000 + d) := fun d hd => h.eq _ (h.dst d hd).2
  generalize o.op = op at hat
  generalize o.dst = dst at hdst hdst2
  cases op with
  | alloc T =>
    cases dst with
    | none => rfl
    | some d => simp only [tobj, hdst d rfl, hdst2 d rfl]
  | box T x =>
    have hx := hat (x := x) (by simp [opsOf, Op.operands])
    cases dst with
    | none => rfl
    | some d => simp only [tobj, hdst d rfl, TV.one'_local hx, TV.as_local hx]
  | buildSlice T n parts =>
    have hx := fun x => hat (x := x)
    cases dst with
    | none => rfl
    | some d =>
      simp only [tobj]
      split
      · rename_i d' t hd' hT
        obtain rfl := Option.some.inj hd'
        rw [hdst d rfl, asL_local (L := L) (L' := L') fun x hxm => hx x (by simpa [opsOf, Op.operands] using hxm)]
      · rfl
  | makeSlice T x y =>
    cases dst with
    | none => rfl
    | some d =>
      simp only [tobj]
      split
      · rename_i d' _ _ _ _ hd' _ _
        obtain rfl := Option.some.inj hd'
        rw [hdst d rfl]
      · rfl
  | build T parts =>
    simp only [tobj]
    rw [tfill_local (L := L) (L' := L') fun x hxm => hat (x := x.2) (by simp only [opsOf, Op.operands]; exact List.mem_map_of_mem hxm)]
  | store T p y =>
    have hp := hat (x := p) (by simp [opsOf, Op.operands])
    have hy := hat (x := y) (by simp [opsOf, Op.operands])
    simp only [tobj]
    split
    · rename_i id i q he
      rw [he] at hp
      rw [hp id (by simp [TV.ids])]
      split
      · rw [putP_local hy]
      · rfl
    · rfl
  | call c =>
    obtain ⟨callee, args, ats⟩ := c
    cases dst with
    | none => simp only [tobj]
    | some d =>
      simp only [tobj]
      split
      · rename_i d' x y T T' hd' hxs hts
        obtain rfl := Option.some.inj hd'
        have ha : args = #[x, y] := by apply Array.ext'; simpa using hxs
        subst ha
        rw [tappend_local (ev := ev) (L := L) (L' := L') TI TY (hdst d rfl) (hat (x := x) (by simp [opsOf, Op.operands, Call.operands])) (hat (x := y) (by simp [opsOf, Op.operands, Call.operands]))]
      · rfl
  | _ => rfl

theorem tfzApp_local (h : Agr o ev L L' R) (E : Env) : tfzApp E ev L o.dst o.op = tfzApp E ev L' o.dst o.op := by
  have hat := @Agr.at _ _ _ _ _ h
  have hdst : ∀ d, o.dst = some d → L d = L' d := fun d hd => h.eq d (h.dst d hd).1
  generalize o.op = op at hat
  generalize o.dst = dst at hdst
  cases op with
  | call c =>
    obtain ⟨callee, args, ats⟩ := c
    simp only [tfzApp]
    split
    · rename_i d x y T T' hxs hts
      have ha : args = #[x, y] := by apply Array.ext'; simpa using hxs
      subst ha
      rw [hdst d rfl, TV.data_local (hat (x := y) (by simp [opsOf, Op.operands, Call.operands]))]
    · rfl
  | box T x =>
    have hx := hat (x := x) (by simp [opsOf, Op.operands])
    simp only [tfzApp, TV.as_local hx]
  | assign x => simp only [tfzApp]
  | slice T x lo hi mx =>
    have hx := hat (x := x) (by simp [opsOf, Op.operands])
    simp only [tfzApp]
    unfold tmv
    split
    · rename_i d
      rw [hdst d rfl]
      split
      · split
        · rename_i id a b h1 h2 h3 h4
          rw [h2] at hx
          rw [hx id (by simp [TV.ids])]
        · rfl
      · rfl
    · rfl
  | _ => rfl

theorem tpart_local {d : TD} : ∀ {r : List (Nat × Operand)} {l : List TV}, (∀ x ∈ r, ∀ i ∈ (ev x.2).ids, L i = L' i) → tpart ev L d r l = tpart ev L' d r l
  | [], l, _ => rfl
  | (i, x) :: r, l, h => by
    have e : partOk L (ev x) = partOk L' (ev x) := by
      have hx := h (i, x) (by simp)
      simp only at hx
      cases hv : ev x with
      | dv t y => rfl
      | _ => simp only [partOk]; rw [hv] at hx; exact TV.one'_local hx
    simp only [tpart, e]
    split
    · split
      · exact tpart_local fun y hy => h y (by simp [hy])
      · rfl
    · rfl

theorem tst_local (h : Agr o ev L L' R) (TI : Nat → TD) (TY : Nat → DT) (rc : Nat → Option (List (Option DT))) : tst TI TY rc ev L o.dst o.op = tst TI TY rc ev L' o.dst o.op := by
  have hat := @Agr.at _ _ _ _ _ h
  have hdst : ∀ d, o.dst = some d → L d = L' d := fun d hd => h.eq d (h.dst d hd).1
  generalize o.op = op at hat
  generalize o.dst = dst at hdst
  cases op with
  | build T parts =>
    simp only [tst]
    split
    · split
      · rw [tpart_local (L := L) (L' := L') fun x hxm => hat (x := x.2) (by simp only [opsOf, Op.operands]; exact List.mem_map_of_mem hxm)]
      · rfl
    · rfl
  | store T p y =>
    have hp := hat (x := p) (by simp [opsOf, Op.operands])
    simp only [tst]
    split
    · rename_i id i n f he he2
      rw [he] at hp
      rw [hp id (by simp [TV.ids])]
    · rfl
  | box T x =>
    simp only [tst]
    split
    · rename_i d n f he
      rw [hdst d rfl]
    · rfl
  | call c =>
    obtain ⟨callee, args, ats⟩ := c
    simp only [tst]
    split
    · rfl
    · split
      · rename_i d _ _ _ _ _ _
        rw [hdst d rfl]
      · rfl
    · rename_i x T hxs hts
      have ha : args = #[x] := by apply Array.ext'; simpa using hxs
      subst ha
      have hx := hat (x := x) (by simp [opsOf, Op.operands, Call.operands])
      split
      · rename_i id i j he
        rw [he] at hx
        rw [hx id (by simp [TV.ids])]
      · rfl
    · rename_i x T hxs hts
      have ha : args = #[x] := by apply Array.ext'; simpa using hxs
      subst ha
      have hx := hat (x := x) (by simp [opsOf, Op.operands, Call.operands])
      split
      · rename_i id i p k n i1 j1 he
        rw [he] at hx
        rw [hx id (by simp [TV.ids])]
      · rfl
    · rfl
  | indexAddr T x y =>
    have hx := hat (x := x) (by simp [opsOf, Op.operands])
    simp only [tst]
    have : ∀ z, tvi (TI T) L z (ev x) = tvi (TI T) L' z (ev x) := fun z => by
      unfold tvi
      split
      · rename_i id i p k n i1 j1 he
        rw [he] at hx
        rw [hx id (by simp [TV.ids])]
      · rfl
    simp only [this]
  | _ => rfl

theorem tcopy_local {TI : Nat → TD} {T : Nat} {x y : TV} (hx : ∀ i ∈ x.ids, L i = L' i) (hy : ∀ i ∈ y.ids, L i = L' i) : tcopy TI L T x y = tcopy TI L' T x y := by
  unfold tcopy
  split
  · rename_i id i k n b
    rw [hx id (by simp [TV.ids]), TV.data_local hy]
  · rfl

theorem tmap_local (h : Agr o ev L L' R) (TI : Nat → TD) : tmap TI ev L o.dst o.op = tmap TI ev L' o.dst o.op := by
  have hat := @Agr.at _ _ _ _ _ h
  have hdst : ∀ d, o.dst = some d → L d = L' d := fun d hd => h.eq d (h.dst d hd).1
  generalize o.op = op at hat
  generalize o.dst = dst at hdst
  cases op with
  | makeMap T r =>
    cases dst with
    | none => rfl
    | some d =>
      simp only [tmap]
      cases (TI T).mkv with
      | none => rfl
      | some kv => obtain ⟨kt, vt⟩ := kv; simp only [hdst d rfl]
  | lookup T m ix ok =>
    have hm := hat (x := m) (by simp [opsOf, Op.operands])
    simp only [tmap]
    split
    · rename_i id he
      rw [he] at hm
      rw [hm id (by simp [TV.ids])]
      split
      · rw [TV.as_local (hat (x := ix) (by simp [opsOf, Op.operands]))]
      · rfl
    · rfl
  | mapUpdate T m k y =>
    have hm := hat (x := m) (by simp [opsOf, Op.operands])
    simp only [tmap]
    split
    · rename_i id he
      rw [he] at hm
      rw [hm id (by simp [TV.ids])]
      split
      · rw [TV.as_local (hat (x := k) (by simp [opsOf, Op.operands])), TV.as_local (hat (x := y) (by simp [opsOf, Op.operands]))]
      · rfl
    · rfl
  | range T m =>
    have hm := hat (x := m) (by simp [opsOf, Op.operands])
    simp only [tmap]
    split
    · rename_i d id he
      rw [he] at hm
      rw [hm id (by simp [TV.ids]), hdst d rfl]
    · rfl
  | entry x =>
    have hx := hat (x := x) (by simp [opsOf, Op.operands])
    simp only [tmap]
    split
    · rename_i id he
      rw [he] at hx
      rw [hx id (by simp [TV.ids])]
    · rfl
  | insert T m k y =>
    have hm := hat (x := m) (by simp [opsOf, Op.operands])
    simp only [tmap]
    split
    · rename_i id he
      rw [he] at hm
      rw [hm id (by simp [TV.ids])]
      split
      · rw [TV.as_local (hat (x := k) (by simp [opsOf, Op.operands])), TV.as_local (hat (x := y) (by simp [opsOf, Op.operands]))]
      · rfl
    · rfl
  | call cl =>
    obtain ⟨callee, args, ats⟩ := cl
    simp only [tmap]
    split
    · rfl
    · rfl
    · rename_i x y hxs
      have ha : args = #[x, y] := by apply Array.ext'; simpa using hxs
      subst ha
      split
      · exact tcopy_local (hat (x := x) (by simp [opsOf, Op.operands, Call.operands])) (hat (x := y) (by simp [opsOf, Op.operands, Call.operands]))
      · rfl
    · rfl
  | _ => rfl

theorem needs_local (h : Agr o ev L L' R) : needs ev L o.op = needs ev L' o.op := by
  have hat := @Agr.at _ _ _ _ _ h
  generalize o.op = op at hat
  cases op with
  | store T p y =>
    have hp := hat (x := p) (by simp [opsOf, Op.operands])
    simp only [needs]
    split
    · rename_i id i q he; rw [he] at hp; simp only [hp id (by simp [TV.ids])]
    · rfl
  | load T p =>
    have hp := hat (x := p) (by simp [opsOf, Op.operands])
    simp only [needs]
    split
    · rename_i id i he; rw [he] at hp; simp only [hp id (by simp [TV.ids])]
    · rfl
  | _ => rfl

theorem rowId_ids {x : TV} {i : Nat} (h : i ∈ x.rowId) : i ∈ x.ids := by
  cases x <;> first | exact h | simp [TV.rowId] at h

theorem needs_in (h : Agr o ev L L' R) : ∀ i ∈ needs ev L o.op, i ∈ R := by
  have hops := h.ops
  have hcl := h.cl
  generalize o.op = op at hops
  cases op with
  | buildSlice T n parts =>
    intro i hi
    simp only [needs, List.mem_flatMap] at hi
    obtain ⟨p, hp, hi⟩ := hi
    exact hops p.2 (by simp only [opsOf, Op.operands]; exact List.mem_map_of_mem hp) i (rowId_ids hi)
  | build T parts =>
    intro i hi
    simp only [needs, List.mem_flatMap] at hi
    obtain ⟨p, hp, hi⟩ := hi
    exact hops p.2 (by simp only [opsOf, Op.operands]; exact List.mem_map_of_mem hp) i (rowId_ids hi)
  | store T p y =>
    have hy := hops y (by simp [opsOf, Op.operands])
    intro i hi
    simp only [needs] at hi
    split at hi
    · split at hi
      · split at hi
        · exact hy i (rowId_ids hi)
        · simp at hi
      · exact hy i (rowId_ids hi)
    · simp at hi
  | load T p =>
    have hp := hops p (by simp [opsOf, Op.operands])
    intro i hi
    simp only [needs] at hi
    split at hi
    · rename_i id j he
      rw [he] at hp
      split at hi
      · rename_i fs hfs
        obtain ⟨x, hx, hi⟩ := List.mem_flatMap.1 hi
        exact hcl id (hp id (by simp [TV.ids])) _ hfs i (by simp only [TO.ids, List.mem_flatMap]; exact ⟨x, hx, rowId_ids hi⟩)
      · simp at hi
    · simp at hi
  | mapUpdate T m k y =>
    intro i hi
    simp only [needs, List.mem_append] at hi
    rcases hi with hi | hi
    · exact hops k (by simp [opsOf, Op.operands]) i (rowId_ids hi)
    · exact hops y (by simp [opsOf, Op.operands]) i (rowId_ids hi)
  | insert T m k y =>
    intro i hi
    simp only [needs, List.mem_append] at hi
    rcases hi with hi | hi
    · exact hops k (by simp [opsOf, Op.operands]) i (rowId_ids hi)
    · exact hops y (by simp [opsOf, Op.operands]) i (rowId_ids hi)
  | _ => intro i hi; simp [needs] at hi

theorem frzU_local {ids : List Nat} (h : ∀ i ∈ ids, L i = L' i) : frzU L ids = frzU L' ids := by
  unfold frzU
  induction ids with
  | nil => rfl
  | cons i r ih =>
    simp only [List.filterMap_cons, h i (by simp)]
    rw [ih fun j hj => h j (by simp [hj])]

theorem ovr_agr {U : List (Nat × TO)} (h : Agr o ev L L' R) (hU : ∀ i ob, tlook U i = some ob → ob.ids = []) : Agr o ev (ovr U L) (ovr U L') R :=
  ⟨h.ops, fun i hi ob hob j hj => by
    simp only [ovr] at hob
    cases hu : tlook U i with
    | some o' => rw [hu] at hob; obtain rfl := Option.some.inj hob; rw [hU i _ hu] at hj; simp at hj
    | none => rw [hu] at hob; exact h.cl i hi ob hob j hj, h.dst, fun i hi => by simp only [ovr, h.eq i hi]⟩

theorem frzU_ids {ids : List Nat} : ∀ i ob, tlook (frzU L ids) i = some ob → ob.ids = [] := fun i ob h => by
  obtain ⟨t, l, _, rfl⟩ := frzU_look h; rfl

theorem effN_local (h : Agr o ev L L' R) (E : Env) : effN E o ev L = effN E o ev L' := by
  unfold effN
  have h1 := needs_local h
  have h2 := frzU_local (L := L) (L' := L') (ids := needs ev L o.op) fun i hi => h.eq i (needs_in h i hi)
  rw [h1] at h2
  simp only [tst_local h, h1, h2]
  have h3 : Agr o ev (ovr (frzU L' (needs ev L' o.op)) L) (ovr (frzU L' (needs ev L' o.op)) L') R := ovr_agr h frzU_ids
  rw [tval_local h3, tmore_local h3, tfzApp_local h3, tobj_local h3, tmap_local h3]

end
end Go.Proofs.YtbjfbbfglkmadaaDoor
