/-
  Lifting Go functions to plain Lean functions, part D: other numbers for objects; calls.
-/
import Derived.Test.YtbjfbbfglkmadaaDoorQC
namespace Go.Proofs.YtbjfbbfglkmadaaDoor
open Go.RowKit
set_option linter.unusedVariables false

/-- Other numbers. -/
def TV.ren (ρ : Nat → Nat) : TV → TV
  | .row id => .row (ρ id)
  | .vrow id a b => .vrow (ρ id) a b
  | .ptr id i p => .ptr (ρ id) i p
  | .view id i p k n a b => .view (ρ id) i p k n a b
  | .fn g k n f => .fn g k n fun i => ((List.range (k + n)).map fun j => (f j).ren ρ).getD i .any
  | .tup n f => .tup n fun i => ((List.range n).map fun j => (f j).ren ρ).getD i .any
  | .st n f => .st n fun i => ((List.range n).map fun j => (f j).ren ρ).getD i .any
  | x => x

theorem tab_at {m : Nat} {h : Nat → TV} {j : Nat} (hj : j < m) : ((List.range m).map h).getD j .any = h j := by simp [List.getD, hj]

def TO.ren (ρ : Nat → Nat) : TO → TO
  | .rcd fs => .rcd (fs.map (TV.ren ρ))
  | o => o

def TO.within (S : Nat → Prop) : TO → Prop
  | .rcd fs => ∀ (j : Nat) (x : TV), fs[j]? = some x → x.within S
  | _ => True

/-- No frozen memory is spoken of. -/
def DT.noSl : DT → Bool
  | .sl _ => false
  | .csl _ => false
  | .nsl _ => false
  | .fp _ => false
  | .arr _ t => t.noSl
  | .pair a b => a.noSl && b.noSl
  | .ifc _ t r => t.noSl && r.noSl
  | .tup t => t.noSl
  | _ => true

def TV.sc : TV → Prop
  | .dv t _ => t.noSl = true
  | .el _ _ _ => False
  | .fn _ k n f => ∀ j, j < k + n → (f j).sc
  | .tup n f => ∀ j, j < n → (f j).sc
  | .st n f => ∀ j, j < n → (f j).sc
  | _ => True

def TO.sc : TO → Prop
  | .row t _ => t.noSl = true
  | .rcd fs => ∀ (j : Nat) (x : TV), fs[j]? = some x → x.sc
  | .map kt vt _ => kt.noSl = true ∧ vt.noSl = true
  | .frz _ _ => False
  | .iter _ _ _ _ => False
  | .dead => True

theorem DT.cell_noSl {w w' : World} {G G' : Nat → Prop} : ∀ {t : DT} {x : t.den} {j : Nat} {v : Value}, t.noSl = true → t.cell x j w G v → t.cell x j w' G' v := by
  intro t
  induction t with
  | unit => intro x j v _ hv; exact hv
  | int k => intro x j v _ hv; exact hv
  | bool => intro x j v _ hv; exact hv
  | str => intro x j v _ hv; exact hv
  | sl t ih => intro x j v h; simp [DT.noSl] at h
  | csl t ih => intro x j v h; simp [DT.noSl] at h
  | nsl t ih => intro x j v h; simp [DT.noSl] at h
  | fp t ih => intro x j v h; simp [DT.noSl] at h
  | arr n t ih => intro x j v h hv; exact ih (x := x.getD (j / t.size) t.dflt) (j := j % t.size) h hv
  | pair a b iha ihb =>
    intro x j v h hv
    simp only [DT.noSl, Bool.and_eq_true] at h
    simp only [DT.cell] at hv ⊢
    split
    · rename_i hj; rw [if_pos hj] at hv; exact iha h.1 hv
    · rename_i hj; rw [if_neg hj] at hv; exact ihb h.2 hv
  | tup t ih => intro x j v _ hv; exact hv
  | ifn => intro x j v _ hv; exact hv
  | ifc T t r iht ihr =>
    intro x j v h hv
    simp only [DT.noSl, Bool.and_eq_true] at h
    cases x with
    | inl y => obtain ⟨u, h1, h2, h3⟩ := hv; exact ⟨u, h1, h2, iht h.1 h3⟩
    | inr y => exact ihr (x := y) (j := 0) h.2 hv

theorem DT.val_noSl {w w' : World} {G G' : Nat → Prop} {t : DT} {x : t.den} {v : Value} (h : t.noSl = true) (hv : t.val x w G v) : t.val x w' G' v := by
  unfold DT.val at hv ⊢
  split at hv
  · rename_i ha
    obtain ⟨vs, h1, h2, h3⟩ := hv
    rw [if_pos ha]
    refine ⟨vs, h1, h2, fun j hj => ?_⟩
    obtain ⟨u, a1, a2, a3⟩ := h3 j hj
    exact ⟨u, a1, a2, DT.cell_noSl h a3⟩
  · rename_i ha; rw [if_neg ha]; exact DT.cell_noSl h hv

theorem TV.floc_ren (ρ : Nat → Nat) (x : TV) (o : Nat) (p : List Nat) : (x.ren ρ).floc o p = x.floc o p := by cases x <;> rfl
theorem TV.finb_ren (ρ : Nat → Nat) (x : TV) (p : List Nat) : (x.ren ρ).finb p = x.finb p := by cases x <;> rfl
theorem TV.size_ren (ρ : Nat → Nat) (x : TV) : (x.ren ρ).size = x.size := by cases x <;> rfl

theorem offs_ren (ρ : Nat → Nat) : ∀ (fs : List TV) (j : Nat), offs (fs.map (TV.ren ρ)) j = offs fs j
  | [], j => rfl
  | x :: r, 0 => rfl
  | x :: r, j + 1 => by simp only [List.map_cons, offs, TV.size_ren, offs_ren ρ r j]

theorem TV.dcell_ren (ρ : Nat → Nat) {w : World} {G1 G2 : Nat → Prop} {x : TV} {c : Nat} {u : Value} (hz : FzTo w G1 w G2 ∨ x.sc) (h : x.dcell w G1 c u) : (x.ren ρ).dcell w G2 c u ∧ (x.ren ρ).isD = x.isD := by
  cases x with
  | dv t y =>
    refine ⟨?_, rfl⟩
    rcases hz with hz | hz
    · exact DT.cell_mono hz h
    · exact DT.cell_noSl (t := t) hz h
  | _ => exact ⟨trivial, rfl⟩

theorem TO.loc_ren (ρ : Nat → Nat) (o : TO) (i : Nat) (p : List Nat) : (o.ren ρ).loc i p = o.loc i p ∧ ((o.ren ρ).okAt i p ↔ o.okAt i p) ∧ (o.ren ρ).live = o.live := by
  cases o with
  | rcd fs =>
    cases p with
    | nil => exact ⟨rfl, Iff.rfl, rfl⟩
    | cons j p =>
      simp only [TO.ren, TO.loc, TO.okAt, List.getElem?_map, offs_ren]
      cases fs[j]? with
      | none => exact ⟨rfl, Iff.rfl, rfl⟩
      | some x => exact ⟨TV.floc_ren _ _ _ _, by simp only [Option.map_some]; rw [TV.finb_ren], rfl⟩
  | _ => exact ⟨rfl, Iff.rfl, rfl⟩

theorem VR.ren {ρ : Nat → Nat} {S : Nat → Prop} {w : World} {G1 G2 : Nat → Prop} {π1 π2 : Nat → Pl} {O1 O2 : Obs} (hS : ∀ id, S id → ∀ o, O1 id = some o → O2 (ρ id) = some (o.ren ρ) ∧ π2 (ρ id) = π1 id) :
    ∀ {x : TV} {v : Value}, (FzTo w G1 w G2 ∨ (x.sc ∧ ∀ id o, S id → O1 id = some o → o.sc)) → x.within S → VR w G1 π1 O1 x v → VR w G2 π2 O2 (x.ren ρ) v := by
  intro x
  induction x with
  | any => intro v _ _ h; trivial
  | dv t x =>
    intro v hz _ h
    rcases hz with hz | hz
    · exact DT.val_mono hz h
    · exact DT.val_noSl (t := t) hz.1 h
  | nl => intro v _ _ h; exact h
  | cst u => intro v _ _ h; exact h
  | row id =>
    intro v hz hw h
    simp only [VR, TV.ren] at h ⊢
    cases ho : O1 id with
    | none => rw [ho] at h; exact h.elim
    | some o =>
      rw [ho] at h
      obtain ⟨e1, e2⟩ := hS id hw o ho
      rw [e1]
      cases o with
      | row t l => simp only [TO.ren, e2] at h ⊢; exact h
      | map kt vt l => simp only [TO.ren, e2] at h ⊢; exact h
      | iter kt vt l cur => simp only [TO.ren, e2] at h ⊢; exact h
      | rcd fs => trivial
      | dead => trivial
      | frz t l =>
        rcases hz with hz | hz
        · exact DT.cell_mono (t := .sl t) (x := l) (j := 0) hz h
        · exact (hz.2 id _ hw ho).elim
  | vrow id a b =>
    intro v hz hw h
    simp only [VR, TV.ren] at h ⊢
    cases ho : O1 id with
    | none => rw [ho] at h; exact h.elim
    | some o =>
      rw [ho] at h
      obtain ⟨e1, e2⟩ := hS id hw o ho
      rw [e1]
      cases o with
      | row t l => simp only [TO.ren, e2] at h ⊢; exact h
      | frz t l =>
        rcases hz with hz | hz
        · exact DT.cell_mono (t := .sl t) (x := (l.take b).drop a) (j := 0) hz h
        · exact (hz.2 id _ hw ho).elim
      | _ => trivial
  | ptr id i p =>
    intro v hz hw h
    simp only [VR, TV.ren] at h ⊢
    cases ho : O1 id with
    | none => rw [ho] at h; exact h.elim
    | some o =>
      rw [ho] at h
      obtain ⟨e1, e2⟩ := hS id hw o ho
      rw [e1]
      obtain ⟨l1, l2, l3⟩ := TO.loc_ren ρ o i p
      intro hl
      obtain ⟨c, g, a1, a2, a3, a4⟩ := h (l3 ▸ hl)
      exact ⟨c, g, l1.trans a1, l2.2 a2, by rw [e2]; exact a3, by rw [e2]; exact a4⟩
  | view id i p k n a b =>
    intro v hz hw h
    simp only [VR, TV.ren] at h ⊢
    cases ho : O1 id with
    | none => rw [ho] at h; exact h.elim
    | some o =>
      rw [ho] at h
      obtain ⟨e1, e2⟩ := hS id hw o ho
      rw [e1]
      obtain ⟨l1, l2, l3⟩ := TO.loc_ren ρ o i p
      intro hl
      obtain ⟨c, g, pp, a1, a2, a3, a4⟩ := h (l3 ▸ hl)
      exact ⟨c, g, pp, l1.trans a1, l2.2 a2, by rw [e2]; exact a3, by rw [e2]; exact a4⟩
  | el t x p =>
    intro v hz _ h
    rcases hz with hz | hz
    · obtain ⟨b, o, L, h1, h2, h3, h4, h5⟩ := h
      refine ⟨b, o, L, h1, h2, h3, (hz b h4).1, fun c hc => ?_⟩
      obtain ⟨u, a1, a2, a3⟩ := h5 c hc
      exact ⟨u, a1, a2, DT.cell_mono hz a3⟩
    · exact hz.1.elim
  | fn g k n f ih =>
    intro v hz hw ⟨fs, cs, h1, h2, h3, h4, h5⟩
    refine ⟨fs, cs, h1, h2, h3, fun j hj => ?_, fun j hj => ?_⟩
    · obtain ⟨u, a, b⟩ := h4 j hj
      refine ⟨u, a, ?_⟩
      simp only []
      rw [tab_at (by omega)]
      exact ih j (hz.imp (fun h => h) fun h => ⟨h.1 j (by omega), h.2⟩) (hw j (by omega)) b
    · obtain ⟨u, a, b⟩ := h5 j hj
      refine ⟨u, a, ?_⟩
      simp only []
      rw [tab_at (by omega)]
      exact ih _ (hz.imp (fun h => h) fun h => ⟨h.1 _ (by omega), h.2⟩) (hw _ (by omega)) b
  | tup n f ih =>
    intro v hz hw ⟨cs, h1, h2, h3⟩
    refine ⟨cs, h1, h2, fun j hj => ?_⟩
    obtain ⟨u, a, b⟩ := h3 j hj
    refine ⟨u, a, ?_⟩
    simp only []
    rw [tab_at hj]
    exact ih j (hz.imp (fun h => h) fun h => ⟨h.1 j hj, h.2⟩) (hw j hj) b
  | st n f ih =>
    intro v hz hw ⟨cs, h1, h2, h3⟩
    have he : ((List.range n).map fun i => ((List.range n).map fun j => (f j).ren ρ).getD i .any) = ((List.range n).map f).map (TV.ren ρ) := by
      rw [List.map_map]
      exact List.map_congr_left fun i hi => by rw [tab_at (List.mem_range.1 hi)]; rfl
    refine ⟨cs, h1, by rw [he, offs_ren]; exact h2, fun j hj c hc => ?_⟩
    simp only [] at hc ⊢
    rw [tab_at hj, TV.size_ren] at hc
    rw [tab_at hj, he, offs_ren]
    obtain ⟨u, a, b, d, e⟩ := h3 j hj c hc
    obtain ⟨d1, d2⟩ := TV.dcell_ren ρ (hz.imp (fun h => h) fun h => h.1 j hj) d
    exact ⟨u, a, b, d1, fun hd => ih j (hz.imp (fun h => h) fun h => ⟨h.1 j hj, h.2⟩) (hw j hj) (e (d2 ▸ hd))⟩

theorem TV.fcell_ren {ρ : Nat → Nat} {S : Nat → Prop} {w : World} {G1 G2 : Nat → Prop} {π1 π2 : Nat → Pl} {O1 O2 : Obs} (hS : ∀ id, S id → ∀ o, O1 id = some o → O2 (ρ id) = some (o.ren ρ) ∧ π2 (ρ id) = π1 id)
    {x : TV} {c : Nat} {u : Value} (hz : FzTo w G1 w G2 ∨ (x.sc ∧ ∀ id o, S id → O1 id = some o → o.sc)) (hw : x.within S) (h : x.fcell w G1 π1 O1 c u) : (x.ren ρ).fcell w G2 π2 O2 c u := by
  cases x with
  | dv t y =>
    rcases hz with hz | hz
    · exact DT.cell_mono hz h
    · exact DT.cell_noSl (t := t) hz.1 h
  | any => trivial
  | nl => exact VR.ren hS hz hw h
  | cst v => exact VR.ren hS hz hw h
  | row id => exact VR.ren (x := .row id) hS hz hw h
  | vrow id a b => exact VR.ren (x := .vrow id a b) hS hz hw h
  | ptr id i p => exact VR.ren (x := .ptr id i p) hS hz hw h
  | view id i p k n a b => exact VR.ren (x := .view id i p k n a b) hS hz hw h
  | el t x p => exact VR.ren (x := .el t x p) hS hz hw h
  | fn g k n f => exact VR.ren (x := .fn g k n f) hS hz hw h
  | tup n f => exact VR.ren (x := .tup n f) hS hz hw h
  | st n f => exact VR.ren (x := .st n f) hS hz hw h

theorem OR.ren {ρ : Nat → Nat} {S : Nat → Prop} {w : World} {G1 G2 : Nat → Prop} {π1 π2 : Nat → Pl} {O1 O2 : Obs} (hS : ∀ id, S id → ∀ o, O1 id = some o → O2 (ρ id) = some (o.ren ρ) ∧ π2 (ρ id) = π1 id)
    {id : Nat} {o : TO} (hid : π2 (ρ id) = π1 id) (hz : FzTo w G1 w G2 ∨ (o.sc ∧ ∀ id o, S id → O1 id = some o → o.sc)) (hw : o.within S) (h : OR w G1 π1 O1 id o) : OR w G2 π2 O2 (ρ id) (o.ren ρ) := by
  cases o with
  | row t l =>
    simp only [TO.ren, OR] at h ⊢
    rw [hid]
    rcases h with h | ⟨g, cur, e, h1, h2, h3, h4, h5, h6⟩
    · exact .inl h
    · refine .inr ⟨g, cur, e, h1, h2, h3, h4, h5, fun i hi c hc => ?_⟩
      obtain ⟨u, a1, a2, a3⟩ := h6 i hi c hc
      refine ⟨u, a1, a2, ?_⟩
      rcases hz with hz | hz
      · exact DT.cell_mono hz a3
      · exact DT.cell_noSl (t := t) hz.1 a3
  | rcd fs =>
    simp only [TO.ren, OR] at h ⊢
    rw [hid]
    obtain ⟨g, cur, e, h1, h2, h3⟩ := h
    refine ⟨g, cur, e, h1, h2, fun j x hx c hc => ?_⟩
    simp only [List.getElem?_map, Option.map_eq_some_iff] at hx
    obtain ⟨y, hy, rfl⟩ := hx
    rw [TV.size_ren] at hc
    obtain ⟨u, a1, a2, a3⟩ := h3 j y hy c hc
    refine ⟨u, by rw [offs_ren]; exact a1, a2, TV.fcell_ren hS (hz.imp (fun h => h) fun h => ⟨h.1 j y hy, h.2⟩) (hw j y hy) a3⟩
  | map kt vt l =>
    simp only [TO.ren, OR] at h ⊢
    rw [hid]
    obtain ⟨g, es, ck, h1, h2, h3, h4, h5, h6⟩ := h
    refine ⟨g, es, ck, h1, h2, h3, h4, h5, fun i e he => ?_⟩
    obtain ⟨x, a1, a2, a3⟩ := h6 i e he
    refine ⟨x, a1, ?_, ?_⟩
    · rcases hz with hz | hz
      · exact DT.val_mono hz a2
      · exact DT.val_noSl (t := kt) hz.1.1 a2
    · rcases hz with hz | hz
      · exact DT.val_mono hz a3
      · exact DT.val_noSl (t := vt) hz.1.2 a3
  | iter kt vt l cur =>
    simp only [TO.ren, OR] at h ⊢
    rw [hid]
    obtain ⟨r, h1, h2⟩ := h
    rcases hz with hz | hz
    · exact ⟨r, h1, h2.mono hz rfl⟩
    · exact hz.1.elim
  | frz t l => trivial
  | dead => trivial

/-- The formal number of an actual one. -/
def bk (ρ : Nat → Nat) : List (Nat × TO) → Nat → Option Nat
  | [], _ => none
  | (j, _) :: r, i => if i = ρ j then some j else bk ρ r i

/-- Objects under their actual numbers. -/
def renO (ρ : Nat → Nat) (O : List (Nat × TO)) : List (Nat × TO) := O.map fun p => (ρ p.1, p.2.ren ρ)

theorem bk_some {ρ : Nat → Nat} : ∀ {O : List (Nat × TO)} {i j : Nat}, bk ρ O i = some j → i = ρ j ∧ ∃ o, tlook O j = some o
  | [], i, j, h => by cases h
  | (j0, o0) :: r, i, j, h => by
    simp only [bk] at h
    split at h
    · rename_i e; obtain rfl := Option.some.inj h; exact ⟨e, o0, by simp [tlook]⟩
    · obtain ⟨a, o, b⟩ := bk_some h
      by_cases e : j = j0
      · subst e; exact ⟨a, o0, by simp [tlook]⟩
      · exact ⟨a, o, by simp [tlook, e, b]⟩

theorem bk_none {ρ : Nat → Nat} : ∀ {O : List (Nat × TO)} {i : Nat}, bk ρ O i = none → ∀ j o, tlook O j = some o → i ≠ ρ j
  | [], i, _, j, o, h => by cases h
  | (j0, o0) :: r, i, h, j, o, ho => by
    simp only [bk] at h
    split at h
    · cases h
    · rename_i e
      simp only [tlook] at ho
      split at ho
      · rename_i e2; subst e2; exact e
      · exact bk_none h j o ho

theorem tlook_renO {ρ : Nat → Nat} (O : List (Nat × TO)) (hinj : ∀ j j' o o', tlook O j = some o → tlook O j' = some o' → ρ j = ρ j' → j = j') (R : List (Nat × TO)) (i : Nat) :
    tlook (renO ρ O ++ R) i = match bk ρ O i with | some j => (tlook O j).map (TO.ren ρ) | none => tlook R i := by
  have gen : ∀ (L : List (Nat × TO)), (∀ j o, tlook L j = some o → ∃ o', tlook O j = some o') → tlook (renO ρ L ++ R) i = match bk ρ L i with | some j => (tlook L j).map (TO.ren ρ) | none => tlook R i := by
    intro L
    induction L with
    | nil => intro _; rfl
    | cons p r ih =>
      obtain ⟨j0, o0⟩ := p
      intro hL
      have hL0 : ∃ o', tlook O j0 = some o' := hL j0 o0 (by simp [tlook])
      simp only [renO, List.map_cons, List.cons_append, tlook, bk]
      by_cases e : i = ρ j0
      · rw [if_pos e, if_pos e]; simp
      · rw [if_neg e, if_neg e]
        have hr : ∀ j o, tlook r j = some o → ∃ o', tlook O j = some o' := fun j o ho => by
          by_cases e2 : j = j0
          · rw [e2]; exact hL0
          · exact hL j o (by simp [tlook, e2, ho])
        have := ih hr
        simp only [renO] at this
        rw [this]
        cases hb : bk ρ r i with
        | none => rfl
        | some j =>
          obtain ⟨a, o, b⟩ := bk_some hb
          have hne : j ≠ j0 := fun e2 => e (a.trans (by rw [e2]))
          simp only [hne, if_false]
  exact gen O fun j o h => ⟨o, h⟩

end Go.Proofs.YtbjfbbfglkmadaaDoor
