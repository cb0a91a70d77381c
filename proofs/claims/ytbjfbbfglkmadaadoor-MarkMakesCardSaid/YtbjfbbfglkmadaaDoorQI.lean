/-
  Lifting Go functions to plain Lean functions, part I: lists of cells; constants; values as data.
-/
import Derived.Test.YtbjfbbfglkmadaaDoorQH
namespace Go.Proofs.YtbjfbbfglkmadaaDoor
open Go.RowKit
set_option linter.unusedVariables false

theorem fold_set (off : Nat) : ∀ (l : List Value) (i : Nat) (cells : Array Value), off + i + l.length ≤ cells.size →
    ((l.zipIdx i).foldl (fun cs p => cs.setIfInBounds (off + p.2) p.1) cells).size = cells.size ∧
    ∀ q, ((l.zipIdx i).foldl (fun cs p => cs.setIfInBounds (off + p.2) p.1) cells)[q]? = if off + i ≤ q ∧ q < off + i + l.length then l[q - (off + i)]? else cells[q]?
  | [], i, cells, h => by refine ⟨rfl, fun q => ?_⟩; rw [if_neg (by simp)]; rfl
  | v :: l, i, cells, h => by
    simp only [List.length_cons] at h
    simp only [List.zipIdx_cons, List.foldl_cons]
    obtain ⟨h1, h2⟩ := fold_set off l (i + 1) (cells.setIfInBounds (off + i) v) (by simp; omega)
    refine ⟨by rw [h1]; simp, fun q => ?_⟩
    rw [h2 q]
    by_cases hq : q = off + i
    · subst hq
      rw [if_neg (by omega), if_pos (by simp)]
      simp [Array.getElem?_setIfInBounds]
      omega
    · by_cases hc : off + (i + 1) ≤ q ∧ q < off + (i + 1) + l.length
      · rw [if_pos hc, if_pos (by simp; omega)]
        have : q - (off + i) = (q - (off + (i + 1))) + 1 := by omega
        rw [this, List.getElem?_cons_succ]
      · rw [if_neg hc, if_neg (by simp; omega)]
        rw [Array.getElem?_setIfInBounds, if_neg (fun e => hq e.symm)]

/-- What lies at cell q behind all parts. -/
def paint (place : Nat → Option (Nat × Nat)) : List (Nat × Value) → Option Value → Nat → Option Value
  | [], z, _ => z
  | (i, v) :: r, z, q => paint place r (match place i with
    | some (off, sz) => if off ≤ q ∧ q < off + sz then v.cells[q - off]? else z
    | none => z) q

theorem fill_ok (place : Nat → Option (Nat × Nat)) : ∀ (parts : List (Nat × Value)) (cells : Array Value), (∀ p ∈ parts, ∃ off sz, place p.1 = some (off, sz) ∧ p.2.cells.size = sz ∧ off + sz ≤ cells.size) →
    ∃ cells', Instr.fill place cells parts = some cells' ∧ cells'.size = cells.size ∧ ∀ q, cells'[q]? = paint place parts cells[q]? q
  | [], cells, _ => ⟨cells, rfl, rfl, fun q => rfl⟩
  | (i, v) :: r, cells, h => by
    obtain ⟨off, sz, h1, h2, h3⟩ := h (i, v) (by simp)
    simp only at h1 h2
    have hf := fold_set off v.cells.toList 0 cells (by simpa using (by omega : off + v.cells.size ≤ cells.size))
    have e : v.cells.zipIdx.foldl (fun cs (c, j) => cs.setIfInBounds (off + j) c) cells = (v.cells.toList.zipIdx 0).foldl (fun cs p => cs.setIfInBounds (off + p.2) p.1) cells := by
      rw [← Array.foldl_toList, Array.toList_zipIdx]
    obtain ⟨c', h4, h5, h6⟩ := fill_ok place r ((v.cells.toList.zipIdx 0).foldl (fun cs p => cs.setIfInBounds (off + p.2) p.1) cells) fun p hp => by
      rw [hf.1]; exact h p (by simp [hp])
    refine ⟨c', ?_, h5.trans hf.1, fun q => ?_⟩
    · simp only [Instr.fill, h1]
      rw [if_neg (by simp; omega), e]
      exact h4
    · rw [h6 q, hf.2 q]
      simp only [paint, h1]
      congr 1
      simp only [Nat.add_zero, Array.length_toList, Array.getElem?_toList, h2]

/-- A part that alone covers a cell. -/
theorem paint_only (place : Nat → Option (Nat × Nat)) {q off sz i : Nat} {v : Value} : ∀ (parts : List (Nat × Value)) (z : Option Value), place i = some (off, sz) → off ≤ q ∧ q < off + sz → (i, v) ∈ parts →
    (∀ p ∈ parts, ∀ off' sz', place p.1 = some (off', sz') → off' ≤ q ∧ q < off' + sz' → p = (i, v)) → paint place parts z q = v.cells[q - off]?
  | [], z, _, _, hm, _ => by simp at hm
  | (j, u) :: r, z, hp, hq, hm, hu => by
    simp only [paint]
    by_cases hr : (i, v) ∈ r
    · exact paint_only place r _ hp hq hr fun p hp' => hu p (by simp [hp'])
    · have he : (j, u) = (i, v) := by
        rcases List.mem_cons.1 hm with h | h
        · exact h.symm
        · exact absurd h hr
      simp only [Prod.mk.injEq] at he
      obtain ⟨rfl, rfl⟩ := he
      simp only [hp]
      rw [if_pos hq]
      have : ∀ (r : List (Nat × Value)) (z : Option Value), (∀ p ∈ r, ∀ off' sz', place p.1 = some (off', sz') → ¬ (off' ≤ q ∧ q < off' + sz')) → paint place r z q = z := by
        intro r
        induction r with
        | nil => intro z _; rfl
        | cons p r ih =>
          intro z h
          obtain ⟨j', u'⟩ := p
          simp only [paint]
          rw [ih _ fun p hp => h p (by simp [hp])]
          cases hpl : place j' with
          | none => rfl
          | some os => obtain ⟨o', s'⟩ := os; simp only; rw [if_neg (h (j', u') (by simp) o' s' hpl)]
      refine this r _ fun p hpr off' sz' hpl hc => ?_
      have := hu p (by simp [hpr]) off' sz' hpl hc
      exact hr (this ▸ hpr)

theorem idx_lt {n k i j : Nat} (hi : i < n) (hj : j < k) : i * k + j < n * k := by
  have : (i + 1) * k ≤ n * k := Nat.mul_le_mul_right k hi
  rw [Nat.add_mul, Nat.one_mul] at this
  omega

theorem div_lt {n k q : Nat} (h : q < n * k) : q / k < n ∧ 0 < k ∧ q % k < k ∧ q / k * k + q % k = q := by
  have hk : 0 < k := Nat.pos_of_ne_zero fun e => by subst e; simp at h
  refine ⟨(Nat.div_lt_iff_lt_mul hk).2 h, hk, Nat.mod_lt _ hk, ?_⟩
  rw [Nat.mul_comm]; exact Nat.div_add_mod q k

/-- A list of cells that holds a list of data. -/
structure CL (w : World) (G : Nat → Prop) (t : DT) (l : List t.den) (cs : List Value) : Prop where
  len : cs.length = l.length * t.size
  el : ∀ i, i < l.length → ∀ c, c < t.size → ∃ u, cs[i * t.size + c]? = some u ∧ u.oneCell' = true ∧ t.cell (l.getD i t.dflt) c w G u

theorem CL.flat {w : World} {G : Nat → Prop} {t : DT} {l : List t.den} {cs : List Value} (h : CL w G t l cs) : ∀ u ∈ cs, u.oneCell' = true := fun u hu => by
  obtain ⟨q, hq, rfl⟩ := List.getElem_of_mem hu
  rw [h.len] at hq
  obtain ⟨a1, a2, a3, a4⟩ := div_lt hq
  obtain ⟨u, b1, b2, b3⟩ := h.el _ a1 _ a3
  rw [a4] at b1
  rw [List.getElem?_eq_getElem (by rw [h.len]; exact hq)] at b1
  rw [Option.some.inj b1]; exact b2

theorem getD_append {α : Type} (l m : List α) (i : Nat) (d : α) : (l ++ m).getD i d = if i < l.length then l.getD i d else m.getD (i - l.length) d := by
  by_cases h : i < l.length
  · rw [if_pos h]; simp [List.getD, List.getElem?_append_left h]
  · rw [if_neg h]; simp [List.getD, List.getElem?_append_right (Nat.le_of_not_lt h)]

theorem CL.append {w : World} {G : Nat → Prop} {t : DT} {l m : List t.den} {cs ds : List Value} (h : CL w G t l cs) (g : CL w G t m ds) : CL w G t (l ++ m) (cs ++ ds) := by
  refine ⟨by rw [List.length_append, List.length_append, h.len, g.len, Nat.add_mul], fun i hi c hc => ?_⟩
  rw [getD_append]
  by_cases hin : i < l.length
  · obtain ⟨u, a, b⟩ := h.el i hin c hc
    rw [if_pos hin, List.getElem?_append_left (by rw [h.len]; exact idx_lt hin hc)]
    exact ⟨u, a, b⟩
  · rw [List.length_append] at hi
    obtain ⟨u, a, b⟩ := g.el (i - l.length) (by omega) c hc
    have hle : l.length * t.size ≤ i * t.size := Nat.mul_le_mul_right _ (by omega)
    have e : i * t.size + c - cs.length = (i - l.length) * t.size + c := by
      rw [h.len, Nat.sub_mul]; omega
    rw [if_neg hin, List.getElem?_append_right (by rw [h.len]; omega), e]
    exact ⟨u, a, b⟩

theorem CL.mono {w w' : World} {G G' : Nat → Prop} {t : DT} {l : List t.den} {cs : List Value} (h : CL w G t l cs) (hz : FzTo w G w' G') : CL w' G' t l cs :=
  ⟨h.len, fun i hi c hc => let ⟨u, a, b, d⟩ := h.el i hi c hc; ⟨u, a, b, DT.cell_mono hz d⟩⟩

theorem getD_slice {α : Type} (l : List α) (a b i : Nat) (d : α) (hb : b ≤ l.length) (hi : i < b - a) : ((l.take b).drop a).getD i d = l.getD (a + i) d := by
  simp only [List.getD, List.getElem?_drop]
  rw [List.getElem?_take_of_lt (by omega)]

section
variable {P : Program} {TI : Nat → TD} {c : Cx} {F : Nat → Prop} {s : TS} {π : Nat → Pl} {a : Act} {w : World}

/-- Cells in a block, as a list. -/
theorem CL.of_block {G : Nat → Prop} {t : DT} {l : List t.den} {cells : Nat → Option Value} (h : ∀ i, i < l.length → ∀ c, c < t.size → ∃ u, cells (i * t.size + c) = some u ∧ u.oneCell' = true ∧ t.cell (l.getD i t.dflt) c w G u) :
    ∃ cs, CL w G t l cs ∧ ∀ q, q < l.length * t.size → cs[q]? = cells q := by
  refine ⟨(List.range (l.length * t.size)).map fun q => (cells q).getD undef, ⟨by simp, fun i hi c hc => ?_⟩, fun q hq => ?_⟩
  · obtain ⟨u, a1, a2, a3⟩ := h i hi c hc
    refine ⟨u, ?_, a2, a3⟩
    rw [List.getElem?_map, List.getElem?_range (idx_lt hi hc)]
    simp [a1]
  · obtain ⟨a1, a2, a3, a4⟩ := div_lt hq
    obtain ⟨u, b1, _⟩ := h _ a1 _ a3
    rw [a4] at b1
    rw [List.getElem?_map, List.getElem?_range hq]
    simp [b1]

/-- What lies in a slice, as a list of cells. -/
theorem src_ok (hm : RelM c F π s a w) {x : TV} {v : Value} {t : DT} {l : List t.den} (h : x.data (tlook s.ob) = some ⟨t, l⟩) (hv : VR w (Gz F w π (tlook s.ob)) π (tlook s.ob) x v) :
    ∃ cs p cap, CL w (Gz F w π (tlook s.ob)) t l cs ∧ v = .slice p l.length cap ∧ ∀ w' : World, (∀ b o, w.cell? ⟨b, o, none⟩ ≠ none → w'.cell? ⟨b, o, none⟩ = w.cell? ⟨b, o, none⟩) → (Builtin.firstCells t.size l.length v).run P w' = .ok cs.toArray w' := by
  -- from cells at a place
  have key : ∀ (p : Option Addr) (cap : Nat), v = .slice p l.length cap → (0 < l.length → ∃ b o, p = some ⟨b, o, none⟩ ∧ ∀ i, i < l.length → ∀ c, c < t.size → ∃ u, w.cell? ⟨b, o + i * t.size + c, none⟩ = some u ∧ u.oneCell' = true ∧ t.cell (l.getD i t.dflt) c w (Gz F w π (tlook s.ob)) u) → ∃ cs p cap, CL w (Gz F w π (tlook s.ob)) t l cs ∧ v = .slice p l.length cap ∧ ∀ w' : World, (∀ b o, w.cell? ⟨b, o, none⟩ ≠ none → w'.cell? ⟨b, o, none⟩ = w.cell? ⟨b, o, none⟩) → (Builtin.firstCells t.size l.length v).run P w' = .ok cs.toArray w' := fun p cap hv hc => by
    by_cases hn : 0 < l.length
    · obtain ⟨b, o, rfl, h2⟩ := hc hn
      obtain ⟨cs, h3, h4⟩ := CL.of_block (w := w) (l := l) (cells := fun q => w.cell? ⟨b, o + q, none⟩) (fun i hi c hc => by
        obtain ⟨u, a1, a2, a3⟩ := h2 i hi c hc
        exact ⟨u, by rw [← a1, Nat.add_assoc], a2, a3⟩)
      refine ⟨cs, _, cap, h3, hv, fun w' hw' => ?_⟩
      subst hv
      refine run_firstCells_some w' t.size l.length ⟨b, o, none⟩ l.length cap _ h3.len fun j u hu => ?_
      rw [add_lit]
      have hj : j < l.length * t.size := by have := (List.getElem?_eq_some_iff.1 hu).1; rw [h3.len] at this; exact this
      have := h4 j hj
      rw [hu] at this
      rw [hw' b (o + j) (by rw [← this]; simp), ← this]
    · have h0 : l = [] := List.eq_nil_of_length_eq_zero (by omega)
      subst h0
      refine ⟨[], p, cap, ⟨by simp, fun i hi => by simp at hi⟩, hv, fun w' _ => ?_⟩
      subst hv
      cases p with
      | none => simp [Builtin.firstCells]
      | some p => simp [Builtin.firstCells, loadCells, loadCellsFrom]
  have ofF : x.fdata (tlook s.ob) = some ⟨t, l⟩ → ∃ cs p cap, CL w (Gz F w π (tlook s.ob)) t l cs ∧ v = .slice p l.length cap ∧ ∀ w' : World, (∀ b o, w.cell? ⟨b, o, none⟩ ≠ none → w'.cell? ⟨b, o, none⟩ = w.cell? ⟨b, o, none⟩) → (Builtin.firstCells t.size l.length v).run P w' = .ok cs.toArray w' := fun hf => by
    obtain ⟨p, cap, h1, h2, h3, h4, _, h6⟩ := TV.fdata_ok hf hv
    exact key p cap h1 fun hn => let ⟨b, o, a1, _, a3⟩ := h6 hn; ⟨b, o, a1, a3⟩
  cases x with
  | dv u y => exact ofF (by cases u <;> exact h)
  | row id =>
    simp only [VR] at hv
    cases ho : tlook s.ob id with
    | none => rw [ho] at hv; exact hv.elim
    | some o =>
      rw [ho] at hv
      cases o with
      | frz t' l' => exact ofF (by simp only [TV.fdata, ho]; simp only [TV.data, ho] at h; exact h)
      | row t' l' =>
        simp only [TV.data, ho, Option.some.injEq, Sigma.mk.injEq] at h
        obtain ⟨rfl, h⟩ := h; obtain rfl := eq_of_heq h
        simp only at hv
        rcases hm.obj id _ ho with ⟨h1, h2⟩ | ⟨g, cur, e, h1, h2, h3, h4, h5, h6⟩
        · subst h2
          refine key none 0 (by rw [hv, Pl.hdr, h1]; rfl) fun h => by simp at h
        · refine key _ _ (by rw [hv, Pl.hdr, h1]) fun _ => ⟨g, _, rfl, fun i hi cc hcc => ?_⟩
          obtain ⟨u, b1, b2⟩ := h6 i hi cc hcc
          exact ⟨u, by rw [cell_at h2]; exact b1, b2⟩
      | _ => simp [TV.data, ho] at h
  | vrow id i j =>
    simp only [VR] at hv
    cases ho : tlook s.ob id with
    | none => rw [ho] at hv; exact hv.elim
    | some o =>
      rw [ho] at hv
      cases o with
      | row t' l' =>
        simp only [TV.data, ho, Option.some.injEq, Sigma.mk.injEq] at h
        obtain ⟨rfl, h⟩ := h; obtain rfl := eq_of_heq h
        obtain ⟨h1, h2, p, cp, h3, _, _, _, h5⟩ := hv
        have hl : ((l'.take j).drop i).length = j - i := by simp; omega
        refine key p cp (by rw [h3, hl]) fun hn => ?_
        rw [hl] at hn ⊢
        obtain ⟨g, q1, q2⟩ := h5 (by omega)
        refine ⟨g, _, q2, fun k hk cc hcc => ?_⟩
        rcases hm.obj id _ ho with ⟨r1, r2⟩ | ⟨g', cur, e, r1, r2, r3, r4, r5, r6⟩
        · subst r2; simp at h2; omega
        · rw [q1] at r1; obtain rfl := Option.some.inj r1
          obtain ⟨u, b1, b2, b3⟩ := r6 (i + k) (by omega) cc hcc
          refine ⟨u, ?_, b2, ?_⟩
          · rw [cell_at r2, ← b1, Nat.add_mul]; congr 1; omega
          · rw [getD_slice _ _ _ _ _ h2 hk]; exact b3
      | frz t' l' => exact ofF (by simp only [TV.fdata, ho]; simp only [TV.data, ho] at h; exact h)
      | _ => simp [TV.data, ho] at h
  | _ => simp [TV.data] at h

end

/-- Constants that are a type's zero. -/
def isZeroR (f : List Value → Option (List Value)) : Nat → List Value → Option (List Value)
  | 0, l => some l
  | n + 1, l => (f l).bind (isZeroR f n)

def zeroL : (t : DT) → List Value → Option (List Value)
  | .unit, l => some l
  | .arr n t, l => isZeroR (zeroL t) n l
  | .pair a b, l => (zeroL a l).bind (zeroL b)
  | t, v :: l => if isZero1 v t then some l else none
  | _, [] => none

def isZero (v : Value) (t : DT) : Bool :=
  if t.agg then (match v with | .agg cs => (zeroL t cs.toList).map (·.length) == some 0 | _ => false) else isZero1 v t

theorem isZero1_ok {v : Value} {t : DT} (h : isZero1 v t = true) {w : World} {G : Nat → Prop} : t.cell t.dflt 0 w G v := by
  have nil : ∀ (fl : Option Addr → Nat → Nat → Prop) (k : Nat) (f : Nat → Nat → CP), fl none 0 0 → SlP fl k 0 f w G (.slice none 0 0) := fun fl k f hf => ⟨none, 0, rfl, Nat.le_refl _, by simp [maxLen], fun _ => rfl, hf, fun h => by omega⟩
  cases t with
  | int k =>
    simp only [isZero1] at h
    split at h
    · simp only [Bool.and_eq_true, decide_eq_true_eq] at h; obtain ⟨rfl, rfl⟩ := h; rfl
    · cases h
  | bool =>
    simp only [isZero1] at h
    split at h
    · simp only [Bool.not_eq_true'] at h; subst h; rfl
    · cases h
  | str =>
    simp only [isZero1] at h
    split at h
    · rename_i s
      obtain ⟨⟨l⟩⟩ := s
      have : l = [] := by simpa using h
      subst this; rfl
    · cases h
  | sl t => simp only [isZero1] at h; split at h <;> first | exact nil _ _ _ trivial | cases h
  | csl t => simp only [isZero1] at h; split at h <;> first | exact nil _ _ _ rfl | cases h
  | nsl t => simp only [isZero1] at h; split at h <;> first | rfl | cases h
  | fp t => simp only [isZero1] at h; split at h <;> first | rfl | cases h
  | _ => simp [isZero1] at h

theorem zeroL_ok {w : World} {G : Nat → Prop} : ∀ {t : DT} {l r : List Value}, t.plain = true → zeroL t l = some r → ∃ m, l = m ++ r ∧ m.length = t.size ∧ ∀ c, c < t.size → ∃ u, m[c]? = some u ∧ u.oneCell' = true ∧ t.cell t.dflt c w G u := by
  intro t
  have one : ∀ {t : DT} {l r : List Value}, t.plain = true → t.agg = false → (∀ v l, zeroL t (v :: l) = if isZero1 v t then some l else none) → zeroL t [] = none → zeroL t l = some r → ∃ m, l = m ++ r ∧ m.length = t.size ∧ ∀ c, c < t.size → ∃ u, m[c]? = some u ∧ u.oneCell' = true ∧ t.cell t.dflt c w G u := fun {t l r} hp ha h1 h2 h => by
    cases l with
    | nil => rw [h2] at h; cases h
    | cons v l =>
      rw [h1] at h
      split at h
      · rename_i hz
        obtain rfl := Option.some.inj h
        have hs := DT.size_one ha hp
        refine ⟨[v], rfl, by rw [hs]; rfl, fun c hc => ?_⟩
        obtain rfl : c = 0 := by omega
        exact ⟨v, rfl, DT.cell_one (isZero1_ok (w := w) (G := G) hz), isZero1_ok hz⟩
      · cases h
  induction t with
  | unit => intro l r _ h; simp only [zeroL, Option.some.injEq] at h; subst h; exact ⟨[], rfl, rfl, fun c hc => by simp [DT.size] at hc⟩
  | int k => intro l r hp h; exact one hp rfl (fun _ _ => rfl) rfl h
  | bool => intro l r hp h; exact one hp rfl (fun _ _ => rfl) rfl h
  | str => intro l r hp h; exact one hp rfl (fun _ _ => rfl) rfl h
  | sl t _ => intro l r hp h; exact one hp rfl (fun _ _ => rfl) rfl h
  | csl t _ => intro l r hp h; exact one hp rfl (fun _ _ => rfl) rfl h
  | nsl t _ => intro l r hp h; exact one hp rfl (fun _ _ => rfl) rfl h
  | fp t _ => intro l r hp h; exact one hp rfl (fun _ _ => rfl) rfl h
  | ifn => intro l r hp h; exact one hp rfl (fun _ _ => rfl) rfl h
  | ifc T t r _ _ => intro l q hp h; exact one hp rfl (fun _ _ => rfl) rfl h
  | arr n t ih =>
    intro l r hp h
    have hp' : t.plain = true := hp
    have gen : ∀ n l, isZeroR (zeroL t) n l = some r → ∃ m, l = m ++ r ∧ m.length = n * t.size ∧ ∀ i, i < n → ∀ c, c < t.size → ∃ u, m[i * t.size + c]? = some u ∧ u.oneCell' = true ∧ t.cell t.dflt c w G u := by
      intro n
      induction n with
      | zero => intro l h; simp only [isZeroR, Option.some.injEq] at h; subst h; exact ⟨[], rfl, by simp, fun i hi => by omega⟩
      | succ n ihn =>
        intro l h
        simp only [isZeroR] at h
        obtain ⟨l1, h1, h2⟩ := Option.bind_eq_some_iff.1 h
        obtain ⟨m1, rfl, e1, f1⟩ := ih hp' h1
        obtain ⟨m2, rfl, e2, f2⟩ := ihn _ h2
        refine ⟨m1 ++ m2, by simp, by rw [List.length_append, e1, e2, Nat.add_mul]; omega, fun i hi c hc => ?_⟩
        cases i with
        | zero =>
          obtain ⟨u, a1, a2⟩ := f1 c hc
          exact ⟨u, by rw [Nat.zero_mul, Nat.zero_add, List.getElem?_append_left (by omega)]; exact a1, a2⟩
        | succ i =>
          obtain ⟨u, a1, a2⟩ := f2 i (by omega) c hc
          refine ⟨u, ?_, a2⟩
          rw [Nat.add_mul, Nat.one_mul, List.getElem?_append_right (by omega), e1, show i * t.size + t.size + c - t.size = i * t.size + c by omega]
          exact a1
    obtain ⟨m, h1, h2, h3⟩ := gen n l h
    refine ⟨m, h1, h2, fun c hc => ?_⟩
    obtain ⟨a1, a2, a3, a4⟩ := div_lt (show c < n * t.size from hc)
    obtain ⟨u, b1, b2, b3⟩ := h3 _ a1 _ a3
    rw [a4] at b1
    refine ⟨u, b1, b2, ?_⟩
    show t.cell ((List.replicate n t.dflt).getD (c / t.size) t.dflt) (c % t.size) w G u
    have : (List.replicate n t.dflt).getD (c / t.size) t.dflt = t.dflt := by simp [List.getD, List.getElem?_replicate, a1]
    rw [this]; exact b3
  | pair a b iha ihb =>
    intro l r hp h
    simp only [DT.plain, Bool.and_eq_true] at hp
    simp only [zeroL] at h
    obtain ⟨l1, h1, h2⟩ := Option.bind_eq_some_iff.1 h
    obtain ⟨m1, rfl, e1, f1⟩ := iha hp.1 h1
    obtain ⟨m2, rfl, e2, f2⟩ := ihb hp.2 h2
    refine ⟨m1 ++ m2, by simp, by rw [List.length_append, e1, e2]; rfl, fun c hc => ?_⟩
    by_cases hca : c < a.size
    · obtain ⟨u, a1, a2, a3⟩ := f1 c hca
      refine ⟨u, by rw [List.getElem?_append_left (by omega)]; exact a1, a2, ?_⟩
      show (if c < a.size then a.cell a.dflt c else b.cell b.dflt (c - a.size)) w G u
      rw [if_pos hca]; exact a3
    · have hc' : c < a.size + b.size := hc
      obtain ⟨u, a1, a2, a3⟩ := f2 (c - a.size) (by omega)
      refine ⟨u, by rw [List.getElem?_append_right (by omega), e1]; exact a1, a2, ?_⟩
      show (if c < a.size then a.cell a.dflt c else b.cell b.dflt (c - a.size)) w G u
      rw [if_neg hca]; exact a3
  | tup t ih => intro l r hp h; simp [DT.plain] at hp

theorem isZero_ok {v : Value} {t : DT} (hp : t.plain = true) (h : isZero v t = true) {w : World} {G : Nat → Prop} : t.val t.dflt w G v := by
  unfold isZero at h
  split at h
  · rename_i ha
    split at h
    · rename_i cs
      simp only [beq_iff_eq] at h
      obtain ⟨r, h1, h2⟩ := Option.map_eq_some_iff.1 h
      have : r = [] := List.eq_nil_of_length_eq_zero h2
      subst this
      obtain ⟨m, e1, e2, e3⟩ := zeroL_ok (w := w) (G := G) hp h1
      rw [List.append_nil] at e1
      refine (DT.val_agg ha).2 ⟨cs, rfl, by rw [← e2, ← e1]; simp, fun c hc => ?_⟩
      obtain ⟨u, a1, a2, a3⟩ := e3 c hc
      exact ⟨u, by rw [← Array.getElem?_toList, e1]; exact a1, a2, a3⟩
    · cases h
  · rename_i ha
    exact (DT.val_one (by simpa using ha)).2 (isZero1_ok h)

/-- A frozen slice with elements of a type. -/
def coSl (L : Obs) (v : DT) (x : TV) : Option (List v.den) :=
  match x.fdata L with
  | some ⟨v', l⟩ => if h : v' = v then some (h ▸ l) else none
  | none => none

/-- Something of a type, as an interface that can hold it. -/
def DT.inj (T' : Nat) (t' : DT) (y : t'.den) : (s : DT) → Option s.den
  | .ifc T t r => if h : t' = t then (if T = T' then some (.inl (h ▸ y)) else (DT.inj T' t' y r).map .inr) else (DT.inj T' t' y r).map .inr
  | _ => none

theorem DT.inj_ok {T' : Nat} {t' : DT} {y : t'.den} {w : World} {G : Nat → Prop} {u : Value} (h1 : u.oneCell' = true) (h2 : t'.cell y 0 w G u) : ∀ {s : DT} {z : s.den}, DT.inj T' t' y s = some z → s.cell z 0 w G (.iface T' u) := by
  intro s
  induction s with
  | ifc T t r _ ih =>
    intro z h
    have rest : (DT.inj T' t' y r).map Sum.inr = some z → (DT.ifc T t r).cell z 0 w G (.iface T' u) := fun h => by
      obtain ⟨b, hb, rfl⟩ := Option.map_eq_some_iff.1 h
      exact ih hb
    simp only [DT.inj] at h
    split at h
    · rename_i e
      subst e
      split at h
      · rename_i e
        subst e
        obtain rfl := Option.some.inj h
        exact ⟨u, rfl, h1, h2⟩
      · exact rest h
    · exact rest h
  | _ => intro z h; simp [DT.inj] at h

def coAs (L : Obs) (x : TV) : (t : DT) → Option (t.den × Bool)
  | .sl v => (coSl L v x).map fun l => (l, true)
  | .nsl v => (coSl L v x).map fun l => (some l, decide (0 < l.length))
  | .ifc T t r => match x with
    | .dv (.ifc T' t' .ifn) (.inl y) => (DT.inj T' t' y (.ifc T t r)).map fun z => (z, true)
    | _ => none
  | _ => none

/-- A slot's value as data. -/
def TV.as (L : Obs) (t : DT) (x : TV) : Option (t.den × Bool) :=
  match x with
  | .dv u y => if h : u = t then some (h ▸ y, true) else coAs L (.dv u y) t
  | .nl => (match t with
    | .sl _ => some ([], true)
    | .csl _ => some ([], true)
    | .nsl _ => some (none, true)
    | _ => none)
  | .row id => coAs L (.row id) t
  | .vrow id a b => coAs L (.vrow id a b) t
  | .cst v => if isZero v t then some (t.dflt, true) else none
  | _ => none

theorem sl_some {w : World} {G : Nat → Prop} {t : DT} {l : List t.den} {v : Value} (h : (DT.sl t).cell l 0 w G v) (hl : 0 < l.length) : (DT.nsl t).cell (some l) 0 w G v := by
  obtain ⟨p, cap, h1, h2, h3, h4, _, h6⟩ := h
  refine ⟨p, cap, h1, h2, h3, h4, ?_, h6⟩
  obtain ⟨b, o, e, _⟩ := h6 hl
  intro e2; rw [e] at e2; cases e2

theorem coSl_ok {L : Obs} {v : DT} {x : TV} {l : List v.den} (h : coSl L v x = some l) {w : World} {G : Nat → Prop} {π : Nat → Pl} {z : Value} (hv : VR w G π L x z) : (DT.sl v).cell l 0 w G z := by
  unfold coSl at h
  split at h
  · rename_i v' l' hf
    split at h
    · rename_i e
      subst e
      obtain rfl := Option.some.inj h
      exact TV.fdata_ok hf hv
    · cases h
  · cases h

theorem coAs_ok {L : Obs} {t : DT} {x : TV} {y : t.den} {b : Bool} (h : coAs L x t = some (y, b)) (hb : b = true) {w : World} {G : Nat → Prop} {π : Nat → Pl} {z : Value} (hv : VR w G π L x z) : t.val y w G z := by
  cases t with
  | sl v =>
    obtain ⟨l, hl, he⟩ := Option.map_eq_some_iff.1 h
    simp only [Prod.mk.injEq] at he
    obtain ⟨rfl, rfl⟩ := he
    exact (DT.val_one rfl).2 (coSl_ok hl hv)
  | nsl v =>
    obtain ⟨l, hl, he⟩ := Option.map_eq_some_iff.1 h
    simp only [Prod.mk.injEq] at he
    obtain ⟨rfl, rfl⟩ := he
    exact (DT.val_one rfl).2 (sl_some (coSl_ok hl hv) (by simpa using hb))
  | ifc T t r =>
    simp only [coAs] at h
    split at h
    · rename_i T' t' q
      obtain ⟨l, hl, he⟩ := Option.map_eq_some_iff.1 h
      simp only [Prod.mk.injEq] at he
      obtain ⟨rfl, rfl⟩ := he
      obtain ⟨u, e1, e2, e3⟩ : ∃ u, z = .iface T' u ∧ u.oneCell' = true ∧ t'.cell q 0 w G u := (DT.val_one (t := .ifc T' t' .ifn) rfl).1 hv
      subst e1
      exact (DT.val_one rfl).2 (DT.inj_ok e2 e3 hl)
    · cases h
  | _ => simp [coAs] at h

theorem TV.as_ok {L : Obs} {t : DT} {x : TV} {y : t.den} {b : Bool} (h : x.as L t = some (y, b)) (hb : b = true) (hp : t.plain = true) {w : World} {G : Nat → Prop} {π : Nat → Pl} {v : Value} (hv : VR w G π L x v) : t.val y w G v := by
  cases x with
  | dv u z =>
    simp only [TV.as] at h
    split at h
    · rename_i e
      subst e
      simp only [Option.some.injEq, Prod.mk.injEq] at h
      obtain ⟨rfl, _⟩ := h
      exact hv
    · exact coAs_ok h hb hv
  | nl =>
    obtain rfl : v = .slice none 0 0 := hv
    have nil : ∀ (fl : Option Addr → Nat → Nat → Prop) (k : Nat) (f : Nat → Nat → CP), fl none 0 0 → SlP fl k 0 f w G (.slice none 0 0) := fun fl k f hf => ⟨none, 0, rfl, Nat.le_refl _, by simp [maxLen], fun _ => rfl, hf, fun h => by omega⟩
    simp only [TV.as] at h
    split at h
    · simp only [Option.some.injEq, Prod.mk.injEq] at h; obtain ⟨rfl, _⟩ := h; exact (DT.val_one rfl).2 (nil _ _ _ trivial)
    · simp only [Option.some.injEq, Prod.mk.injEq] at h; obtain ⟨rfl, _⟩ := h; exact (DT.val_one rfl).2 (nil _ _ _ rfl)
    · simp only [Option.some.injEq, Prod.mk.injEq] at h; obtain ⟨rfl, _⟩ := h; exact (DT.val_one rfl).2 rfl
    · cases h
  | row id => exact coAs_ok h hb hv
  | vrow id i j => exact coAs_ok h hb hv
  | cst u =>
    obtain rfl : v = u := hv
    simp only [TV.as] at h
    split at h
    · rename_i hz
      simp only [Option.some.injEq, Prod.mk.injEq] at h
      obtain ⟨rfl, _⟩ := h
      exact isZero_ok hp hz
    · cases h
  | _ => simp [TV.as] at h

end Go.Proofs.YtbjfbbfglkmadaaDoor
