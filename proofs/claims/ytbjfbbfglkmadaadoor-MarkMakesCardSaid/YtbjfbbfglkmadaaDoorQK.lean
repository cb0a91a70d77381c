/-
  Lifting Go functions to plain Lean functions, part K: slices made, stores, appends.
-/
import Derived.Test.YtbjfbbfglkmadaaDoorQJ
namespace Go.Proofs.YtbjfbbfglkmadaaDoor
open Go.RowKit
set_option linter.unusedVariables false

section
variable {P : Program} {TI : Nat → TD} {TY : Nat → DT} {c : Cx} {F : Nat → Prop} {s : TS} {π : Nat → Pl} {a : Act} {w : World}

theorem run_buildSlice {T e : TypeId} {ie : TypeInfo} {z : Value} (ht : P.underlying T = some (.slice e)) (hi : P.info? e = some ie) (hz : ie.zero = some z) (hzs : z.cells.size = ie.size) (hk : 0 < ie.size) {us : List Value} (hus : ∀ u ∈ us, u.cells.size = ie.size)
    {n : Nat} (hn : n = us.length) (hbig : n * ie.size ≤ 2 ^ 24) {w : World} {parts : Array (Nat × Value)} (hp : parts.toList = (List.range n).zip us) :
    ∃ cur : Array Value, (Instr.buildSlice T n parts).run P w = .ok (.slice (some ⟨w.heap.size, 0, none⟩) n n) (w.alloc (.cells cur e)) ∧ cur.size = n * ie.size ∧ ∀ (i : Nat) (u : Value), us[i]? = some u → ∀ j, j < ie.size → cur.toList[i * ie.size + j]? = u.cells[j]? := by
  subst hn
  let init : Array Value := (Array.range (us.length * ie.size)).map fun i => (if us.length * ie.size = 0 then #[] else z.cells)[i % (if us.length * ie.size = 0 then #[] else z.cells).size]!
  have hinit : init.size = us.length * ie.size := by simp [init]
  have hmem : ∀ p ∈ parts.toList, ∃ i, p.1 = i ∧ us[i]? = some p.2 := fun p hpm => by
    rw [hp] at hpm
    obtain ⟨q, hq, rfl⟩ := List.getElem_of_mem hpm
    simp only [List.length_zip, List.length_range] at hq
    exact ⟨q, by simp, by simp⟩
  obtain ⟨cur, h1, h2, h3⟩ := fill_ok (fun i => some (i * ie.size, ie.size)) parts.toList init fun p hpm => by
    obtain ⟨i, rfl, hu⟩ := hmem p hpm
    refine ⟨_, _, rfl, hus _ (List.mem_of_getElem? hu), ?_⟩
    have hlt := (List.getElem?_eq_some_iff.1 hu).1
    have : (p.1 + 1) * ie.size ≤ us.length * ie.size := Nat.mul_le_mul_right _ hlt
    rw [Nat.add_mul] at this
    rw [hinit]; omega
  refine ⟨cur, ?_, h2.trans hinit, fun i u hu j hj => ?_⟩
  · have hb : ¬ (2 ^ 24 < us.length * ie.size) := by omega
    by_cases h0 : us.length * ie.size = 0
    · have hi0 : init = #[] := by apply Array.eq_empty_of_size_eq_zero; rw [hinit]; exact h0
      rw [hi0] at h1
      simp [Instr.buildSlice, run_underlying ht, sizeOf, typeInfo, hi, zeroValue, hz, h0, newRow, h1, Array.range_zero']
    · have hi0 : init = (Array.range (us.length * ie.size)).map fun i => z.cells[i % z.cells.size]! := by simp [init, h0]
      rw [hi0] at h1
      simp [Instr.buildSlice, run_underlying ht, sizeOf, typeInfo, hi, zeroValue, hz, h0, newRow, h1]
      simpa using hb
  · have hlt := (List.getElem?_eq_some_iff.1 hu).1
    rw [Array.getElem?_toList, h3]
    have hin : (i, u) ∈ parts.toList := by
      rw [hp]
      refine List.mem_of_getElem? (i := i) ?_
      rw [List.getElem?_zip_eq_some]; exact ⟨by simp [hlt], hu⟩
    have := paint_only (fun i => some (i * ie.size, ie.size)) (q := i * ie.size + j) (v := u) parts.toList init[i * ie.size + j]? rfl (by omega) hin fun p hpm off' sz' hpl hc => by
      obtain ⟨i', e1, hu'⟩ := hmem p hpm
      simp only [Option.some.injEq, Prod.mk.injEq] at hpl
      obtain ⟨rfl, rfl⟩ := hpl
      have : p.1 = i := by
        have hc1 := hc.1
        have hc2 := hc.2
        rcases Nat.lt_trichotomy p.1 i with hlt' | heq | hgt
        · have : (p.1 + 1) * ie.size ≤ i * ie.size := Nat.mul_le_mul_right _ hlt'
          rw [Nat.add_mul] at this; omega
        · exact heq
        · have : (i + 1) * ie.size ≤ p.1 * ie.size := Nat.mul_le_mul_right _ hgt
          rw [Nat.add_mul] at this; omega
      obtain ⟨pi, pv⟩ := p
      simp only at this e1 hu'
      subst this; subst e1
      rw [hu] at hu'
      simp only [Option.some.injEq] at hu'
      rw [hu']
    rw [this]
    congr 1
    omega

theorem getD_rep {α : Type} (n i : Nat) (d : α) : (List.replicate n d).getD i d = d := by
  simp only [List.getD, List.getElem?_replicate]; split <;> rfl

theorem buildSlice_ok (hT : TOK P TI) {rc : Nat → Option (List (Option DT))} {T n : Nat} {parts : Array (Nat × Operand)} {dst : Option Nat} {ty : TypeId} {pos : String} {after : Array Edge} {g : Option (Nat × Bool)} {e : Eff} (h : tobj TI TY rc s.ev (tlook s.ob) dst (.buildSlice T n parts) = some e) (hb : e.b = true) (hm : RelM c F π s a w) : EffOk P c F s π a w ⟨dst, .buildSlice T n parts, ty, pos, after, g⟩ e := by
  simp only [tobj] at h
  split at h
  · rename_i d t hTY
    split at h
    · cases h
    · rename_i hd
      split at h
      · rename_i l b hl
        split at h
        · rename_i hk
          simp only [Bool.and_eq_true, beq_iff_eq, decide_eq_true_eq] at hk
          obtain ⟨⟨⟨⟨k1, k2⟩, k3⟩, k4⟩, k5⟩ := hk
          obtain rfl := Option.some.inj h
          obtain ⟨l1, l2⟩ := asL_ok (a := a) k3 hl hb (fun x => hm.ev x)
          obtain ⟨e', ie, b1, b2, b3, b4, b5, b6, b7, b8⟩ := (hT T).sl k1
          have hlen : n = l.length := by
            have := congrArg List.length k4
            simp at this
            rw [l1]; simp [this]
          have hus : ∀ u ∈ (parts.toList.map (·.2)).map a.eval, u.cells.size = ie.size := fun u hu => by
            obtain ⟨i, hi, rfl⟩ := List.getElem_of_mem hu
            simp only [List.length_map] at hi
            rw [List.getElem_map]
            have := (DT.val_cells k3 (l2 i _ (List.getElem?_eq_getElem (by simpa using hi)))).1
            rw [this, b3, k2]
          have hp : (parts.map fun (i, x) => (i, a.eval x)).toList = (List.range n).zip ((parts.toList.map (·.2)).map a.eval) := by
            rw [← k4]
            simp only [Array.toList_map, List.map_map]
            generalize parts.toList = q
            induction q with
            | nil => rfl
            | cons p q ih => simp only [List.map_cons, List.zip_cons_cons, Function.comp, ih]
          obtain ⟨cur, c1, c2, c3⟩ := run_buildSlice (P := P) (w := w) b1 b2 b5 (by rw [b6, b3]) (by omega) hus (n := n) (by rw [hlen, l1]; simp) (by rw [b3]; exact k5) hp
          have hcl : CL w (Gz F w π (tlook s.ob)) t l cur.toList := by
            refine ⟨by rw [Array.length_toList, c2, hlen, b3, k2], fun i hi cc hcc => ?_⟩
            have hi' : i < (parts.toList.map (·.2)).length := by omega
            obtain ⟨v1, v2⟩ := DT.val_cells k3 (l2 i _ (List.getElem?_eq_getElem hi'))
            obtain ⟨u, a1, a2, a3⟩ := v2 cc hcc
            have hcc' : cc < ie.size := by rw [b3, k2]; exact hcc
            refine ⟨u, ?_, a2, a3⟩
            have := c3 i (a.eval (parts.toList.map (·.2))[i]) (by rw [List.getElem?_map, List.getElem?_eq_getElem hi']; rfl) cc hcc'
            rw [b3, k2] at this
            rw [this]; exact a1
          have hR := hm.newRow (cap := n) hd hcl (w' := w.alloc (.cells cur e')) ((Below.refl _ _).alloc (Nat.le_refl _) _) (heap_new w _) (fun q _ => by rw [Array.getElem?_toList]) (by rw [c2, b3, k2]; exact Nat.le_refl _) (by omega) (by
            have : 1 ≤ (TI T).elem := b8
            have : n * 1 ≤ n * (TI T).elem := Nat.mul_le_mul_left _ this
            simp only [maxLen]; omega)
          have hx : execOp a.eval ⟨some d, .buildSlice T n parts, ty, pos, after, g⟩ = (do pure (.value (← Instr.buildSlice T n (parts.map fun (i, x) => (i, a.eval x))))) := by simp only [execOp]
          have hexec : (execOp a.eval ⟨some d, .buildSlice T n parts, ty, pos, after, g⟩).run P w = .ok (.value (.slice (some ⟨w.heap.size, 0, none⟩) n n)) (w.alloc (.cells cur e')) := by
            rw [hx]; simp only [Sem.run_bind, c1, Result.andThen_ok, Sem.run_pure]
          clear hx c1 hp hus
          refine ⟨_, _, _, .inl hexec, hR, ?_⟩
          simp only [VR, List.singleton_append, tlook, if_true, updP, Pl.hdr, ← hlen]
        · cases h
      · cases h
  · cases h

theorem makeSlice_ok (hT : TOK P TI) {rc : Nat → Option (List (Option DT))} {T : Nat} {x y : Operand} {dst : Option Nat} {ty : TypeId} {pos : String} {after : Array Edge} {g : Option (Nat × Bool)} {e : Eff} (h : tobj TI TY rc s.ev (tlook s.ob) dst (.makeSlice T x y) = some e) (hb : e.b = true) (hm : RelM c F π s a w) : EffOk P c F s π a w ⟨dst, .makeSlice T x y, ty, pos, after, g⟩ e := by
  simp only [tobj] at h
  split at h
  · rename_i d k1 zl k2 zc hx hy
    split at h
    · cases h
    · rename_i hd
      split at h
      · rename_i fs0 hrc
        split at h
        · rename_i hk
          simp only [Bool.and_eq_true, beq_iff_eq] at hk
          obtain ⟨q1, q2⟩ := hk
          obtain rfl := Option.some.inj h
          simp only [Bool.and_eq_true, decide_eq_true_eq] at hb
          obtain ⟨hb, hzz⟩ := hb
          subst hzz
          have hx' : a.eval x = .int k1 zl := hm.evb hx
          have hy' : a.eval y = .int k2 zl := hm.evb hy
          obtain ⟨h0, h1, h2, h3⟩ := mkOk_ok hb
          obtain ⟨e', ie, b1, b2, b3, b4, b5, b6, b7, b8⟩ := (hT T).sl q1
          have hrun := run_make (P := P) w T e' ie (TI T).ez b1 b2 b5 k1 k2 zl zl h0 h1 (by rw [b4]; rw [Int.mul_comm]; exact Int.le_trans h2 (by decide)) (by exact Int.le_trans h3 (by decide))
          have hms : (madeCells (TI T).ez.cells (Int.toNat zl * (TI T).elem)).size = Int.toNat zl * (TI T).elem := size_madeCells _ _
          have hR := hm.newRcd hd (fs := List.replicate (Int.toNat zl * (TI T).elem) .nl) (cur := madeCells (TI T).ez.cells (Int.toNat zl * (TI T).elem)) (e := e') fun j x hxj cc hcc => by
            have hj : j < Int.toNat zl * (TI T).elem := by have := (List.getElem?_eq_some_iff.1 hxj).1; simpa using this
            have hx0 : x = .nl := by
              rw [List.getElem?_replicate, if_pos hj] at hxj; exact (Option.some.inj hxj).symm
            subst hx0
            obtain rfl : cc = 0 := by simp only [TV.size] at hcc; omega
            have hoffs : ∀ (n i : Nat), i ≤ n → offs (List.replicate n TV.nl) i = i := fun n => by
              induction n with
              | zero => intro i hi; obtain rfl : i = 0 := by omega
                        rfl
              | succ n ih =>
                intro i hi
                cases i with
                | zero => rfl
                | succ i => simp only [List.replicate_succ, offs, TV.size]; rw [ih i (by omega)]; omega
            rw [hoffs _ _ (Nat.le_of_lt hj), Nat.add_zero]
            have hqk : j % (TI T).elem < (TI T).ez.cells.size := by rw [b6]; exact Nat.mod_lt _ b8
            refine ⟨.slice none 0 0, ?_, rfl, rfl⟩
            simp only [madeCells, Array.getElem?_map, b6]
            rw [Array.getElem?_range, if_pos hj]
            have hz : (TI T).ez.cells[j % (TI T).elem] = .slice none 0 0 := by
              have := List.all_eq_true.1 q2 ((TI T).ez.cells[j % (TI T).elem]) (by simp)
              unfold isNilV at this
              split at this
              · assumption
              · cases this
            simp [hqk, hz]
          refine ⟨.slice (some ⟨w.heap.size, 0, none⟩) (Int.toNat zl) (Int.toNat zl), _, _, .inl (exec_value (e := Instr.makeSlice T (a.eval x) (a.eval y)) rfl ?_), hR, ?_⟩
          · rw [hx', hy', hrun, b3]
          · simp only [VR, List.singleton_append, tlook, if_true]
            exact fun _ => ⟨0, w.heap.size, ⟨w.heap.size, 0, none⟩, rfl, trivial, by simp [updP], Nat.zero_le _, Nat.le_refl _, by simp only [maxLen]; omega, rfl, fun _ => by simp [updP]⟩
        · cases h
      split at h
      · rename_i t hTY
        split at h
        · rename_i hk
          simp only [Bool.and_eq_true, beq_iff_eq] at hk
          obtain ⟨⟨⟨q1, q2⟩, q3⟩, q4⟩ := hk
          obtain rfl := Option.some.inj h
          have hx' : a.eval x = .int k1 zl := hm.evb hx
          have hy' : a.eval y = .int k2 zc := hm.evb hy
          obtain ⟨h0, h1, h2, h3⟩ := mkOk_ok (show mkOk zl zc (TI T).eb = true from hb)
          obtain ⟨e', ie, b1, b2, b3, b4, b5, b6, b7, b8⟩ := (hT T).sl q1
          have hrun := run_make (P := P) w T e' ie (TI T).ez b1 b2 b5 k1 k2 zl zc h0 h1 (by rw [b4]; rw [Int.mul_comm]; exact Int.le_trans h2 (by decide)) (by exact Int.le_trans h3 (by decide))
          obtain ⟨v1, v2⟩ := DT.val_cells q3 (isZero_ok (w := w) (G := Gz F w π (tlook s.ob)) q3 q2)
          have hms : (madeCells (TI T).ez.cells (Int.toNat zc * (TI T).elem)).size = Int.toNat zc * (TI T).elem := size_madeCells _ _
          have hle : Int.toNat zl * t.size ≤ Int.toNat zc * t.size := Nat.mul_le_mul_right _ (Int.toNat_le_toNat h1)
          have hget : ∀ q, q < Int.toNat zl * t.size → (madeCells (TI T).ez.cells (Int.toNat zc * (TI T).elem))[q]? = (TI T).ez.cells[q % t.size]? := fun q hq => by
            have hpos : 0 < t.size := by rw [← q4]; exact b8
            have hqk : q % t.size < (TI T).ez.cells.size := by rw [v1]; exact Nat.mod_lt _ hpos
            simp only [madeCells, Array.getElem?_map, v1]
            rw [Array.getElem?_range, if_pos (by rw [q4]; omega)]
            simp [hqk]
          have hcl : CL w (Gz F w π (tlook s.ob)) t (List.replicate (Int.toNat zl) t.dflt) ((madeCells (TI T).ez.cells (Int.toNat zc * (TI T).elem)).toList.take (Int.toNat zl * t.size)) := by
            refine ⟨by rw [List.length_take, Array.length_toList, hms, q4, List.length_replicate]; omega, fun i hi cc hcc => ?_⟩
            simp only [List.length_replicate] at hi
            obtain ⟨u, a1, a2, a3⟩ := v2 cc hcc
            refine ⟨u, ?_, a2, ?_⟩
            · rw [List.getElem?_take_of_lt (idx_lt hi hcc), Array.getElem?_toList, hget _ (idx_lt hi hcc), Nat.mul_comm, Nat.mul_add_mod, Nat.mod_eq_of_lt hcc]
              exact a1
            · rw [getD_rep]; exact a3
          have hR := hm.newRow (cap := Int.toNat zc) hd hcl (w' := w.alloc (.cells (madeCells (TI T).ez.cells (Int.toNat zc * (TI T).elem)) e')) ((Below.refl _ _).alloc (Nat.le_refl _) _) (heap_new w _) (fun q hq => by
            rw [hcl.len, List.length_replicate] at hq
            rw [List.getElem?_take_of_lt hq, Array.getElem?_toList]) (by rw [hms, q4]; exact Nat.le_refl _) (by simp; omega) (by simp only [maxLen]; omega)
          refine ⟨.slice (some ⟨w.heap.size, 0, none⟩) (Int.toNat zl) (Int.toNat zc), _, _, .inl (exec_value (e := Instr.makeSlice T (a.eval x) (a.eval y)) rfl ?_), hR, ?_⟩
          · rw [hx', hy', hrun, b3]
          · simp only [VR, List.singleton_append, tlook, if_true, updP, Pl.hdr, List.length_replicate]
        · cases h
      · cases h
  · cases h

/-- The literal's cells. -/
theorem tfill_ok {t : DT} {d : TD} {G : Nat → Prop} {O : Obs} {ev : Operand → TV} (hv : ∀ x, VR w G π O (ev x) (a.eval x)) : ∀ {l : List (Nat × Operand)} {z x : t.den} {b : Bool} {cells : Array Value}, tfill ev O t d l z = some (x, b) → b = true → cells.size = t.size → (∀ cc, cc < t.size → ∃ u, cells[cc]? = some u ∧ u.oneCell' = true ∧ t.cell z cc w G u) →
    ∃ cells', Instr.fill (placeOf d) cells (l.map fun p => (p.1, a.eval p.2)) = some cells' ∧ cells'.size = t.size ∧ ∀ cc, cc < t.size → ∃ u, cells'[cc]? = some u ∧ u.oneCell' = true ∧ t.cell x cc w G u
  | [], z, x, b, cells, h, hb, hs, hz => by
    simp only [tfill, Option.some.injEq, Prod.mk.injEq] at h
    obtain ⟨rfl, _⟩ := h
    exact ⟨cells, rfl, hs, hz⟩
  | (i, o) :: r, z, x, b, cells, h, hb, hs, hz => by
    simp only [tfill] at h
    split at h
    · rename_i L hL
      split at h
      · rename_i y b1 hy
        split at h
        · rename_i hok
          simp only [Bool.and_eq_true, beq_iff_eq] at hok
          obtain ⟨⟨⟨h1, h2⟩, h3⟩, h4⟩ := hok
          split at h
          · rename_i v b2 hr
            simp only [Option.some.injEq, Prod.mk.injEq] at h
            obtain ⟨rfl, rfl⟩ := h
            simp only [Bool.and_eq_true] at hb
            have hinb := DT.inb_of h2
            obtain ⟨c1, c2⟩ := DT.at_cell hL hinb
            have hput := DT.at_put hL hinb z y h3
            obtain ⟨v1, v2⟩ := DT.val_cells h1 (TV.as_ok hy hb.1 h1 (hv o))
            have hf := fold_set L.off (a.eval o).cells.toList 0 cells (by simp [v1]; omega)
            have e : (a.eval o).cells.zipIdx.foldl (fun cs (c, j) => cs.setIfInBounds (L.off + j) c) cells = ((a.eval o).cells.toList.zipIdx 0).foldl (fun cs p => cs.setIfInBounds (L.off + p.2) p.1) cells := by
              rw [← Array.foldl_toList, Array.toList_zipIdx]
            obtain ⟨cells', g1, g2, g3⟩ := tfill_ok (cells := ((a.eval o).cells.toList.zipIdx 0).foldl (fun cs p => cs.setIfInBounds (L.off + p.2) p.1) cells) hv hr hb.2 (hf.1.trans hs) fun cc hcc => by
              rw [hf.2 cc, hput cc hcc]
              by_cases hq : L.off ≤ cc ∧ cc < L.off + L.u.size
              · obtain ⟨u, a1, a2, a3⟩ := v2 (cc - L.off) (by omega)
                rw [if_pos hq, if_pos (by simp [v1]; omega)]
                exact ⟨u, by simp only [Nat.add_zero, Array.getElem?_toList]; exact a1, a2, a3⟩
              · rw [if_neg hq, if_neg (by simp [v1]; omega)]
                exact hz cc hcc
            refine ⟨cells', ?_, g2, g3⟩
            simp only [List.map_cons, Instr.fill, h4]
            rw [if_neg (by simp [v1, hs]; omega), e]
            exact g1
          · cases h
        · cases h
      · cases h
    · cases h

theorem build_ok (hT : TOK P TI) {rc : Nat → Option (List (Option DT))} {T : Nat} {parts : Array (Nat × Operand)} {dst : Option Nat} {ty : TypeId} {pos : String} {after : Array Edge} {g : Option (Nat × Bool)} {e : Eff} (h : tobj TI TY rc s.ev (tlook s.ob) dst (.build T parts) = some e) (hb : e.b = true) (hm : RelM c F π s a w) : EffOk P c F s π a w ⟨dst, .build T parts, ty, pos, after, g⟩ e := by
  simp only [tobj] at h
  split at h
  · rename_i z b hf
    split at h
    · rename_i hk
      simp only [Bool.and_eq_true, Bool.or_eq_true, beq_iff_eq] at hk
      obtain ⟨⟨⟨⟨k1, k2⟩, k3⟩, k4⟩, k5⟩ := hk
      obtain rfl := Option.some.inj h
      obtain ⟨i, h1, h2, h3⟩ := (hT T).info (by omega)
      obtain ⟨v1, v2⟩ := DT.val_cells k3 (isZero_ok (w := w) (G := Gz F w π (tlook s.ob)) k3 k5)
      obtain ⟨cells, c1, c2, c3⟩ := tfill_ok (π := π) (O := tlook s.ob) (fun x => hm.ev x) hf hb v1 v2
      have hbuilt : P.built T (parts.map fun (i, x) => (i, a.eval x)).toList = some cells := by
        have e0 : (parts.map fun (i, x) => (i, a.eval x)).toList = parts.toList.map fun p => (p.1, a.eval p.2) := by simp
        rw [e0]
        unfold Program.built
        rcases k1 with k1 | k1
        · obtain ⟨e, ie, b1, b2, b3⟩ := (hT T).arr k1
          simp only [h1, b1, h3, b2]
          have : placeOf (TI T) = fun i => some (i * ie.size, ie.size) := by simp [placeOf, k1, b3]
          rw [← this]; exact c1
        · obtain ⟨fs, b1, b2⟩ := (hT T).strp k1
          simp only [h1, b1, h3, b2]
          have : placeOf (TI T) = fun i => (TI T).offs.toArray[i]? := by funext i; simp [placeOf, k1]
          rw [← this]; exact c1
      have hx : execOp a.eval ⟨dst, .build T parts, ty, pos, after, g⟩ = (do pure (.value (← Instr.build T (parts.map fun (i, x) => (i, a.eval x))))) := by simp only [execOp]
      have hexec : (execOp a.eval ⟨dst, .build T parts, ty, pos, after, g⟩).run P w = .ok (.value (.agg cells)) w := by
        rw [hx]; simp only [Sem.run_bind, run_build w T _ cells hbuilt, Result.andThen_ok, Sem.run_pure]
      clear hx hbuilt
      exact ⟨_, _, π, .inl hexec, hm, (DT.val_agg k2).2 ⟨cells, rfl, c2, c3⟩⟩
    · cases h
  · cases h

theorem splice_get (l vs : List Value) (o q : Nat) (h : o + vs.length ≤ l.length) : (l.take o ++ vs ++ l.drop (o + vs.length))[q]? = if o ≤ q ∧ q < o + vs.length then vs[q - o]? else l[q]? := by
  by_cases h1 : q < o
  · rw [if_neg (by omega), List.append_assoc, List.getElem?_append_left (by simp; omega), List.getElem?_take_of_lt h1]
  · by_cases h2 : q < o + vs.length
    · rw [if_pos ⟨by omega, h2⟩, List.append_assoc, List.getElem?_append_right (by simp; omega), List.getElem?_append_left (by simp; omega)]
      congr 1
      simp; omega
    · rw [if_neg (by omega), List.getElem?_append_right (by simp; omega), List.getElem?_drop]
      congr 1
      simp; omega

def spl (cur : Array Value) (k : Nat) (vs : List Value) : Array Value := (cur.toList.take k ++ vs ++ cur.toList.drop (k + vs.length)).toArray

theorem spl_get (cur : Array Value) (k q : Nat) (vs : List Value) (h : k + vs.length ≤ cur.size) : (spl cur k vs)[q]? = if k ≤ q ∧ q < k + vs.length then vs[q - k]? else cur[q]? := by
  unfold spl
  rw [List.getElem?_toArray, splice_get _ _ _ _ (by simp; omega)]
  simp

theorem spl_size (cur : Array Value) (k : Nat) (vs : List Value) (h : k + vs.length ≤ cur.size) : (spl cur k vs).size = cur.size := by
  unfold spl
  simp only [List.size_toArray, List.length_append, List.length_take, List.length_drop, Array.length_toList]; omega

theorem run_store (hT : TOK P TI) {T : TypeId} (hk : (TI T).kd ≠ 0) {g k : Nat} {e : TypeId} {v : Value} {cur : Array Value} (hsz : v.cells.size = (TI T).size) (h1 : ∀ u ∈ v.cells, u.oneCell' = true) (hg : w.heap[g]? = some (.cells cur e (0, 0))) (hfit : k + v.cells.toList.length ≤ cur.size) :
    (Instr.storeAt T (.pointer (some ⟨g, k, none⟩)) v).run P w = .ok () (w.setRow g (spl cur k v.cells.toList)) := by
  have hst := run_storeCells_at P g k e v.cells.toList 0 cur w hg (by simpa using hfit) (fun q hq => h1 q (by simpa using hq))
  simp only [Nat.add_zero] at hst
  have hso := sizeOf_of hT hk w
  unfold spl
  simp [Instr.storeAt, Instr.sureAddr, storeVar, hso, hsz, hst]

theorem RelM.write (hm : RelM c F π s a w) {id g : Nat} {o o' : TO} (ho : tlook s.ob id = some o) (hg : (π id).g = some g) {cur cur' : Array Value} {e : TypeId} (hc : w.heap[g]? = some (.cells cur e (0, 0))) (hsh : Shp o o')
    (hl : o.live = true) (hl' : o'.live = true) (hor : ∀ G' O', FzTo w (Gz F w π (tlook s.ob)) (w.setRow g cur') G' → Evo w (Gz F w π (tlook s.ob)) π (tlook s.ob) (w.setRow g cur') G' π O' → OR (w.setRow g cur') G' π O' id o') : RelM c F π ⟨s.sl, (id, o') :: s.ob⟩ a (w.setRow g cur') := by
  have E := Evo.set (F := F) (w' := w.setRow g cur') ho hg hl hl' (fun G' => Step.of_shp hsh) (fun b hb => setRow_other w g b cur' hb) (by simp)
  exact hm.set ho hg hl hl' (fun G' => Step.of_shp hsh) (fun b hb => setRow_other w g b cur' hb) (by simp) ⟨rfl, rfl, rfl⟩ (hor _ _ E.fz E)

/-- A row's element is put anew. -/
theorem RelM.writeRow (hm : RelM c F π s a w) {id i : Nat} {t : DT} {l : List t.den} (ho : tlook s.ob id = some (.row t l)) {p : List Nat} {N : Lens t} (hN : t.at p = some N) (hib : t.inb p) (hi : i < l.length) {z : N.u.den} (hf : N.fits (l.getD i t.dflt) = true) {v : Value} (hpl : N.u.plain = true) (hv : N.u.val z w (Gz F w π (tlook s.ob)) v)
    {g : Nat} (hg : (π id).g = some g) : ∃ cur e, w.heap[g]? = some (.cells cur e (0, 0)) ∧ (π id).q + (i * t.size + N.off) + v.cells.toList.length ≤ cur.size ∧
      RelM c F π ⟨s.sl, (id, .row t (l.set i (N.put (l.getD i t.dflt) z))) :: s.ob⟩ a (w.setRow g (spl cur ((π id).q + (i * t.size + N.off)) v.cells.toList)) := by
  obtain ⟨n1, n2⟩ := DT.at_cell hN hib
  have hput := DT.at_put hN hib (l.getD i t.dflt) z hf
  obtain ⟨v1, v2⟩ := DT.val_cells hpl hv
  rcases hm.obj id _ ho with ⟨h1, h2⟩ | ⟨g', cur, e, h1, h2, h3, h4, h5, h6⟩
  · rw [h1] at hg; cases hg
  · rw [hg] at h1; obtain rfl := Option.some.inj h1
    have hle : i * t.size + t.size ≤ (π id).cap * t.size := by
      have := Nat.mul_le_mul_right t.size (show i + 1 ≤ (π id).cap by omega)
      rw [Nat.add_mul] at this; omega
    have hfit : (π id).q + (i * t.size + N.off) + v.cells.toList.length ≤ cur.size := by simp [v1]; omega
    refine ⟨cur, e, h2, hfit, hm.write ho hg h2 ⟨rfl, by simp⟩ rfl rfl fun G' O' hz _ => .inr ⟨g, _, e, hg, setRow_heap w g cur _ e (0, 0) h2, by simpa using h3, h4, by rw [spl_size _ _ _ hfit]; exact h5, fun j hj cc hcc => ?_⟩⟩
    simp only [List.length_set] at hj
    rw [spl_get _ _ _ _ hfit]
    by_cases hij : j = i
    · subst hij
      rw [getD_set_eq _ _ _ _ hi, hput cc hcc]
      by_cases hq : N.off ≤ cc ∧ cc < N.off + N.u.size
      · obtain ⟨u, a1, a2, a3⟩ := v2 (cc - N.off) (by omega)
        rw [if_pos hq, if_pos (by simp [v1]; omega)]
        exact ⟨u, by rw [Array.getElem?_toList, ← a1]; congr 1; omega, a2, DT.cell_mono hz a3⟩
      · rw [if_neg hq, if_neg (by simp [v1]; omega)]
        obtain ⟨u, a1, a2, a3⟩ := h6 j hj cc hcc
        exact ⟨u, a1, a2, DT.cell_mono hz a3⟩
    · rw [getD_set_ne _ _ _ _ _ (fun e => hij e.symm)]
      have hne : ¬ ((π id).q + (i * t.size + N.off) ≤ (π id).q + j * t.size + cc ∧ (π id).q + j * t.size + cc < (π id).q + (i * t.size + N.off) + v.cells.toList.length) := by
        rintro ⟨x1, x2⟩
        simp only [Array.length_toList, v1] at x2
        rcases Nat.lt_trichotomy j i with hlt | heq | hgt
        · have : (j + 1) * t.size ≤ i * t.size := Nat.mul_le_mul_right _ hlt
          rw [Nat.add_mul] at this; omega
        · exact hij heq
        · have : (i + 1) * t.size ≤ j * t.size := Nat.mul_le_mul_right _ hgt
          rw [Nat.add_mul] at this; omega
      rw [if_neg hne]
      obtain ⟨u, a1, a2, a3⟩ := h6 j hj cc hcc
      exact ⟨u, a1, a2, DT.cell_mono hz a3⟩

theorem offs_set : ∀ (fs : List TV) (j k : Nat) (y : TV), (∀ x, fs[j]? = some x → y.size = x.size) → offs (fs.set j y) k = offs fs k
  | [], j, k, y, h => by simp
  | x :: r, 0, 0, y, h => rfl
  | x :: r, 0, k + 1, y, h => by simp only [List.set_cons_zero, offs]; rw [h x rfl]
  | x :: r, j + 1, 0, y, h => rfl
  | x :: r, j + 1, k + 1, y, h => by
    simp only [List.set_cons_succ, offs]
    rw [offs_set r j k y fun z hz => h z (by simpa using hz)]

theorem offs_lt : ∀ {fs : List TV} {j k : Nat} {x : TV}, fs[j]? = some x → j < k → offs fs j + x.size ≤ offs fs k ∨ fs.length < k
  | [], j, k, x, h, _ => by simp at h
  | y :: r, 0, k + 1, x, h, _ => by simp at h; subst h; left; simp only [offs]; omega
  | y :: r, j + 1, k + 1, x, h, hjk => by
    simp at h
    rcases offs_lt h (show j < k by omega) with h' | h'
    · left; simp only [offs]; omega
    · right; simp; omega

theorem offs_apart {fs : List TV} {j k : Nat} {x y : TV} (hj : fs[j]? = some x) (hk : fs[k]? = some y) (hne : j ≠ k) : offs fs j + x.size ≤ offs fs k ∨ offs fs k + y.size ≤ offs fs j := by
  have lj := (List.getElem?_eq_some_iff.1 hj).1
  have lk := (List.getElem?_eq_some_iff.1 hk).1
  rcases Nat.lt_trichotomy j k with h | h | h
  · rcases offs_lt hj h with h' | h'
    · exact .inl h'
    · omega
  · exact absurd h hne
  · rcases offs_lt hk h with h' | h'
    · exact .inr h'
    · omega

theorem keepAll_ok : ∀ {fs fs' : List TV}, keepAll fs fs' = true → fs'.length = fs.length ∧ ∀ (j : Nat) (x : TV), fs[j]? = some x → ∃ y, fs'[j]? = some y ∧ keepF x y = true
  | [], [], _ => ⟨rfl, fun j x h => by simp at h⟩
  | [], _ :: _, h => by simp [keepAll] at h
  | _ :: _, [], h => by simp [keepAll] at h
  | x :: r, y :: r', h => by
    simp only [keepAll, Bool.and_eq_true] at h
    obtain ⟨h1, h2⟩ := keepAll_ok h.2
    refine ⟨by simp [h1], fun j z hz => ?_⟩
    cases j with
    | zero => simp at hz; subst hz; exact ⟨y, rfl, h.1⟩
    | succ j => obtain ⟨y', a, b⟩ := h2 j z (by simpa using hz); exact ⟨y', by simpa using a, b⟩

theorem offs_cover : ∀ (fs : List TV) (k : Nat), k < offs fs fs.length → ∃ j x cc, fs[j]? = some x ∧ cc < x.size ∧ k = offs fs j + cc
  | [], k, h => by simp [offs] at h
  | x :: r, k, h => by
    by_cases q : k < x.size
    · exact ⟨0, x, k, rfl, q, by simp [offs]⟩
    · simp only [List.length_cons, offs] at h
      obtain ⟨j, y, cc, a, b, e⟩ := offs_cover r (k - x.size) (by omega)
      exact ⟨j + 1, y, cc, by simpa using a, b, by simp only [offs]; omega⟩

/-- A record's field, or a part of one, is put anew. -/
theorem RelM.writeRcd (hm : RelM c F π s a w) {id j : Nat} {fs : List TV} (ho : tlook s.ob id = some (.rcd fs)) {x y : TV} (hj : fs[j]? = some x) (hys : y.size = x.size) (hfl : ∀ o p c, x.floc o p = some c → x.finb p → y.floc o p = some c ∧ y.finb p) {off : Nat} {vs : List Value} (hoff : off + vs.length ≤ x.size)
    (h1 : ∀ u ∈ vs, u.oneCell' = true) (hy : ∀ cc, cc < y.size → (off ≤ cc ∧ cc < off + vs.length → ∃ u, vs[cc - off]? = some u ∧ y.fcell w (Gz F w π (tlook s.ob)) π (tlook s.ob) cc u) ∧ (¬ (off ≤ cc ∧ cc < off + vs.length) → ∀ u, x.fcell w (Gz F w π (tlook s.ob)) π (tlook s.ob) cc u → y.fcell w (Gz F w π (tlook s.ob)) π (tlook s.ob) cc u))
    {g : Nat} (hg : (π id).g = some g) (hnil : 0 < vs.length) : ∃ cur e, w.heap[g]? = some (.cells cur e (0, 0)) ∧ (π id).q + (offs fs j + off) + vs.length ≤ cur.size ∧
      RelM c F π ⟨s.sl, (id, .rcd (fs.set j y)) :: s.ob⟩ a (w.setRow g (spl cur ((π id).q + (offs fs j + off)) vs)) := by
  obtain ⟨g', cur, e, q1, q2, q3⟩ := hm.obj id _ ho
  rw [hg] at q1; obtain rfl := Option.some.inj q1
  have hlast : ∃ u, cur[(π id).q + offs fs j + (off + vs.length - 1)]? = some u := by
    obtain ⟨u, a1, _⟩ := q3 j x hj (off + vs.length - 1) (by omega)
    exact ⟨u, a1⟩
  have hfit : (π id).q + (offs fs j + off) + vs.length ≤ cur.size := by
    obtain ⟨u, hu⟩ := hlast
    have := (Array.getElem?_eq_some_iff.1 hu).1
    omega
  have hjl := (List.getElem?_eq_some_iff.1 hj).1
  have hos := fun k => offs_set fs j k y (fun z hz => by rw [hj] at hz; obtain rfl := Option.some.inj hz; exact hys)
  refine ⟨cur, e, q2, hfit, hm.write ho hg q2 ⟨by simp, fun k z hz => ?_⟩ rfl rfl fun G' O' hz E => ⟨g, _, e, hg, setRow_heap w g cur _ e (0, 0) q2, fun k z hz cc hcc => ?_⟩⟩
  · by_cases hkj : k = j
    · subst hkj
      rw [hj] at hz; obtain rfl := Option.some.inj hz
      exact ⟨y, by simp [hjl], hys, hfl⟩
    · exact ⟨z, by rw [List.getElem?_set_ne (fun e => hkj e.symm)]; exact hz, rfl, fun _ _ _ a b => ⟨a, b⟩⟩
  · rw [hos, spl_get _ _ _ _ hfit]
    by_cases hkj : k = j
    · subst hkj
      simp only [List.getElem?_set_self hjl, Option.some.injEq] at hz
      subst hz
      obtain ⟨b1, b2⟩ := hy cc hcc
      by_cases hq : off ≤ cc ∧ cc < off + vs.length
      · obtain ⟨u, a1, a2⟩ := b1 hq
        rw [if_pos (by omega)]
        exact ⟨u, by rw [← a1]; congr 1; omega, h1 u (List.mem_of_getElem? a1), TV.fcell_evo E a2⟩
      · rw [if_neg (by omega)]
        obtain ⟨u, a1, a2, a3⟩ := q3 k x hj cc (by omega)
        exact ⟨u, a1, a2, TV.fcell_evo E (b2 hq u a3)⟩
    · rw [List.getElem?_set_ne (fun e => hkj e.symm)] at hz
      have hap := offs_apart hj hz (fun e => hkj e.symm)
      rw [if_neg (by omega)]
      obtain ⟨u, a1, a2, a3⟩ := q3 k z hz cc hcc
      exact ⟨u, a1, a2, TV.fcell_evo E a3⟩

theorem keepF_ok {x y : TV} (h : keepF x y = true) : y.size = x.size ∧ ∀ o p c, x.floc o p = some c → x.finb p → y.floc o p = some c ∧ y.finb p := by
  have small : ∀ o p c, (p = [] ∧ c = o) → y.floc o p = some c ∧ y.finb p := fun o p c ⟨e1, e2⟩ => by
    subst e1; subst e2
    cases y <;> simp [TV.floc, TV.finb, DT.at_nil, DT.inb_nil]
  cases x with
  | dv t z =>
    simp only [keepF] at h
    split at h
    · cases y with
      | dv u z' => simp only [decide_eq_true_eq] at h; subst h; exact ⟨rfl, fun o p c h1 h2 => ⟨h1, h2⟩⟩
      | _ => cases h
    · rename_i ha
      simp only [Bool.and_eq_true] at h
      have hys : y.size = 1 := by simpa using h.1.2
      have hts : t.size = 1 := by simpa using h.1.1
      have hna : t.agg = false := by simpa using ha
      have hp0 : ∀ o p c, (TV.dv t z).floc o p = some c → p = [] ∧ c = o := fun o p c hl => by
        simp only [TV.floc] at hl
        obtain ⟨L, hL, hc⟩ := Option.map_eq_some_iff.1 hl
        have : p = [] := by
          cases p with
          | nil => rfl
          | cons i p => cases t <;> first | (simp [DT.agg] at hna; done) | simp [DT.at] at hL
        subst this
        rw [DT.at_nil] at hL; obtain rfl := Option.some.inj hL
        exact ⟨rfl, by simpa using hc.symm⟩
      exact ⟨by rw [hys]; exact hts.symm, fun o p c h1 _ => small o p c (hp0 o p c h1)⟩
  | _ =>
    simp only [keepF, Bool.and_eq_true] at h
    refine ⟨(of_decide_eq_true h.1 : y.size = 1), fun o p c h1 _ => small o p c ?_⟩
    simp only [TV.floc] at h1
    cases p with
    | nil => exact ⟨rfl, by simpa using h1.symm⟩
    | cons i p => cases h1

/-- A record is put anew. -/
theorem RelM.writeAll (hm : RelM c F π s a w) {id : Nat} {fs fs' : List TV} (ho : tlook s.ob id = some (.rcd fs)) (hk : keepAll fs fs' = true) {vs : List Value} (h1 : ∀ u ∈ vs, u.oneCell' = true) (hn : offs fs' fs'.length = vs.length)
    (hy : ∀ (j : Nat) (y : TV), fs'[j]? = some y → ∀ cc, cc < y.size → ∃ u, vs[offs fs' j + cc]? = some u ∧ y.fcell w (Gz F w π (tlook s.ob)) π (tlook s.ob) cc u) {g : Nat} (hg : (π id).g = some g) (hnil : 0 < vs.length) :
    ∃ cur e, w.heap[g]? = some (.cells cur e (0, 0)) ∧ (π id).q + 0 + vs.length ≤ cur.size ∧ RelM c F π ⟨s.sl, (id, .rcd fs') :: s.ob⟩ a (w.setRow g (spl cur ((π id).q + 0) vs)) := by
  obtain ⟨g', cur, e, q1, q2, q3⟩ := hm.obj id _ ho
  rw [hg] at q1; obtain rfl := Option.some.inj q1
  obtain ⟨hl, hkk⟩ := keepAll_ok hk
  have hos := offs_eq hl fun j x hx => let ⟨y, a, b⟩ := hkk j x hx; ⟨y, a, (keepF_ok b).1⟩
  have hfit : (π id).q + 0 + vs.length ≤ cur.size := by
    obtain ⟨j, y, cc, a1, a2, a3⟩ := offs_cover fs' (vs.length - 1) (by omega)
    have hj : j < fs.length := by have := (List.getElem?_eq_some_iff.1 a1).1; omega
    obtain ⟨y', b1, b2⟩ := hkk j fs[j] (by simp [hj])
    rw [a1] at b1; obtain rfl := Option.some.inj b1
    obtain ⟨u, c1, _⟩ := q3 j fs[j] (by simp [hj]) cc (by have := (keepF_ok b2).1; omega)
    have := (Array.getElem?_eq_some_iff.1 c1).1
    rw [hos] at a3
    omega
  refine ⟨cur, e, q2, hfit, hm.write ho hg q2 ⟨hl, fun k z hz => ?_⟩ rfl rfl fun G' O' hz E => ⟨g, _, e, hg, setRow_heap w g cur _ e (0, 0) q2, fun k z hz cc hcc => ?_⟩⟩
  · obtain ⟨y, a1, a2⟩ := hkk k z hz
    exact ⟨y, a1, (keepF_ok a2).1, (keepF_ok a2).2⟩
  · obtain ⟨u, a1, a2⟩ := hy k z hz cc hcc
    rw [spl_get _ _ _ _ hfit]
    have hlt := (List.getElem?_eq_some_iff.1 a1).1
    rw [if_pos (by omega)]
    exact ⟨u, by rw [← a1]; congr 1; omega, h1 u (List.mem_of_getElem? a1), TV.fcell_evo E a2⟩

theorem store_ok (hT : TOK P TI) {rc : Nat → Option (List (Option DT))} {T : Nat} {x y : Operand} {dst : Option Nat} {ty : TypeId} {pos : String} {after : Array Edge} {g : Option (Nat × Bool)} {e : Eff} (h : tobj TI TY rc s.ev (tlook s.ob) dst (.store T x y) = some e) (hb : e.b = true) (hm : RelM c F π s a w) : EffOk P c F s π a w ⟨dst, .store T x y, ty, pos, after, g⟩ e := by
  simp only [tobj] at h
  split at h
  · rename_i id i q hx
    split at h
    · rename_i o ho
      split at h
      · rename_i o' b hp
        obtain rfl := Option.some.inj h
        have hb : b = true := hb
        have hvp := hm.ev x
        have hvy := hm.ev y
        rw [hx] at hvp
        have fin : ∀ {g0 k : Nat} {cur : Array Value} {e0 : TypeId}, (TI T).kd ≠ 0 → a.eval x = .pointer (some ⟨g0, k, none⟩) → (a.eval y).cells.size = (TI T).size → (∀ u ∈ (a.eval y).cells, u.oneCell' = true) → w.heap[g0]? = some (.cells cur e0 (0, 0)) → k + (a.eval y).cells.toList.length ≤ cur.size →
            RelM c F π ⟨s.sl, (id, o') :: s.ob⟩ a (w.setRow g0 (spl cur k (a.eval y).cells.toList)) → EffOk P c F s π a w ⟨none, .store T x y, ty, pos, after, g⟩ ⟨.any, [(id, o')], b⟩ := fun hk he hs h1 hc hf hR => by
          refine ⟨undef, _, π, .inr ⟨?_, rfl⟩, hR, trivial⟩
          have hrun := run_store (P := P) hT hk hs h1 hc hf
          rw [← he] at hrun
          simp [execOp, hrun]
        have flat : ∀ {t : DT} {z : t.den}, t.plain = true → t.val z w (Gz F w π (tlook s.ob)) (a.eval y) → ∀ u ∈ (a.eval y).cells, u.oneCell' = true := fun {t z} hp hv u hu => by
          obtain ⟨v1, v2⟩ := DT.val_cells hp hv
          obtain ⟨i, hi, rfl⟩ := Array.getElem_of_mem hu
          obtain ⟨u', a1, a2, _⟩ := v2 i (by omega)
          rw [Array.getElem?_eq_getElem hi] at a1
          rw [Option.some.inj a1]; exact a2
        simp only [VR, ho] at hvp
        cases o with
        | row t l =>
          simp only [TO.putP] at hp
          split at hp
          · rename_i N hN
            split at hp
            · rename_i z b1 hz
              split at hp
              · rename_i hk
                simp only [Bool.and_eq_true, bne_iff_ne, ne_eq, beq_iff_eq] at hk
                simp only [Option.some.injEq, Prod.mk.injEq] at hp
                obtain ⟨rfl, rfl⟩ := hp
                simp only [Bool.and_eq_true] at hb
                obtain ⟨k, g0, h1, h2, h3, h4⟩ := hvp rfl
                simp only [TO.loc, hN, Option.map_some, Option.some.injEq] at h1
                subst h1
                have hval := TV.as_ok hz hb.1 hk.1.2 hvy
                obtain ⟨cur, e0, c1, c2, c3⟩ := hm.writeRow ho hN h2.2 h2.1 hb.2 hk.1.2 hval h3
                exact fin hk.1.1 h4 (by rw [(DT.val_cells hk.1.2 hval).1, hk.2]) (flat hk.1.2 hval) c1 c2 c3
              · cases hp
            · cases hp
          · cases hp
        | rcd fs =>
          cases q with
          | nil =>
            simp only [TO.putP] at hp
            split at hp
            · rename_i t z hy
              split at hp
              · rename_i hk
                simp only [Bool.and_eq_true, bne_iff_ne, ne_eq, beq_iff_eq, decide_eq_true_eq] at hk
                simp only [Option.some.injEq, Prod.mk.injEq] at hp
                obtain ⟨rfl, rfl⟩ := hp
                obtain ⟨⟨k1, ⟨k2, k3⟩, k4⟩, k5, k6⟩ := hk
                subst k1
                obtain ⟨k, g0, h1, h2, h3, h4⟩ := hvp rfl
                simp only [TO.loc, Option.some.injEq] at h1
                subst h1
                rw [hy] at hvy
                have hval : t.val z w (Gz F w π (tlook s.ob)) (a.eval y) := hvy
                obtain ⟨v1, v2⟩ := DT.val_cells k3 hval
                have hpos : 0 < t.size := by rw [← k4]; exact ((hT T).zc k2).2.2.2
                obtain ⟨cur, e0, c1, c2, c3⟩ := hm.writeAll (fs' := splitTV t z) (vs := (a.eval y).cells.toList) ho k6 (fun u hu => flat k3 hval u (by simpa using hu)) (by rw [k5]; simp [v1]) (fun j x hx cc hcc => by
                  obtain ⟨u, a1, _, a3⟩ := split_ok (l := (a.eval y).cells.toList) (O := tlook s.ob) (π := π) (fun cc hcc => by obtain ⟨u, a1, a2, a3⟩ := v2 cc hcc; exact ⟨u, by simpa using a1, a2, a3⟩) j x hx cc hcc
                  exact ⟨u, a1, a3⟩) h3 (by simp [v1, hpos])
                exact fin k2 h4 (by rw [v1, k4]) (flat k3 hval) c1 c2 c3
              · cases hp
            · cases hp
          | cons j p =>
            simp only [TO.putP] at hp
            cases hj : fs[j]? with
            | none => rw [hj] at hp; cases hp
            | some x0 =>
              rw [hj] at hp
              simp only at hp
              obtain ⟨k, g0, h1, h2, h3, h4⟩ := hvp rfl
              simp only [TO.loc, hj] at h1
              simp only [TO.okAt, hj] at h2
              cases p with
              | nil =>
                have hk0 : k = offs fs j := by
                  cases x0 with
                  | dv t z => simp only [TV.floc, DT.at_nil, Option.map_some, Option.some.injEq] at h1; exact h1.symm
                  | _ => simpa [TV.floc] using h1.symm
                subst hk0
                simp only at hp
                split at hp
                · rename_i hk
                  simp only [Bool.and_eq_true, Bool.or_eq_true, beq_iff_eq] at hk
                  simp only [Option.some.injEq, Prod.mk.injEq] at hp
                  obtain ⟨rfl, rfl⟩ := hp
                  obtain ⟨⟨⟨_, k1⟩, k2⟩, k3⟩ := hk
                  obtain ⟨e1, e2⟩ := keepF_ok k1
                  have hone := TV.one_ok' k2 hvy
                  obtain ⟨f1, f2⟩ := TV.fcell_one k2 hvy
                  have hcells := cells_one hone
                  obtain ⟨cur, e0, c1, c2, c3⟩ := hm.writeRcd (off := 0) (vs := (a.eval y).cells.toList) ho hj e1 e2 (by rw [hcells]; simp; omega) (by rw [hcells]; simpa using hone) (fun cc hcc => ⟨fun _ => by
                    obtain rfl : cc = 0 := by omega
                    exact ⟨a.eval y, by rw [hcells]; rfl, f2⟩, fun hn => by rw [hcells] at hn; simp at hn; omega⟩) h3 (by rw [hcells]; simp)
                  simp only [Nat.add_zero] at c2 c3
                  refine fin (by omega) h4 (by rw [hcells, ((hT T).one k3).1]; rfl) (by rw [hcells]; simpa using hone) c1 c2 c3
                · split at hp
                  · rename_i t z _
                    split at hp
                    · rename_i z' b1 hz
                      split at hp
                      · rename_i hk
                        simp only [Bool.and_eq_true, bne_iff_ne, ne_eq, beq_iff_eq] at hk
                        simp only [Option.some.injEq, Prod.mk.injEq] at hp
                        obtain ⟨rfl, rfl⟩ := hp
                        have hval := TV.as_ok hz hb hk.1.2 hvy
                        obtain ⟨v1, v2⟩ := DT.val_cells hk.1.2 hval
                        have hpos : 0 < t.size := by rw [← hk.2]; exact ((hT T).zc hk.1.1).2.2.2
                        obtain ⟨cur, e0, c1, c2, c3⟩ := hm.writeRcd (y := .dv t z') (off := 0) (vs := (a.eval y).cells.toList) ho hj rfl (fun _ _ _ a b => ⟨a, b⟩) (by simp [v1, TV.size]) (fun u hu => flat hk.1.2 hval u (by simpa using hu)) (fun cc hcc => ⟨fun _ => by
                          obtain ⟨u, a1, a2, a3⟩ := v2 cc hcc
                          exact ⟨u, by rw [Nat.sub_zero, Array.getElem?_toList]; exact a1, a3⟩, fun hn => by simp [v1] at hn; simp only [TV.size] at hcc; omega⟩) h3 (by simp [v1, hpos])
                        simp only [Nat.add_zero] at c2 c3
                        exact fin hk.1.1 h4 (by rw [v1, hk.2]) (flat hk.1.2 hval) c1 c2 c3
                      · cases hp
                    · cases hp
                  · cases hp
              | cons q0 p =>
                simp only at hp
                split at hp
                · rename_i t z
                  split at hp
                  · rename_i N hN
                    split at hp
                    · rename_i z' b1 hz
                      split at hp
                      · rename_i hk
                        simp only [Bool.and_eq_true, bne_iff_ne, ne_eq, beq_iff_eq] at hk
                        simp only [Option.some.injEq, Prod.mk.injEq] at hp
                        obtain ⟨rfl, rfl⟩ := hp
                        simp only [Bool.and_eq_true] at hb
                        simp only [TV.floc, hN, Option.map_some, Option.some.injEq] at h1
                        subst h1
                        have hval := TV.as_ok hz hb.1 hk.1.2 hvy
                        obtain ⟨v1, v2⟩ := DT.val_cells hk.1.2 hval
                        obtain ⟨n1, n2⟩ := DT.at_cell hN h2
                        have hput := DT.at_put hN h2 z z' hb.2
                        have hpos : 0 < N.u.size := by rw [← hk.2]; exact ((hT T).zc hk.1.1).2.2.2
                        obtain ⟨cur, e0, c1, c2, c3⟩ := hm.writeRcd (y := .dv t (N.put z z')) (off := N.off) (vs := (a.eval y).cells.toList) ho hj rfl (fun _ _ _ a b => ⟨a, b⟩) (by simp [v1, TV.size]; omega) (fun u hu => flat hk.1.2 hval u (by simpa using hu)) (fun cc hcc => by
                          have hcc' : cc < t.size := hcc
                          simp only [TV.fcell, hput cc hcc', Array.length_toList, v1]
                          refine ⟨fun hq => ?_, fun hq u hu => ?_⟩
                          · rw [if_pos hq]
                            obtain ⟨u, a1, a2, a3⟩ := v2 (cc - N.off) (by omega)
                            exact ⟨u, by rw [Array.getElem?_toList]; exact a1, a3⟩
                          · rw [if_neg hq]; exact hu) h3 (by simp [v1, hpos])
                        exact fin hk.1.1 h4 (by rw [v1, hk.2]) (flat hk.1.2 hval) c1 c2 c3
                      · cases hp
                    · cases hp
                  · cases hp
                · cases hp
        | _ => simp [TO.putP] at hp
      · cases h
    · cases h
  · cases h

end
end Go.Proofs.YtbjfbbfglkmadaaDoor
