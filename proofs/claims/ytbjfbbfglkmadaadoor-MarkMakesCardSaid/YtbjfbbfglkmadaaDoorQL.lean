/-
  Lifting Go functions to plain Lean functions, part L: append; slices of slices.
-/
import Derived.Test.YtbjfbbfglkmadaaDoorQK
namespace Go.Proofs.YtbjfbbfglkmadaaDoor
open Go.RowKit
set_option linter.unusedVariables false

section
variable {P : Program} {TI : Nat → TD} {TY : Nat → DT} {c : Cx} {F : Nat → Prop} {s : TS} {π : Nat → Pl} {a : Act} {w : World}

/-- The model's append, within the capacity. -/
theorem run_app_room {t ty e : TypeId} {i : TypeInfo} (ht : P.underlying t = some (.slice e)) (hi : P.info? e = some i) {g o n cap m c : Nat} {p : Option Addr} {cur : Array Value} {e' : TypeId} (hg : w.heap[g]? = some (.cells cur e' (0, 0)))
    {l : List Value} (hl : l.length = m * i.size) (h1 : ∀ u ∈ l, u.oneCell' = true) (hf : (Builtin.firstCells i.size m (.slice p m c)).run P w = .ok l.toArray w) (hroom : n + m ≤ cap) (hfit : o + n * i.size + l.length ≤ cur.size) :
    (Builtin.append_ #[t, t] ty #[.slice (some ⟨g, o, none⟩) n cap, .slice p m c]).run P w =
      .ok (.slice (some ⟨g, o, none⟩) (n + m) cap) (w.setRow g (spl cur (o + n * i.size) l)) := by
  have hst := run_storeCells_at P g (o + n * i.size) e' l 0 cur w hg (by simpa using hfit) h1
  simp only [Nat.add_zero] at hst
  unfold spl
  simp [Builtin.append_, run_underlying ht, sizeOf, typeInfo, hi, Builtin.lenOf, hroom, hf, Addr.add_lit, hst]

/-- And beyond it. -/
theorem run_app_grow {t ty e : TypeId} {i : TypeInfo} {z : Value} (ht : P.underlying t = some (.slice e)) (hi : P.info? e = some i) (hz : i.zero = some z) {w : World} {n cap m c : Nat} {q p : Option Addr}
    {k l : List Value} (hf0 : (Builtin.firstCells i.size n (.slice q n cap)).run P w.drew = .ok k.toArray w.drew) (hf : (Builtin.firstCells i.size m (.slice p m c)).run P w.drew = .ok l.toArray w.drew) (hg : cap < n + m)
    (h63 : ((n + m : Nat) : Int) ≤ 9223372036854775807) (hfit : Builtin.nextslicecap (n + m) cap * i.bytes ≤ 281474976710656) :
    (Builtin.append_ #[t, t] ty #[.slice q n cap, .slice p m c]).run P w =
      .ok (.slice (some ⟨w.heap.size, 0, none⟩) (n + m) (grownCap w (n + m) cap e)) (w.drew.alloc (.cells (k.toArray ++ l.toArray ++ Builtin.zeroCells z.cells (grownCap w (n + m) cap e - (n + m))) e)) := by
  have hn : ¬ (n + m ≤ cap) := by omega
  have h63' : ¬ (9223372036854775807 < ((n : Int) + (m : Int))) := by omega
  have h48' : ¬ (281474976710656 < Builtin.nextslicecap (n + m) cap * i.bytes) := by omega
  simp [Builtin.append_, run_underlying ht, sizeOf, typeInfo, zeroValue, hi, hz, Builtin.lenOf, hn, h63', h48', Question.forced, hf, hf0, newRow, grownCap]
  congr 2
  apply Array.ext'
  simp [List.append_assoc]

theorem gz_dead (hm : RelM c F π s a w) {d : Nat} {o : TO} (hd : tlook s.ob d = some o) : FzTo w (Gz F w π (tlook s.ob)) w (Gz F w π (tlook ((d, .dead) :: s.ob))) := fun b ⟨h0, h1, h2⟩ => ⟨⟨h0, h1, fun id ⟨h3, o1, h4, h5⟩ => by
  rw [tlook_cons] at h4
  by_cases e : id = d
  · rw [if_pos e] at h4; obtain rfl := Option.some.inj h4; simp [TO.live] at h5
  · rw [if_neg e] at h4; exact h2 id ⟨h3, o1, h4, h5⟩⟩, rfl⟩

/-- What is asked of an append. -/
structure AppOk (P : Program) (c : Cx) (F : Nat → Prop) (s : TS) (a : Act) (w : World) (T ty : TypeId) (v vy : Value) (d : Nat) (t : DT) (l : List t.den) (O : List (Nat × TO)) : Prop where
  ok : ∃ v' w' π', (Builtin.append_ #[T, T] ty #[v, vy]).run P w = .ok v' w' ∧ RelM c F π' ⟨s.sl, (d, .row t l) :: O⟩ a w' ∧ v' = (π' d).hdr l.length

theorem small_ok {n eb : Nat} (h : small n eb = true) : n * eb ≤ 140737488355328 ∧ n ≤ 140737488355328 := by
  unfold small at h
  simpa using h

/-- Beyond the capacity: a new block. -/
theorem app_grow (hT : TOK P TI) {T ty : TypeId} (hk : (TI T).kd = 2) {t : DT} (he : (TI T).elem = t.size) {l m : List t.den} (hs : small (l.length + m.length) (TI T).eb = true) (hm : RelM c F π s a w) {d : Nat} (hd : tlook s.ob d = none) {q p : Option Addr} {cap c0 : Nat}
    {cs ds : List Value} (h1 : CL w (Gz F w π (tlook s.ob)) t l cs) (h2 : CL w (Gz F w π (tlook s.ob)) t m ds) (f1 : (Builtin.firstCells t.size l.length (.slice q l.length cap)).run P w.drew = .ok cs.toArray w.drew) (f2 : (Builtin.firstCells t.size m.length (.slice p m.length c0)).run P w.drew = .ok ds.toArray w.drew) (hcap : cap < l.length + m.length) :
    AppOk P c F s a w T ty (.slice q l.length cap) (.slice p m.length c0) d t (l ++ m) s.ob := by
  obtain ⟨e, ie, b1, b2, b3, b4, b5, b6, b7, b8⟩ := (hT T).sl hk
  obtain ⟨s1, s2⟩ := small_ok hs
  have hsz : ie.size = t.size := b3.trans he
  rw [← hsz] at f1 f2
  have hrun := run_app_grow (P := P) (ty := ty) b1 b2 b5 f1 f2 hcap (by omega) (growslice_fits hcap (by rw [b4]; exact s1))
  have hge := grownCap_ge w (l.length + m.length) cap e
  have hcm : grownCap w (l.length + m.length) cap e ≤ maxLen := grownCap_le_maxLen w (l.length + m.length) cap e (by simp [maxLen]; omega)
  have hcl := h1.append h2
  have hcur : (cs.toArray ++ ds.toArray ++ Builtin.zeroCells (TI T).ez.cells (grownCap w (l.length + m.length) cap e - (l.length + m.length))).size = grownCap w (l.length + m.length) cap e * t.size := by
    simp only [Array.size_append, List.size_toArray, size_zeroCells, b6, h1.len, h2.len, he, ← Nat.add_mul]
    congr 1
    omega
  refine ⟨_, _, _, hrun, hm.newRow (cap := grownCap w (l.length + m.length) cap e) hd hcl (w' := w.drew.alloc _) ((Below.refl _ _).drew.alloc (by simp) _) (heap_alloc_new w.drew _) (fun q hq => ?_) (by rw [hcur]; exact Nat.le_refl _) (by simpa using hge) hcm, by simp [updP, Pl.hdr]⟩
  rw [Array.getElem?_append_left (by simpa using hq)]
  simp

/-- THE APPEND onto a row of the call's own. -/
theorem app_row (hT : TOK P TI) {T ty : TypeId} (hk : (TI T).kd = 2) {t : DT} (he : (TI T).elem = t.size) {l m : List t.den} (hs : small (l.length + m.length) (TI T).eb = true) (hm : RelM c F π s a w) {d id : Nat} (hd : tlook s.ob d = none) (hid : tlook s.ob id = some (.row t l)) {y : TV} {v vy : Value}
    (hv : VR w (Gz F w π (tlook s.ob)) π (tlook s.ob) (.row id) v) (hy : y.data (tlook s.ob) = some ⟨t, m⟩) (hvy : VR w (Gz F w π (tlook s.ob)) π (tlook s.ob) y vy) :
    AppOk P c F s a w T ty v vy d t (l ++ m) ((id, .dead) :: s.ob) := by
  obtain ⟨e, ie, b1, b2, b3, b4, b5, b6, b7, b8⟩ := (hT T).sl hk
  have hsz : ie.size = t.size := b3.trans he
  have hne : d ≠ id := fun e => by subst e; rw [hd] at hid; cases hid
  have hlive : (TO.row t l).live = true := rfl
  obtain ⟨cs, q, cap, h1, e1, f1⟩ := src_ok (P := P) (t := t) (l := l) hm (x := .row id) (by simp only [TV.data, hid]) hv
  obtain ⟨ds, p, c0, h2, e2, f2⟩ := src_ok (P := P) hm hy hvy
  have hdead := hm.dead hid
  have hz := gz_dead hm hid
  have hd' : tlook ((id, .dead) :: s.ob) d = none := by rw [tlook_cons, if_neg hne]; exact hd
  have grow : cap < l.length + m.length → AppOk P c F s a w T ty v vy d t (l ++ m) ((id, .dead) :: s.ob) := fun hcap => by
    subst e1; subst e2
    obtain ⟨⟨v', w', π', g1, g2, g3⟩⟩ := app_grow (ty := ty) hT hk he hs hdead hd' (h1.mono hz) (h2.mono hz) (f1 w.drew fun _ _ _ => rfl) (f2 w.drew fun _ _ _ => rfl) hcap
    exact ⟨v', w', π', g1, g2, g3⟩
  simp only [VR, hid] at hv
  rcases hm.obj id _ hid with ⟨o1, o2⟩ | ⟨g, cur, e', o1, o2, o3, o4, o5, o6⟩
  · subst o2
    by_cases hn : m.length = 0
    · have hm0 : m = [] := List.eq_nil_of_length_eq_zero hn
      subst hm0
      have hv' : v = .slice none 0 0 := by rw [hv, Pl.hdr, o1]
      have f2' := f2 w fun _ _ _ => rfl
      rw [← hsz] at f2'
      refine ⟨.slice none 0 0, w, _, ?_, hdead.newNil t hd', by simp [updP, Pl.hdr]⟩
      subst hv'; subst e2
      simp only [List.length_nil] at f2'
      have hds : ds = [] := List.eq_nil_of_length_eq_zero (by rw [h2.len]; simp)
      subst hds
      simp [Builtin.append_, run_underlying b1, sizeOf, typeInfo, b2, Builtin.lenOf, f2']
    · refine grow ?_
      have hv' : v = .slice none 0 0 := by rw [hv, Pl.hdr, o1]
      rw [hv'] at e1
      simp only [Value.slice.injEq] at e1
      obtain ⟨_, _, rfl⟩ := e1
      omega
  · have hv' : v = .slice (some ⟨g, (π id).q, none⟩) l.length (π id).cap := by rw [hv, Pl.hdr, o1]
    have hcapeq : cap = (π id).cap := by rw [hv'] at e1; simp only [Value.slice.injEq] at e1; exact e1.2.2.symm
    by_cases hroom : l.length + m.length ≤ (π id).cap
    · subst e2
      have f2' := f2 w fun _ _ _ => rfl
      rw [← hsz] at f2'
      have hcap2 : (l.length + m.length) * t.size ≤ (π id).cap * t.size := Nat.mul_le_mul_right _ hroom
      rw [Nat.add_mul] at hcap2
      have hfit : (π id).q + l.length * ie.size + ds.length ≤ cur.size := by rw [hsz, h2.len]; omega
      have hrun := run_app_room (P := P) (ty := ty) b1 b2 (o := (π id).q) o2 (by rw [h2.len, hsz]) h2.flat f2' hroom hfit
      have hheap := setRow_heap w g cur (spl cur ((π id).q + l.length * ie.size) ds) e' (0, 0) o2
      have hoth : ∀ b, b ≠ g → (w.setRow g (spl cur ((π id).q + l.length * ie.size) ds)).heap[b]? = w.heap[b]? := fun b hb => setRow_other w g b _ hb
      have hsize : (w.setRow g (spl cur ((π id).q + l.length * ie.size) ds)).heap.size = w.heap.size := by simp
      have hown : Own π (tlook s.ob) id g := ⟨o1, _, hid, rfl⟩
      have own : ∀ i b, Own (updP π d (π id)) (tlook ((d, .row t (l ++ m)) :: (id, .dead) :: s.ob)) i b → (i = d ∧ b = g) ∨ (i ≠ d ∧ i ≠ id ∧ Own π (tlook s.ob) i b) := fun i b ⟨r1, o', r2, r3⟩ => by
        rw [tlook_cons, tlook_cons] at r2
        by_cases e1 : i = d
        · subst e1
          simp only [updP, if_true, o1, Option.some.injEq] at r1
          exact .inl ⟨rfl, r1.symm⟩
        · rw [if_neg e1] at r2
          simp only [updP, if_neg e1] at r1
          by_cases e2 : i = id
          · rw [if_pos e2] at r2; obtain rfl := Option.some.inj r2; simp [TO.live] at r3
          · rw [if_neg e2] at r2; exact .inr ⟨e1, e2, r1, o', r2, r3⟩
      have E : Evo w (Gz F w π (tlook s.ob)) π (tlook s.ob) (w.setRow g (spl cur ((π id).q + l.length * ie.size) ds)) (Gz F (w.setRow g (spl cur ((π id).q + l.length * ie.size) ds)) (updP π d (π id)) (tlook ((d, .row t (l ++ m)) :: (id, .dead) :: s.ob))) (updP π d (π id)) (tlook ((d, .row t (l ++ m)) :: (id, .dead) :: s.ob)) := by
        refine ⟨fun b ⟨r0, r1, r2⟩ => ⟨⟨r0, by rw [hsize]; exact r1, fun i hi => ?_⟩, hoth b fun e => r2 id (e ▸ hown)⟩, fun i o ho => ?_⟩
        · rcases own i b hi with ⟨_, rfl⟩ | ⟨_, _, h⟩
          · exact r2 id hown
          · exact r2 i h
        · have e1 : i ≠ d := fun e => by subst e; rw [hd] at ho; cases ho
          by_cases e2 : i = id
          · exact ⟨.dead, by rw [tlook_cons, if_neg e1, tlook_cons, if_pos e2], by simp [Step]⟩
          · exact ⟨o, by rw [tlook_cons, if_neg e1, tlook_cons, if_neg e2]; exact ho, by simp only [updP, if_neg e1]; exact Step.refl o⟩
      have hbar := hm.new id g hown
      refine ⟨_, _, updP π d (π id), by rw [hv']; exact hrun, ?_, by simp [updP, Pl.hdr, o1]⟩
      refine hm.go (hm.kept.on ⟨rfl, rfl, rfl⟩ (by rw [hsize]; exact Nat.le_refl _) fun b hb => hoth b fun e => hbar.1 (e ▸ hb)) E (fun i o ho => ?_) (fun i j b hi hj => ?_) (fun i b hi => ?_)
      · by_cases e1 : i = d
        · rw [tlook_cons, if_pos e1] at ho
          obtain rfl := Option.some.inj ho
          subst e1
          refine .inr ⟨g, _, e', by simp [updP, o1], hheap, by simpa [updP] using hroom, by simpa [updP] using o4, by simp only [updP, if_true]; rw [spl_size _ _ _ hfit]; exact o5, fun j hj cc hcc => ?_⟩
          simp only [updP, if_true]
          rw [spl_get _ _ _ _ hfit, getD_append]
          by_cases hjl : j < l.length
          · have : j * t.size + t.size ≤ l.length * t.size := by have := Nat.mul_le_mul_right t.size (show j + 1 ≤ l.length by omega); rw [Nat.add_mul] at this; omega
            rw [if_pos hjl, if_neg (by rw [hsz]; omega)]
            obtain ⟨u, r1, r2, r3⟩ := o6 j hjl cc hcc
            exact ⟨u, r1, r2, DT.cell_mono E.fz r3⟩
          · rw [List.length_append] at hj
            have hle : l.length * t.size ≤ j * t.size := Nat.mul_le_mul_right _ (by omega)
            have hlt : (j - l.length) * t.size + cc < m.length * t.size := idx_lt (by omega) hcc
            have hsub : (j - l.length) * t.size = j * t.size - l.length * t.size := Nat.sub_mul _ _ _
            rw [if_neg hjl, if_pos (by rw [hsz, h2.len]; omega)]
            obtain ⟨u, r1, r2, r3⟩ := h2.el (j - l.length) (by omega) cc hcc
            exact ⟨u, by rw [← r1, hsz]; congr 1; omega, r2, DT.cell_mono E.fz r3⟩
        · rw [tlook_cons, if_neg e1, tlook_cons] at ho
          by_cases e2 : i = id
          · rw [if_pos e2] at ho; obtain rfl := Option.some.inj ho; trivial
          · rw [if_neg e2] at ho
            exact (hm.obj i o ho).evo E (by simp only [updP, if_neg e1]) fun b hb hl => hoth b fun e => e2 (hm.inj i id g ⟨e ▸ hb, o, ho, hl⟩ hown)
      · rcases own i b hi with ⟨r1, r2⟩ | ⟨r1, r2, r3⟩ <;> rcases own j b hj with ⟨r4, r5⟩ | ⟨r4, r5, r6⟩
        · exact r1.trans r4.symm
        · exact absurd (hm.inj j id g (r2 ▸ r6) hown) r5
        · exact absurd (hm.inj i id g (r5 ▸ r3) hown) r2
        · exact hm.inj i j b r3 r6
      · rw [hsize]
        rcases own i b hi with ⟨_, rfl⟩ | ⟨_, _, r3⟩
        · exact hbar
        · exact hm.new i b r3
    · exact grow (by omega)

theorem append_ok (hT : TOK P TI) {rc : Nat → Option (List (Option DT))} {cl : Call} {dst : Option Nat} {ty : TypeId} {pos : String} {after : Array Edge} {g : Option (Nat × Bool)} {e : Eff} (h : tobj TI TY rc s.ev (tlook s.ob) dst (.call cl) = some e) (hb : e.b = true) (hm : RelM c F π s a w) : EffOk P c F s π a w ⟨dst, .call cl, ty, pos, after, g⟩ e := by
  simp only [tobj] at h
  obtain ⟨callee, args, ats⟩ := cl
  simp only at h
  split at h
  · rename_i d x y T T' hxs hts
    split at h
    · rename_i heq
      subst heq
      have ha : args = #[x, y] := by apply Array.ext'; simpa using hxs
      have ht : ats = #[T, T] := by apply Array.ext'; simpa using hts
      subst ha; subst ht
      have hexec : ∀ {v : Value} {w' : World}, (Builtin.append_ #[T, T] ty #[a.eval x, a.eval y]).run P w = .ok v w' → (execOp a.eval ⟨some d, .call { callee := .builtin .append, args := #[x, y], argTypes := #[T, T] }, ty, pos, after, g⟩).run P w = .ok (.value v) w' := fun h =>
        exec_value (e := Builtin.append_ #[T, T] ty #[a.eval x, a.eval y]) (by rw [BigFrame.execOp_builtin, BigFrame.builtin_append]; simp) h
      have fin : ∀ {t : DT} {l : List t.den} {O : List (Nat × TO)} {b : Bool}, AppOk P c F s a w T ty (a.eval x) (a.eval y) d t l (O ++ s.ob) → EffOk P c F s π a w ⟨some d, .call { callee := .builtin .append, args := #[x, y], argTypes := #[T, T] }, ty, pos, after, g⟩ ⟨.row d, (d, .row t l) :: O, b⟩ := fun ⟨v', w', π', h1, h2, h3⟩ =>
        ⟨v', w', π', .inl (hexec h1), h2, by simp only [VR, List.cons_append, tlook, if_true]; exact h3⟩
      have hvx := hm.ev x
      have hvy := hm.ev y
      unfold tappend at h
      split at h
      · cases h
      · rename_i hd
        split at h
        · rename_i id hx
          rw [hx] at hvx
          split at h
          · rename_i t l hid
            split at h
            · rename_i t' m hy
              split at h
              · rename_i e2
                subst e2
                split at h
                · rename_i hk
                  simp only [Bool.and_eq_true, beq_iff_eq] at hk
                  obtain rfl := Option.some.inj h
                  exact fin (O := [(id, .dead)]) (app_row hT hk.1 hk.2 hb hm hd hid hvx hy hvy)
                · cases h
              · cases h
            · cases h
          · cases h
        · rename_i hx
          rw [hx] at hvx
          split at h
          · rename_i t t' m hTY hy
            split at h
            · rename_i e2
              subst e2
              split at h
              · rename_i hk
                simp only [Bool.and_eq_true, beq_iff_eq] at hk
                obtain rfl := Option.some.inj h
                have hv' : a.eval x = .slice none 0 0 := hvx
                obtain ⟨ds, p, c0, h2, e2, f2⟩ := src_ok (P := P) hm hy hvy
                obtain ⟨e, ie, b1, b2, b3, b4, b5, b6, b7, b8⟩ := (hT T).sl hk.1
                have hsz := b3.trans hk.2
                refine fin (O := []) ?_
                by_cases hn : m.length = 0
                · have hm0 : m = [] := List.eq_nil_of_length_eq_zero hn
                  subst hm0
                  have f2' := f2 w fun _ _ _ => rfl
                  rw [← hsz] at f2'
                  refine ⟨.slice none 0 0, w, _, ?_, hm.newNil _ hd, by simp [updP, Pl.hdr]⟩
                  have hds : ds = [] := List.eq_nil_of_length_eq_zero (by rw [h2.len]; simp)
                  subst hds
                  rw [hv', e2]
                  rw [e2] at f2'
                  simp only [List.length_nil] at f2' ⊢
                  simp [Builtin.append_, run_underlying b1, sizeOf, typeInfo, b2, Builtin.lenOf, f2']
                · have hcl0 : CL w (Gz F w π (tlook s.ob)) t' [] [] := ⟨by simp, fun i hi => by simp at hi⟩
                  have f2' := f2 w.drew fun _ _ _ => rfl
                  rw [e2] at f2'
                  obtain ⟨⟨v', w', π', g1, g2, g3⟩⟩ := app_grow (P := P) (ty := ty) (l := []) hT hk.1 hk.2 (by simpa using hb) hm hd (q := none) (cap := 0) hcl0 h2 (by simp [Builtin.firstCells]) f2' (by simp; omega)
                  exact ⟨v', w', π', by rw [hv', e2]; exact g1, g2, g3⟩
              · cases h
            · cases h
          · cases h
        · rename_i t l hx
          rw [hx] at hvx
          split at h
          · rename_i t' m hy
            split at h
            · rename_i e2
              subst e2
              split at h
              · rename_i hk
                simp only [Bool.and_eq_true, beq_iff_eq] at hk
                obtain rfl := Option.some.inj h
                have hb' : (decide (0 < m.length) && small (l.length + m.length) (TI T).eb) = true := hb
                simp only [Bool.and_eq_true, decide_eq_true_eq] at hb'
                obtain ⟨ds, p, c0, h2, e2, f2⟩ := src_ok (P := P) hm hy hvy
                obtain ⟨cs, q, cap, h1, e1, f1⟩ := src_ok (P := P) (t := t') (l := l) hm (x := .dv (.csl t') l) rfl hvx
                have hcap : cap = l.length := by
                  obtain ⟨p', cap', e3, _, _, _, e4, _⟩ := (DT.val_one (t := .csl t') rfl).1 hvx
                  rw [e1] at e3
                  simp only [Value.slice.injEq] at e3
                  rw [e3.2.2]; exact e4
                have f1' := f1 w.drew fun _ _ _ => rfl
                have f2' := f2 w.drew fun _ _ _ => rfl
                rw [e2] at f2'
                rw [e1] at f1'
                refine fin (O := []) ?_
                obtain ⟨⟨v', w', π', g1, g2, g3⟩⟩ := app_grow (P := P) (ty := ty) hT hk.1 hk.2 hb'.2 hm hd h1 h2 f1' f2' (by omega)
                exact ⟨v', w', π', by rw [e1, e2]; exact g1, g2, g3⟩
              · cases h
            · cases h
          · cases h
        · cases h
    · cases h
  · cases h

end
end Go.Proofs.YtbjfbbfglkmadaaDoor
