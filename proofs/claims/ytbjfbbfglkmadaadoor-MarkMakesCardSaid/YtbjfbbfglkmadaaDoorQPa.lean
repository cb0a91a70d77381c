/-
  Lifting Go functions to plain Lean functions, part Pa: an append to a row of which another slot still has the head: both ways that it can go.
-/
import Derived.Test.YtbjfbbfglkmadaaDoorQP
namespace Go.Proofs.YtbjfbbfglkmadaaDoor
open Go.RowKit
set_option linter.unusedVariables false

section
variable {P : Program} {TI : Nat → TD} {c : Cx} {F : Nat → Prop} {s : TS} {π : Nat → Pl} {a : Act} {w : World}

/-- An append in place. -/
theorem app_room (hT : TOK P TI) {T ty : TypeId} (hk : (TI T).kd = 2) {t : DT} (he : (TI T).elem = t.size) {l m : List t.den} (hm : RelM c F π s a w) {d id : Nat} (hd : tlook s.ob d = none) (hid : tlook s.ob id = some (.row t l)) {y : TV} {v vy : Value}
    (hv : VR w (Gz F w π (tlook s.ob)) π (tlook s.ob) (.row id) v) (hy : y.data (tlook s.ob) = some ⟨t, m⟩) (hvy : VR w (Gz F w π (tlook s.ob)) π (tlook s.ob) y vy)
    {g : Nat} (o1 : (π id).g = some g) (hroom : l.length + m.length ≤ (π id).cap) :
    ∃ v' w', (Builtin.append_ #[T, T] ty #[v, vy]).run P w = .ok v' w' ∧ RelM c F (updP π d (π id)) ⟨s.sl, (d, .row t (l ++ m)) :: (id, .dead) :: s.ob⟩ a w' ∧ v' = ((updP π d (π id)) d).hdr (l ++ m).length := by
  obtain ⟨e, ie, b1, b2, b3, b4, b5, b6, b7, b8⟩ := (hT T).sl hk
  have hsz : ie.size = t.size := b3.trans he
  have hne : d ≠ id := fun e => by subst e; rw [hd] at hid; cases hid
  have hlive : (TO.row t l).live = true := rfl
  obtain ⟨ds, p, c0, h2, e2, f2⟩ := src_ok (P := P) hm hy hvy
  simp only [VR, hid] at hv
  have hor := hm.obj id _ hid
  simp only [OR] at hor
  rcases hor with ⟨o1', _⟩ | ⟨g', cur, e', o1', o2, o3, o4, o5, o6⟩
  · rw [o1] at o1'; cases o1'
  rw [o1] at o1'; obtain rfl := Option.some.inj o1'
  have hv' : v = .slice (some ⟨g, (π id).q, none⟩) l.length (π id).cap := by rw [hv, Pl.hdr, o1]
  subst e2
  have f2' := f2 w fun _ _ _ => rfl
  rw [← hsz] at f2'
  have hcap2 : (l.length + m.length) * t.size ≤ (π id).cap * t.size := Nat.mul_le_mul_right _ hroom
  rw [Nat.add_mul] at hcap2
  have hfit : (π id).q + l.length * ie.size + ds.length ≤ cur.size := by rw [hsz, h2.len]; omega
  have hrun := run_app_room (P := P) (ty := ty) b1 b2 (o := (π id).q) o2 (by rw [h2.len, hsz]) h2.flat f2' hroom hfit
  have hheap := setRow_heap w g cur (spl cur ((π id).q + l.length * ie.size) ds) e' (0, 0) o2
  have hoth : ∀ b, b ≠ g → (w.setRow g (spl cur ((π id).q + l.length * ie.size) ds)).heap[b]? = w.heap[b]? := fun b hb => setRow_other w g b _ hb
  have hsize : (w.setRow g (spl cur ((π id).q + l.length * ie.size) ds)).heap.size = w.heap.size := by simp
  have hown : Own π (tlook s.ob) id g := ⟨o1, _, hid, rfl⟩
  have own : ∀ i b, Own (updP π d (π id)) (tlook ((d, .row t (l ++ m)) :: (id, .dead) :: s.ob)) i b → (i = d ∧ b = g) ∨ (i ≠ d ∧ i ≠ id ∧ Own π (tlook s.ob) i b) := fun i b ⟨r1, o', r2, r3⟩ => by
    rw [tlook_cons, tlook_cons] at r2
    by_cases e1 : i = d
    · subst e1
      simp only [updP, if_true, o1, Option.some.injEq] at r1
      exact .inl ⟨rfl, r1.symm⟩
    · rw [if_neg e1] at r2
      simp only [updP, if_neg e1] at r1
      by_cases e2 : i = id
      · rw [if_pos e2] at r2; obtain rfl := Option.some.inj r2; simp [TO.live] at r3
      · rw [if_neg e2] at r2; exact .inr ⟨e1, e2, r1, o', r2, r3⟩
  have E : Evo w (Gz F w π (tlook s.ob)) π (tlook s.ob) (w.setRow g (spl cur ((π id).q + l.length * ie.size) ds)) (Gz F (w.setRow g (spl cur ((π id).q + l.length * ie.size) ds)) (updP π d (π id)) (tlook ((d, .row t (l ++ m)) :: (id, .dead) :: s.ob))) (updP π d (π id)) (tlook ((d, .row t (l ++ m)) :: (id, .dead) :: s.ob)) := by
    refine ⟨fun b ⟨r0, r1, r2⟩ => ⟨⟨r0, by rw [hsize]; exact r1, fun i hi => ?_⟩, hoth b fun e => r2 id (e ▸ hown)⟩, fun i o ho => ?_⟩
    · rcases own i b hi with ⟨_, rfl⟩ | ⟨_, _, h⟩
      · exact r2 id hown
      · exact r2 i h
    · have e1 : i ≠ d := fun e => by subst e; rw [hd] at ho; cases ho
      by_cases e2 : i = id
      · exact ⟨.dead, by rw [tlook_cons, if_neg e1, tlook_cons, if_pos e2], by simp [Step]⟩
      · exact ⟨o, by rw [tlook_cons, if_neg e1, tlook_cons, if_neg e2]; exact ho, by simp only [updP, if_neg e1]; exact Step.refl o⟩
  have hbar := hm.new id g hown
  refine ⟨_, _, by rw [hv']; exact hrun, ?_, by simp [updP, Pl.hdr, o1]⟩
  refine hm.go (hm.kept.on ⟨rfl, rfl, rfl⟩ (by rw [hsize]; exact Nat.le_refl _) fun b hb => hoth b fun e => hbar.1 (e ▸ hb)) E (fun i o ho => ?_) (fun i j b hi hj => ?_) (fun i b hi => ?_)
  · by_cases e1 : i = d
    · rw [tlook_cons, if_pos e1] at ho
      obtain rfl := Option.some.inj ho
      subst e1
      refine .inr ⟨g, _, e', by simp [updP, o1], hheap, by simpa [updP] using hroom, by simpa [updP] using o4, by simp only [updP, if_true]; rw [spl_size _ _ _ hfit]; exact o5, fun j hj cc hcc => ?_⟩
      simp only [updP, if_true]
      rw [spl_get _ _ _ _ hfit, getD_append]
      by_cases hjl : j < l.length
      · have : j * t.size + t.size ≤ l.length * t.size := by have := Nat.mul_le_mul_right t.size (show j + 1 ≤ l.length by omega); rw [Nat.add_mul] at this; omega
        rw [if_pos hjl, if_neg (by rw [hsz]; omega)]
        obtain ⟨u, r1, r2, r3⟩ := o6 j hjl cc hcc
        exact ⟨u, r1, r2, DT.cell_mono E.fz r3⟩
      · rw [List.length_append] at hj
        have hle : l.length * t.size ≤ j * t.size := Nat.mul_le_mul_right _ (by omega)
        have hlt : (j - l.length) * t.size + cc < m.length * t.size := idx_lt (by omega) hcc
        have hsub : (j - l.length) * t.size = j * t.size - l.length * t.size := Nat.sub_mul _ _ _
        rw [if_neg hjl, if_pos (by rw [hsz, h2.len]; omega)]
        obtain ⟨u, r1, r2, r3⟩ := h2.el (j - l.length) (by omega) cc hcc
        exact ⟨u, by rw [← r1, hsz]; congr 1; omega, r2, DT.cell_mono E.fz r3⟩
    · rw [tlook_cons, if_neg e1, tlook_cons] at ho
      by_cases e2 : i = id
      · rw [if_pos e2] at ho; obtain rfl := Option.some.inj ho; trivial
      · rw [if_neg e2] at ho
        exact (hm.obj i o ho).evo E (by simp only [updP, if_neg e1]) fun b hb hl => hoth b fun e => e2 (hm.inj i id g ⟨e ▸ hb, o, ho, hl⟩ hown)
  · rcases own i b hi with ⟨r1, r2⟩ | ⟨r1, r2, r3⟩ <;> rcases own j b hj with ⟨r4, r5⟩ | ⟨r4, r5, r6⟩
    · exact r1.trans r4.symm
    · exact absurd (hm.inj j id g (r2 ▸ r6) hown) r5
    · exact absurd (hm.inj i id g (r5 ▸ r3) hown) r2
    · exact hm.inj i j b r3 r6
  · rw [hsize]
    rcases own i b hi with ⟨_, rfl⟩ | ⟨_, _, r3⟩
    · exact hbar
    · exact hm.new i b r3

/-- An append of which both ways are told. -/
def twin (E : Env) (o : Oper) (s : TS) : Option (TS × TS × Bool) :=
  match o.dst with
  | none => none
  | some d => match E.tw d with
    | none => none
    | some k => match o.op with
      | .call c => match c.callee, c.args.toList, c.argTypes.toList with
        | .builtin .append, [x, y], [T, T'] => match s.ev x, s.sl.getD k .any, tlook s.ob d with
          | .row id, .vrow id' a0 n, none => match tlook s.ob id, (s.ev y).data (tlook s.ob) with
            | some (.row t l), some ⟨t', m⟩ => if h : t' = t then (if id' = id ∧ T' = T ∧ k ≠ d ∧ (E.TI T).kd = 2 ∧ (E.TI T).elem = t.size then
                some (⟨(s.sl.set k (.vrow d a0 n)).set d (.row d), (d, .row t (l ++ h ▸ m)) :: (id, .dead) :: s.ob⟩,
                  ⟨(s.sl.set k (.dv (.sl t) ((l.take n).drop a0))).set d (.row d), (d, .row t (l ++ h ▸ m)) :: (id, .frz t l) :: s.ob⟩, small (l.length + m.length) (E.TI T).eb) else none) else none
            | _, _ => none
          | _, _, _ => none
        | _, _, _ => none
      | .move x => match s.ev x with
        | .row id => match tlook s.ob id with
          | some (.row t l) => some (⟨s.sl.set d (.vrow id 0 l.length), s.ob⟩, ⟨s.sl.set d (.vrow id 0 l.length), s.ob⟩, true)
          | _ => none
        | _ => none
      | _ => none

theorem twin_ok {E : Env} (hT : TOK P E.TI) {o : Oper} {s1 s2 : TS} {b : Bool} (h : twin E o s = some (s1, s2, b)) (hb : b = true) : OpW P c F o (fun s' => s' = s1 ∨ s' = s2) s := by
  intro nn a w next Q ⟨π, hm⟩ hn
  obtain ⟨dst, op, ty, pos, after, gd⟩ := o
  unfold twin at h
  simp only at h
  split at h
  · cases h
  rename_i d
  split at h
  · cases h
  rename_i k hk
  cases op with
  | call cl =>
    obtain ⟨callee, args, ats⟩ := cl
    simp only at h
    split at h
    · rename_i x y T T' hxs hts
      split at h
      · rename_i id id' a0 n hx hsk hd
        split at h
        · rename_i t l t' m hid hy
          split at h
          · rename_i e2
            subst e2
            split at h
            · rename_i hc
              obtain ⟨rfl, rfl, hkd, hk2, hel⟩ := hc
              simp only [Option.some.injEq, Prod.mk.injEq] at h
              obtain ⟨rfl, rfl, rfl⟩ := h
              have ha : args = #[x, y] := by apply Array.ext'; simpa using hxs
              have ht : ats = #[T', T'] := by apply Array.ext'; simpa using hts
              subst ha; subst ht
              have hvx := hm.ev x
              have hvy := hm.ev y
              rw [hx] at hvx
              have hexec : ∀ {v : Value} {w' : World}, (Builtin.append_ #[T', T'] ty #[a.eval x, a.eval y]).run P w = .ok v w' → (execOp a.eval ⟨some d, .call { callee := .builtin .append, args := #[x, y], argTypes := #[T', T'] }, ty, pos, after, gd⟩).run P w = .ok (.value v) w' := fun h =>
                exec_value (e := Builtin.append_ #[T', T'] ty #[a.eval x, a.eval y]) (by rw [BigFrame.execOp_builtin, BigFrame.builtin_append]; simp) h
              have hsk' := hm.slotD k
              rw [hsk] at hsk'
              have hne : d ≠ id' := fun e => by subst e; rw [hd] at hid; cases hid
              have goal : ∀ {v : Value} {w' : World} {s' : TS}, (Builtin.append_ #[T', T'] ty #[a.eval x, a.eval y]).run P w = .ok v w' → (s' = _ ∨ s' = _) → Rel c F s' (a.put (some d) v) w' → Oper.wpIn c.fen nn P _ a w next Q := fun hr hk hR => wpIn_value (hexec hr) (hn _ _ _ hk hR)
              have put : ∀ {π' : Nat → Pl} {sl : List TV} {ob : List (Nat × TO)} {w' : World} {v : Value}, RelM c F π' ⟨sl, ob⟩ a w' → tlook ob d = some (.row t' (l ++ m)) → v = (π' d).hdr (l ++ m).length → Rel c F ⟨sl.set d (.row d), ob⟩ (a.put (some d) v) w' := fun {π' sl ob w' v} h1 h2 h3 =>
                ⟨π', h1.put (some d) (x := .row d) (v := v) (by show VR _ _ _ (tlook ob) (.row d) v; simp only [VR, h2]; exact h3)⟩
              by_cases hroom : ∃ g, (π id').g = some g ∧ l.length + m.length ≤ (π id').cap
              · obtain ⟨g, o1, hr⟩ := hroom
                obtain ⟨v', w', g1, g2, g3⟩ := app_room (P := P) (ty := ty) hT hk2 hel hm hd hid hvx hy hvy o1 hr
                refine goal g1 (.inl rfl) (put (π' := updP π d (π id')) (RelM.reslot g2 (i := k) ?_) (by rw [tlook_cons, if_pos rfl]) g3)
                show VR _ _ _ (tlook ((d, .row t' (l ++ m)) :: (id', .dead) :: s.ob)) (.vrow d a0 n) _
                simp only [VR, hid] at hsk'
                simp only [VR, tlook_cons, if_true]
                obtain ⟨q1, q2, p, cp, q3, q4, q5, q6, q7⟩ := hsk'
                refine ⟨q1, by simp; omega, p, cp, q3, q4, q5, q6, fun hlt => ?_⟩
                simp only [updP, if_true]
                exact q7 hlt
              · have hcut := cutAt_ok hm k
                have ecut : cutAt k s = ⟨s.sl.set k (.dv (.sl t') ((l.take n).drop a0)), (id', .frz t' l) :: s.ob⟩ := by
                  unfold cutAt; rw [hsk]; simp only [hid]
                rw [ecut] at hcut
                have hd' : tlook ((id', .frz t' l) :: s.ob) d = none := by rw [tlook_cons, if_neg hne]; exact hd
                have hz : FzTo w (Gz F w π (tlook s.ob)) w (Gz F w π (tlook ((id', .frz t' l) :: s.ob))) := fun b ⟨r0, r1, r2⟩ => ⟨⟨r0, r1, fun i ⟨r3, o', r4, r5⟩ => by
                  rw [tlook_cons] at r4
                  by_cases e : i = id'
                  · rw [if_pos e] at r4; obtain rfl := Option.some.inj r4; cases r5
                  · rw [if_neg e] at r4; exact r2 i ⟨r3, o', r4, r5⟩⟩, rfl⟩
                obtain ⟨cs, q, cap, h1, e1, f1⟩ := src_ok (P := P) (t := t') (l := l) hm (x := .row id') (by simp only [TV.data, hid]) hvx
                obtain ⟨ds, p, c0, h2, e2, f2⟩ := src_ok (P := P) hm hy hvy
                by_cases hcap : cap < l.length + m.length
                · rw [e1, e2] at goal
                  rw [e1] at f1
                  rw [e2] at f2
                  obtain ⟨⟨v', w', π', g1, g2, g3⟩⟩ := app_grow (P := P) (ty := ty) hT hk2 hel hb hcut hd' (h1.mono hz) (h2.mono hz) (f1 w.drew fun _ _ _ => rfl) (f2 w.drew fun _ _ _ => rfl) hcap
                  exact goal g1 (.inr rfl) (put (π' := π') g2 (by rw [tlook_cons, if_pos rfl]) g3)
                · -- a nil slice, and nothing to append
                  have hor := hm.obj id' _ hid
                  simp only [OR] at hor
                  simp only [VR, hid] at hvx
                  rcases hor with ⟨o1, o2⟩ | ⟨g, cur, e', o1, o2, o3, o4, o5, o6⟩
                  · subst o2
                    have hv' : a.eval x = .slice none 0 0 := by rw [hvx, Pl.hdr, o1]
                    rw [hv'] at e1
                    simp only [Value.slice.injEq] at e1
                    obtain ⟨_, _, rfl⟩ := e1
                    have hm0 : m = [] := by simpa using hcap
                    subst hm0
                    obtain ⟨e, ie, b1, b2, b3, b4, b5, b6, b7, b8⟩ := (hT T').sl hk2
                    have hsz : ie.size = t'.size := b3.trans hel
                    have f2' := f2 w fun _ _ _ => rfl
                    rw [← hsz] at f2'
                    have hds : ds = [] := List.eq_nil_of_length_eq_zero (by rw [h2.len]; simp)
                    subst hds
                    refine goal (v := .slice none 0 0) (w' := w) ?_ (.inr rfl) (put (π' := updP π d ⟨none, 0, 0⟩) (hcut.newNil t' hd') (by rw [tlook_cons, if_pos rfl]) (by simp [updP, Pl.hdr]))
                    rw [hv', e2]
                    rw [e2] at f2'
                    simp only [List.length_nil] at f2'
                    simp [Builtin.append_, run_underlying b1, sizeOf, typeInfo, b2, Builtin.lenOf, f2']
                  · exfalso
                    have hv' : a.eval x = .slice (some ⟨g, (π id').q, none⟩) l.length (π id').cap := by rw [hvx, Pl.hdr, o1]
                    rw [hv'] at e1
                    simp only [Value.slice.injEq] at e1
                    exact hroom ⟨g, o1, by omega⟩
            · cases h
          · cases h
        · cases h
      · cases h
    · cases h
  | move x =>
    simp only at h
    split at h
    · rename_i id hx
      split at h
      · rename_i t l hid
        simp only [Option.some.injEq, Prod.mk.injEq] at h
        obtain ⟨rfl, rfl, rfl⟩ := h
        have hvx := hm.ev x
        rw [hx] at hvx
        have hex := exec_value (P := P) (a := a) (o := ⟨some d, .move x, ty, pos, after, gd⟩) (e := (pure (a.eval x) : Sem Value)) (v := a.eval x) (w := w) (w' := w) (by simp [execOp]) rfl
        refine wpIn_value hex ?_
        refine hn _ _ _ (.inl rfl) ⟨π, hm.put (some d) (x := .vrow id 0 l.length) (v := a.eval x) ?_⟩
        simp only [VR, hid] at hvx ⊢
        have hor := hm.obj id _ hid
        simp only [OR] at hor
        rcases hor with ⟨o1, o2⟩ | ⟨g, cur, e', o1, o2, o3, o4, o5, o6⟩
        · subst o2
          rw [hvx, Pl.hdr, o1]
          exact ⟨Nat.le_refl _, Nat.le_refl _, none, 0, rfl, Nat.le_refl _, by simp [maxLen], fun _ => rfl, fun h => by simp at h⟩
        · rw [hvx, Pl.hdr, o1]
          exact ⟨Nat.zero_le _, Nat.le_refl _, some ⟨g, (π id).q, none⟩, (π id).cap, rfl, by omega, o4, (fun h => by cases h), fun _ => ⟨g, rfl, by simp⟩⟩
      · cases h
    · cases h
  | _ => cases h

end
end Go.Proofs.YtbjfbbfglkmadaaDoor
