/-
  Lifting Go functions to plain Lean functions, part O: calls are sound; operations are.
-/
import Derived.Test.YtbjfbbfglkmadaaDoorQN
namespace Go.Proofs.YtbjfbbfglkmadaaDoor
open Go.RowKit
set_option linter.unusedVariables false

theorem TV.within_ids {R : Nat → Prop} : ∀ {x : TV}, (∀ i ∈ x.ids, R i) → x.within R := by
  intro x
  induction x with
  | row id => intro h; exact h id (by simp [TV.ids])
  | vrow id a b => intro h; exact h id (by simp [TV.ids])
  | ptr id i p => intro h; exact h id (by simp [TV.ids])
  | view id i p k a b => intro h; exact h id (by simp [TV.ids])
  | fn g k n f ih => intro h j hj; exact ih j fun i hi => h i (by simp only [TV.ids, List.mem_flatMap, List.mem_range]; exact ⟨j, hj, hi⟩)
  | tup n f ih => intro h j hj; exact ih j fun i hi => h i (by simp only [TV.ids, List.mem_flatMap, List.mem_range]; exact ⟨j, hj, hi⟩)
  | st n f ih => intro h j hj; exact ih j fun i hi => h i (by simp only [TV.ids, List.mem_flatMap, List.mem_range]; exact ⟨j, hj, hi⟩)
  | _ => intro _; trivial

theorem TO.within_ids {R : Nat → Prop} {o : TO} (h : ∀ i ∈ o.ids, R i) : o.within R := by
  cases o with
  | rcd fs => exact fun j x hx => TV.within_ids fun i hi => h i (by simp only [TO.ids, List.mem_flatMap]; exact ⟨x, List.mem_of_getElem? hx, hi⟩)
  | _ => trivial

theorem TV.sc_of : ∀ {x : TV}, x.scB = true → x.sc := by
  intro x
  induction x with
  | dv t y => intro h; exact h
  | el t y p => intro h; simp [TV.scB] at h
  | fn g k n f ih => intro h j hj; simp only [TV.scB, List.all_eq_true, List.mem_range] at h; exact ih j (h j hj)
  | tup n f ih => intro h j hj; simp only [TV.scB, List.all_eq_true, List.mem_range] at h; exact ih j (h j hj)
  | st n f ih => intro h j hj; simp only [TV.scB, List.all_eq_true, List.mem_range] at h; exact ih j (h j hj)
  | _ => intro _; trivial

theorem TO.sc_of {o : TO} (h : o.scB = true) : o.sc := by
  cases o with
  | row t l => exact h
  | rcd fs => intro j x hx; simp only [TO.scB, List.all_eq_true] at h; exact TV.sc_of (h x (List.mem_of_getElem? hx))
  | map kt vt l => simpa [TO.scB, TO.sc] using h
  | frz t l => simp [TO.scB] at h
  | iter kt vt l cur => simp [TO.scB] at h
  | dead => trivial

theorem idx_get : ∀ {R : List Nat} {i : Nat}, i ∈ R → idx R i < R.length ∧ R.getD (idx R i) 0 = i
  | [], i, h => by simp at h
  | x :: r, i, h => by
    simp only [idx]
    by_cases e : i = x
    · rw [if_pos e]; exact ⟨by simp, by simp [e]⟩
    · rw [if_neg e]
      obtain ⟨a, b⟩ := idx_get (R := r) (by simpa [e] using h)
      exact ⟨by simp; omega, by simpa using b⟩

theorem rho_tau {R : List Nat} {d i : Nat} (h : i ∈ R) : rhoR R d (tauR R i) = i := by
  obtain ⟨a, b⟩ := idx_get h
  unfold rhoR tauR
  rw [if_pos (by omega), show 9000 + idx R i - 9000 = idx R i by omega]
  exact b

theorem tau_inj {R : List Nat} {i j : Nat} (hi : i ∈ R) (hj : j ∈ R) (h : tauR R i = tauR R j) : i = j := by
  have := rho_tau (d := 0) hi
  rw [h, rho_tau hj] at this
  exact this.symm

theorem tlook_mapR (R : List Nat) (f : Nat → TO) : ∀ (L : List Nat), (∀ i ∈ L, i ∈ R) → ∀ i ∈ L, tlook (L.map fun i => (tauR R i, f i)) (tauR R i) = some (f i)
  | [], _, i, h => by simp at h
  | x :: r, hL, i, h => by
    simp only [List.map_cons, tlook]
    by_cases e : i = x
    · subst e; rw [if_pos rfl]
    · rw [if_neg fun e2 => e (tau_inj (hL i h) (hL x (by simp)) e2)]
      exact tlook_mapR R f r (fun j hj => hL j (by simp [hj])) i (by simpa [e] using h)

theorem tlook_mapR' (R : List Nat) (f : Nat → TO) : ∀ (L : List Nat) (j : Nat) (o : TO), tlook (L.map fun i => (tauR R i, f i)) j = some o → ∃ i ∈ L, tauR R i = j
  | [], j, o, h => by cases h
  | x :: r, j, o, h => by
    simp only [List.map_cons, tlook] at h
    by_cases e : j = tauR R x
    · exact ⟨x, by simp, e.symm⟩
    · rw [if_neg e] at h
      obtain ⟨i, a, b⟩ := tlook_mapR' R f r j o h
      exact ⟨i, by simp [a], b⟩

theorem tlook_mem : ∀ {O : List (Nat × TO)} {j : Nat} {o : TO}, tlook O j = some o → (j, o) ∈ O
  | [], j, o, h => by cases h
  | (i, o') :: r, j, o, h => by
    simp only [tlook] at h
    split at h
    · rename_i e; subst e; obtain rfl := Option.some.inj h; simp
    · simp [tlook_mem h]

theorem nodupB_inj : ∀ {O : List (Nat × TO)} {f : Nat → Nat}, nodupB (O.map fun p => f p.1) = true → ∀ j j' o o', tlook O j = some o → tlook O j' = some o' → f j = f j' → j = j'
  | [], f, _, j, j', o, o', h, _, _ => by cases h
  | (i, x) :: r, f, h, j, j', o, o', h1, h2, h3 => by
    simp only [List.map_cons, nodupB, Bool.and_eq_true, Bool.not_eq_true'] at h
    have hmem : ∀ k y, tlook r k = some y → f k ≠ f i := fun k y hk e => by
      have h0 : (r.map fun p => f p.1).contains (f i) = true := by
        rw [List.contains_iff_mem]
        exact List.mem_map.2 ⟨(k, y), tlook_mem hk, e⟩
      rw [h0] at h; simp at h
    simp only [tlook] at h1 h2
    split at h1 <;> split at h2
    · rename_i e1 e2; exact e1.trans e2.symm
    · rename_i e1 e2; subst e1; exact absurd h3.symm (hmem j' o' h2)
    · rename_i e1 e2; subst e2; exact absurd h3 (hmem j o h1)
    · exact nodupB_inj h.2 j j' o o' h1 h2 h3

section
variable {P : Program} {E : Env} {c : Cx} {F : Nat → Prop} {s : TS} {π : Nat → Pl} {a : Act} {w : World}

theorem Lent.fz {O : Obs} {B : Nat → Prop} : FzTo w (Gz F w π O) w (Lent F w π O B) := fun b hb => ⟨.inl hb, rfl⟩

/-- A value that is lent. -/
theorem lend_ok (hm : RelM c F π s a w) {x : TV} {t : DT} {y : t.den} {b : Bool} (h : lendAs (tlook s.ob) x t = some (y, b)) (hb : b = true) (hp : t.plain = true) {v : Value} (hv : VR w (Gz F w π (tlook s.ob)) π (tlook s.ob) x v) {B : Nat → Prop} (hB : ∀ i ∈ x.ids, (∃ o, tlook s.ob i = some o ∧ o.live = true) → B i) :
    t.val y w (Lent F w π (tlook s.ob) B) v := by
  have hz : FzTo w (Gz F w π (tlook s.ob)) w (Lent F w π (tlook s.ob) B) := Lent.fz
  have plain : x.as (tlook s.ob) t = some (y, b) → t.val y w (Lent F w π (tlook s.ob) B) v := fun h => DT.val_mono hz (TV.as_ok h hb hp hv)
  cases t with
  | sl u =>
    simp only [lendAs] at h
    split at h
    · rename_i v' l b' hl
      split at h
      · rename_i e
        subst e
        simp only [Option.some.injEq, Prod.mk.injEq] at h
        obtain ⟨rfl, rfl⟩ := h
        refine (DT.val_one rfl).2 ?_
        have ofF : x.fdata (tlook s.ob) = some ⟨v', l⟩ → (DT.sl v').cell l 0 w (Lent F w π (tlook s.ob) B) v := fun hf => DT.cell_mono hz (TV.fdata_ok hf hv)
        cases x with
        | dv t0 y0 => exact ofF (by
            simp only [TV.lend] at hl
            obtain ⟨q, hq, he⟩ := Option.map_eq_some_iff.1 hl
            simp only [Prod.mk.injEq] at he
            obtain ⟨rfl, _⟩ := he
            cases t0 <;> exact hq)
        | row id =>
          simp only [TV.lend, TV.data] at hl
          simp only [VR] at hv
          cases ho : tlook s.ob id with
          | none => rw [ho] at hv; exact hv.elim
          | some o =>
            rw [ho] at hv hl
            cases o with
            | row t' l' =>
              simp only [Option.map_some, Option.some.injEq, Prod.mk.injEq, Sigma.mk.injEq] at hl
              obtain ⟨⟨rfl, hl⟩, _⟩ := hl; obtain rfl := eq_of_heq hl
              simp only at hv
              rw [hv]
              exact (hm.obj id _ ho).row_slice hz fun g hg => .inr ⟨id, hB id (by simp [TV.ids]) ⟨_, ho, rfl⟩, hg, _, ho, rfl⟩
            | frz t' l' => exact ofF (by
                simp only [Option.map_some, Option.some.injEq, Prod.mk.injEq] at hl
                simp only [TV.fdata, ho]; exact congrArg some hl.1)
            | _ => cases hl
        | vrow id i j =>
          simp only [TV.lend, TV.data] at hl
          simp only [VR] at hv
          cases ho : tlook s.ob id with
          | none => rw [ho] at hv; exact hv.elim
          | some o =>
            rw [ho] at hv hl
            cases o with
            | row t' l' =>
              simp only [Option.map_some, Option.some.injEq, Prod.mk.injEq, Sigma.mk.injEq] at hl
              obtain ⟨⟨rfl, hl⟩, _⟩ := hl; obtain rfl := eq_of_heq hl
              obtain ⟨h1, h2, p, cp, h3, h4, h5, h6, h7⟩ := hv
              have hlen : ((l'.take j).drop i).length = j - i := by simp; omega
              refine ⟨p, cp, by rw [h3, hlen], by rw [hlen]; exact h4, h5, h6, trivial, fun hn => ?_⟩
              rw [hlen] at hn ⊢
              obtain ⟨g, q1, q2⟩ := h7 (by omega)
              rcases hm.obj id _ ho with ⟨r1, r2⟩ | ⟨g', cur, e, r1, r2, r3, r4, r5, r6⟩
              · subst r2; simp at h2; omega
              · rw [q1] at r1; obtain rfl := Option.some.inj r1
                refine ⟨g, _, q2, .inr ⟨id, hB id (by simp [TV.ids]) ⟨_, ho, rfl⟩, q1, _, ho, rfl⟩, fun k hk cc hcc => ?_⟩
                obtain ⟨u, b1, b2, b3⟩ := r6 (i + k) (by omega) cc hcc
                refine ⟨u, by rw [cell_at r2, ← b1, Nat.add_mul]; congr 1; omega, b2, ?_⟩
                show DT.cell _ (((l'.take j).drop i).getD k _) cc w _ u
                rw [getD_slice _ _ _ _ _ h2 hk]
                exact DT.cell_mono hz b3
            | frz t' l' => exact ofF (by
                simp only [Option.map_some, Option.some.injEq, Prod.mk.injEq] at hl
                simp only [TV.fdata, ho]; exact congrArg some hl.1)
            | _ => cases hl
        | view id i p k n0 i1 j1 =>
          simp only [TV.lend] at hl
          cases ho : tlook s.ob id with
          | none => rw [ho] at hl; cases hl
          | some o =>
            rw [ho] at hl
            simp only at hl
            split at hl
            · rename_i m u y0 hpart
              split at hl
              · rename_i hk
                simp only [Bool.and_eq_true, beq_iff_eq] at hk
                obtain ⟨⟨rfl, hlv⟩, rfl⟩ := hk
                simp only [Option.some.injEq, Prod.mk.injEq, Sigma.mk.injEq] at hl
                obtain ⟨⟨rfl, hl⟩, rfl⟩ := hl; obtain rfl := eq_of_heq hl
                have hbl := of_decide_eq_true hb
                simp only [VR, ho] at hv
                obtain ⟨c0, g, pp, q1, q2, q3, q4, q5, q6, q7, q8⟩ := hv hlv
                have hptr : VR w (Gz F w π (tlook s.ob)) π (tlook s.ob) (.ptr id i p) (.pointer (some ⟨g, (π id).q + c0, none⟩)) := by
                  simp only [VR, ho]; exact fun _ => ⟨c0, g, q1, q2, q3, rfl⟩
                obtain ⟨g', k0, r1, r2, r3, r4, r5⟩ := hm.part ho hptr hpart
                rw [q3] at r3; obtain rfl := Option.some.inj r3
                rw [q1] at r1; obtain rfl := Option.some.inj r1
                have hlen : ((y0.take j1).drop i1).length = j1 - i1 := by simp; omega
                refine ⟨some pp, n0 - i1, by rw [q7, hlen], by rw [hlen]; omega, by omega, (fun h => by cases h), trivial, fun hn => ?_⟩
                rw [hlen] at hn ⊢
                have hpp := q8 (by omega)
                refine ⟨g, _, by rw [hpp], .inr ⟨id, hB id (by simp [TV.ids]) ⟨_, ho, hlv⟩, q3, _, ho, hlv⟩, fun k hk cc hcc => ?_⟩
                have hin : i1 + k < n0 := by omega
                obtain ⟨z, b1, b2, b3⟩ := r5 ((i1 + k) * u.size + cc) (idx_lt hin hcc)
                refine ⟨z, by rw [← b1, Nat.add_mul]; congr 2; omega, b2, ?_⟩
                show DT.cell _ (((y0.take j1).drop i1).getD k _) cc w _ z
                rw [getD_slice _ _ _ _ _ hbl hk]
                have hpos : 0 < u.size := by omega
                have e1 : ((i1 + k) * u.size + cc) / u.size = i1 + k := by rw [Nat.mul_comm, Nat.mul_add_div hpos, Nat.div_eq_of_lt hcc]; omega
                have e2 : ((i1 + k) * u.size + cc) % u.size = cc := by rw [Nat.mul_comm, Nat.mul_add_mod, Nat.mod_eq_of_lt hcc]
                simp only [DT.cell, e1, e2] at b3
                exact DT.cell_mono hz b3
              · cases hl
            · cases hl
        | _ => simp [TV.lend, TV.data] at hl
      · cases h
    · exact plain h
  | _ => exact plain h

theorem cvt_ok (hm : RelM c F π s a w) {R : List Nat} {B : Nat → Prop} : ∀ {mds : List Md} {xs as : List TV} {b : Bool} {vs : List Value}, cvt (tlook s.ob) mds xs = some (as, b) → b = true → (∀ i ∈ objIds mds xs, i ∈ R) → (∀ i ∈ lentIds (tlook s.ob) mds xs, B i) → vs.length = xs.length →
    (∀ (i : Nat) (x : TV) (v : Value), xs[i]? = some x → vs[i]? = some v → VR w (Gz F w π (tlook s.ob)) π (tlook s.ob) x v) →
    as.length = xs.length ∧ ∀ (i : Nat) (y : TV) (v : Value), as[i]? = some y → vs[i]? = some v → y.within (· ∈ R) ∧ VR w (Lent F w π (tlook s.ob) B) π (tlook s.ob) y v
  | [], [], as, b, vs, h, hb, _, _, hl, hv => by
    simp only [cvt, Option.some.injEq, Prod.mk.injEq] at h
    obtain ⟨rfl, _⟩ := h
    exact ⟨rfl, fun i y v hy => by simp at hy⟩
  | [], x :: xs, as, b, vs, h, _, _, _, _, _ => by simp [cvt] at h
  | m :: ms, [], as, b, vs, h, _, _, _, _, _ => by simp [cvt] at h
  | m :: ms, x :: xs, as, b, [], h, _, _, _, hl, _ => by simp at hl
  | m :: ms, x :: xs, as, b, v0 :: vs, h, hb, hO, hL, hl, hv => by
    simp only [cvt] at h
    split at h
    · rename_i l b1 hc
      have hv0 := hv 0 x v0 rfl rfl
      have hz : FzTo w (Gz F w π (tlook s.ob)) w (Lent F w π (tlook s.ob) B) := Lent.fz
      have rec' : b1 = true → l.length = xs.length ∧ ∀ (i : Nat) (y : TV) (v : Value), l[i]? = some y → vs[i]? = some v → y.within (· ∈ R) ∧ VR w (Lent F w π (tlook s.ob) B) π (tlook s.ob) y v := fun hb1 =>
        cvt_ok hm hc hb1 (fun i hi => hO i (by cases m <;> simp [objIds, hi])) (fun i hi => hL i (by cases m <;> simp only [lentIds] <;> first | exact hi | exact List.mem_append_right _ hi)) (by simpa using hl) fun i x v h1 h2 => hv (i + 1) x v (by simpa using h1) (by simpa using h2)
      have fin : ∀ {y0 : TV}, y0.within (· ∈ R) → VR w (Lent F w π (tlook s.ob) B) π (tlook s.ob) y0 v0 → b1 = true → (y0 :: l).length = (x :: xs).length ∧ ∀ (i : Nat) (y : TV) (v : Value), (y0 :: l)[i]? = some y → (v0 :: vs)[i]? = some v → y.within (· ∈ R) ∧ VR w (Lent F w π (tlook s.ob) B) π (tlook s.ob) y v := fun {y0} h1 h2 hb1 => by
        obtain ⟨r1, r2⟩ := rec' hb1
        refine ⟨by simp [r1], fun i y v hy hv => ?_⟩
        cases i with
        | zero => simp at hy hv; subst hy; subst hv; exact ⟨h1, h2⟩
        | succ i => simp at hy hv; exact r2 i y v hy hv
      cases m with
      | obj =>
        simp only [Option.some.injEq, Prod.mk.injEq] at h
        obtain ⟨rfl, rfl⟩ := h
        refine fin (TV.within_ids fun i hi => hO i (by simp [objIds, hi])) ?_ hb
        exact VR.evo ⟨hz, fun id o ho => ⟨o, ho, Step.refl o⟩⟩ hv0
      | lend t =>
        simp only at h
        split at h
        · rename_i y b2 hy
          split at h
          · rename_i hp
            simp only [Option.some.injEq, Prod.mk.injEq] at h
            obtain ⟨rfl, rfl⟩ := h
            simp only [Bool.and_eq_true] at hb
            refine fin trivial ?_ hb.2
            exact lend_ok hm hy hb.1 hp hv0 fun i hi ⟨o, ho, hlv⟩ => hL i (by simp only [lentIds, List.mem_append, List.mem_filter]; exact .inl ⟨hi, by rw [ho]; exact hlv⟩)
          · cases h
        · cases h
      | own t =>
        simp only at h
        split at h
        · rename_i y b2 hy
          split at h
          · rename_i hp
            simp only [Option.some.injEq, Prod.mk.injEq] at h
            obtain ⟨rfl, rfl⟩ := h
            simp only [Bool.and_eq_true] at hb
            exact fin trivial (DT.val_mono hz (TV.as_ok hy hb.1 hp hv0)) hb.2
          · cases h
        · cases h
    · cases h

theorem cvt_len {L : Obs} : ∀ {mds : List Md} {xs as : List TV} {b : Bool}, cvt L mds xs = some (as, b) → as.length = xs.length
  | [], [], as, b, h => by
    simp only [cvt, Option.some.injEq, Prod.mk.injEq] at h
    obtain ⟨rfl, _⟩ := h; rfl
  | [], x :: xs, as, b, h => by simp [cvt] at h
  | m :: ms, [], as, b, h => by simp [cvt] at h
  | m :: ms, x :: xs, as, b, h => by
    simp only [cvt] at h
    split at h
    · rename_i l b1 hc
      have := cvt_len hc
      cases m with
      | obj => simp only [Option.some.injEq, Prod.mk.injEq] at h; obtain ⟨rfl, _⟩ := h; simp [this]
      | lend t =>
        simp only at h
        split at h
        · split at h
          · simp only [Option.some.injEq, Prod.mk.injEq] at h; obtain ⟨rfl, _⟩ := h; simp [this]
          · cases h
        · cases h
      | own t =>
        simp only at h
        split at h
        · split at h
          · simp only [Option.some.injEq, Prod.mk.injEq] at h; obtain ⟨rfl, _⟩ := h; simp [this]
          · cases h
        · cases h
    · cases h

theorem idx_nodup : ∀ {R : List Nat} {p : Nat}, nodupB R = true → p < R.length → idx R (R.getD p 0) = p
  | [], p, _, h => by simp at h
  | x :: r, 0, _, _ => by simp [idx]
  | x :: r, p + 1, h, hp => by
    simp only [nodupB, Bool.and_eq_true, Bool.not_eq_true'] at h
    have hp' : p < r.length := by simpa using hp
    have e : (x :: r).getD (p + 1) 0 = r.getD p 0 := by simp
    rw [e]
    simp only [idx]
    have hne : r.getD p 0 ≠ x := fun e2 => by
      have : r.getD p 0 = r[p] := by simp [hp']
      have hm : r.contains x = true := by rw [List.contains_iff_mem, ← e2, this]; exact List.getElem_mem hp'
      rw [hm] at h; simp at h
    rw [if_neg hne, idx_nodup h.2 hp']

theorem callE_ok (hE : EnvOk P E) {o : Oper} {g : Nat} {xs : List TV} {α : Type} {k : Eff → Option α} {r : α} (h : callE E (o.dst.getD 0) g xs (tlook s.ob) k = some r) (vals : Act → List Value)
    (hxs : ∀ (s' : TS) (π : Nat → Pl) (a : Act) (w : World), s'.sl = s.sl → RelM c F π s' a w → (vals a).length = xs.length ∧ ∀ (i : Nat) (x : TV) (v : Value), xs[i]? = some x → (vals a)[i]? = some v → VR w (Gz F w π (tlook s'.ob)) π (tlook s'.ob) x v)
    (hrun : ∀ (s' : TS) a w, s'.sl = s.sl → Rel c F s' a w → (∀ as w, (callFunc g as).run P w = .ok (.enter g as) w) → (execOp a.eval o).run P w = .ok (.enter g (vals a).toArray) w) :
    ∃ e, k e = some r ∧ (∀ (β : Type) (k' : Eff → Option β), callE E (o.dst.getD 0) g xs (tlook s.ob) k' = k' e) ∧ OpW P c F o (fun s' => s' = s.app o.dst e) s := by
  unfold callE at h ⊢
  cases hs : E.sig g xs with
  | none => rw [hs] at h; cases h
  | some mds =>
    rw [hs] at h
    simp only at h ⊢
    generalize hU : frzU (tlook s.ob) (ownIds mds xs) = U0 at h ⊢
    simp only [← tlook_append] at h ⊢
    cases hc : cvt (tlook (U0 ++ s.ob)) mds xs with
    | none => rw [hc] at h; cases h
    | some q =>
      obtain ⟨as, b⟩ := q
      rw [hc] at h
      simp only at h ⊢
      generalize hR : reachF 60 (tlook (U0 ++ s.ob)) (objIds mds xs) [] = R at h ⊢
      split at h
      · rename_i hcond
        simp only [Bool.and_eq_true, List.all_eq_true] at hcond
        obtain ⟨⟨⟨k1, k2⟩, k3⟩, k4⟩ := hcond
        obtain ⟨hb, h⟩ := chk_some h
        subst hb
        obtain ⟨rv, O', h1, h2, h3⟩ := hE _ _ _ _ _ _ h
        split at h1
        · rename_i hg
          simp only [Bool.and_eq_true, List.all_eq_true] at hg
          obtain ⟨⟨g1, g2⟩, g3⟩ := hg
          refine ⟨_, h1, fun β k' => ?_, ?_⟩
          · rw [if_pos (by simp only [Bool.and_eq_true, List.all_eq_true]; exact ⟨⟨⟨k1, k2⟩, k3⟩, k4⟩)]
            show E.phi _ _ _ _ = _
            rw [h2]
            rw [if_pos (by simp only [Bool.and_eq_true, List.all_eq_true]; exact ⟨⟨g1, g2⟩, g3⟩)]
          · -- the call itself
            let s1 : TS := ⟨s.sl, U0 ++ s.ob⟩
            have hmem : ∀ {i : Nat}, R.contains i = true ↔ i ∈ R := fun {i} => List.contains_iff_mem
            have hkey : ∀ i ∈ R, ∃ o', tlook s1.ob i = some o' ∧ o'.live = true ∧ o'.within (· ∈ R) := fun i hi => by
              have := k1 i hi
              cases ho : tlook (U0 ++ s.ob) i with
              | none => rw [ho] at this; cases this
              | some o' =>
                rw [ho] at this
                simp only [Bool.and_eq_true, TO.withinB, List.all_eq_true] at this
                refine ⟨o', rfl, this.1, ?_⟩
                exact (TO.within_ids fun j hj => hmem.1 (this.2 j hj))
            have hw1 : ∀ a w, Rel c F s a w → Rel c F s1 a w := fun a w ⟨π, hm⟩ => ⟨π, by have := hm.frzU (ownIds mds xs); rw [hU] at this; exact this⟩
            have hW : OpW P c F o (fun s' => s' = ⟨(s1.put o.dst (rv.ren (rhoR R (o.dst.getD 0)))).sl, renO (rhoR R (o.dst.getD 0)) O' ++ s1.ob⟩) s1 := by
              refine OpW.call h3 (rhoR R (o.dst.getD 0)) (tauR R) (· ∈ R) (· ∈ lentIds (tlook (U0 ++ s.ob)) mds xs) vals ?_ ?_ ?_ ?_ ?_ ?_ ?_ ?_ ?_ ?_
              · exact fun a w hr he => hrun s1 a w rfl hr he
              · exact fun a w ⟨π, hm⟩ => by rw [List.length_map, cvt_len hc]; exact (hxs s1 π a w rfl hm).1
              · exact fun i hi => by
                  obtain ⟨o', a1, a2, a3⟩ := hkey i hi
                  refine ⟨o', a1, a2, a3, ?_, rho_tau hi⟩
                  have := tlook_mapR R (fun i => ((tlook (U0 ++ s.ob) i).getD .dead).ren (tauR R)) R (fun _ h => h) i hi
                  rw [this]
                  have a1' : tlook (U0 ++ s.ob) i = some o' := a1
                  rw [a1']; rfl
              · exact fun j o' hj => tlook_mapR' R (fun i => ((tlook (U0 ++ s.ob) i).getD .dead).ren (tauR R)) R j o' hj
              · exact fun i hi hi2 => by
                  have := k3 i hi
                  simp only [Bool.not_eq_true'] at this
                  rw [hmem.2 hi2] at this; cases this
              · intro π a w hm i x v hx hv
                obtain ⟨e1, e2⟩ := hxs s1 π a w rfl hm
                obtain ⟨c1, c2⟩ := cvt_ok (R := R) (B := (· ∈ lentIds (tlook (U0 ++ s.ob)) mds xs)) hm hc rfl (fun i hi => hmem.1 (k2 i hi)) (fun i hi => hi) e1 e2
                simp only [List.getElem?_map, Option.map_eq_some_iff] at hx
                obtain ⟨y, hy, rfl⟩ := hx
                obtain ⟨d1, d2⟩ := c2 i y v hy hv
                exact ⟨y, rfl, d1, d2⟩
              · exact nodupB_inj g1
              · exact fun j o' hj hn => by
                  have := g2 (j, o') (tlook_mem hj)
                  simp only at this
                  split at this
                  · rename_i hin
                    exfalso
                    have hlt : j - 9000 < R.length := by omega
                    have hi : R.getD (j - 9000) 0 ∈ R := by
                      have : R.getD (j - 9000) 0 = R[j - 9000] := by simp [hlt]
                      rw [this]; exact List.getElem_mem hlt
                    have e1 : tauR R (R.getD (j - 9000) 0) = j := by
                      unfold tauR; rw [idx_nodup k4 hlt]; omega
                    have := tlook_mapR R (fun i => ((tlook (U0 ++ s.ob) i).getD .dead).ren (tauR R)) R (fun _ h => h) _ hi
                    rw [e1] at this
                    rw [hn] at this; cases this
                  · simpa using this
              · exact fun j o1 o' hj hj' => by
                  obtain ⟨i, hi, e⟩ := tlook_mapR' R _ R j o1 hj
                  have hlt := (idx_get hi).1
                  have := g2 (j, o') (tlook_mem hj')
                  simp only at this
                  rw [if_pos (by unfold tauR at e; omega)] at this
                  simp only [Bool.or_eq_true] at this
                  rcases this with h | h
                  · exact .inl h
                  · cases o' <;> first | exact .inr rfl | cases h
              · simp only [Bool.or_eq_true] at g3
                rcases g3 with g3 | g3
                · left
                  intro i hi
                  rw [List.isEmpty_iff.1 g3] at hi
                  simp at hi
                · simp only [Bool.and_eq_true, List.all_eq_true] at g3
                  exact .inr ⟨TV.sc_of g3.1, fun j o' hj => TO.sc_of (g3.2 (j, o') (tlook_mem hj))⟩
            intro nn a w next Q hr hn
            refine hW nn a w next Q (hw1 a w hr) fun s' a' w' hs' hr' => hn s' a' w' ?_ hr'
            rw [hs']
            show _ = s.app o.dst _
            simp only [TS.app, List.append_assoc]
            cases o.dst <;> rfl
        · cases h1
      · cases h

theorem run_callv {f : FuncId} (he : ∀ (as : Array Value) (w : World), (callFunc f as).run P w = .ok (.enter f as) w) {o : Oper} {x : Operand} {xs : Array Operand} {ts : Array TypeId} (ho : o.op = .call { callee := .value x, args := xs, argTypes := ts }) (a : Act) (w : World) {fs cs : Array Value} (hx : a.eval x = .func (.func f) fs cs) :
    (execOp a.eval o).run P w = .ok (.enter f (fs.toList ++ xs.toList.map a.eval ++ cs.toList).toArray) w := by
  obtain ⟨dst, op, ty, pos, after, guard⟩ := o
  simp only at ho
  subst ho
  have h1 : execOp a.eval ⟨dst, .call { callee := .value x, args := xs, argTypes := ts }, ty, pos, after, guard⟩ = (do let d ← Deferred.ofValue (a.eval x) (xs.map a.eval); invoke d.target d.args) := rfl
  rw [h1, hx]
  have h2 : (Deferred.ofValue (.func (.func f) fs cs) (xs.map a.eval)) = pure { target := .fn (.func f) cs, args := fs ++ xs.map a.eval } := rfl
  rw [h2]
  simp only [Sem.run_bind, Sem.run_pure, Result.andThen_ok]
  show (callFunc f (fs ++ xs.map a.eval ++ cs)).run P w = _
  rw [he]
  congr 2
  apply Array.ext'
  simp

theorem run_callm (hT : TOK P E.TI) {T : TypeId} {name : String} {g : FuncId} (hm : (E.TI T).mth.lookup name = some g) (he : ∀ (as : Array Value) (w : World), (callFunc g as).run P w = .ok (.enter g as) w) {o : Oper} {x : Operand} {xs : Array Operand} {ts : Array TypeId} (ho : o.op = .call { callee := .invoke x name, args := xs, argTypes := ts }) (a : Act) (w : World) {u : Value} (hx : a.eval x = .iface T u) :
    (execOp a.eval o).run P w = .ok (.enter g (u :: xs.toList.map a.eval).toArray) w := by
  obtain ⟨dst, op, ty, pos, after, guard⟩ := o
  simp only at ho
  subst ho
  have h1 : execOp a.eval ⟨dst, .call { callee := .invoke x name, args := xs, argTypes := ts }, ty, pos, after, guard⟩ = (do let d ← (pure { target := .fn (.method name) #[], args := #[a.eval x] ++ xs.map a.eval } : Sem Deferred); invoke d.target d.args) := rfl
  rw [h1, hx]
  simp only [Sem.run_bind, Sem.run_pure, Result.andThen_ok]
  have h2 : ∀ (A : Array Value), A[0]? = some (Value.iface T u) → invoke (.fn (.method name) #[]) A = callMethod (Value.iface T u) name (A.extract 1 A.size) := fun A hA => by
    simp only [invoke, hA]
  have h4 : (#[Value.iface T u] ++ xs.map a.eval).extract 1 (#[Value.iface T u] ++ xs.map a.eval).size = xs.map a.eval := by
    apply Array.ext'
    simp [List.extract]
    exact List.take_of_length_le (by simp)
  rw [h2 _ (by rw [Array.getElem?_append_left (by simp)]; rfl), h4]
  have h3 : ∃ n, P.types.size + Made.depth = n + 1 := ⟨P.types.size + 99, rfl⟩
  obtain ⟨n, hn⟩ := h3
  simp only [callMethod, Sem.run_bind, run_program, Result.andThen_ok, hn, (hT T).mth name g hm]
  rw [he]
  congr 2
  apply Array.ext'
  simp

theorem eff_ok (hT : TOK P E.TI) (hE : EnvOk P E) {o : Oper} {α : Type} {k : Eff → Option α} {r : α} (h : eff E o s.ev (tlook s.ob) k = some r) :
    ∃ e, k e = some r ∧ (∀ (β : Type) (k' : Eff → Option β), eff E o s.ev (tlook s.ob) k' = k' e) ∧ OpW P c F o (fun s' => s' = s.app o.dst e) s := by
  unfold eff at h ⊢
  cases he : effN E o s.ev (tlook s.ob) with
  | some e =>
    rw [he] at h
    simp only at h ⊢
    obtain ⟨hb, h⟩ := chk_some h
    exact ⟨e, h, fun β k' => by rw [hb]; rfl, EffOk.opW fun π a w hm => effN_ok hT he hb hm⟩
  | none =>
    rw [he] at h
    simp only at h ⊢
    obtain ⟨dst, op, ty, pos, after, guard⟩ := o
    simp only at h ⊢
    cases op with
    | pick q x y =>
      simp only at h ⊢
      cases hq : s.ev q with
      | dv t b =>
        rw [hq] at h
        cases t with
        | bool =>
          simp only at h ⊢
          have fin : ∀ (z : Operand), (∀ π a w, RelM c F π s a w → (execOp a.eval ⟨dst, .pick q x y, ty, pos, after, guard⟩).run P w = .ok (.value (a.eval z)) w) → OpW P c F ⟨dst, .pick q x y, ty, pos, after, guard⟩ (fun s' => s' = s.app dst ⟨s.ev z, [], true⟩) s := fun z hz =>
            EffOk.opW (o := ⟨dst, .pick q x y, ty, pos, after, guard⟩) fun π a w hm => ⟨_, w, π, .inl (hz π a w hm), hm, hm.ev z⟩
          cases b with
          | true =>
            refine ⟨⟨s.ev x, [], true⟩, h, fun β k' => rfl, fin x fun π a w hm => ?_⟩
            have hq' : a.eval q = .bool true := hm.evb hq
            simp [execOp, hq', asBool]
          | false =>
            refine ⟨⟨s.ev y, [], true⟩, h, fun β k' => rfl, fin y fun π a w hm => ?_⟩
            have hq' : a.eval q = .bool false := hm.evb hq
            simp [execOp, hq', asBool]
        | _ => cases h
      | _ => rw [hq] at h; cases h
    | call cl =>
      obtain ⟨callee, args, ats⟩ := cl
      simp only at h ⊢
      cases callee with
      | value x =>
        simp only at h ⊢
        cases hx : s.ev x with
        | fn g k1 n f =>
          rw [hx] at h
          simp only at h ⊢
          let vals : Act → List Value := fun a => match a.eval x with | .func _ fs cs => fs.toList ++ args.toList.map a.eval ++ cs.toList | _ => []
          have hfn : ∀ (s' : TS) (π : Nat → Pl) (a : Act) (w : World), s'.sl = s.sl → RelM c F π s' a w → ∃ fs cs : Array Value, a.eval x = .func (.func g) fs cs ∧ fs.size = k1 ∧ cs.size = n ∧ (∀ j, j < k1 → ∃ u, fs[j]? = some u ∧ VR w (Gz F w π (tlook s'.ob)) π (tlook s'.ob) (f j) u) ∧ ∀ j, j < n → ∃ u, cs[j]? = some u ∧ VR w (Gz F w π (tlook s'.ob)) π (tlook s'.ob) (f (k1 + j)) u := fun s' π a w hsl hm => by
            have e1 : s'.ev x = s.ev x := by cases x <;> simp only [TS.ev, hsl]
            have := hm.ev x
            rw [e1, hx] at this
            exact this
          refine callE_ok (o := ⟨dst, .call { callee := .value x, args := args, argTypes := ats }, ty, pos, after, guard⟩) hE h vals (fun s' π a w hsl hm => ?_) fun s' a w hsl hr he => ?_
          · obtain ⟨fs, cs, e1, e2, e3, e4, e5⟩ := hfn s' π a w hsl hm
            have hvals : vals a = fs.toList ++ args.toList.map a.eval ++ cs.toList := by simp only [vals, e1]
            refine ⟨by rw [hvals]; simp [fnArgs, e2, e3], fun i z v hz hv => ?_⟩
            rw [hvals] at hv
            simp only [fnArgs] at hz
            by_cases h1 : i < k1
            · rw [List.append_assoc, List.getElem?_append_left (by simpa using h1)] at hz
              rw [List.append_assoc, List.getElem?_append_left (by simp [e2]; omega)] at hv
              obtain ⟨u, a1, a2⟩ := e4 i h1
              rw [Array.getElem?_toList, a1] at hv
              obtain rfl := Option.some.inj hv
              rw [List.getElem?_map, List.getElem?_range h1] at hz
              simp only [Option.map_some, Option.some.injEq] at hz
              subst hz; exact a2
            · by_cases h2 : i < k1 + args.size
              · rw [List.append_assoc, List.getElem?_append_right (by simp; omega), List.getElem?_append_left (by simp; omega)] at hz
                rw [List.append_assoc, List.getElem?_append_right (by simp [e2]; omega), List.getElem?_append_left (by simp [e2]; omega)] at hv
                simp only [List.length_map, List.length_range, List.getElem?_map, Option.map_eq_some_iff] at hz
                simp only [Array.length_toList, e2, List.getElem?_map, Option.map_eq_some_iff] at hv
                obtain ⟨y1, hy1, rfl⟩ := hz
                obtain ⟨y2, hy2, rfl⟩ := hv
                rw [hy1] at hy2; obtain rfl := Option.some.inj hy2
                have e1 : s'.ev y1 = s.ev y1 := by cases y1 <;> simp only [TS.ev, hsl]
                rw [← e1]; exact hm.ev y1
              · rw [List.getElem?_append_right (by simp; omega)] at hz
                rw [List.getElem?_append_right (by simp [e2]; omega)] at hv
                simp only [List.length_append, List.length_map, List.length_range, Array.length_toList] at hz hv
                rw [e2] at hv
                have hlt : i - (k1 + args.size) < n := by
                  have := (List.getElem?_eq_some_iff.1 hz).1
                  simpa using this
                obtain ⟨u, a1, a2⟩ := e5 _ hlt
                rw [Array.getElem?_toList, a1] at hv
                obtain rfl := Option.some.inj hv
                rw [List.getElem?_map, List.getElem?_range hlt] at hz
                simp only [Option.map_some, Option.some.injEq] at hz
                subst hz; exact a2
          · obtain ⟨π, hm⟩ := hr
            obtain ⟨fs, cs, e1, _⟩ := hfn s' π a w hsl hm
            have hvals : vals a = fs.toList ++ args.toList.map a.eval ++ cs.toList := by simp only [vals, e1]
            rw [hvals]
            exact run_callv he rfl a w e1
        | _ => rw [hx] at h; cases h
      | invoke x name =>
        simp only at h ⊢
        cases hx : s.ev x with
        | dv u y =>
          rw [hx] at h
          simp only at h ⊢
          have key : ∀ (u : DT) (y : u.den), ivkE E (dst.getD 0) name (args.toList.map s.ev) (tlook s.ob) k u y = some r →
              (∀ (s' : TS) (π : Nat → Pl) (a : Act) (w : World), s'.sl = s.sl → RelM c F π s' a w → u.cell y 0 w (Gz F w π (tlook s'.ob)) (a.eval x)) →
              ∃ e, k e = some r ∧ (∀ (β : Type) (k' : Eff → Option β), ivkE E (dst.getD 0) name (args.toList.map s.ev) (tlook s.ob) k' u y = k' e) ∧ OpW P c F ⟨dst, .call { callee := .invoke x name, args := args, argTypes := ats }, ty, pos, after, guard⟩ (fun s' => s' = s.app dst e) s := by
            intro u
            induction u with
            | ifc T t u' _ ih =>
              intro y h hv
              cases y with
              | inr b => exact ih b h hv
              | inl b =>
                simp only [ivkE, ifElim] at h ⊢
                split at h
                · cases h
                rename_i hag
                have hag : t.agg = false := by simpa using hag
                simp only [hag, Bool.false_eq_true, if_false]
                split at h
                · rename_i g hg
                  have hb : ∀ (s' : TS) (π : Nat → Pl) (a : Act) (w : World), s'.sl = s.sl → RelM c F π s' a w → ∃ z, a.eval x = .iface T z ∧ t.val b w (Gz F w π (tlook s'.ob)) z := fun s' π a w e1 e2 => by
                    obtain ⟨z, h1, _, h3⟩ := hv s' π a w e1 e2
                    exact ⟨z, h1, (DT.val_one hag).2 h3⟩
                  let vals : Act → List Value := fun a => match a.eval x with | .iface _ z => z :: args.toList.map a.eval | _ => []
                  refine callE_ok (o := ⟨dst, .call { callee := .invoke x name, args := args, argTypes := ats }, ty, pos, after, guard⟩) hE h vals (fun s' π a w hsl hm => ?_) fun s' a w hsl hr he => ?_
                  · obtain ⟨z, e1, e2⟩ := hb s' π a w hsl hm
                    have hvals : vals a = z :: args.toList.map a.eval := by simp only [vals, e1]
                    refine ⟨by rw [hvals]; simp, fun i p v hp hv => ?_⟩
                    rw [hvals] at hv
                    cases i with
                    | zero => simp at hp hv; subst hp; subst hv; exact e2
                    | succ i =>
                      simp only [List.getElem?_cons_succ, List.getElem?_map, Option.map_eq_some_iff] at hp hv
                      obtain ⟨y1, hy1, rfl⟩ := hp
                      obtain ⟨y2, hy2, rfl⟩ := hv
                      rw [hy1] at hy2; obtain rfl := Option.some.inj hy2
                      have e1 : s'.ev y1 = s.ev y1 := by cases y1 <;> simp only [TS.ev, hsl]
                      rw [← e1]; exact hm.ev y1
                  · obtain ⟨π, hm⟩ := hr
                    obtain ⟨z, e1, _⟩ := hb s' π a w hsl hm
                    have hvals : vals a = z :: args.toList.map a.eval := by simp only [vals, e1]
                    rw [hvals]
                    exact run_callm hT hg he rfl a w e1
                · cases h
            | _ => intro y h; cases h
          refine key u y h fun s' π a w hsl hm => ?_
          have e1 : s'.ev x = s.ev x := by cases x <;> simp only [TS.ev, hsl]
          have := hm.ev x
          rw [e1, hx] at this
          cases u with
          | ifc T t u' => exact (DT.val_one rfl).1 this
          | _ => cases h
        | _ => rw [hx] at h; cases h
      | _ => cases h
    | _ => cases h

end
end Go.Proofs.YtbjfbbfglkmadaaDoor
