/-
  Lifting Go functions to plain Lean functions, part W: values that say the same (functions with the same captured values).
-/
import Derived.Test.YtbjfbbfglkmadaaDoorQT
namespace Go.Proofs.YtbjfbbfglkmadaaDoor
open Go.RowKit
set_option linter.unusedVariables false

def TV.sim : TV → TV → Prop
  | .fn g k n f, .fn g' k' n' f' => g = g' ∧ k = k' ∧ n = n' ∧ ∀ j, j < k + n → (f j).sim (f' j)
  | .tup n f, .tup n' f' => n = n' ∧ ∀ j, j < n → (f j).sim (f' j)
  | .st n f, .st n' f' => n = n' ∧ ∀ j, j < n → (f j).sim (f' j)
  | x, y => x = y

theorem TV.sim_refl : ∀ x : TV, x.sim x := by
  intro x
  induction x with
  | fn g k n f ih => exact ⟨rfl, rfl, rfl, fun j _ => ih j⟩
  | tup n f ih => exact ⟨rfl, fun j _ => ih j⟩
  | st n f ih => exact ⟨rfl, fun j _ => ih j⟩
  | _ => rfl

theorem TV.sim_symm : ∀ {x y : TV}, x.sim y → y.sim x := by
  intro x
  induction x with
  | fn g k n f ih =>
    intro y h
    cases y with
    | fn g' k' n' f' => obtain ⟨rfl, rfl, rfl, h⟩ := h; exact ⟨rfl, rfl, rfl, fun j hj => ih j (h j hj)⟩
    | _ => cases h
  | tup n f ih =>
    intro y h
    cases y with
    | tup n' f' => obtain ⟨rfl, h⟩ := h; exact ⟨rfl, fun j hj => ih j (h j hj)⟩
    | _ => cases h
  | st n f ih =>
    intro y h
    cases y with
    | st n' f' => obtain ⟨rfl, h⟩ := h; exact ⟨rfl, fun j hj => ih j (h j hj)⟩
    | _ => cases h
  | _ => intro y h; simp only [TV.sim] at h; subst h; rfl

theorem TV.sim_size {x y : TV} (h : x.sim y) : x.size = y.size ∧ (∀ o p, x.floc o p = y.floc o p) ∧ ∀ p, x.finb p ↔ y.finb p := by
  cases x with
  | fn g k n f => cases y with
    | fn g' k' n' f' => exact ⟨rfl, fun _ _ => rfl, fun _ => Iff.rfl⟩
    | _ => cases h
  | tup n f => cases y with
    | tup n' f' => exact ⟨rfl, fun _ _ => rfl, fun _ => Iff.rfl⟩
    | _ => cases h
  | st n f => cases y with
    | st n' f' => exact ⟨rfl, fun _ _ => rfl, fun _ => Iff.rfl⟩
    | _ => cases h
  | _ => simp only [TV.sim] at h; subst h; exact ⟨rfl, fun _ _ => rfl, fun _ => Iff.rfl⟩

def TO.sim : TO → TO → Prop
  | .rcd fs, .rcd fs' => fs.length = fs'.length ∧ ∀ (j : Nat) (x : TV), fs[j]? = some x → ∃ y, fs'[j]? = some y ∧ x.sim y
  | o, o' => o = o'

theorem TO.sim_refl (o : TO) : o.sim o := by
  cases o <;> first | rfl | exact ⟨rfl, fun j x hx => ⟨x, hx, TV.sim_refl x⟩⟩

theorem TO.sim_symm {o o' : TO} (h : o.sim o') : o'.sim o := by
  cases o with
  | rcd fs => cases o' with
    | rcd fs' =>
      obtain ⟨h1, h2⟩ := h
      refine ⟨h1.symm, fun j y hy => ?_⟩
      have hj : j < fs.length := by rw [h1]; exact (List.getElem?_eq_some_iff.1 hy).1
      obtain ⟨y', a1, a2⟩ := h2 j fs[j] (by simp [hj])
      rw [hy] at a1; obtain rfl := Option.some.inj a1
      exact ⟨fs[j], by simp [hj], TV.sim_symm a2⟩
    | _ => cases h
  | _ => simp only [TO.sim] at h; subst h; exact TO.sim_refl _

theorem offs_sim : ∀ {fs fs' : List TV}, fs.length = fs'.length → (∀ (j : Nat) (x : TV), fs[j]? = some x → ∃ y, fs'[j]? = some y ∧ x.sim y) → ∀ j, offs fs j = offs fs' j
  | [], [], _, _, j => rfl
  | [], y :: r, hl, _, j => by simp at hl
  | x :: r, [], hl, _, j => by simp at hl
  | x :: r, y :: r', hl, h, 0 => rfl
  | x :: r, y :: r', hl, h, j + 1 => by
    obtain ⟨y', hy, hs⟩ := h 0 x rfl
    simp only [List.getElem?_cons_zero, Option.some.injEq] at hy
    subst hy
    simp only [offs, (TV.sim_size hs).1]
    rw [offs_sim (by simpa using hl) (fun j x hx => h (j + 1) x (by simpa using hx)) j]

theorem TO.sim_loc {o o' : TO} (h : o.sim o') : o.live = o'.live ∧ ∀ i p, o.loc i p = o'.loc i p ∧ (o.okAt i p ↔ o'.okAt i p) := by
  cases o with
  | rcd fs => cases o' with
    | rcd fs' =>
      obtain ⟨h1, h2⟩ := h
      refine ⟨rfl, fun i p => ?_⟩
      cases p with
      | nil => exact ⟨rfl, Iff.rfl⟩
      | cons j p =>
        simp only [TO.loc, TO.okAt, offs_sim h1 h2]
        cases hj : fs[j]? with
        | none =>
          have : fs'[j]? = none := by
            rw [List.getElem?_eq_none_iff] at hj ⊢; omega
          rw [this]; exact ⟨rfl, Iff.rfl⟩
        | some x =>
          obtain ⟨y, hy, hs⟩ := h2 j x hj
          rw [hy]
          obtain ⟨_, e1, e2⟩ := TV.sim_size hs
          exact ⟨e1 _ _, e2 _⟩
    | _ => cases h
  | _ => simp only [TO.sim] at h; subst h; exact ⟨rfl, fun _ _ => ⟨rfl, Iff.rfl⟩⟩

theorem TV.dcell_sim {w : World} {G : Nat → Prop} {x y : TV} {c : Nat} {u : Value} (hs : x.sim y) (h : x.dcell w G c u) : y.dcell w G c u ∧ y.isD = x.isD := by
  cases x with
  | dv t z => simp only [TV.sim] at hs; subst hs; exact ⟨h, rfl⟩
  | fn g k n f => cases y <;> first | exact ⟨trivial, rfl⟩ | cases hs
  | tup n f => cases y <;> first | exact ⟨trivial, rfl⟩ | cases hs
  | st n f => cases y <;> first | exact ⟨trivial, rfl⟩ | cases hs
  | _ => simp only [TV.sim] at hs; subst hs; exact ⟨trivial, rfl⟩

def OSim (O O' : Obs) : Prop := ∀ id o, O id = some o → ∃ o', O' id = some o' ∧ o.sim o'

theorem VR.sim {w : World} {G : Nat → Prop} {π : Nat → Pl} {O O' : Obs} (hO : OSim O O') : ∀ {x y : TV} {v : Value}, x.sim y → VR w G π O x v → VR w G π O' y v := by
  intro x
  induction x with
  | row id =>
    intro y v hs h
    simp only [TV.sim] at hs; subst hs
    simp only [VR] at h ⊢
    cases ho : O id with
    | none => rw [ho] at h; exact h.elim
    | some o =>
      rw [ho] at h
      obtain ⟨o', e1, e2⟩ := hO id o ho
      rw [e1]
      cases o <;> first | (simp only [TO.sim] at e2; subst e2; exact h) | (cases o' <;> first | trivial | cases e2)
  | vrow id a b =>
    intro y v hs h
    simp only [TV.sim] at hs; subst hs
    simp only [VR] at h ⊢
    cases ho : O id with
    | none => rw [ho] at h; exact h.elim
    | some o =>
      rw [ho] at h
      obtain ⟨o', e1, e2⟩ := hO id o ho
      rw [e1]
      cases o <;> first | (simp only [TO.sim] at e2; subst e2; exact h) | (cases o' <;> first | trivial | cases e2)
  | ptr id i p =>
    intro y v hs h
    simp only [TV.sim] at hs; subst hs
    simp only [VR] at h ⊢
    cases ho : O id with
    | none => rw [ho] at h; exact h.elim
    | some o =>
      rw [ho] at h
      obtain ⟨o', e1, e2⟩ := hO id o ho
      rw [e1]
      obtain ⟨l1, l2⟩ := TO.sim_loc e2
      intro hl
      obtain ⟨c, g, a1, a2, a3⟩ := h (l1 ▸ hl)
      exact ⟨c, g, (l2 i p).1 ▸ a1, (l2 i p).2.1 a2, a3⟩
  | view id i p k n a b =>
    intro y v hs h
    simp only [TV.sim] at hs; subst hs
    simp only [VR] at h ⊢
    cases ho : O id with
    | none => rw [ho] at h; exact h.elim
    | some o =>
      rw [ho] at h
      obtain ⟨o', e1, e2⟩ := hO id o ho
      rw [e1]
      obtain ⟨l1, l2⟩ := TO.sim_loc e2
      intro hl
      obtain ⟨c, g, pp, a1, a2, a3⟩ := h (l1 ▸ hl)
      exact ⟨c, g, pp, (l2 i p).1 ▸ a1, (l2 i p).2.1 a2, a3⟩
  | fn g k n f ih =>
    intro y v hs h
    cases y with
    | fn g' k' n' f' =>
      obtain ⟨rfl, rfl, rfl, hs⟩ := hs
      obtain ⟨fs, cs, h1, h2, h3, h4, h5⟩ := h
      exact ⟨fs, cs, h1, h2, h3, fun j hj => let ⟨u, a, b⟩ := h4 j hj; ⟨u, a, ih j (hs j (by omega)) b⟩, fun j hj => let ⟨u, a, b⟩ := h5 j hj; ⟨u, a, ih _ (hs _ (by omega)) b⟩⟩
    | _ => cases hs
  | tup n f ih =>
    intro y v hs h
    cases y with
    | tup n' f' =>
      obtain ⟨rfl, hs⟩ := hs
      obtain ⟨cs, h1, h2, h3⟩ := h
      exact ⟨cs, h1, h2, fun j hj => let ⟨u, a, b⟩ := h3 j hj; ⟨u, a, ih j (hs j hj) b⟩⟩
    | _ => cases hs
  | st n f ih =>
    intro y v hs h
    cases y with
    | st n' f' =>
      obtain ⟨rfl, hs⟩ := hs
      obtain ⟨cs, h1, h2, h3⟩ := h
      have he : ∀ k, offs ((List.range n).map f') k = offs ((List.range n).map f) k := fun k => (offs_sim (by simp) (fun j x hx => by
        have hj : j < n := by have := (List.getElem?_eq_some_iff.1 hx).1; simpa using this
        rw [List.getElem?_map, List.getElem?_range hj] at hx
        obtain rfl := Option.some.inj hx
        exact ⟨f' j, by rw [List.getElem?_map, List.getElem?_range hj]; rfl, hs j hj⟩) k).symm
      refine ⟨cs, h1, by rw [he]; exact h2, fun j hj c hc => ?_⟩
      rw [← (TV.sim_size (hs j hj)).1] at hc
      obtain ⟨u, a, b, d, e⟩ := h3 j hj c hc
      obtain ⟨d1, d2⟩ := TV.dcell_sim (hs j hj) d
      exact ⟨u, by rw [he]; exact a, b, d1, fun hd => ih j (hs j hj) (e (d2 ▸ hd))⟩
    | _ => cases hs
  | any => intro y v hs h; simp only [TV.sim] at hs; subst hs; trivial
  | dv t x => intro y v hs h; simp only [TV.sim] at hs; subst hs; exact h
  | nl => intro y v hs h; simp only [TV.sim] at hs; subst hs; exact h
  | cst u => intro y v hs h; simp only [TV.sim] at hs; subst hs; exact h
  | el t x p => intro y v hs h; simp only [TV.sim] at hs; subst hs; exact h

theorem TV.fcell_sim {w : World} {G : Nat → Prop} {π : Nat → Pl} {O O' : Obs} (hO : OSim O O') {x y : TV} {c : Nat} {u : Value} (hs : x.sim y) (h : x.fcell w G π O c u) : y.fcell w G π O' c u := by
  cases x with
  | dv t z => simp only [TV.sim] at hs; subst hs; exact h
  | _ => cases y <;> first | exact VR.sim hO hs h | (simp only [TV.sim] at hs; cases hs)

theorem OR.sim {w : World} {G : Nat → Prop} {π : Nat → Pl} {O O' : Obs} (hO : OSim O O') {id : Nat} {o o' : TO} (hs : o.sim o') (h : OR w G π O id o) : OR w G π O' id o' := by
  cases o with
  | rcd fs => cases o' with
    | rcd fs' =>
      obtain ⟨h1, h2⟩ := TO.sim_symm hs
      obtain ⟨h3, h4⟩ := hs
      obtain ⟨g, cur, e, k1, k2, k3⟩ := h
      refine ⟨g, cur, e, k1, k2, fun j y hy c hc => ?_⟩
      obtain ⟨x, hx, hxy⟩ := h2 j y hy
      have hyx := TV.sim_symm hxy
      rw [← (TV.sim_size hyx).1] at hc
      obtain ⟨u, a1, a2, a3⟩ := k3 j x hx c hc
      exact ⟨u, by rw [← offs_sim h3 h4]; exact a1, a2, TV.fcell_sim hO hyx a3⟩
    | _ => cases hs
  | _ => simp only [TO.sim] at hs; subst hs; exact h

theorem Own.sim {π : Nat → Pl} {O O' : Obs} (hO : OSim O O') {id g : Nat} (h : Own π O id g) : Own π O' id g := by
  obtain ⟨h1, o, h2, h3⟩ := h
  obtain ⟨o', e1, e2⟩ := hO id o h2
  exact ⟨h1, o', e1, (TO.sim_loc e2).1 ▸ h3⟩

theorem HSpec.sim {P : Program} {f : FuncId} {args args' : List TV} {O O' : List (Nat × TO)} {Q : TV → List (Nat × TO) → Prop} (h : HSpec P f args O Q) (hl : args'.length = args.length) (ha : ∀ (i : Nat) (x : TV), args[i]? = some x → ∃ y, args'[i]? = some y ∧ x.sim y)
    (h1 : OSim (tlook O) (tlook O')) (h2 : OSim (tlook O') (tlook O)) : HSpec P f args' O' Q := by
  have hG : ∀ F w π, Gz F w π (tlook O') = Gz F w π (tlook O) := fun F w π => by
    funext b
    exact propext ⟨fun ⟨a, b, c⟩ => ⟨a, b, fun id hid => c id (hid.sim h1)⟩, fun ⟨a, b, c⟩ => ⟨a, b, fun id hid => c id (hid.sim h2)⟩⟩
  refine ⟨h.enters, fun w F π vs hl' hF hfr hv hgl => ?_⟩
  have hfr' : Frame F w π O := ⟨fun id o ho => by
    obtain ⟨o', e1, e2⟩ := h1 id o ho
    have := hfr.obj id o' e1
    rw [hG] at this
    exact this.sim h2 (TO.sim_symm e2), fun i j g hi hj => hfr.inj i j g (hi.sim h1) (hj.sim h1), fun id g hg => hfr.new id g (hg.sim h1)⟩
  refine (h.calls w F π vs (hl'.trans hl) hF hfr' (fun i x v hx hv' => ?_) (by rw [hG] at hgl; exact hgl)).mono fun e w' ⟨r, v, O2, π', a1, a2, a3, a4, a5, a6, a7⟩ => ⟨r, v, O2, π', a1, a2, a3, a4, fun id o ho => ?_, fun id g hg => ?_, ?_⟩
  · obtain ⟨y, e1, e2⟩ := ha i x hx
    have := hv i y v e1 hv'
    rw [hG] at this
    exact VR.sim h2 (TV.sim_symm e2) this
  · obtain ⟨o1, e1, e2⟩ := h2 id o ho
    obtain ⟨o', b1, b2⟩ := a5 id o1 e1
    refine ⟨o', b1, fun hl => ?_⟩
    obtain ⟨c1, c2⟩ := b2 hl
    refine ⟨c1, ?_⟩
    cases o with
    | rcd fs => cases o1 with
      | rcd fs1 => cases o' with
        | rcd fs2 =>
          obtain ⟨d1, d2⟩ := e2
          obtain ⟨d3, d4⟩ := c2
          refine ⟨d3.trans d1.symm, fun j x hx => ?_⟩
          obtain ⟨y, q1, q2⟩ := d2 j x hx
          obtain ⟨z, q3, q4, q5⟩ := d4 j y q1
          obtain ⟨q6, q7, q8⟩ := TV.sim_size q2
          exact ⟨z, q3, q4.trans q6.symm, fun o p c k1 k2 => q5 o p c (q7 o p ▸ k1) ((q8 p).1 k2)⟩
        | _ => exact c2.elim
      | _ => cases e2
    | _ => simp only [TO.sim] at e2; subst e2; exact c2
  · rcases a6 id g hg with ⟨j, hj⟩ | hj
    · exact .inl ⟨j, hj.sim h1⟩
    · exact .inr hj
  · obtain ⟨k1, k2, k3, k4, k5, k6⟩ := a7
    exact ⟨k1, k2, k3, k4, fun b hb hn => k5 b (hb.elim (fun hb => .inl ⟨fun id hid => hb.1 id (hid.sim h1), hb.2⟩) .inr) hn, k6⟩

theorem OSim.of {O O' : List (Nat × TO)} (h : O.map (·.1) = O'.map (·.1)) (hs : ∀ (i : Nat) (p q : Nat × TO), O[i]? = some p → O'[i]? = some q → p.2.sim q.2) : OSim (tlook O) (tlook O') := by
  induction O generalizing O' with
  | nil => intro id o h; cases h
  | cons p r ih => cases O' with
    | nil => simp at h
    | cons q r' =>
      simp only [List.map_cons, List.cons.injEq] at h
      obtain ⟨e, h⟩ := h
      have ih' := ih h fun i p q hp hq => hs (i + 1) p q (by simpa using hp) (by simpa using hq)
      have h0 := hs 0 p q rfl rfl
      obtain ⟨i, o⟩ := p
      obtain ⟨j, o'⟩ := q
      simp only at e h0
      subst e
      intro id o1 ho
      simp only [tlook] at ho ⊢
      split
      · rename_i e; rw [if_pos e] at ho; obtain rfl := Option.some.inj ho; exact ⟨o', rfl, h0⟩
      · rename_i e; rw [if_neg e] at ho; exact ih' id o1 ho

/-- The same arguments but for functions' captured values told in another way. -/
theorem HSpec.eta {P : Program} {f : FuncId} {args args' : List TV} {O O' : List (Nat × TO)} {Q : TV → List (Nat × TO) → Prop} (h : HSpec P f args O Q) (hl : args.length = args'.length) (ha : ∀ (i : Nat) (x y : TV), args[i]? = some x → args'[i]? = some y → x.sim y)
    (hk : O.map (·.1) = O'.map (·.1)) (ho : ∀ (i : Nat) (p q : Nat × TO), O[i]? = some p → O'[i]? = some q → p.2.sim q.2) : HSpec P f args' O' Q :=
  h.sim hl.symm (fun i x hx => by
    have hi : i < args'.length := by rw [← hl]; exact (List.getElem?_eq_some_iff.1 hx).1
    exact ⟨args'[i], by simp [hi], ha i x _ hx (by simp [hi])⟩) (OSim.of hk ho) (OSim.of hk.symm fun i p q hp hq => TO.sim_symm (ho i q p hq hp))

end Go.Proofs.YtbjfbbfglkmadaaDoor
