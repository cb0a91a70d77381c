/-
  Lifting Go functions to plain Lean functions, part E: a call, by the function's contract.
-/
import Derived.Test.YtbjfbbfglkmadaaDoorQD
namespace Go.Proofs.YtbjfbbfglkmadaaDoor
open Go.RowKit
set_option linter.unusedVariables false

/-- What is lent: own rows that the function only reads. -/
def Lent (F : Nat → Prop) (w : World) (π : Nat → Pl) (O : Obs) (B : Nat → Prop) (b : Nat) : Prop := Gz F w π O b ∨ ∃ i, B i ∧ Own π O i b

theorem OpW.call {P : Program} {c : Cx} {F : Nat → Prop} {o : Oper} {s : TS} {f : FuncId} {args : List TV} {Of : List (Nat × TO)} {r : TV} {O' : List (Nat × TO)} (hf : HSpec P f args Of fun r' O'' => r' = r ∧ O'' = O')
    (ρ τ : Nat → Nat) (S B : Nat → Prop) (vals : Act → List Value) (hrun : ∀ a w, Rel c F s a w → (∀ as w, (callFunc f as).run P w = .ok (.enter f as) w) → (execOp a.eval o).run P w = .ok (.enter f (vals a).toArray) w)
    (hlen : ∀ a w, Rel c F s a w → (vals a).length = args.length)
    (hS : ∀ i, S i → ∃ o, tlook s.ob i = some o ∧ o.live = true ∧ o.within S ∧ tlook Of (τ i) = some (o.ren τ) ∧ ρ (τ i) = i)
    (hOf : ∀ j o, tlook Of j = some o → ∃ i, S i ∧ τ i = j)
    (hB : ∀ i, B i → ¬ S i)
    (hargs : ∀ π a w, RelM c F π s a w → ∀ (i : Nat) (x : TV) (v : Value), args[i]? = some x → (vals a)[i]? = some v → ∃ y : TV, x = y.ren τ ∧ y.within S ∧ VR w (Lent F w π (tlook s.ob) B) π (tlook s.ob) y v)
    (hinj : ∀ j j' o o', tlook O' j = some o → tlook O' j' = some o' → ρ j = ρ j' → j = j')
    (hfresh : ∀ j o', tlook O' j = some o' → tlook Of j = none → tlook s.ob (ρ j) = none)
    (hgood : ∀ j o o', tlook Of j = some o → tlook O' j = some o' → o'.live = true ∨ o' = .dead)
    (hsc : (∀ i, ¬ B i) ∨ (r.sc ∧ ∀ j o', tlook O' j = some o' → o'.sc)) :
    OpW P c F o (fun s' => s' = ⟨(s.put o.dst (r.ren ρ)).sl, renO ρ O' ++ s.ob⟩) s := by
  intro nn a w next Q0 ⟨π, hm⟩ hn
  have hsz := hm.kept.size
  -- the callee's frame
  let πf : Nat → Pl := fun j => π (ρ j)
  let Fc : Nat → Prop := fun b => Lent F w π (tlook s.ob) B b ∨ ∃ i, S i ∧ Own π (tlook s.ob) i b
  have ownF : ∀ j g, Own πf (tlook Of) j g → ∃ i, S i ∧ τ i = j ∧ ρ j = i ∧ Own π (tlook s.ob) i g := fun j g ⟨h1, o1, h2, h3⟩ => by
    obtain ⟨i, hi, e⟩ := hOf j o1 h2
    obtain ⟨o2, a1, a2, a3, a4, a5⟩ := hS i hi
    have e2 : ρ j = i := by rw [← e]; exact a5
    exact ⟨i, hi, e, e2, by have : π (ρ j) = π i := by rw [e2]
                            rw [← this]; exact h1, o2, a1, a2⟩
  have ownB : ∀ i g, S i → Own π (tlook s.ob) i g → Own πf (tlook Of) (τ i) g := fun i g hi ⟨h1, o1, h2, h3⟩ => by
    obtain ⟨o2, a1, a2, a3, a4, a5⟩ := hS i hi
    exact ⟨by show (π (ρ (τ i))).g = some g; rw [a5]; exact h1, o2.ren τ, a4, by rw [(TO.loc_ren τ o2 0 []).2.2]; exact a2⟩
  have lentLt : ∀ b, Lent F w π (tlook s.ob) B b → b < w.heap.size ∧ ∀ j, ¬ Own πf (tlook Of) j b := fun b hb => by
    rcases hb with hb | ⟨i, hi, ho⟩
    · exact ⟨hb.2.1, fun j hj => let ⟨i, _, _, _, h⟩ := ownF j b hj; hb.2.2 i h⟩
    · refine ⟨(hm.new i b ho).2, fun j hj => ?_⟩
      obtain ⟨i', h1, _, _, h2⟩ := ownF j b hj
      have := hm.inj i i' b ho h2
      subst this
      exact hB i hi h1
  have hFc : ∀ b, Fc b → b < w.heap.size := fun b hb => by
    rcases hb with hb | ⟨i, _, ho⟩
    · exact (lentLt b hb).1
    · exact (hm.new i b ho).2
  have fzL : FzTo w (Lent F w π (tlook s.ob) B) w (Gz Fc w πf (tlook Of)) := fun b hb => ⟨⟨.inl hb, (lentLt b hb).1, (lentLt b hb).2⟩, rfl⟩
  have fzG : FzTo w (Gz F w π (tlook s.ob)) w (Gz Fc w πf (tlook Of)) := fun b hb => fzL b (.inl hb)
  have hSr : ∀ id, S id → ∀ o, tlook s.ob id = some o → tlook Of (τ id) = some (o.ren τ) ∧ πf (τ id) = π id := fun id hid o1 ho1 => by
    obtain ⟨o2, a1, a2, a3, a4, a5⟩ := hS id hid
    rw [a1] at ho1; obtain rfl := Option.some.inj ho1
    exact ⟨a4, by show π (ρ (τ id)) = π id; rw [a5]⟩
  have hfr : Frame Fc w πf Of := by
    refine ⟨fun j o1 ho1 => ?_, fun i j g hi hj => ?_, fun j g hj => ?_⟩
    · obtain ⟨i, hi, e⟩ := hOf j o1 ho1
      obtain ⟨o2, a1, a2, a3, a4, a5⟩ := hS i hi
      have hpi : πf (τ i) = π i := (hSr i hi o2 a1).2
      have h4 := OR.ren (ρ := τ) (S := S) (G2 := Gz Fc w πf (tlook Of)) hSr hpi (.inl fzG) a3 (hm.obj i o2 a1)
      rw [← e] at ho1 ⊢
      rw [a4] at ho1
      obtain rfl := Option.some.inj ho1
      exact h4
    · obtain ⟨i', _, e1, e2, h1⟩ := ownF i g hi
      obtain ⟨j', _, e3, e4, h2⟩ := ownF j g hj
      have := hm.inj i' j' g h1 h2
      rw [← e1, ← e3, this]
    · obtain ⟨i', h0, _, _, h1⟩ := ownF j g hj
      exact ⟨.inr ⟨i', h0, h1⟩, (hm.new i' g h1).2⟩
  have hav : ∀ (i : Nat) (x : TV) (v : Value), args[i]? = some x → (vals a)[i]? = some v → VR w (Gz Fc w πf (tlook Of)) πf (tlook Of) x v := fun i x v hx hv => by
    obtain ⟨y, rfl, h1, h2⟩ := hargs π a w hm i x v hx hv
    exact VR.ren hSr (.inl fzL) h1 h2
  refine wpIn_enter (hrun a w ⟨π, hm⟩ hf.enters) ?_
  refine (hf.calls w Fc πf (vals a) (hlen a w ⟨π, hm⟩) hFc hfr hav (hm.glb.mono fzG)).mono fun e w' ⟨r', v, O'', π', he, ⟨hr', hO''⟩, hfr', hv, hpin, hown, hk⟩ => ?_
  subst hr'; subst hO''; subst he
  -- back
  let π2 : Nat → Pl := fun i => match bk ρ O'' i with | some j => π' j | none => π i
  have hlk := tlook_renO (ρ := ρ) O'' hinj s.ob
  have hbk : ∀ j o, tlook O'' j = some o → bk ρ O'' (ρ j) = some j := fun j o ho => by
    cases hb : bk ρ O'' (ρ j) with
    | none => exact absurd rfl (bk_none hb j o ho)
    | some j' =>
      obtain ⟨e, o', ho'⟩ := bk_some hb
      rw [hinj j j' o o' ho ho' e]
  have hpass : ∀ i, S i → ∃ o o', tlook s.ob i = some o ∧ o.live = true ∧ tlook O'' (τ i) = some o' ∧ bk ρ O'' i = some (τ i) ∧ (o'.live = true → π' (τ i) = π i ∧ Shp (o.ren τ) o') ∧ (o'.live = true ∨ o' = .dead) := fun i hi => by
    obtain ⟨o2, a1, a2, a3, a4, a5⟩ := hS i hi
    obtain ⟨o', b1, b2⟩ := hpin _ _ a4
    have := hbk _ _ b1
    rw [a5] at this
    refine ⟨o2, o', a1, a2, b1, this, fun hl => ?_, hgood _ _ _ a4 b1⟩
    obtain ⟨q1, q2⟩ := b2 hl
    exact ⟨q1.trans (by show π (ρ (τ i)) = π i; rw [a5]), q2⟩
  -- who owns what behind the call
  have own2 : ∀ i g, Own π2 (tlook (renO ρ O'' ++ s.ob)) i g → (∃ j, bk ρ O'' i = some j ∧ Own π' (tlook O'') j g) ∨ (bk ρ O'' i = none ∧ ¬ S i ∧ Own π (tlook s.ob) i g) := fun i g ⟨h1, o1, h2, h3⟩ => by
    rw [hlk] at h2
    simp only [π2] at h1
    cases hb : bk ρ O'' i with
    | some j =>
      rw [hb] at h1 h2
      simp only at h1 h2
      obtain ⟨o3, ho3, rfl⟩ := Option.map_eq_some_iff.1 h2
      exact .inl ⟨j, rfl, h1, o3, ho3, by rw [(TO.loc_ren ρ o3 0 []).2.2] at h3; exact h3⟩
    | none =>
      rw [hb] at h1 h2
      simp only at h1 h2
      exact .inr ⟨rfl, (fun hi => by obtain ⟨_, _, _, _, _, hb', _⟩ := hpass i hi; rw [hb] at hb'; cases hb'), h1, o1, h2, h3⟩
  have ownC : ∀ j g, Own π' (tlook O'') j g → (∃ i, S i ∧ Own π (tlook s.ob) i g) ∨ w.heap.size ≤ g := fun j g hj => by
    rcases hown j g hj with ⟨j', h1⟩ | h1
    · obtain ⟨i, a1, _, _, a2⟩ := ownF j' g h1; exact .inl ⟨i, a1, a2⟩
    · exact .inr h1
  have hblk : ∀ b, b < w.heap.size → (∀ i, S i → ¬ Own π (tlook s.ob) i b) → w'.heap[b]? = w.heap[b]? := fun b hb hno => (hk.block b (.inl ⟨fun j hj => let ⟨i, a1, _, _, a2⟩ := ownF j b hj; hno i a1 a2, hb⟩) (by simp)).trans (if_neg (by simp))
  have not2 : ∀ b, Gz F w π (tlook s.ob) b → ∀ i, ¬ Own π2 (tlook (renO ρ O'' ++ s.ob)) i b := fun b hb i hi => by
    rcases own2 i b hi with ⟨j, _, h1⟩ | ⟨_, _, h1⟩
    · rcases ownC j b h1 with ⟨i', _, h2⟩ | h2
      · exact hb.2.2 i' h2
      · have := hb.2.1; omega
    · exact hb.2.2 i h1
  have fz : FzTo w (Gz F w π (tlook s.ob)) w' (Gz F w' π2 (tlook (renO ρ O'' ++ s.ob))) := fun b hb => ⟨⟨hb.1, Nat.lt_of_lt_of_le hb.2.1 hk.size, not2 b hb⟩, hblk b hb.2.1 fun i _ ho => hb.2.2 i ho⟩
  have E : Evo w (Gz F w π (tlook s.ob)) π (tlook s.ob) w' (Gz F w' π2 (tlook (renO ρ O'' ++ s.ob))) π2 (tlook (renO ρ O'' ++ s.ob)) := ⟨fz, fun i o1 ho1 => by
    by_cases hi : S i
    · obtain ⟨o2, o', a1, a2, a3, a4, a5, a6⟩ := hpass i hi
      rw [a1] at ho1; obtain rfl := Option.some.inj ho1
      refine ⟨o'.ren ρ, by rw [hlk, a4]; simp [a3], ?_⟩
      rcases a6 with hl | rfl
      · obtain ⟨q1, q2⟩ := a5 hl
        have e1 : π2 i = π i := by simp only [π2, a4]; exact q1
        rw [e1]
        refine Step.of_shp ?_
        -- the shape, under the actual numbers
        cases o2 with
        | row t l => cases o' with
          | row t' l' => exact q2
          | _ => exact q2.elim
        | map kt vt l => cases o' with
          | map kt' vt' l' => trivial
          | _ => exact q2.elim
        | iter kt vt l cur => cases o' with
          | iter kt' vt' l' cur' => trivial
          | _ => exact q2.elim
        | rcd fs => cases o' with
          | rcd fs' =>
            obtain ⟨q3, q4⟩ := q2
            refine ⟨by simp only [List.length_map] at q3 ⊢; exact q3, fun j x hx => ?_⟩
            obtain ⟨y, b1, b2, b3⟩ := q4 j (x.ren τ) (by simp [hx])
            refine ⟨y.ren ρ, by simp [b1], by rw [TV.size_ren, b2, TV.size_ren], fun o p cc h1 h2 => ?_⟩
            rw [TV.floc_ren, TV.finb_ren]
            exact b3 o p cc (by rw [TV.floc_ren]; exact h1) (by rw [TV.finb_ren]; exact h2)
          | _ => exact q2.elim
        | frz t l => simp [TO.live] at a2
        | dead => simp [TO.live] at a2
      · simp only [TO.ren, Step]
    · have hb : bk ρ O'' i = none := by
        cases hb : bk ρ O'' i with
        | none => rfl
        | some j =>
          obtain ⟨e, o', ho'⟩ := bk_some hb
          cases hj : tlook Of j with
          | some o3 =>
            obtain ⟨i', h1, h2⟩ := hOf j o3 hj
            obtain ⟨_, _, _, _, _, h5⟩ := hS i' h1
            rw [h2, ← e] at h5
            exact absurd (h5 ▸ h1) hi
          | none =>
            have := hfresh j o' ho' hj
            rw [← e, ho1] at this; cases this
      exact ⟨o1, by rw [hlk, hb]; exact ho1, by simp only [π2, hb]; exact Step.refl o1⟩⟩
  -- results in the caller's words
  have fzb : (∀ i, ¬ B i) → FzTo w' (Gz (fun b => Fc b ∨ w.heap.size ≤ b) w' π' (tlook O'')) w' (Gz F w' π2 (tlook (renO ρ O'' ++ s.ob))) := fun hnB b ⟨h0, h1, h2⟩ => ⟨⟨?_, h1, fun i hi => ?_⟩, rfl⟩
  rotate_left
  · rcases h0 with (h0 | ⟨i, _, ho⟩) | h0
    · rcases h0 with h0 | ⟨i, hi, _⟩
      · exact h0.1
      · exact absurd hi (hnB i)
    · exact hm.hF b (hm.new i b ho).1
    · exact hm.hF b fun hb => by have := hm.kept.lt hb; omega
  · rcases own2 i b hi with ⟨j, _, h3⟩ | ⟨h3, h4, h5⟩
    · exact h2 j h3
    · rcases h0 with (h0 | ⟨i', hi', ho⟩) | h0
      · rcases h0 with h0 | ⟨i', hi', _⟩
        · exact h0.2.2 i h5
        · exact absurd hi' (hnB i')
      · exact h4 (hm.inj i i' b h5 ho ▸ hi')
      · have := (hm.new i b h5).2; omega
  have hSb : ∀ id, True → ∀ o, tlook O'' id = some o → tlook (renO ρ O'' ++ s.ob) (ρ id) = some (o.ren ρ) ∧ π2 (ρ id) = π' id := fun id _ o1 ho1 => by
    have hb := hbk id o1 ho1
    exact ⟨by rw [hlk, hb]; simp [ho1], by simp only [π2, hb]⟩
  have within_t : ∀ x : TV, x.within fun _ => True := fun x => by
    induction x with
    | fn g k n f ih => exact fun j _ => ih j
    | tup n f ih => exact fun j _ => ih j
    | st n f ih => exact fun j _ => ih j
    | _ => trivial
  have hmod : ∀ x : TV, (x.sc ∨ ∀ i, ¬ B i) → (FzTo w' (Gz (fun b => Fc b ∨ w.heap.size ≤ b) w' π' (tlook O'')) w' (Gz F w' π2 (tlook (renO ρ O'' ++ s.ob))) ∨ (x.sc ∧ ∀ id o, True → tlook O'' id = some o → o.sc)) := fun x hx => by
    rcases hsc with h | h
    · exact .inl (fzb h)
    · rcases hx with hx | hx
      · exact .inr ⟨hx, fun id o _ ho => h.2 id o ho⟩
      · exact .inl (fzb hx)
  have hM : RelM c F π2 ⟨s.sl, renO ρ O'' ++ s.ob⟩ a w' := by
    refine hm.go (hm.kept.on ⟨hk.os, hk.tape, hk.output⟩ hk.size fun b hb => hblk b (hm.kept.lt hb) fun i _ ho => (hm.new i b ho).1 hb) E (fun i o1 ho1 => ?_) (fun i j g hi hj => ?_) (fun i g hi => ?_)
    · rw [hlk] at ho1
      cases hb : bk ρ O'' i with
      | some j =>
        rw [hb] at ho1
        simp only at ho1
        obtain ⟨o3, ho3, rfl⟩ := Option.map_eq_some_iff.1 ho1
        obtain ⟨e, _⟩ := bk_some hb
        rw [e]
        refine OR.ren (ρ := ρ) (S := fun _ => True) hSb (hSb j trivial o3 ho3).2 ?_ ?_ (hfr'.obj j o3 ho3)
        · rcases hsc with h | h
          · exact .inl (fzb h)
          · exact .inr ⟨h.2 j o3 ho3, fun id o _ ho => h.2 id o ho⟩
        · cases o3 <;> first | trivial | exact fun j x _ => within_t x
      | none =>
        rw [hb] at ho1
        simp only at ho1
        have hni : ¬ S i := fun hi => by obtain ⟨_, _, _, _, _, hb', _⟩ := hpass i hi; rw [hb] at hb'; cases hb'
        exact (hm.obj i o1 ho1).evo E (by simp only [π2, hb]) fun g hg hl => hblk g (hm.new i g ⟨hg, o1, ho1, hl⟩).2 fun i' hi' ho' => hni (hm.inj i i' g ⟨hg, o1, ho1, hl⟩ ho' ▸ hi')
    · rcases own2 i g hi with ⟨k1, h1, h2⟩ | ⟨h1, h2, h3⟩ <;> rcases own2 j g hj with ⟨k2, h4, h5⟩ | ⟨h4, h5, h6⟩
      · have := hfr'.inj k1 k2 g h2 h5
        subst this
        rw [(bk_some h1).1, (bk_some h4).1]
      · exfalso
        rcases ownC k1 g h2 with ⟨i', a1, a2⟩ | a1
        · exact h5 (hm.inj j i' g h6 a2 ▸ a1)
        · have := (hm.new j g h6).2; omega
      · exfalso
        rcases ownC k2 g h5 with ⟨i', a1, a2⟩ | a1
        · exact h2 (hm.inj i i' g h3 a2 ▸ a1)
        · have := (hm.new i g h3).2; omega
      · exact hm.inj i j g h3 h6
    · rcases own2 i g hi with ⟨j, h1, h2⟩ | ⟨h1, h2, h3⟩
      · refine ⟨fun hb => ?_, (hfr'.new j g h2).2⟩
        rcases ownC j g h2 with ⟨i', a1, a2⟩ | a1
        · exact (hm.new i' g a2).1 hb
        · have := hm.kept.lt hb; omega
      · exact ⟨(hm.new i g h3).1, Nat.lt_of_lt_of_le (hm.new i g h3).2 hk.size⟩
  have hres : VR w' (Gz F w' π2 (tlook (renO ρ O'' ++ s.ob))) π2 (tlook (renO ρ O'' ++ s.ob)) (r'.ren ρ) v := by
    refine VR.ren (S := fun _ => True) hSb ?_ (within_t r') hv
    rcases hsc with h | h
    · exact .inl (fzb h)
    · exact .inr ⟨h.1, fun id o _ ho => h.2 id o ho⟩
  refine hn _ _ _ rfl ⟨π2, ?_⟩
  have := hM.put o.dst (x := r'.ren ρ) (v := v) hres
  cases hd : o.dst with
  | none => rw [hd] at this; exact this
  | some d => rw [hd] at this; exact this

end Go.Proofs.YtbjfbbfglkmadaaDoor
