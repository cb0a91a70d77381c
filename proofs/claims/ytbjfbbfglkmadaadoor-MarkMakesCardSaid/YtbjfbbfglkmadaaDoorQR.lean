/-
  Lifting Go functions to plain Lean functions, part R: the reckoning is sound. (Drawn regions: in part S.)
-/
import Derived.Test.YtbjfbbfglkmadaaDoorQQ
namespace Go.Proofs.YtbjfbbfglkmadaaDoor
open Go.RowKit
set_option linter.unusedVariables false

theorem lit_put {s : TS} {d : Nat} {x : TV} (h : s.sl[d]? = some x) : s.put (some d) x = s := by
  obtain ⟨sl, ob⟩ := s
  simp only [TS.put, TS.mk.injEq, and_true]
  have hl := (List.getElem?_eq_some_iff.1 h).1
  apply List.ext_getElem?
  intro i
  by_cases e : d = i
  · subst e; rw [List.getElem?_set_self hl]; exact h.symm
  · rw [List.getElem?_set_ne e]

theorem TS.lit_eq {s : TS} {c : Operand} {t : Bool} (h : s.ev c = .dv .bool t) : s.lit c t = s := by
  cases c with
  | tmp d =>
    simp only [TS.lit]
    refine lit_put ?_
    simp only [TS.ev, List.getD] at h
    cases e : s.sl[d]? with
    | none => rw [e] at h; cases h
    | some x => rw [e] at h; exact congrArg some h
  | _ => rfl

/-- One operation, carried out or passed by. -/
inductive St (P : Program) (E : Env) (c : Cx) (F : Nat → Prop) (ops : Array Oper) (o : Oper) (s : TS) : TS → List Nat → Prop
  | run (hg : o.guard = none) (e : Eff) (hd : ∀ (β : Type) (k' : Eff → Option β), eff E o s.ev (tlook s.ob) k' = k' e) : St P E c F ops o s (s.app o.dst e) (e.u.map (·.1))
  | want (j d : Nat) (g : Bool) (hg : o.guard = some (j, g)) (hd : (ops[j]?).bind (·.dst) = some d) (hs : s.sl[d]? = some (.dv .bool g)) (e : Eff) (he : ∀ (β : Type) (k' : Eff → Option β), eff E o s.ev (tlook s.ob) k' = k' e) : St P E c F ops o s (s.app o.dst e) (e.u.map (·.1))
  | pass (j d : Nat) (g t : Bool) (hg : o.guard = some (j, g)) (hd : (ops[j]?).bind (·.dst) = some d) (hs : s.sl[d]? = some (.dv .bool t)) (hne : t ≠ g) : St P E c F ops o s (s.put o.dst (.cst undef)) []
  | skip (j d : Nat) (g : Bool) (xs : Array Value) (hg : o.guard = some (j, g)) (hd : (ops[j]?).bind (·.dst) = some d) (hs : s.sl[d]? = some (.cst (.tuple xs))) : St P E c F ops o s (s.put o.dst (.cst undef)) []

section
variable {P : Program} {E : Env} {c : Cx} {F : Nat → Prop} {s : TS}

theorem pg_st (hT : TOK P E.TI) (hE : EnvOk P E) {ops : Array Oper} {o : Oper} {α : Type} {k : TS → List Nat → Option α} {r : α} (h : pg E ops o s k = some r) : ∃ s' ks, k s' ks = some r ∧ St P E c F ops o s s' ks := by
  unfold pg at h
  split at h
  · rename_i hg
    obtain ⟨e, h1, h2, _⟩ := eff_ok (P := P) (c := c) (F := F) hT hE h
    exact ⟨_, _, h1, .run hg e h2⟩
  · rename_i j g hg
    split at h
    · rename_i d hd
      split at h
      · rename_i t hs
        cases t with
        | true =>
          simp only [cond_true] at h
          rw [lit_put hs] at h
          cases g with
          | true =>
            simp only [cond_true] at h
            obtain ⟨e, h1, h2, _⟩ := eff_ok (P := P) (c := c) (F := F) hT hE h
            exact ⟨_, _, h1, .want j d true hg hd hs e h2⟩
          | false => exact ⟨_, _, h, .pass j d false true hg hd hs (by decide)⟩
        | false =>
          simp only [cond_false] at h
          rw [lit_put hs] at h
          cases g with
          | false =>
            simp only [cond_false] at h
            obtain ⟨e, h1, h2, _⟩ := eff_ok (P := P) (c := c) (F := F) hT hE h
            exact ⟨_, _, h1, .want j d false hg hd hs e h2⟩
          | true => exact ⟨_, _, h, .pass j d true false hg hd hs (by decide)⟩
      · rename_i xs hs; exact ⟨_, _, h, .skip j d g xs hg hd hs⟩
      · cases h
    · cases h

theorem det_opW (hT : TOK P E.TI) (hE : EnvOk P E) {o : Oper} {e : Eff} (h : ∀ (β : Type) (k' : Eff → Option β), eff E o s.ev (tlook s.ob) k' = k' e) : OpW P c F o (fun s' => s' = s.app o.dst e) s := by
  obtain ⟨e', h1, h2, h3⟩ := eff_ok (P := P) (c := c) (F := F) (k := fun _ => some ()) (r := ()) hT hE (h Unit fun _ => some ())
  have : e' = e := by
    have a := h Eff fun x => some x
    rw [h2 Eff fun x => some x] at a
    exact Option.some.inj a
  subst this; exact h3

theorem RelM.yieldsNot {π : Nat → Pl} {a : Act} {w : World} (h : RelM c F π s a w) {ops : Array Oper} {j d : Nat} {xs : Array Value} (hd : (ops[j]?).bind (·.dst) = some d) (hs : s.sl[d]? = some (.cst (.tuple xs))) : yielded ops a.tmps j = none := by
  have h1 := h.slot d _ hs
  have hl : d < s.sl.length := (List.getElem?_eq_some_iff.1 hs).1
  have hl' : d < a.tmps.size := by rw [h.size]; exact hl
  have h2 : a.tmps.getD d undef = .tuple xs := h1
  have h3 : a.tmps[d]? = some (.tuple xs) := by
    rw [Array.getElem?_eq_getElem hl']; simp only [Array.getD, hl', dif_pos] at h2; exact congrArg some h2
  simp [yielded, hd, h3]

theorem PL.passU {ops : Array Oper} {o : Oper} {l : List Oper} {K : TS → Prop} {j d : Nat} {b b' : Bool} (hg : o.guard = some (j, b)) (hd : (ops[j]?).bind (·.dst) = some d) (hs : s.sl[d]? = some (.dv .bool b')) (hne : b' ≠ b)
    (h : PL P c F ops l K (s.put o.dst (.cst undef))) : PL P c F ops (o :: l) K s := fun nn a w Q hr hk => by
  have hr0 := hr
  obtain ⟨π, hm⟩ := hr0
  refine wpListIn_step fun K' hK' => ?_
  rw [if_neg (by simp [Region.wanted, hg, hm.yields hd hs]; exact hne)]
  exact ⟨fun _ _ => trivial, hK' _ _ (h nn _ w Q ⟨π, hm.put _ (x := .cst undef) rfl⟩ hk)⟩

theorem PL.skipU {ops : Array Oper} {o : Oper} {l : List Oper} {K : TS → Prop} {j d : Nat} {b : Bool} {xs : Array Value} (hg : o.guard = some (j, b)) (hd : (ops[j]?).bind (·.dst) = some d) (hs : s.sl[d]? = some (.cst (.tuple xs)))
    (h : PL P c F ops l K (s.put o.dst (.cst undef))) : PL P c F ops (o :: l) K s := fun nn a w Q hr hk => by
  have hr0 := hr
  obtain ⟨π, hm⟩ := hr0
  refine wpListIn_step fun K' hK' => ?_
  rw [if_neg (by simp [Region.wanted, hg, hm.yieldsNot hd hs])]
  exact ⟨fun _ _ => trivial, hK' _ _ (h nn _ w Q ⟨π, hm.put _ (x := .cst undef) rfl⟩ hk)⟩

/-- A step in a region, in the text's order. -/
theorem St.pl (hT : TOK P E.TI) (hE : EnvOk P E) {ops : Array Oper} {o : Oper} {l : List Oper} {K : TS → Prop} {s' : TS} {ks : List Nat} (h : St P E c F ops o s s' ks) (hk : PL P c F ops l K s') : PL P c F ops (o :: l) K s := by
  cases h with
  | run hg e hd => exact PL.opW hg ((det_opW hT hE hd).mono fun s2 e2 => by subst e2; exact hk)
  | want j d g hg hd hs e he => exact PL.wantW hg hd hs ((det_opW hT hE he).mono fun s2 e2 => by subst e2; exact hk)
  | pass j d g t hg hd hs hne => exact PL.passU hg hd hs hne hk
  | skip j d g xs hg hd hs => exact PL.skipU hg hd hs hk

theorem rops_ok (hT : TOK P E.TI) (hE : EnvOk P E) {ops : Array Oper} {α : Type} [Jn α] : ∀ (l : List Oper) {s : TS} {k : TS → Option α} {r : α}, rops E ops l s k = some r → PL P c F ops l (fun s' => k s' = some r) s
  | [], s, k, r, h => PL.nil h
  | o :: l, s, k, r, h => by
    have plain : pg E ops o s (fun s' _ => rops E ops l s' k) = some r → PL P c F ops (o :: l) (fun s' => k s' = some r) s := fun h => by
      obtain ⟨s', ks, h1, h2⟩ := pg_st (P := P) (c := c) (F := F) hT hE h
      exact h2.pl hT hE (rops_ok hT hE l h1)
    simp only [rops] at h
    split at h
    · exact plain h
    · rename_i hg
      split at h
      · rename_i s1 s2 b htw
        obtain ⟨hb, h⟩ := chk_some h
        obtain ⟨h1, h2⟩ := Jn.ok h
        exact PL.opW hg ((twin_ok hT htw hb).mono fun s' e => by
          rcases e with rfl | rfl
          · exact rops_ok hT hE l h1
          · exact rops_ok hT hE l h2)
      · split at h
        · rename_i id kt vt l0 hit
          obtain ⟨h1, h2⟩ := eachK_ok h
          exact PL.opW hg ((next_ok hit).mono fun s' e => by
            rcases e with ⟨e, rfl⟩ | ⟨u, q, v, e, rfl⟩
            · exact rops_ok hT hE l (h1 e)
            · exact rops_ok hT hE l (h2 u q v e))
        · exact plain h

end
end Go.Proofs.YtbjfbbfglkmadaaDoor
