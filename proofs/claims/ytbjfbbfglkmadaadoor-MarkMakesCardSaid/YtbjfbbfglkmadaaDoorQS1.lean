/-
  Lifting Go functions to plain Lean functions, part S1: an operation looks at its operands alone; calls of functions.
-/
import Derived.Test.YtbjfbbfglkmadaaDoorQS0
namespace Go.Proofs.YtbjfbbfglkmadaaDoor
open Go.RowKit
set_option linter.unusedVariables false

section
variable {ev ev' : Operand → TV} {L : Obs}

theorem asL_ev {t : DT} : ∀ {xs : List Operand}, (∀ x ∈ xs, ev x = ev' x) → asL ev L t xs = asL ev' L t xs
  | [], _ => rfl
  | x :: r, h => by simp only [asL, h x (by simp), asL_ev (xs := r) fun y hy => h y (by simp [hy])]

theorem tfill_ev {t : DT} {d : TD} : ∀ {xs : List (Nat × Operand)} {z : t.den}, (∀ x ∈ xs, ev x.2 = ev' x.2) → tfill ev L t d xs z = tfill ev' L t d xs z
  | [], z, _ => rfl
  | (i, x) :: r, z, h => by
    have e : ev x = ev' x := h (i, x) (by simp)
    simp only [tfill, e]
    split
    · split
      · split
        · rw [tfill_ev (xs := r) fun y hy => h y (by simp [hy])]
        · rfl
      · rfl
    · rfl

theorem ixOf_ev {o : Option Operand} (h : ∀ x ∈ o.toList, ev x = ev' x) : ixOf ev o = ixOf ev' o := by
  cases o with
  | none => rfl
  | some x => simp only [ixOf, h x (by simp)]

theorem tval_ev (TI : Nat → TD) {op : Op} (h : ∀ x ∈ opsOf op, ev x = ev' x) : tval TI ev L op = tval TI ev' L op := by
  cases op with
  | call c =>
    obtain ⟨callee, args, ats⟩ := c
    simp only [tval]
    split
    · rename_i x T hx ht
      have ha : args = #[x] := by apply Array.ext'; simpa using hx
      subst ha
      rw [h x (by simp [opsOf, Op.operands, Call.operands])]
    · rfl
  | makeFunc fn first caps =>
    have e : (first ++ caps).toList.map ev = (first ++ caps).toList.map ev' := List.map_congr_left fun x hx => h x hx
    simp only [tval, e]
  | move x => simp only [tval, h x (by simp [opsOf, Op.operands])]
  | assign x => simp only [tval, h x (by simp [opsOf, Op.operands])]
  | nilCheck x => simp only [tval, h x (by simp [opsOf, Op.operands])]
  | binOp op t x y u => simp only [tval, h x (by simp [opsOf, Op.operands]), h y (by simp [opsOf, Op.operands])]
  | unOp op t x => simp only [tval, h x (by simp [opsOf, Op.operands])]
  | convert s d x => simp only [tval, h x (by simp [opsOf, Op.operands])]
  | extract x i => simp only [tval, h x (by simp [opsOf, Op.operands])]
  | load T x => simp only [tval, h x (by simp [opsOf, Op.operands])]
  | indexAddr T x y => simp only [tval, h x (by simp [opsOf, Op.operands]), h y (by simp [opsOf, Op.operands])]
  | fieldAddr T x y => simp only [tval, h x (by simp [opsOf, Op.operands])]
  | index T x y => simp only [tval, h x (by simp [opsOf, Op.operands]), h y (by simp [opsOf, Op.operands])]
  | _ => rfl

theorem tmore_ev (TI : Nat → TD) (TY : Nat → DT) {op : Op} (h : ∀ x ∈ opsOf op, ev x = ev' x) : tmore TI TY ev L op = tmore TI TY ev' L op := by
  cases op with
  | slice T x lo hi mx =>
    have h1 : ixOf ev lo = ixOf ev' lo := ixOf_ev fun y hy => h y (by simp [opsOf, Op.operands] at hy ⊢; simp [hy])
    have h2 : ixOf ev hi = ixOf ev' hi := ixOf_ev fun y hy => h y (by simp [opsOf, Op.operands] at hy ⊢; simp [hy])
    have h3 : ixOf ev mx = ixOf ev' mx := ixOf_ev fun y hy => h y (by simp [opsOf, Op.operands] at hy ⊢; simp [hy])
    simp only [tmore, h1, h2, h3, h x (by simp [opsOf, Op.operands])]
  | load T x => simp only [tmore, h x (by simp [opsOf, Op.operands])]
  | makeInterface T x => simp only [tmore, h x (by simp [opsOf, Op.operands])]
  | nilCheck x => simp only [tmore, h x (by simp [opsOf, Op.operands])]
  | fieldAddr T x i => simp only [tmore, h x (by simp [opsOf, Op.operands])]
  | binOp op T x y yt => simp only [tmore, h x (by simp [opsOf, Op.operands]), h y (by simp [opsOf, Op.operands])]
  | typeAssert x X T ok =>
    cases ok with
    | false => rfl
    | true => simp only [tmore, h x (by simp [opsOf, Op.operands])]
  | _ => rfl

theorem tappend_ev (TI : Nat → TD) (TY : Nat → DT) (d T : Nat) (x y : TV) : tappend TI TY ev L d T x y = tappend TI TY ev' L d T x y := rfl

theorem tobj_ev (TI : Nat → TD) (TY : Nat → DT) (rc : Nat → Option (List (Option DT))) {dst : Option Nat} {op : Op} (h : ∀ x ∈ opsOf op, ev x = ev' x) : tobj TI TY rc ev L dst op = tobj TI TY rc ev' L dst op := by
  cases op with
  | call c =>
    obtain ⟨callee, args, ats⟩ := c
    simp only [tobj]
    split
    · rename_i x y T T' hx ht
      have ha : args = #[x, y] := by apply Array.ext'; simpa using hx
      subst ha
      rw [h x (by simp [opsOf, Op.operands, Call.operands]), h y (by simp [opsOf, Op.operands, Call.operands]), tappend_ev (ev' := ev')]
    · rfl
  | box T x => simp only [tobj, h x (by simp [opsOf, Op.operands])]
  | buildSlice T n parts =>
    simp only [tobj]
    split
    · rw [asL_ev (ev' := ev') fun x hx => h x (by simpa [opsOf, Op.operands] using hx)]
    · rfl
  | makeSlice T x y => simp only [tobj, h x (by simp [opsOf, Op.operands]), h y (by simp [opsOf, Op.operands])]
  | build T parts =>
    simp only [tobj]
    rw [tfill_ev (ev' := ev') fun x hx => h x.2 (by simp only [opsOf, Op.operands]; exact List.mem_map_of_mem hx)]
  | store T x y => simp only [tobj, h x (by simp [opsOf, Op.operands]), h y (by simp [opsOf, Op.operands])]
  | _ => rfl

theorem tfzApp_ev (E : Env) {dst : Option Nat} {op : Op} (h : ∀ x ∈ opsOf op, ev x = ev' x) : tfzApp E ev L dst op = tfzApp E ev' L dst op := by
  cases op with
  | call c =>
    obtain ⟨callee, args, ats⟩ := c
    simp only [tfzApp]
    split
    · rename_i x y T T' hx ht
      have ha : args = #[x, y] := by apply Array.ext'; simpa using hx
      subst ha
      rw [h x (by simp [opsOf, Op.operands, Call.operands]), h y (by simp [opsOf, Op.operands, Call.operands])]
    · rfl
  | box T x => simp only [tfzApp, h x (by simp [opsOf, Op.operands])]
  | assign x => simp only [tfzApp, h x (by simp [opsOf, Op.operands])]
  | slice T x lo hi mx =>
    have h0 : ev x = ev' x := h x (by simp [opsOf, Op.operands])
    have h1 : ixOf ev lo = ixOf ev' lo := ixOf_ev fun y hy => h y (by simp [opsOf, Op.operands] at hy ⊢; simp [hy])
    have h2 : ixOf ev hi = ixOf ev' hi := ixOf_ev fun y hy => h y (by simp [opsOf, Op.operands] at hy ⊢; simp [hy])
    simp only [tfzApp, tmv, h0, h1, h2]
  | _ => rfl

theorem tmap_ev (TI : Nat → TD) {dst : Option Nat} {op : Op} (h : ∀ x ∈ opsOf op, ev x = ev' x) : tmap TI ev L dst op = tmap TI ev' L dst op := by
  cases op with
  | makeMap T r =>
    cases r with
    | none => rfl
    | some x => simp only [tmap, h x (by simp [opsOf, Op.operands])]
  | range T m => simp only [tmap, h m (by simp [opsOf, Op.operands])]
  | entry x => simp only [tmap, h x (by simp [opsOf, Op.operands])]
  | lookup T m ix ok => simp only [tmap, h m (by simp [opsOf, Op.operands]), h ix (by simp [opsOf, Op.operands])]
  | mapUpdate T m k y => simp only [tmap, h m (by simp [opsOf, Op.operands]), h k (by simp [opsOf, Op.operands]), h y (by simp [opsOf, Op.operands])]
  | insert T m k y => simp only [tmap, h m (by simp [opsOf, Op.operands]), h k (by simp [opsOf, Op.operands]), h y (by simp [opsOf, Op.operands])]
  | binOp op T x y yt => simp only [tmap, h x (by simp [opsOf, Op.operands]), h y (by simp [opsOf, Op.operands])]
  | call c =>
    obtain ⟨callee, args, ats⟩ := c
    simp only [tmap]
    split
    · rename_i x y hx
      have ha : args = #[x, y] := by apply Array.ext'; simpa using hx
      subst ha
      rw [h x (by simp [opsOf, Op.operands, Call.operands]), h y (by simp [opsOf, Op.operands, Call.operands])]
    · rename_i x y hx
      have ha : args = #[x, y] := by apply Array.ext'; simpa using hx
      subst ha
      rw [h x (by simp [opsOf, Op.operands, Call.operands]), h y (by simp [opsOf, Op.operands, Call.operands])]
    · rename_i x y hx
      have ha : args = #[x, y] := by apply Array.ext'; simpa using hx
      subst ha
      rw [h x (by simp [opsOf, Op.operands, Call.operands]), h y (by simp [opsOf, Op.operands, Call.operands])]
    · rfl
  | _ => rfl

theorem tpart_ev {d : TD} : ∀ {r : List (Nat × Operand)} {l : List TV}, (∀ x ∈ r, ev x.2 = ev' x.2) → tpart ev L d r l = tpart ev' L d r l
  | [], l, _ => rfl
  | (i, x) :: r, l, h => by
    have e : ev x = ev' x := h (i, x) (by simp)
    simp only [tpart, e]
    split
    · split
      · exact tpart_ev fun y hy => h y (by simp [hy])
      · rfl
    · rfl

theorem tst_ev (TI : Nat → TD) (TY : Nat → DT) (rc : Nat → Option (List (Option DT))) {dst : Option Nat} {op : Op} (h : ∀ x ∈ opsOf op, ev x = ev' x) : tst TI TY rc ev L dst op = tst TI TY rc ev' L dst op := by
  cases op with
  | build T parts =>
    simp only [tst]
    split
    · split
      · rw [tpart_ev (ev' := ev') fun x hx => h x.2 (by simp only [opsOf, Op.operands]; exact List.mem_map_of_mem hx)]
      · rfl
    · rfl
  | store T x y => simp only [tst, h x (by simp [opsOf, Op.operands]), h y (by simp [opsOf, Op.operands])]
  | box T x => simp only [tst, h x (by simp [opsOf, Op.operands])]
  | slice T x lo hi mx =>
    have h0 : ev x = ev' x := h x (by simp [opsOf, Op.operands])
    have h1 : ixOf ev lo = ixOf ev' lo := ixOf_ev fun y hy => h y (by simp [opsOf, Op.operands] at hy ⊢; simp [hy])
    have h2 : ixOf ev hi = ixOf ev' hi := ixOf_ev fun y hy => h y (by simp [opsOf, Op.operands] at hy ⊢; simp [hy])
    simp only [tst, h0, h1, h2]
  | call c =>
    obtain ⟨callee, args, ats⟩ := c
    simp only [tst]
    split
    · rename_i x T hx ht
      have ha : args = #[x] := by apply Array.ext'; simpa using hx
      subst ha
      rw [h x (by simp [opsOf, Op.operands, Call.operands])]
    · rename_i x y T T' hx ht
      have ha : args = #[x, y] := by apply Array.ext'; simpa using hx
      subst ha
      rw [h x (by simp [opsOf, Op.operands, Call.operands]), h y (by simp [opsOf, Op.operands, Call.operands])]
    · rename_i x T hx ht
      have ha : args = #[x] := by apply Array.ext'; simpa using hx
      subst ha
      rw [h x (by simp [opsOf, Op.operands, Call.operands])]
    · rename_i x T hx ht
      have ha : args = #[x] := by apply Array.ext'; simpa using hx
      subst ha
      rw [h x (by simp [opsOf, Op.operands, Call.operands])]
    · rfl
  | indexAddr T x y => simp only [tst, h x (by simp [opsOf, Op.operands]), h y (by simp [opsOf, Op.operands])]
  | _ => rfl

theorem needs_ev {op : Op} (h : ∀ x ∈ opsOf op, ev x = ev' x) : needs ev L op = needs ev' L op := by
  cases op with
  | buildSlice T n parts => simp only [needs, List.flatMap]; exact congrArg _ (List.map_congr_left fun p hp => by rw [h p.2 (by simp only [opsOf, Op.operands]; exact List.mem_map_of_mem hp)])
  | build T parts => simp only [needs, List.flatMap]; exact congrArg _ (List.map_congr_left fun p hp => by rw [h p.2 (by simp only [opsOf, Op.operands]; exact List.mem_map_of_mem hp)])
  | store T x y => simp only [needs, h x (by simp [opsOf, Op.operands]), h y (by simp [opsOf, Op.operands])]
  | load T x => simp only [needs, h x (by simp [opsOf, Op.operands])]
  | mapUpdate T m k y => simp only [needs, h k (by simp [opsOf, Op.operands]), h y (by simp [opsOf, Op.operands])]
  | insert T m k y => simp only [needs, h k (by simp [opsOf, Op.operands]), h y (by simp [opsOf, Op.operands])]
  | _ => rfl

theorem effN_ev (E : Env) {o : Oper} (h : ∀ x ∈ opsOf o.op, ev x = ev' x) : effN E o ev L = effN E o ev' L := by
  unfold effN
  rw [needs_ev h, tst_ev E.TI E.TY E.rc h]
  simp only [tval_ev E.TI h, tmore_ev E.TI E.TY h, tfzApp_ev E h, tobj_ev E.TI E.TY E.rc h, tmap_ev E.TI h]

theorem eff_ev {α : Type} (E : Env) {o : Oper} (h : ∀ x ∈ opsOf o.op, ev x = ev' x) (k : Eff → Option α) : eff E o ev L k = eff E o ev' L k := by
  obtain ⟨dst, op, ty, pos, after, g⟩ := o
  unfold eff
  rw [effN_ev E h]
  split
  · rfl
  · simp only
    cases op with
    | pick c x y => simp only [h c (by simp [opsOf, Op.operands]), h x (by simp [opsOf, Op.operands]), h y (by simp [opsOf, Op.operands])]
    | call c =>
      obtain ⟨callee, args, ats⟩ := c
      cases callee with
      | value x =>
        have e : args.toList.map ev = args.toList.map ev' := List.map_congr_left fun y hy => h y (by simp [opsOf, Op.operands, Call.operands]; exact .inr (by simpa using hy))
        simp only [h x (by simp [opsOf, Op.operands, Call.operands]), e]
      | invoke x name =>
        have e : args.toList.map ev = args.toList.map ev' := List.map_congr_left fun y hy => h y (by simp [opsOf, Op.operands, Call.operands]; exact .inr (by simpa using hy))
        simp only [h x (by simp [opsOf, Op.operands, Call.operands]), e]
      | _ => rfl
    | _ => rfl

end

/-- Objects that can be come to, and what they hold. -/
structure Cls (L L' : Obs) (R : List Nat) : Prop where
  cl : ∀ i ∈ R, ∀ ob, L i = some ob → ∀ j ∈ ob.ids, j ∈ R
  eq : ∀ i ∈ R, L i = L' i

section
variable {L L' : Obs} {R : List Nat}

theorem Cls.ovr {U : List (Nat × TO)} (h : Cls L L' R) (hU : ∀ i ob, tlook U i = some ob → ob.ids = []) : Cls (ovr U L) (Go.Proofs.YtbjfbbfglkmadaaDoor.ovr U L') R :=
  ⟨fun i hi ob hob j hj => by
    simp only [Go.Proofs.YtbjfbbfglkmadaaDoor.ovr] at hob
    cases hu : tlook U i with
    | some o' => rw [hu] at hob; obtain rfl := Option.some.inj hob; rw [hU i _ hu] at hj; simp at hj
    | none => rw [hu] at hob; exact h.cl i hi ob hob j hj, fun i hi => by simp only [Go.Proofs.YtbjfbbfglkmadaaDoor.ovr, h.eq i hi]⟩

theorem reachF_local (h : Cls L L' R) : ∀ (n : Nat) (todo acc : List Nat), (∀ i ∈ todo, i ∈ R) → reachF n L todo acc = reachF n L' todo acc
  | 0, _, _, _ => by simp only [reachF]
  | n + 1, [], acc, _ => by simp only [reachF]
  | n + 1, i :: todo, acc, ht => by
    simp only [reachF, ← h.eq i (ht i (by simp))]
    split
    · exact reachF_local h n todo acc fun j hj => ht j (by simp [hj])
    · cases ho : L i with
      | none => exact reachF_local h n todo acc fun j hj => ht j (by simp [hj])
      | some ob =>
        exact reachF_local h n _ _ fun j hj => by
          rcases List.mem_append.1 hj with q | q
          · exact ht j (by simp [q])
          · exact h.cl i (ht i (by simp)) ob ho j q

theorem reachF_in (h : Cls L L' R) : ∀ (n : Nat) (todo acc : List Nat), (∀ i ∈ todo, i ∈ R) → (∀ i ∈ acc, i ∈ R) → ∀ i ∈ reachF n L todo acc, i ∈ R
  | 0, _, acc, _, ha => by simp only [reachF]; exact ha
  | n + 1, [], acc, _, ha => by simp only [reachF]; exact ha
  | n + 1, i :: todo, acc, ht, ha => by
    simp only [reachF]
    split
    · exact reachF_in h n todo acc (fun j hj => ht j (by simp [hj])) ha
    · cases ho : L i with
      | none => exact reachF_in h n todo acc (fun j hj => ht j (by simp [hj])) ha
      | some ob =>
        exact reachF_in h n _ _ (fun j hj => by
          rcases List.mem_append.1 hj with q | q
          · exact ht j (by simp [q])
          · exact h.cl i (ht i (by simp)) ob ho j q) fun j hj => by
            rcases List.mem_append.1 hj with q | q
            · exact ha j q
            · simp at q; subst q; exact ht j (by simp)

theorem lend_local {x : TV} (h : ∀ i ∈ x.ids, L i = L' i) : x.lend L = x.lend L' := by
  cases x with
  | view id i p k n a b => simp only [TV.lend, h id (by simp [TV.ids])]
  | _ => simp only [TV.lend]; rw [TV.data_local h]

theorem lendAs_local {x : TV} (h : ∀ i ∈ x.ids, L i = L' i) (t : DT) : lendAs L x t = lendAs L' x t := by
  cases t <;> simp only [lendAs, lend_local h, TV.as_local h]

theorem cvt_local : ∀ {mds : List Md} {xs : List TV}, (∀ x ∈ xs, ∀ i ∈ x.ids, L i = L' i) → cvt L mds xs = cvt L' mds xs
  | [], [], _ => rfl
  | m :: ms, x :: xs, h => by
    simp only [cvt, cvt_local (mds := ms) (xs := xs) fun y hy => h y (by simp [hy])]
    split
    · cases m with
      | obj => rfl
      | lend t => simp only [lendAs_local (h x (by simp))]
      | own t => simp only [TV.as_local (h x (by simp))]
    · rfl
  | [], _ :: _, _ => rfl
  | _ :: _, [], _ => rfl

theorem ownIds_in : ∀ {mds : List Md} {xs : List TV}, ∀ i ∈ ownIds mds xs, ∃ x ∈ xs, i ∈ x.ids
  | [], _, i, h => by simp [ownIds] at h
  | m :: ms, [], i, h => by cases m <;> simp [ownIds] at h
  | m :: ms, x :: xs, i, h => by
    have ih := ownIds_in (mds := ms) (xs := xs) i
    cases m with
    | own t =>
      simp only [ownIds, List.mem_append] at h
      rcases h with h | h
      · exact ⟨x, by simp, rowId_ids h⟩
      · obtain ⟨y, a, b⟩ := ih h; exact ⟨y, by simp [a], b⟩
    | obj => simp only [ownIds] at h; obtain ⟨y, a, b⟩ := ih h; exact ⟨y, by simp [a], b⟩
    | lend t => simp only [ownIds] at h; obtain ⟨y, a, b⟩ := ih h; exact ⟨y, by simp [a], b⟩

theorem objIds_in : ∀ {mds : List Md} {xs : List TV}, ∀ i ∈ objIds mds xs, ∃ x ∈ xs, i ∈ x.ids
  | [], _, i, h => by simp [objIds] at h
  | m :: ms, [], i, h => by cases m <;> simp [objIds] at h
  | m :: ms, x :: xs, i, h => by
    have ih := objIds_in (mds := ms) (xs := xs) i
    cases m with
    | obj =>
      simp only [objIds, List.mem_append] at h
      rcases h with h | h
      · exact ⟨x, by simp, h⟩
      · obtain ⟨y, a, b⟩ := ih h; exact ⟨y, by simp [a], b⟩
    | own t => simp only [objIds] at h; obtain ⟨y, a, b⟩ := ih h; exact ⟨y, by simp [a], b⟩
    | lend t => simp only [objIds] at h; obtain ⟨y, a, b⟩ := ih h; exact ⟨y, by simp [a], b⟩

theorem lentIds_local : ∀ {mds : List Md} {xs : List TV}, (∀ x ∈ xs, ∀ i ∈ x.ids, L i = L' i) → lentIds L mds xs = lentIds L' mds xs
  | [], _, _ => by simp only [lentIds]
  | m :: ms, [], _ => by cases m <;> simp only [lentIds]
  | m :: ms, x :: xs, h => by
    have ih := lentIds_local (mds := ms) (xs := xs) fun y hy => h y (by simp [hy])
    cases m with
    | lend t =>
      simp only [lentIds, ih]
      congr 1
      exact List.filter_congr fun i hi => by rw [h x (by simp) i hi]
    | obj => simp only [lentIds, ih]
    | own t => simp only [lentIds, ih]

theorem all_congr {β : Type} {l : List β} {p q : β → Bool} (h : ∀ x ∈ l, p x = q x) : l.all p = l.all q := by
  induction l with
  | nil => rfl
  | cons a r ih => simp only [List.all_cons, h a (by simp), ih fun x hx => h x (by simp [hx])]

/-- A call of a function, with another view of the objects. -/
theorem callE_local {P : Program} {E : Env} (hE : EnvOk P E) {d g : Nat} {xs : List TV} {e : Eff} (hx : ∀ x ∈ xs, ∀ i ∈ x.ids, i ∈ R) (h : Cls L L' R) (hk : ∀ p ∈ e.u, L p.1 = L' p.1)
    (hd : ∀ (β : Type) (k' : Eff → Option β), callE E d g xs L k' = k' e) (β : Type) (k' : Eff → Option β) : callE E d g xs L' k' = k' e := by
  have h0 := hd Eff fun x => some x
  unfold callE at h0 ⊢
  cases hs : E.sig g xs with
  | none => rw [hs] at h0; cases h0
  | some mds =>
    rw [hs] at h0
    simp only at h0 ⊢
    have hown : ∀ i ∈ ownIds mds xs, i ∈ R := fun i hi => by obtain ⟨x, a, b⟩ := ownIds_in i hi; exact hx x a i b
    have hobj : ∀ i ∈ objIds mds xs, i ∈ R := fun i hi => by obtain ⟨x, a, b⟩ := objIds_in i hi; exact hx x a i b
    rw [← frzU_local (L := L) (L' := L') fun i hi => h.eq i (hown i hi)]
    have hU : ∀ i ob, tlook (frzU L (ownIds mds xs)) i = some ob → ob.ids = [] := frzU_ids
    have h1 := h.ovr hU
    have hk1 : ∀ p ∈ e.u, ovr (frzU L (ownIds mds xs)) L p.1 = ovr (frzU L (ownIds mds xs)) L' p.1 := fun p hp => by simp only [ovr, hk p hp]
    generalize frzU L (ownIds mds xs) = U0 at h0 h1 hk1 ⊢
    generalize ovr U0 L = L1 at h0 h1 hk1 ⊢
    generalize ovr U0 L' = L2 at h1 hk1 ⊢
    have hxe : ∀ x ∈ xs, ∀ i ∈ x.ids, L1 i = L2 i := fun x a i b => h1.eq i (hx x a i b)
    rw [← cvt_local hxe, ← reachF_local h1 60 (objIds mds xs) [] hobj, ← lentIds_local hxe]
    cases hc : cvt L1 mds xs with
    | none => rw [hc] at h0; cases h0
    | some q =>
      obtain ⟨as, b⟩ := q
      rw [hc] at h0
      simp only at h0 ⊢
      have hin := reachF_in h1 60 (objIds mds xs) [] hobj (fun i hi => by simp at hi)
      generalize reachF 60 L1 (objIds mds xs) [] = T at h0 hin ⊢
      split at h0
      · rename_i hcond
        obtain ⟨hb, h0⟩ := chk_some h0
        subst hb
        obtain ⟨rv, O', g1, g2, _⟩ := hE _ _ _ _ _ _ h0
        simp only [Bool.and_eq_true, List.all_eq_true] at hcond
        obtain ⟨⟨⟨k1, k2⟩, k3⟩, k4⟩ := hcond
        rw [if_pos (by simp only [Bool.and_eq_true, List.all_eq_true]; exact ⟨⟨⟨fun i hi => by rw [← h1.eq i (hin i hi)]; exact k1 i hi, k2⟩, k3⟩, k4⟩)]
        have hm : (T.map fun i => (tauR T i, ((L1 i).getD .dead).ren (tauR T))) = T.map fun i => (tauR T i, ((L2 i).getD .dead).ren (tauR T)) := List.map_congr_left fun i hi => by rw [h1.eq i (hin i hi)]
        rw [hm] at g2
        show E.phi _ _ _ _ = _
        rw [g2]
        split at g1
        · rename_i hg
          obtain rfl := Option.some.inj g1
          simp only [Bool.and_eq_true, List.all_eq_true] at hg
          obtain ⟨⟨q1, q2⟩, q3⟩ := hg
          rw [if_pos (by
            simp only [Bool.and_eq_true, List.all_eq_true]
            refine ⟨⟨q1, fun p hp => ?_⟩, q3⟩
            have hmem : (rhoR T d p.1, p.2.ren (rhoR T d)) ∈ renO (rhoR T d) O' ++ U0 := List.mem_append_left _ (by
              simp only [renO]; exact List.mem_map_of_mem (f := fun p => (rhoR T d p.1, p.2.ren (rhoR T d))) hp)
            rw [← hk1 _ hmem]
            exact q2 p hp)]
        · cases g1
      · cases h0

theorem eff_local {P : Program} {E : Env} (hE : EnvOk P E) {o : Oper} {ev : Operand → TV} {e : Eff} (h : Agr o ev L L' R) (hk : ∀ p ∈ e.u, L p.1 = L' p.1)
    (hd : ∀ (β : Type) (k' : Eff → Option β), eff E o ev L k' = k' e) (β : Type) (k' : Eff → Option β) : eff E o ev L' k' = k' e := by
  have hl := effN_local h E
  obtain ⟨dst, op, ty, pos, after, gd⟩ := o
  unfold eff at hd ⊢
  rw [← hl]
  cases hn : effN E ⟨dst, op, ty, pos, after, gd⟩ ev L with
  | some e' => simp only [hn] at hd ⊢; exact hd β k'
  | none =>
    simp only [hn] at hd ⊢
    cases op with
    | pick c x y => exact hd β k'
    | call c =>
      obtain ⟨callee, args, ats⟩ := c
      cases callee with
      | value x =>
        simp only at hd ⊢
        have hox := h.ops x (by simp [opsOf, Op.operands, Call.operands])
        cases hv : ev x with
        | fn g k n f =>
          rw [hv] at hd hox
          simp only at hd ⊢
          refine callE_local hE (R := R) ?_ ⟨h.cl, h.eq⟩ hk hd β k'
          intro y hy i hi
          simp only [fnArgs, List.mem_append, List.mem_map, List.mem_range] at hy
          rcases hy with (⟨j, hj, rfl⟩ | ⟨z, hz, rfl⟩) | ⟨j, hj, rfl⟩
          · exact hox i (by simp only [TV.ids, List.mem_flatMap, List.mem_range]; exact ⟨j, by omega, hi⟩)
          · exact h.ops z (by simp [opsOf, Op.operands, Call.operands]; exact .inr (by simpa using hz)) i hi
          · exact hox i (by simp only [TV.ids, List.mem_flatMap, List.mem_range]; exact ⟨k + j, by omega, hi⟩)
        | _ => rw [hv] at hd; have := hd Eff (fun x => some x); cases this
      | invoke x name =>
        simp only at hd ⊢
        cases hv : ev x with
        | dv u y =>
          rw [hv] at hd
          simp only at hd ⊢
          clear hv
          induction u with
          | ifc T t u' _ ih =>
            cases y with
            | inr b => exact ih b hd
            | inl b =>
              simp only [ivkE, ifElim] at hd ⊢
              split
              · rename_i ha; simp only [ha, if_true] at hd; have := hd Eff (fun x => some x); cases this
              · rename_i ha
                simp only [ha] at hd
                cases hg : (E.TI T).mth.lookup name with
                | none => simp only [hg] at hd; have := hd Eff (fun x => some x); cases this
                | some g =>
                  simp only [hg] at hd ⊢
                  refine callE_local hE (R := R) ?_ ⟨h.cl, h.eq⟩ hk hd β k'
                  intro z hz i hi
                  rcases List.mem_cons.1 hz with rfl | hz
                  · simp [TV.ids] at hi
                  · obtain ⟨p, hp, rfl⟩ := List.mem_map.1 hz
                    exact h.ops p (by simp [opsOf, Op.operands, Call.operands]; exact .inr (by simpa using hp)) i hi
          | _ => have := hd Eff (fun x => some x); cases this
        | _ => rw [hv] at hd; have := hd Eff (fun x => some x); cases this
      | _ => have := hd Eff (fun x => some x); cases this
    | _ => have := hd Eff (fun x => some x); cases this

end
end Go.Proofs.YtbjfbbfglkmadaaDoor
