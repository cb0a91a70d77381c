/-
  Lifting Go functions to plain Lean functions, part Ma: maps; division by what is not told.
-/
import Derived.Test.YtbjfbbfglkmadaaDoorQM
import Derived.Maps.RangeRun
namespace Go.Proofs.YtbjfbbfglkmadaaDoor
open Go.RowKit
set_option linter.unusedVariables false

def mget {kt vt : DT} : List (kt.den × vt.den) → kt.den → Option vt.den
  | [], _ => none
  | p :: r, x => cond (kt.beq x p.1) (some p.2) (mget r x)

def mput {kt vt : DT} : List (kt.den × vt.den) → kt.den → vt.den → List (kt.den × vt.den)
  | [], x, y => [(x, y)]
  | p :: r, x, y => cond (kt.beq x p.1) ((x, y) :: r) (p :: mput r x y)

/-- Where a key is. -/
def mfind {kt vt : DT} (x : kt.den) : List (kt.den × vt.den) → Option Nat
  | [] => none
  | p :: r => cond (kt.beq x p.1) (some 0) ((mfind x r).map (· + 1))

theorem mfind_none {kt vt : DT} {x : kt.den} : ∀ {l : List (kt.den × vt.den)}, mfind x l = none → mget l x = none ∧ ∀ y, mput l x y = l ++ [(x, y)]
  | [], _ => ⟨rfl, fun _ => rfl⟩
  | p :: r, h => by
    simp only [mfind] at h
    cases hb : kt.beq x p.1 with
    | true => rw [hb] at h; cases h
    | false =>
      rw [hb] at h
      simp only [cond_false, Option.map_eq_none_iff] at h
      obtain ⟨a, b⟩ := mfind_none h
      exact ⟨by simp only [mget, hb, cond_false]; exact a, fun y => by simp only [mput, hb, cond_false, b y, List.cons_append]⟩

theorem mfind_some {kt vt : DT} {x : kt.den} : ∀ {l : List (kt.den × vt.den)} {i : Nat}, mfind x l = some i → ∃ p, l[i]? = some p ∧ kt.beq x p.1 = true ∧ mget l x = some p.2 ∧ ∀ y, mput l x y = l.set i (x, y)
  | [], i, h => by cases h
  | p :: r, i, h => by
    simp only [mfind] at h
    cases hb : kt.beq x p.1 with
    | true =>
      rw [hb] at h
      simp only [cond_true, Option.some.injEq] at h
      subst h
      exact ⟨p, rfl, hb, by simp only [mget, hb, cond_true], fun y => by simp only [mput, hb, cond_true, List.set_cons_zero]⟩
    | false =>
      rw [hb] at h
      simp only [cond_false, Option.map_eq_some_iff] at h
      obtain ⟨j, hj, rfl⟩ := h
      obtain ⟨q, a, b, c, d⟩ := mfind_some hj
      exact ⟨q, by simpa using a, b, by simp only [mget, hb, cond_false]; exact c, fun y => by simp only [mput, hb, cond_false, d y, List.set_cons_succ]⟩

section
variable {P : Program} {kt vt : DT} {w : World} {G : Nat → Prop}

/-- Entries and what they hold. -/
def Ents (w : World) (G : Nat → Prop) (es : List MapEntry) (l : List (kt.den × vt.den)) : Prop :=
  es.length = l.length ∧ ∀ (i : Nat) (e : MapEntry) (p : kt.den × vt.den), es[i]? = some e → l[i]? = some p → kt.val p.1 w G e.key ∧ vt.val p.2 w G e.val

theorem Ents.tail {e : MapEntry} {es : List MapEntry} {p : kt.den × vt.den} {l : List (kt.den × vt.den)} (h : Ents w G (e :: es) (p :: l)) : (kt.val p.1 w G e.key ∧ vt.val p.2 w G e.val) ∧ Ents w G es l :=
  ⟨h.2 0 e p rfl rfl, by have := h.1; simpa using this, fun i e' p' he hp => h.2 (i + 1) e' p' (by simpa using he) (by simpa using hp)⟩

def mres (es : List MapEntry) (n : Nat) : Option Nat → Option (Nat × Value)
  | none => none
  | some i => some (n + i, (es[i]?.map (·.val)).getD undef)

theorem mres_cons (e : MapEntry) (es : List MapEntry) (n : Nat) (r : Option Nat) : mres (e :: es) n (r.map (· + 1)) = mres es (n + 1) r := by
  cases r with
  | none => rfl
  | some i => simp only [Option.map_some, mres, List.getElem?_cons_succ]; congr 2; omega

theorem findNow_ok {k : TypeId} {d : TypeDesc} (hnow : ∀ (x y : kt.den) (w : World) (G : Nat → Prop) (u v : Value), kt.val x w G u → kt.val y w G v → Instr.sameNow d u v = some (kt.beq x y)) {x : kt.den} {u : Value} (hu : kt.val x w G u) :
    ∀ (es : List MapEntry) (l : List (kt.den × vt.den)) (n : Nat), Ents w G es l → Instr.findNow d u es n = some (mres es n (mfind x l))
  | [], [], n, h => rfl
  | [], _ :: _, n, h => by have := h.1; simp at this
  | _ :: _, [], n, h => by have := h.1; simp at this
  | e :: es, p :: l, n, h => by
    obtain ⟨⟨h1, h2⟩, h3⟩ := h.tail
    simp only [Instr.findNow, hnow x p.1 w G u e.key hu h1, mfind]
    cases hb : kt.beq x p.1 with
    | true => rfl
    | false =>
      simp only [cond_false]
      rw [findNow_ok (k := k) hnow hu es l (n + 1) h3, mres_cons]

theorem findAsking_ok {k : TypeId} (heq : ∀ (x y : kt.den) (w : World) (G : Nat → Prop) (u v : Value), kt.val x w G u → kt.val y w G v → (Op.equal k u v).run P w = .ok (kt.beq x y) w) {x : kt.den} {u : Value} (hu : kt.val x w G u) :
    ∀ (es : List MapEntry) (l : List (kt.den × vt.den)) (n : Nat), Ents w G es l → (Instr.findAsking k u es n).run P w = .ok (mres es n (mfind x l)) w
  | [], [], n, h => rfl
  | [], _ :: _, n, h => by have := h.1; simp at this
  | _ :: _, [], n, h => by have := h.1; simp at this
  | e :: es, p :: l, n, h => by
    obtain ⟨⟨h1, h2⟩, h3⟩ := h.tail
    simp only [Instr.findAsking, Sem.run_bind, heq x p.1 w G u e.key hu h1, Result.andThen_ok, mfind]
    cases hb : kt.beq x p.1 with
    | true => rfl
    | false =>
      simp only [cond_false, Bool.false_eq_true, if_false]
      rw [findAsking_ok heq hu es l (n + 1) h3, mres_cons]

theorem findKey_ok {k : TypeId} (hk : MapKey P k kt) {x : kt.den} {u : Value} (hu : kt.val x w G u) {es : List MapEntry} {l : List (kt.den × vt.den)} (h : Ents w G es l) : (Instr.findKey k u es).run P w = .ok (mres es 0 (mfind x l)) w := by
  obtain ⟨d, h1, h2⟩ := hk.under
  unfold Instr.findKey
  simp only [Sem.run_bind, run_underlying h1, Result.andThen_ok]
  rcases h2 with h2 | ⟨h2, h3⟩
  · rw [findNow_ok (k := k) h2 hu es l 0 h]; rfl
  · cases es with
    | nil => cases l with
      | nil => rfl
      | cons p l => have := h.1; simp at this
    | cons e es => cases l with
      | nil => have := h.1; simp at this
      | cons p l =>
        have : Instr.findNow d u (e :: es) 0 = none := by
          simp only [Instr.findNow, h2 x p.1 w G u e.key hu h.tail.1.1]
        rw [this]
        exact findAsking_ok h3 hu _ _ 0 h

end

/-- What an operation on maps does; division by a number that is not told. -/
def imin (a b : Int) : Int := if b < a then b else a
def imax (a b : Int) : Int := if b > a then b else a

/-- A list copied into the whole of an array variable. -/
def tcopy (TI : Nat → TD) (L : Obs) (T : Nat) (x y : TV) : Option Eff :=
  match x with
  | .view id i [] k n 0 b => match L id with
    | some (.row (.arr m t) l) => match y.data L with
      | some ⟨t', ys⟩ => if h : t' = t then (if ((TI T).kd == 2 && (TI T).elem == t.size && t.plain) && (b == n && k == t.size && m == n && decide (0 < n)) then
          some ⟨.dv (.int .i64) (ys.length : Int), [(id, .row (.arr m t) (l.set i ((h ▸ ys) ++ (l.getD i (DT.arr m t).dflt).drop ys.length)))], decide (ys.length ≤ n)⟩ else none) else none
      | none => none
    | _ => none
  | _ => none

def tmap (TI : Nat → TD) (ev : Operand → TV) (L : Obs) (dst : Option Nat) : Op → Option Eff
  | .makeMap T r => match dst, (TI T).mkv with
    | some d, some (kt, vt) => match L d with
      | some _ => none
      | none => match r with
        | none => some ⟨.row d, [(d, .map kt vt [])], true⟩
        | some x => match ev x with
          | .dv (.int _) _ => some ⟨.row d, [(d, .map kt vt [])], true⟩
          | _ => none
    | _, _ => none
  | .lookup T m ix ok => match ev m with
    | .row id => match L id with
      | some (.map kt vt l) => if (TI T).mkv = some (kt, vt) then (match (ev ix).as L kt with
        | some (x, b) => if ok then some ⟨.tup 2 fun i => ([.dv vt ((mget l x).getD vt.dflt), .dv .bool (mget l x).isSome] : List TV).getD i .any, [], b⟩ else some ⟨.dv vt ((mget l x).getD vt.dflt), [], b⟩
        | none => none) else none
      | _ => none
    | _ => none
  | .mapUpdate T m k y => match ev m with
    | .row id => match L id with
      | some (.map kt vt l) => if (TI T).mkv = some (kt, vt) then (match (ev k).as L kt, (ev y).as L vt with
        | some (x, b), some (z, b') => some ⟨.any, [(id, .map kt vt (mput l x z))], b && b'⟩
        | _, _ => none) else none
      | _ => none
    | _ => none
  | .insert T m k y => match ev m with
    | .row id => match L id with
      | some (.map kt vt l) => if (TI T).mkv = some (kt, vt) then (match (ev k).as L kt, (ev y).as L vt with
        | some (x, b), some (z, b') => some ⟨.any, [(id, .map kt vt (mput l x z))], b && b'⟩
        | _, _ => none) else none
      | _ => none
    | _ => none
  | .binOp op T x y _ => match ev x, ev y with
    | .dv (.int k) a, .dv (.int k') b => match op with
      | .shl => some ⟨.dv (.int k) (k.wrap ((a : Int) * 2 ^ min (Int.toNat b) k.bits)), [], decide (0 ≤ (b : Int))⟩
      | .shr => some ⟨.dv (.int k) (Int.fdiv a (2 ^ min (Int.toNat b) k.bits)), [], decide (0 ≤ (b : Int))⟩
      | op => if k = k' then (match op with
        | .quo => some ⟨.dv (.int k) (k.wrap (Int.tdiv a b)), [], decide ((b : Int) ≠ 0)⟩
        | .rem => some ⟨.dv (.int k) (Int.tmod a b), [], decide ((b : Int) ≠ 0)⟩
        | _ => none) else none
    | _, _ => none
  | .call cl => match cl.callee, cl.args.toList with
    | .builtin .min, [x, y] => (match ev x, ev y with
      | .dv (.int k) a, .dv (.int k') b => if k = k' then some ⟨.dv (.int k) (imin a b), [], true⟩ else none
      | _, _ => none)
    | .builtin .max, [x, y] => (match ev x, ev y with
      | .dv (.int k) a, .dv (.int k') b => if k = k' then some ⟨.dv (.int k) (imax a b), [], true⟩ else none
      | _, _ => none)
    | .builtin .copy, [x, y] => (match cl.argTypes.toList with
      | [T, _] => tcopy TI L T (ev x) (ev y)
      | _ => none)
    | _, _ => none
  | .range T m => match dst, ev m with
    | some d, .row id => match L id, L d with
      | some (.map kt vt l), none => if (TI T).mkv = some (kt, vt) then some ⟨.row d, [(d, .iter kt vt l none), (id, .dead)], true⟩ else none
      | _, _ => none
    | _, _ => none
  | .entry x => match ev x with
    | .row id => match L id with
      | some (.iter kt vt l (some p)) => some ⟨.tup 2 fun i => ([.dv kt p.1, .dv vt p.2] : List TV).getD i .any, [(id, .iter kt vt l none)], true⟩
      | _ => none
    | _ => none
  | _ => none

section
variable {P : Program} {TI : Nat → TD} {c : Cx} {F : Nat → Prop} {s : TS} {π : Nat → Pl} {a : Act} {w : World}

theorem RelM.ents (hm : RelM c F π s a w) {id : Nat} {kt vt : DT} {l : List (kt.den × vt.den)} (ho : tlook s.ob id = some (.map kt vt l)) : ∃ g es ck, (π id).g = some g ∧ w.heap[g]? = some (.map es ck) ∧ Ents w (Gz F w π (tlook s.ob)) es.toList l ∧ (∀ (i : Nat) (e : MapEntry), es[i]? = some e → e.born < ck) ∧ (∀ (i j : Nat) (e e' : MapEntry), es[i]? = some e → es[j]? = some e' → e.born = e'.born → i = j) := by
  obtain ⟨g, es, ck, h1, h2, h3, h4, h5, h6⟩ := hm.obj id _ ho
  refine ⟨g, es, ck, h1, h2, ⟨by simpa using h3, fun i e p he hp => ?_⟩, h4, h5⟩
  obtain ⟨x, a1, a2, a3⟩ := h6 i e (by simpa using he)
  rw [hp] at a1; obtain rfl := Option.some.inj a1
  exact ⟨a2, a3⟩

/-- A map is turned. -/
theorem RelM.setMap (hm : RelM c F π s a w) {id g : Nat} {kt vt : DT} {l l' : List (kt.den × vt.den)} (ho : tlook s.ob id = some (.map kt vt l)) (hg : (π id).g = some g) {es es' : Array MapEntry} {ck ck' : Nat} (hb : w.heap[g]? = some (.map es ck))
    (h1 : Ents w (Gz F w π (tlook s.ob)) es'.toList l') (h2 : ∀ (i : Nat) (e : MapEntry), es'[i]? = some e → e.born < ck') (h3 : ∀ (i j : Nat) (e e' : MapEntry), es'[i]? = some e → es'[j]? = some e' → e.born = e'.born → i = j) :
    RelM c F π ⟨s.sl, (id, .map kt vt l') :: s.ob⟩ a { w with heap := w.heap.setIfInBounds g (.map es' ck') } := by
  obtain ⟨q1, q2⟩ := MapKept.heap_set (o' := .map es' ck') hb
  have hsz : (w.heap.setIfInBounds g (.map es' ck')).size = w.heap.size := by simp
  have E : Evo w (Gz F w π (tlook s.ob)) π (tlook s.ob) { w with heap := w.heap.setIfInBounds g (.map es' ck') } (Gz F { w with heap := w.heap.setIfInBounds g (.map es' ck') } π (tlook ((id, .map kt vt l') :: s.ob))) π (tlook ((id, .map kt vt l') :: s.ob)) :=
    Evo.set ho hg rfl rfl (fun _ => rfl) (fun b hb' => q2 b hb') hsz
  refine hm.set ho hg rfl rfl (fun _ => rfl) (fun b hb' => q2 b hb') hsz ⟨rfl, rfl, rfl⟩ ⟨g, es', ck', hg, q1, by simpa using h1.1, h2, h3, fun i e he => ?_⟩
  have hi : i < l'.length := by have := (Array.getElem?_eq_some_iff.1 he).1; have := h1.1; simp at this; omega
  obtain ⟨b1, b2⟩ := h1.2 i e l'[i] (by simpa using he) (by simp [hi])
  exact ⟨l'[i], by simp [hi], DT.val_mono E.fz b1, DT.val_mono E.fz b2⟩

theorem update_ok (hT : TOK P TI) (hm : RelM c F π s a w) {T id : Nat} {kt vt : DT} {l : List (kt.den × vt.den)} (ho : tlook s.ob id = some (.map kt vt l)) (hk : (TI T).mkv = some (kt, vt)) {m u v : Value} (hv : VR w (Gz F w π (tlook s.ob)) π (tlook s.ob) (.row id) m) {x : kt.den} {z : vt.den} (hx : kt.val x w (Gz F w π (tlook s.ob)) u) (hz : vt.val z w (Gz F w π (tlook s.ob)) v) :
    ∃ w', (Instr.mapUpdate T m u v).run P w = .ok () w' ∧ RelM c F π ⟨s.sl, (id, .map kt vt (mput l x z)) :: s.ob⟩ a w' := by
  obtain ⟨k0, v0, i0, z0, hu, hkey, hi, hz0, hzz, hvp⟩ := (hT T).mapk _ _ hk
  obtain ⟨g, es, ck, g1, g2, g3, g4, g5⟩ := hm.ents ho
  simp only [VR, ho] at hv
  obtain ⟨g', e1, rfl⟩ := hv
  rw [g1] at e1; obtain rfl := Option.some.inj e1
  have hf := findKey_ok (P := P) hkey hx g3
  have hchk := hkey.check x w _ u false hx
  cases hr : mfind x l with
  | none =>
    rw [hr] at hf
    obtain ⟨m1, m2⟩ := mfind_none hr
    refine ⟨{ w with heap := w.heap.setIfInBounds g (.map (es.push { key := u, val := v, born := ck }) (ck + 1)) }, ?_, ?_⟩
    · simp only [Instr.mapUpdate, Sem.run_bind, run_underlying hu, Result.andThen_ok, MapKept.run_getObj_map g2, hchk, hf, mres, MapKept.run_setObj_map _ g2]
    · rw [m2 z]
      refine hm.setMap ho g1 g2 ⟨?_, fun i e p he hp => ?_⟩ (fun i e he => ?_) (fun i j e e' he he' hb => ?_)
      · have := g3.1; simp at this ⊢; exact this
      · have hlen : es.toList.length = l.length := g3.1
        by_cases hi' : i < l.length
        · rw [List.getElem?_append_left hi'] at hp
          rw [Array.toList_push, List.getElem?_append_left (by omega)] at he
          exact g3.2 i e p he hp
        · rw [List.getElem?_append_right (by omega)] at hp
          rw [Array.toList_push, List.getElem?_append_right (by omega), hlen] at he
          have hi0 : i - l.length = 0 := by have := (List.getElem?_eq_some_iff.1 hp).1; simp at this; omega
          rw [hi0] at hp he
          simp at hp he
          subst hp; subst he
          exact ⟨hx, hz⟩
      · rw [Array.getElem?_push] at he
        split at he
        · obtain rfl := Option.some.inj he; simp
        · exact Nat.lt_succ_of_lt (g4 i e he)
      · rw [Array.getElem?_push] at he he'
        split at he <;> split at he'
        · omega
        · obtain rfl := Option.some.inj he; have := g4 j e' he'; simp at hb; omega
        · obtain rfl := Option.some.inj he'; have := g4 i e he; simp at hb; omega
        · exact g5 i j e e' he he' hb
  | some j =>
    rw [hr] at hf
    obtain ⟨p, p1, p2, p3, p4⟩ := mfind_some hr
    have hlen : es.toList.length = l.length := g3.1
    have hj : j < es.size := by have := (List.getElem?_eq_some_iff.1 p1).1; simp at hlen; omega
    have he : es[j]? = some es[j] := by simp [hj]
    have hold := (g3.2 j es[j] p (by simp) p1).1
    have hsame := hkey.same x p.1 w _ u es[j].key hx hold p2
    refine ⟨{ w with heap := w.heap.setIfInBounds g (.map (es.modify j fun e => { e with key := u, val := v }) ck) }, ?_, ?_⟩
    · simp only [Instr.mapUpdate, Sem.run_bind, run_underlying hu, Result.andThen_ok, MapKept.run_getObj_map g2, hchk, hf, mres, Nat.zero_add, he, Option.map_some, Option.getD_some, Instr.keyThatStays, hsame, if_true, Sem.run_pure, MapKept.run_setObj_map _ g2]
    · rw [p4 z]
      have hmod : ∀ (i : Nat) (e : MapEntry), (es.modify j fun e => { e with key := u, val := v })[i]? = some e → ∃ e0, es[i]? = some e0 ∧ e.born = e0.born ∧ (if i = j then e.key = u ∧ e.val = v else e = e0) := fun i e he' => by
        rw [Array.getElem?_modify] at he'
        split at he'
        · rename_i hij
          obtain ⟨e0, h1, rfl⟩ := Option.map_eq_some_iff.1 he'
          exact ⟨e0, h1, rfl, by rw [if_pos hij.symm]; exact ⟨rfl, rfl⟩⟩
        · rename_i hij; exact ⟨e, he', rfl, by rw [if_neg (fun q => hij q.symm)]⟩
      refine hm.setMap ho g1 g2 ⟨by simpa using hlen, fun i e q he' hq => ?_⟩ (fun i e he' => ?_) (fun i i' e e' he' he'' hb => ?_)
      · obtain ⟨e0, h1, h2, h3⟩ := hmod i e (by rw [← Array.getElem?_toList]; exact he')
        rw [List.getElem?_set] at hq
        by_cases hij : i = j
        · subst hij
          rw [if_pos rfl] at h3
          simp only [if_true] at hq
          split at hq
          · obtain rfl := Option.some.inj hq; rw [h3.1, h3.2]; exact ⟨hx, hz⟩
          · cases hq
        · rw [if_neg hij] at h3
          rw [if_neg (fun q => hij q.symm)] at hq
          subst h3
          exact g3.2 i e q (by simpa using h1) hq
      · obtain ⟨e0, h1, h2, _⟩ := hmod i e he'; rw [h2]; exact g4 i e0 h1
      · obtain ⟨e0, h1, h2, _⟩ := hmod i e he'
        obtain ⟨e1, h3, h4, _⟩ := hmod i' e' he''
        exact g5 i i' e0 e1 h1 h3 (by rw [← h2, ← h4]; exact hb)

theorem exec_skip {o : Oper} {e : Sem Unit} {w' : World} (h : execOp a.eval o = (do e; pure .skip)) (hr : e.run P w = .ok () w') : (execOp a.eval o).run P w = .ok .skip w' := by
  rw [h, Sem.run_bind, hr]; rfl

theorem run_copy_any (w : World) (dT sT ty elem : TypeId) (g o dLen dCap m sz : Nat) (v : Value) (cur : Array Value) (t : TypeId) (cs : List Value) (i : TypeInfo)
    (hu : P.underlying dT = some (.slice elem)) (hi : P.info? elem = some i) (hz : i.size = sz) (hg : w.heap[g]? = some (.cells cur t (0, 0))) (hm : m ≤ dLen)
    (hv : ∃ p cap, v = .slice p m cap) (hsrc : (Builtin.firstCells sz m v).run P w = .ok cs.toArray w) (hfit : o + cs.length ≤ cur.size) (h1 : ∀ v ∈ cs, v.oneCell' = true) :
    (Builtin.copy_ #[dT, sT] ty #[.slice (some ⟨g, o, none⟩) dLen dCap, v]).run P w = .ok (goInt m) (w.setRow g (cur.toList.take o ++ cs ++ cur.toList.drop (o + cs.length)).toArray) := by
  obtain ⟨p, cap, rfl⟩ := hv
  have hst := run_storeCells_at P g o t cs 0 cur w hg (by simpa using hfit) h1
  have hmin : Nat.min m dLen = m := Nat.min_eq_left hm
  simp only [Nat.add_zero] at hst
  simp [Builtin.copy_, run_underlying hu, Builtin.lenOf, sizeOf, typeInfo, hi, hz, hmin, hsrc, hst]

theorem getD_drop' {α : Type} (l : List α) (k i : Nat) (d : α) : (l.drop k).getD i d = l.getD (k + i) d := by
  simp only [List.getD, List.getElem?_drop]

theorem tcopy_ok (hT : TOK P TI) {T sT ty : Nat} {x y : TV} {vx vy : Value} {e : Eff} (h : tcopy TI (tlook s.ob) T x y = some e) (hb : e.b = true) (hm : RelM c F π s a w)
    (hx : VR w (Gz F w π (tlook s.ob)) π (tlook s.ob) x vx) (hy : VR w (Gz F w π (tlook s.ob)) π (tlook s.ob) y vy) :
    ∃ (n : Int) (w' : World), (Builtin.copy_ #[T, sT] ty #[vx, vy]).run P w = .ok (.int .i64 n) w' ∧ RelM c F π ⟨s.sl, e.u ++ s.ob⟩ a w' ∧ e.y = .dv (.int .i64) n := by
  unfold tcopy at h
  split at h
  · rename_i id i k n b
    split at h
    · rename_i m t l ho
      split at h
      · rename_i t' ys hd
        split at h
        · rename_i ht
          subst ht
          split at h
          · rename_i hk
            simp only [Bool.and_eq_true, beq_iff_eq, decide_eq_true_eq] at hk
            obtain ⟨⟨⟨k1, k2⟩, k3⟩, ⟨⟨⟨k4, k5⟩, k6⟩, k7⟩⟩ := hk
            obtain rfl := Option.some.inj h
            subst k6; subst k4
            have hb : ys.length ≤ b := by simpa using hb
            simp only [VR, ho] at hx
            obtain ⟨c0, g, pp, h1, h2, h3, h4, h5, h6, h7, h8⟩ := hx rfl
            simp only [TO.loc, DT.at_nil, Option.map_some, Option.some.injEq, Nat.add_zero] at h1
            have hpp := h8 k7
            subst h1; subst hpp; subst h7
            have hi : i < l.length := h2.1
            obtain ⟨cs, p, cap, s1, s2, s3⟩ := src_ok hm hd hy
            obtain ⟨el, ie, b1, b2, b3, b4, b5, b6, b7, b8⟩ := (hT T).sl k1
            have hsz : ie.size = t'.size := b3.trans k2
            rcases hm.obj id _ ho with ⟨q1, _⟩ | ⟨g', cur, e0, q1, q2, q3, q4, q5, q6⟩
            · rw [q1] at h3; cases h3
            · rw [h3] at q1; obtain rfl := Option.some.inj q1
              have hS : (DT.arr b t').size = b * t'.size := rfl
              have hpos : 0 < t'.size := by omega
              have hin : i * (b * t'.size) + b * t'.size ≤ (π id).cap * (b * t'.size) := by
                have := Nat.mul_le_mul_right (b * t'.size) (show i + 1 ≤ (π id).cap by omega)
                rw [Nat.add_mul] at this; omega
              rw [hS] at q5 q6
              have hys : ys.length * t'.size ≤ b * t'.size := Nat.mul_le_mul_right _ hb
              have hcl := s1.len
              generalize hK : (π id).q + i * (b * t'.size) = K at *
              have hold : ((cur.toList.drop (K + cs.length)).take (b * t'.size - cs.length)).length = b * t'.size - cs.length := by simp; omega
              have hval : (DT.arr b t').val (ys ++ (l.getD i (DT.arr b t').dflt).drop ys.length) w (Gz F w π (tlook s.ob)) (.agg (cs ++ (cur.toList.drop (K + cs.length)).take (b * t'.size - cs.length)).toArray) := by
                refine (DT.val_agg (t := .arr b t') rfl).2 ⟨_, rfl, by simp [hS]; omega, fun j hj => ?_⟩
                rw [hS] at hj
                obtain ⟨a1, a2, a3, a4⟩ := div_lt hj
                show ∃ u, _ ∧ _ ∧ t'.cell ((ys ++ (l.getD i (DT.arr b t').dflt).drop ys.length).getD (j / t'.size) t'.dflt) (j % t'.size) w _ u
                rw [List.getElem?_toArray, getD_append]
                by_cases c1 : j / t'.size < ys.length
                · rw [if_pos c1]
                  obtain ⟨u, u1, u2, u3⟩ := s1.el _ c1 _ a3
                  rw [a4] at u1
                  have : j < cs.length := (List.getElem?_eq_some_iff.1 u1).1
                  exact ⟨u, by rw [List.getElem?_append_left this]; exact u1, u2, u3⟩
                · rw [if_neg c1, getD_drop', show ys.length + (j / t'.size - ys.length) = j / t'.size by omega]
                  obtain ⟨u, u1, u2, u3⟩ := q6 i hi j hj
                  have hge : cs.length ≤ j := by
                    rw [hcl]
                    exact Nat.le_trans (Nat.mul_le_mul_right _ (Nat.le_of_not_lt c1)) (Nat.div_mul_le_self j t'.size)
                  refine ⟨u, ?_, u2, u3⟩
                  rw [List.getElem?_append_right hge, List.getElem?_take_of_lt (by omega), List.getElem?_drop, Array.getElem?_toList, ← u1]
                  congr 1; omega
              obtain ⟨cur', e', c1, c2, c3⟩ := hm.writeRow ho (p := []) (DT.at_nil _) (DT.inb_nil _) hi (z := ys ++ (l.getD i (DT.arr b t').dflt).drop ys.length) rfl (show (DT.arr b t').plain = true from k3) hval h3
              have ec : cur' = cur ∧ e' = e0 := by
                rw [q2] at c1
                simp only [Option.some.injEq, Obj.cells.injEq] at c1
                exact ⟨c1.1.symm, c1.2.1.symm⟩
              obtain ⟨rfl, rfl⟩ := ec
              have espl : spl cur' ((π id).q + (i * (DT.arr b t').size + 0)) (Value.agg (cs ++ (cur'.toList.drop (K + cs.length)).take (b * t'.size - cs.length)).toArray).cells.toList = (cur'.toList.take K ++ cs ++ cur'.toList.drop (K + cs.length)).toArray := by
                unfold spl
                have e1 : (π id).q + (i * (DT.arr b t').size + 0) = K := by rw [hS]; omega
                have e2 : (Value.agg (cs ++ (cur'.toList.drop (K + cs.length)).take (b * t'.size - cs.length)).toArray).cells.toList = cs ++ (cur'.toList.drop (K + cs.length)).take (b * t'.size - cs.length) := by simp [Value.cells]
                rw [e1, e2, List.length_append, hold, show K + (cs.length + (b * t'.size - cs.length)) = K + cs.length + (b * t'.size - cs.length) by omega, show cur'.toList.drop (K + cs.length + (b * t'.size - cs.length)) = (cur'.toList.drop (K + cs.length)).drop (b * t'.size - cs.length) by rw [List.drop_drop]]
                simp only [List.append_assoc, List.take_append_drop]
              refine ⟨(ys.length : Int), w.setRow g (cur'.toList.take K ++ cs ++ cur'.toList.drop (K + cs.length)).toArray, ?_, ?_, rfl⟩
              · have hv := run_copy_any (P := P) w T sT ty el g K (b - 0) (b - 0) ys.length t'.size vy cur' e' cs ie b1 b2 hsz q2 (by omega) ⟨p, cap, s2⟩ (s3 w fun _ _ _ => rfl) (by omega) s1.flat
                have e3 : (⟨g, (π id).q + i * (b * t'.size) + 0 * k, none⟩ : Addr) = ⟨g, K, none⟩ := by rw [← hK]; simp
                rw [hS, e3]
                exact hv
              · rw [← espl]; exact c3
          · cases h
        · cases h
      · cases h
    · cases h
  · cases h

theorem range_ok (hT : TOK P TI) (hm : RelM c F π s a w) {T id d : Nat} {kt vt : DT} {l : List (kt.den × vt.den)} (ho : tlook s.ob id = some (.map kt vt l)) (hd : tlook s.ob d = none) (hkv : (TI T).mkv = some (kt, vt)) {m : Value} (hv : VR w (Gz F w π (tlook s.ob)) π (tlook s.ob) (.row id) m) :
    ∃ (v : Value) (w' : World) (π' : Nat → Pl), (Instr.range T m).run P w = .ok v w' ∧ RelM c F π' ⟨s.sl, (d, .iter kt vt l none) :: (id, .dead) :: s.ob⟩ a w' ∧ VR w' (Gz F w' π' (tlook ((d, .iter kt vt l none) :: (id, .dead) :: s.ob))) π' (tlook ((d, .iter kt vt l none) :: (id, .dead) :: s.ob)) (.row d) v := by
  obtain ⟨k0, v0, i0, z0, hu, hkey, hi, hz0, hzz, hvp⟩ := (hT T).mapk _ _ hkv
  obtain ⟨g, es, ck, g1, g2, g3, g4, g5, g6⟩ := hm.obj id _ ho
  simp only [VR, ho] at hv
  obtain ⟨g', e1, rfl⟩ := hv
  rw [g1] at e1; obtain rfl := Option.some.inj e1
  have hown : Own π (tlook s.ob) id g := ⟨g1, _, ho, rfl⟩
  have hne : d ≠ id := fun e => by subst e; rw [hd] at ho; cases ho
  have hd1 : tlook ((id, TO.dead) :: s.ob) d = none := by rw [tlook_cons, if_neg hne]; exact hd
  have hgl : g < w.heap.size := (hm.new id g hown).2
  let w' := w.alloc (.mapIter (some g) ck #[] ck)
  have hB : Below w.heap.size w w' := (Below.refl _ _).alloc (Nat.le_refl _) _
  have own2 : ∀ i b, Own (updP π d ⟨some w.heap.size, 0, 0⟩) (tlook ((d, .iter kt vt l none) :: (id, .dead) :: s.ob)) i b → (i = d ∧ b = w.heap.size) ∨ (i ≠ id ∧ Own π (tlook s.ob) i b) := fun i b ⟨r1, o', r2, r3⟩ => by
    rw [tlook_cons, tlook_cons] at r2
    by_cases q1 : i = d
    · subst q1
      simp only [updP, if_true, Option.some.injEq] at r1
      exact .inl ⟨rfl, r1.symm⟩
    · rw [if_neg q1] at r2
      simp only [updP, if_neg q1] at r1
      by_cases q2 : i = id
      · rw [if_pos q2] at r2; obtain rfl := Option.some.inj r2; simp [TO.live] at r3
      · rw [if_neg q2] at r2; exact .inr ⟨q2, r1, o', r2, r3⟩
  have fz : FzTo w (Gz F w π (tlook s.ob)) w' (Gz F w' (updP π d ⟨some w.heap.size, 0, 0⟩) (tlook ((d, .iter kt vt l none) :: (id, .dead) :: s.ob))) := fun b ⟨h0, h1, h2⟩ => ⟨⟨h0, Nat.lt_of_lt_of_le h1 hB.size, fun i hi => by
    rcases own2 i b hi with ⟨_, rfl⟩ | ⟨_, h⟩
    · exact absurd h1 (Nat.lt_irrefl _)
    · exact h2 i h⟩, hB.block b h1⟩
  have hGg : Gz F w' (updP π d ⟨some w.heap.size, 0, 0⟩) (tlook ((d, .iter kt vt l none) :: (id, .dead) :: s.ob)) g := ⟨hm.hF g (hm.new id g hown).1, Nat.lt_of_lt_of_le hgl hB.size, fun i hi => by
    rcases own2 i g hi with ⟨_, rfl⟩ | ⟨q, h⟩
    · exact absurd hgl (Nat.lt_irrefl _)
    · exact q (hm.inj i id g h hown)⟩
  have hnd : (es.toList.map (·.born)).Nodup := by
    rw [List.nodup_iff_pairwise_ne, List.pairwise_iff_getElem]
    intro i j h1 h2 hij he
    simp only [List.length_map, Array.length_toList] at h1 h2
    simp only [List.getElem_map, Array.getElem_toList] at he
    have := g5 i j es[i] es[j] (Array.getElem?_eq_getElem h1) (Array.getElem?_eq_getElem h2) he
    omega
  have hfil : (es.toList.filter fun e => !(#[] : Array Nat).contains e.born) = es.toList := by
    rw [List.filter_eq_self]; intro e _; simp
  have hR := (hm.dead ho).newOb (d := d) (p := ⟨some w.heap.size, 0, 0⟩) (o := .iter kt vt l none) hB hd1 (fun g' hg' => by cases hg'; exact ⟨Nat.le_refl _, by simp [w']⟩)
    ⟨w.heap.size, by simp [updP], g, es, ck, #[], es.toList, heap_alloc_new w _, hGg, (hB.block g hgl).trans g2, fun e he => by
      obtain ⟨i, hi, rfl⟩ := List.getElem_of_mem he
      exact g4 i _ (by simp), hnd, hfil.symm, by simpa using g3, fun i e he => by
      obtain ⟨x, a1, a2, a3⟩ := g6 i e (by simpa using he)
      exact ⟨x, a1, DT.val_mono fz a2, DT.val_mono fz a3⟩, fun p hp => by cases hp⟩
  refine ⟨.pointer (some ⟨w.heap.size, 0, none⟩), w', _, ?_, hR, ?_⟩
  · simp [Instr.range, run_underlying hu, MapKept.run_getObj_map g2, newObj, w']
    rfl
  · simp only [VR, tlook_cons, if_true]
    exact ⟨w.heap.size, by simp [updP], rfl⟩

theorem tmap_ok (hT : TOK P TI) {o : Oper} {e : Eff} (h : tmap TI s.ev (tlook s.ob) o.dst o.op = some e) (hb : e.b = true) (hm : RelM c F π s a w) : EffOk P c F s π a w o e := by
  obtain ⟨dst, op, ty, pos, after, gd⟩ := o
  simp only at h
  cases op with
  | makeMap T r =>
    simp only [tmap] at h
    split at h
    · rename_i d kt vt hkv
      split at h
      · cases h
      · rename_i hd
        obtain ⟨k0, v0, i0, z0, hu, hkey, hi, hz0, hzz, hvp⟩ := (hT T).mapk _ _ hkv
        have hnew : RelM c F (updP π d ⟨some w.heap.size, 0, 0⟩) ⟨s.sl, (d, .map kt vt []) :: s.ob⟩ a (w.alloc (.map #[] 0)) := by
          refine hm.newOb ((Below.refl _ _).alloc (Nat.le_refl _) _) hd (fun g hg => by cases hg; exact ⟨Nat.le_refl _, by simp⟩) ⟨w.heap.size, #[], 0, by simp [updP], heap_alloc_new w _, rfl, fun i e he => by simp at he, fun i j e e' he => by simp at he, fun i e he => by simp at he⟩
        have hres : VR (w.alloc (.map #[] 0)) (Gz F (w.alloc (.map #[] 0)) (updP π d ⟨some w.heap.size, 0, 0⟩) (tlook ((d, .map kt vt []) :: s.ob))) (updP π d ⟨some w.heap.size, 0, 0⟩) (tlook ((d, .map kt vt []) :: s.ob)) (.row d) (.map (some w.heap.size)) := by
          simp only [VR, tlook, if_true]
          exact ⟨_, by simp [updP], rfl⟩
        cases r with
        | none =>
          obtain rfl := Option.some.inj h
          exact ⟨_, _, _, .inl (exec_value (e := Instr.makeMap T none) (by simp [execOp]) (by simp [Instr.makeMap])), hnew, hres⟩
        | some x =>
          simp only at h
          split at h
          · rename_i k z hx
            obtain rfl := Option.some.inj h
            have hvx := hm.ev x
            rw [hx] at hvx
            have hvx' : a.eval x = .int k z := (DT.val_one (t := .int k) rfl).1 hvx
            exact ⟨_, _, _, .inl (exec_value (e := Instr.makeMap T (some (a.eval x))) (by simp [execOp]) (by rw [hvx']; simp [Instr.makeMap, run_underlying hu, asInt, asIntOf])), hnew, hres⟩
          · cases h
    · cases h
  | lookup T m ix ok =>
    simp only [tmap] at h
    split at h
    · rename_i id hmv
      split at h
      · rename_i kt vt l ho
        split at h
        · rename_i hkv
          split at h
          · rename_i x b hx
            obtain ⟨k0, v0, i0, z0, hu, hkey, hi, hz0, hzz, hvp⟩ := (hT T).mapk _ _ hkv
            obtain ⟨g, es, ck, g1, g2, g3, g4, g5⟩ := hm.ents ho
            have hv := hm.ev m
            rw [hmv] at hv
            simp only [VR, ho] at hv
            obtain ⟨g', e1, hv⟩ := hv
            rw [g1] at e1; obtain rfl := Option.some.inj e1
            have hbb : b = true := by
              split at h <;> (obtain rfl := Option.some.inj h; exact hb)
            have hvx := TV.as_ok hx hbb hkey.plain (hm.ev ix)
            have hf := findKey_ok (P := P) hkey hvx g3
            have hres : ∃ (v : Value) (bo : Bool), (Instr.lookup T (a.eval m) (a.eval ix) ok).run P w = .ok (if ok then .tuple #[v, .bool bo] else v) w ∧ vt.val ((mget l x).getD vt.dflt) w (Gz F w π (tlook s.ob)) v ∧ bo = (mget l x).isSome := by
              cases hr : mfind x l with
              | none =>
                rw [hr] at hf
                obtain ⟨m1, _⟩ := mfind_none hr
                refine ⟨z0, false, ?_, by rw [m1]; exact hzz w _, by rw [m1]; rfl⟩
                rw [hv]
                simp only [Instr.lookup, Sem.run_bind, run_underlying hu, Result.andThen_ok, MapKept.run_getObj_map g2, Sem.run_pure, hkey.check x w _ _ _ hvx, hf, mres, zeroValue, typeInfo, run_program, hi, hz0]
              | some j =>
                rw [hr] at hf
                obtain ⟨p, p1, p2, p3, p4⟩ := mfind_some hr
                have hlen : es.toList.length = l.length := g3.1
                have hj : j < es.size := by have := (List.getElem?_eq_some_iff.1 p1).1; simp at hlen; omega
                have he : es.toList[j]? = some es[j] := by simp [hj]
                refine ⟨es[j].val, true, ?_, by rw [p3]; exact (g3.2 j es[j] p he p1).2, by rw [p3]; rfl⟩
                rw [hv]
                simp only [Instr.lookup, Sem.run_bind, run_underlying hu, Result.andThen_ok, MapKept.run_getObj_map g2, Sem.run_pure, hkey.check x w _ _ _ hvx, hf, mres, he, Option.map_some, Option.getD_some]
            obtain ⟨v, bo, r1, r2, r3⟩ := hres
            have hex := exec_value (P := P) (a := a) (o := ⟨dst, .lookup T m ix ok, ty, pos, after, gd⟩) (e := Instr.lookup T (a.eval m) (a.eval ix) ok) (by simp [execOp]) r1
            cases ok with
            | true =>
              obtain rfl := Option.some.inj h
              refine ⟨_, w, π, .inl hex, hm, ?_⟩
              refine ⟨#[v, .bool bo], rfl, rfl, fun j hj => ?_⟩
              match j, hj with
              | 0, _ => exact ⟨v, rfl, r2⟩
              | 1, _ => exact ⟨.bool bo, rfl, (DT.val_one (t := .bool) rfl).2 (by rw [r3]; rfl)⟩
            | false =>
              obtain rfl := Option.some.inj h
              exact ⟨_, w, π, .inl hex, hm, r2⟩
          · cases h
        · cases h
      · cases h
    · cases h
  | mapUpdate T m k y =>
    simp only [tmap] at h
    split at h
    · rename_i id hmv
      split at h
      · rename_i kt vt l ho
        split at h
        · rename_i hkv
          split at h
          · rename_i x b z b' hx hz
            obtain rfl := Option.some.inj h
            simp only [Bool.and_eq_true] at hb
            obtain ⟨k0, v0, i0, z0, hu, hkey, hi, hz0, hzz, hvp⟩ := (hT T).mapk _ _ hkv
            have hv := hm.ev m
            rw [hmv] at hv
            obtain ⟨w', r1, r2⟩ := update_ok hT hm ho hkv hv (TV.as_ok hx hb.1 hkey.plain (hm.ev k)) (TV.as_ok hz hb.2 hvp (hm.ev y))
            exact ⟨undef, w', π, .inr ⟨exec_skip (e := Instr.mapUpdate T (a.eval m) (a.eval k) (a.eval y)) (by simp [execOp]) r1, rfl⟩, r2, trivial⟩
          · cases h
        · cases h
      · cases h
    · cases h
  | insert T m k y =>
    simp only [tmap] at h
    split at h
    · rename_i id hmv
      split at h
      · rename_i kt vt l ho
        split at h
        · rename_i hkv
          split at h
          · rename_i x b z b' hx hz
            obtain rfl := Option.some.inj h
            simp only [Bool.and_eq_true] at hb
            obtain ⟨k0, v0, i0, z0, hu, hkey, hi, hz0, hzz, hvp⟩ := (hT T).mapk _ _ hkv
            have hv := hm.ev m
            rw [hmv] at hv
            obtain ⟨w', r1, r2⟩ := update_ok hT hm ho hkv hv (TV.as_ok hx hb.1 hkey.plain (hm.ev k)) (TV.as_ok hz hb.2 hvp (hm.ev y))
            exact ⟨undef, w', π, .inr ⟨exec_skip (e := Instr.mapUpdate T (a.eval m) (a.eval k) (a.eval y)) (by simp [execOp]) r1, rfl⟩, r2, trivial⟩
          · cases h
        · cases h
      · cases h
    · cases h
  | binOp op T x y yt =>
    simp only [tmap] at h
    split at h
    · rename_i k p k' q hx hy
      have hvx := hm.ev x
      have hvy := hm.ev y
      rw [hx] at hvx
      rw [hy] at hvy
      have hvx' : a.eval x = .int k p := (DT.val_one (t := .int k) rfl).1 hvx
      have hvy' : a.eval y = .int k' q := (DT.val_one (t := .int k') rfl).1 hvy
      have fin : ∀ {op : BinOp} {n : Int}, (binOp op T (.int k p) (.int k' q)).run P w = .ok (.int k n) w → (execOp a.eval ⟨dst, .binOp op T x y yt, ty, pos, after, gd⟩).run P w = .ok (.value (.int k n)) w := fun {op n} hr => by
        refine exec_value (e := do eqGuard op T x y (a.eval x) (a.eval y); binOp op T (a.eval x) (a.eval y)) (by simp [execOp]) ?_
        rw [hvx', hvy', Sem.run_bind, noGuard (fun cs ds e => by cases e) (by simp)]
        exact hr
      split at h
      · obtain rfl := Option.some.inj h
        have hq : ¬ q < 0 := by simpa using hb
        refine ⟨_, w, π, .inl (fin (n := k.wrap ((p : Int) * 2 ^ min (Int.toNat q) k.bits)) ?_), hm, (DT.val_one (t := .int k) rfl).2 rfl⟩
        show (binOp .shl T (.int k p) (.int k' q)).run P w = _
        simp [binOp, Op.shift, hq]
      · obtain rfl := Option.some.inj h
        have hq : ¬ q < 0 := by simpa using hb
        refine ⟨_, w, π, .inl (fin (n := Int.fdiv p (2 ^ min (Int.toNat q) k.bits)) ?_), hm, (DT.val_one (t := .int k) rfl).2 rfl⟩
        show (binOp .shr T (.int k p) (.int k' q)).run P w = _
        simp [binOp, Op.shift, hq]
      · split at h
        · rename_i hkk
          subst hkk
          split at h
          · obtain rfl := Option.some.inj h
            have hq : q ≠ 0 := by simpa using hb
            refine ⟨_, w, π, .inl (fin (n := k.wrap (Int.tdiv p q)) ?_), hm, (DT.val_one (t := .int k) rfl).2 rfl⟩
            show (binOp .quo T (.int k p) (.int k q)).run P w = _
            simp [binOp, Op.intDiv, hq]
          · obtain rfl := Option.some.inj h
            have hq : q ≠ 0 := by simpa using hb
            refine ⟨_, w, π, .inl (fin (n := Int.tmod p q) ?_), hm, (DT.val_one (t := .int k) rfl).2 rfl⟩
            show (binOp .rem T (.int k p) (.int k q)).run P w = _
            simp [binOp, Op.intDiv, hq]
          · cases h
        · cases h
    · cases h
  | call cl =>
    simp only [tmap] at h
    obtain ⟨callee, args, ats⟩ := cl
    simp only at h
    have fin : ∀ {x y : Operand} {k : IntKind} {p q n : Int} {b : Builtin} {f : Sem Value}, args.toList = [x, y] → callee = .builtin b → (∀ cs, builtin b ats ty cs #[a.eval x, a.eval y] = (do pure (.value (← f)))) → f.run P w = .ok (.int k n) w → (execOp a.eval ⟨dst, .call ⟨callee, args, ats⟩, ty, pos, after, gd⟩).run P w = .ok (.value (.int k n)) w := fun {x y k p q n b f} ha hc hbt hr => by
      have ha : args = #[x, y] := by apply Array.ext'; simpa using ha
      subst ha; subst hc
      exact exec_value (e := f) (by rw [BigFrame.execOp_builtin]; simpa using hbt _) hr
    split at h
    · rename_i x y hargs
      split at h
      · rename_i k p k' q hx hy
        have hvx := hm.ev x
        have hvy := hm.ev y
        rw [hx] at hvx
        rw [hy] at hvy
        have hvx' : a.eval x = .int k p := (DT.val_one (t := .int k) rfl).1 hvx
        have hvy' : a.eval y = .int k' q := (DT.val_one (t := .int k') rfl).1 hvy
        split at h
        · rename_i hkk
          subst hkk
          obtain rfl := Option.some.inj h
          refine ⟨_, w, π, .inl (fin (p := p) (q := q) (k := k) (n := imin p q) hargs rfl (fun _ => rfl) ?_), hm, (DT.val_one (t := .int k) rfl).2 rfl⟩
          rw [hvx', hvy']
          simp [Builtin.min_, Builtin.min2, imin]
        · cases h
      · cases h
    · rename_i x y hargs
      split at h
      · rename_i k p k' q hx hy
        have hvx := hm.ev x
        have hvy := hm.ev y
        rw [hx] at hvx
        rw [hy] at hvy
        have hvx' : a.eval x = .int k p := (DT.val_one (t := .int k) rfl).1 hvx
        have hvy' : a.eval y = .int k' q := (DT.val_one (t := .int k') rfl).1 hvy
        split at h
        · rename_i hkk
          subst hkk
          obtain rfl := Option.some.inj h
          refine ⟨_, w, π, .inl (fin (p := p) (q := q) (k := k) (n := imax p q) hargs rfl (fun _ => rfl) ?_), hm, (DT.val_one (t := .int k) rfl).2 rfl⟩
          rw [hvx', hvy']
          simp [Builtin.max_, Builtin.max2, imax]
        · cases h
      · cases h
    · rename_i x y hargs
      split at h
      · rename_i T sT hat
        have ha : args = #[x, y] := by apply Array.ext'; simpa using hargs
        have hat : ats = #[T, sT] := by apply Array.ext'; simpa using hat
        subst ha; subst hat
        obtain ⟨n, w', r1, r2, r3⟩ := tcopy_ok (sT := sT) (ty := ty) hT h hb hm (hm.ev x) (hm.ev y)
        refine ⟨_, w', π, .inl (exec_value (e := Builtin.copy_ #[T, sT] ty #[a.eval x, a.eval y]) (by rw [BigFrame.execOp_builtin, BigFrame.builtin_copy]; simp) r1), r2, ?_⟩
        rw [r3]
        exact (DT.val_one (t := .int .i64) rfl).2 rfl
      · cases h
    · cases h
  | range T m =>
    simp only [tmap] at h
    split at h
    · rename_i d id hmv
      split at h
      · rename_i kt vt l ho hd
        split at h
        · rename_i hkv
          obtain rfl := Option.some.inj h
          have hv := hm.ev m
          rw [hmv] at hv
          obtain ⟨v, w', π', h1, h2, h3⟩ := range_ok hT hm ho hd hkv hv
          exact ⟨v, w', π', .inl (exec_value (e := Instr.range T (a.eval m)) rfl h1), h2, h3⟩
        · cases h
      · cases h
    · cases h
  | entry x =>
    simp only [tmap] at h
    split at h
    · rename_i id hx
      split at h
      · rename_i kt vt l p ho
        obtain rfl := Option.some.inj h
        have hv := hm.ev x
        rw [hx] at hv
        simp only [VR, ho] at hv
        obtain ⟨r0, e1, hv⟩ := hv
        obtain ⟨r, k1, g, es, ck, seen, ls, h1, h2, h3, h4, h5, h6, h7, h8, h9⟩ := hm.obj id _ ho
        rw [k1] at e1; obtain rfl := Option.some.inj e1
        obtain ⟨e, s0, a1, rfl, a3, a4⟩ := h9 p rfl
        have E : Evo w (Gz F w π (tlook s.ob)) π (tlook s.ob) w (Gz F w π (tlook ((id, .iter kt vt l none) :: s.ob))) π (tlook ((id, .iter kt vt l none) :: s.ob)) := Evo.set ho k1 rfl rfl (fun _ => rfl) (fun _ _ => rfl) rfl
        have hG := E.fz g h2
        have hR : RelM c F π ⟨s.sl, (id, .iter kt vt l none) :: s.ob⟩ a w := hm.set ho k1 rfl rfl (fun _ => rfl) (fun _ _ => rfl) rfl ⟨rfl, rfl, rfl⟩ ⟨r, k1, g, es, ck, s0.push e.born, ls, h1, hG.1, h3, h4, h5, h6, h7, fun i e he => by
          obtain ⟨y, y1, y2, y3⟩ := h8 i e he
          exact ⟨y, y1, DT.val_mono E.fz y2, DT.val_mono E.fz y3⟩, fun p hp => by cases hp⟩
        refine ⟨.tuple #[e.key, e.val], w, π, .inl (exec_value (e := Instr.entry (a.eval x)) rfl (by rw [hv]; exact run_entry_at w r g ck s0 es ck e h1 h3 a1 h5)), hR, ⟨_, rfl, rfl, fun j hj => ?_⟩⟩
        match j, hj with
        | 0, _ => exact ⟨e.key, rfl, DT.val_mono E.fz a3⟩
        | 1, _ => exact ⟨e.val, rfl, DT.val_mono E.fz a4⟩
      · cases h
    · cases h
  | _ => simp [tmap] at h

end
end Go.Proofs.YtbjfbbfglkmadaaDoor
