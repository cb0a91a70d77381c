/-
  Lifting Go functions to plain Lean functions, part H: values of operations.
-/
import Derived.Test.YtbjfbbfglkmadaaDoorQG
namespace Go.Proofs.YtbjfbbfglkmadaaDoor
open Go.RowKit
set_option linter.unusedVariables false

/-- A part of a struct or an array that lies in a slot. -/
def DT.proj (t : DT) (x : t.den) (k : Nat) (off : Nat) : Option TV :=
  match t.at [k] with
  | some L => if L.off == off && L.u.agg == false && L.u.plain then some (.dv L.u (L.get x)) else none
  | none => none

def ixTV (x : TV) (z : Int) (d : TD) : Option (TV × Bool) :=
  match x with
  | .dv (.arr n t) l => if d.kd == 3 && d.elem == t.size && d.len == n && !t.agg && t.plain && d.one1 then some (.dv t (l.getD z.toNat t.dflt), decide (0 ≤ z ∧ z < (n : Int))) else none
  | .dv .str l => if d.st then some (.dv (.int .u8) (((l.getD z.toNat 0).toNat : Nat) : Int), decide (0 ≤ z ∧ z < (l.length : Int))) else none
  | _ => none

/-- Is it nil? -/
def TV.isNil (L : Obs) : TV → Option Bool
  | .nl => some true
  | .dv (.nsl _) x => some x.isNone
  | _ => none

/-- These may panic. -/
def isDiv : BinOp → Bool
  | .quo => true
  | .rem => true
  | .shl => true
  | .shr => true
  | _ => false

def bopTV (TI : Nat → TD) (L : Obs) (op : BinOp) (T : Nat) (x y : TV) : Option (TV × Bool) :=
  match x, y with
  | .dv (.int k) a, .dv (.int k') b => if isDiv op then none else (match pureV (binOp op T (.int k a) (.int k' b)) with
    | some v => (ofValue v).map fun x => (x, true)
    | none => none)
  | .dv .bool a, .dv .bool b => match op with
    | .eql => some (.dv .bool (a == b), (TI T).bl)
    | .neq => some (.dv .bool (a != b), (TI T).bl)
    | _ => none
  | .dv t a, .dv u b => if h : u = t then (match op with
    | .eql => some (.dv .bool (t.beq a (h ▸ b)), decide ((TI T).eqd = some t))
    | .neq => some (.dv .bool (!t.beq a (h ▸ b)), decide ((TI T).eqd = some t))
    | _ => none) else none
  | x, .nl => if (TI T).kd == 2 then (match op, x.isNil L with
    | .eql, some b => some (.dv .bool b, true)
    | .neq, some b => some (.dv .bool (!b), true)
    | _, _ => none) else none
  | _, _ => none

def lenTV (L : Obs) (d : TD) (x : TV) : Option TV :=
  match x with
  | .nl => if d.kd == 2 then some (.dv (.int .i64) 0) else none
  | .dv .str l => if d.st then some (.dv (.int .i64) (l.length : Int)) else none
  | .row id => match L id with
    | some (.map _ _ l) => if d.mp.isSome then some (.dv (.int .i64) (l.length : Int)) else none
    | some (.row _ l) => if d.kd == 2 then some (.dv (.int .i64) (l.length : Int)) else none
    | some (.frz _ l) => if d.kd == 2 then some (.dv (.int .i64) (l.length : Int)) else none
    | _ => none
  | x => if d.kd == 2 then (match x.data L with
    | some ⟨_, l⟩ => some (.dv (.int .i64) (l.length : Int))
    | none => none) else none

def minmax (mx : Bool) : List TV → Option Int
  | [.dv (.int .i64) a] => some a
  | .dv (.int .i64) a :: r => (minmax mx r).map fun b => if mx then max a b else min a b
  | _ => none

def tval (TI : Nat → TD) (ev : Operand → TV) (L : Obs) : Op → Option (TV × Bool)
  | .move x => some (ev x, true)
  | .assign x => some (ev x, true)
  | .nilCheck x => match ev x with
    | .ptr id i p => match L id with
      | some o => if o.live then some (.ptr id i p, true) else none
      | none => none
    | .el t y p => some (.el t y p, true)
    | .fn g k n f => some (.fn g k n f, true)
    | _ => none
  | .binOp op t x y _ => bopTV TI L op t (ev x) (ev y)
  | .unOp op _ x => match ev x with
    | .dv (.int k) a => match pureV (Op.unary op (.int k a)) with
      | some v => (ofValue v).map fun x => (x, true)
      | none => none
    | .dv .bool a => match pureV (Op.unary op (.bool a)) with
      | some v => (ofValue v).map fun x => (x, true)
      | none => none
    | _ => none
  | .convert src dst x => match ev x, (TI dst).ik, (TI src).ik with
    | .dv (.int _) n, some k, some _ => some (.dv (.int k) (k.wrap n), true)
    | _, _, _ => none
  | .extract x i => match ev x with
    | .tup n f => if i < n then some (f i, true) else none
    | _ => none
  | .load T p => ((ev p).ld (TI T) L).map fun x => (x, true)
  | .indexAddr T x i => match ev i with
    | .dv (.int _) z => (ev x).idx (TI T) L z
    | _ => none
  | .fieldAddr T x i => ((ev x).fld (TI T) L i).map fun x => (x, true)
  | .index T x i => match ev i with
    | .dv (.int _) z => ixTV (ev x) z (TI T)
    | _ => none
  | .call c => match c.callee, c.args.toList, c.argTypes.toList with
    | .builtin .len, [x], [T] => (lenTV L (TI T) (ev x)).map fun x => (x, true)
    | _, _, _ => none
  | .makeFunc fn first caps => match fn with
    | .func g => some (.fn g first.size caps.size fun i => ((first ++ caps).toList.map ev).getD i .any, true)
    | _ => none
  | _ => none

section
variable {P : Program} {TI : Nat → TD} {c : Cx} {F : Nat → Prop} {s : TS} {π : Nat → Pl} {a : Act} {w : World}

theorem run_equal_nil {T e : TypeId} {p : Option Addr} {n k : Nat} (h : P.underlying T = some (.slice e)) : (Op.equal T (.slice p n k) (.slice none 0 0)).run P w = .ok p.isNone w := by
  show (Op.equalIn (9999 + 1) T _ _).run P w = _
  unfold Op.equalIn
  simp only [Sem.run_bind, run_underlying h, Result.andThen]
  cases p <;> rfl

theorem run_index_arr (hT : TOK P TI) {T : TypeId} (hk : (TI T).kd = 3) {cs : Array Value} {k : IntKind} {z : Int} {u : Value} (h0 : 0 ≤ z) (h1 : z < ((TI T).len : Int)) (hag : (TI T).one1 = true) (hu : cs[z.toNat * (TI T).elem]? = some u) : (Instr.index T (.agg cs) (.int k z)).run P w = .ok u w := by
  obtain ⟨e, ie, b1, b2, b3⟩ := (hT T).arr hk
  have := (hT T).one1 hag e b1 w
  simp [Instr.index, asIntOf, run_underlying b1, sizeOf, typeInfo, b2, b3, h0, h1, part, this, hu]

theorem binOp_eql_agg (t : TypeId) (p q : Array Value) : binOp .eql t (.agg p) (.agg q) = (do pure (.bool (← Op.equal t (.agg p) (.agg q)))) := rfl
theorem binOp_neq_agg (t : TypeId) (p q : Array Value) : binOp .neq t (.agg p) (.agg q) = (do pure (.bool (!(← Op.equal t (.agg p) (.agg q))))) := rfl
theorem binOp_eql_sl (t : TypeId) (p q : Option Addr) (n m k l : Nat) : binOp .eql t (.slice p n m) (.slice q k l) = (do pure (.bool (← Op.equal t (.slice p n m) (.slice q k l)))) := rfl
theorem binOp_neq_sl (t : TypeId) (p q : Option Addr) (n m k l : Nat) : binOp .neq t (.slice p n m) (.slice q k l) = (do pure (.bool (!(← Op.equal t (.slice p n m) (.slice q k l))))) := rfl

theorem noGuard {op : BinOp} {T : TypeId} {ox oy : Operand} {u v : Value} (h1 : ∀ cs ds, u = .agg cs → v = .agg ds → False) (h2 : u ≠ .nilIface) : (eqGuard op T ox oy u v).run P w = .ok () w := by
  cases u <;> first
    | exact absurd rfl h2
    | (cases op <;> rfl)
    | (cases v <;> first | exact (h1 _ _ rfl rfl).elim | (cases op <;> rfl))

theorem bop_ok (hT : TOK P TI) {op : BinOp} {T : Nat} {x y z : TV} {b : Bool} (h : bopTV TI (tlook s.ob) op T x y = some (z, b)) (hb : b = true) {u v : Value} (hm : RelM c F π s a w) (hu : VR w (Gz F w π (tlook s.ob)) π (tlook s.ob) x u) (hv : VR w (Gz F w π (tlook s.ob)) π (tlook s.ob) y v) (ox oy : Operand) :
    ∃ r, (do eqGuard op T ox oy u v; binOp op T u v : Sem Value).run P w = .ok r w ∧ VR w (Gz F w π (tlook s.ob)) π (tlook s.ob) z r := by
  unfold bopTV at h
  split at h
  · rename_i k p k' q
    obtain rfl : u = .int k p := hu
    obtain rfl : v = .int k' q := hv
    split at h
    · cases h
    split at h
    · rename_i r hr
      obtain ⟨x', hx', he⟩ := Option.map_eq_some_iff.1 h
      simp only [Prod.mk.injEq] at he
      obtain ⟨rfl, rfl⟩ := he
      refine ⟨r, ?_, ofValue_ok hx'⟩
      simp [noGuard (P := P) (w := w) (op := op) (T := T) (ox := ox) (oy := oy) (u := .int k p) (v := .int k' q) (by intro _ _ h; cases h) (by intro h; cases h), pureV_run hr w]
    · cases h
  · rename_i p q
    obtain rfl : u = .bool p := hu
    obtain rfl : v = .bool q := hv
    have hg := fun op => noGuard (P := P) (w := w) (op := op) (T := T) (ox := ox) (oy := oy) (u := .bool p) (v := .bool q) (by intro _ _ h; cases h) (by intro h; cases h)
    split at h
    · simp only [Option.some.injEq, Prod.mk.injEq] at h; obtain ⟨rfl, rfl⟩ := h
      exact ⟨_, by simp [hg, binOp_eql_bool, run_equal_bool ((hT T).bool hb)], rfl⟩
    · simp only [Option.some.injEq, Prod.mk.injEq] at h; obtain ⟨rfl, rfl⟩ := h
      exact ⟨.bool (!(p == q)), by simp [hg, binOp_neq_bool, run_equal_bool ((hT T).bool hb)], rfl⟩
    · cases h
  · rename_i t p t' q _ _
    split at h
    · rename_i e
      subst e
      split at h
      · simp only [Option.some.injEq, Prod.mk.injEq] at h; obtain ⟨rfl, rfl⟩ := h
        simp only [decide_eq_true_eq] at hb
        obtain ⟨ha, heq⟩ := (hT T).eq _ hb
        obtain ⟨cs, rfl, _⟩ := (DT.val_agg ha).1 hu
        obtain ⟨ds, rfl, _⟩ := (DT.val_agg ha).1 hv
        obtain ⟨e1, e2⟩ := heq p q _ _ w _ .eql ox oy hu hv
        exact ⟨_, by simp [e1, binOp_eql_agg, e2], rfl⟩
      · simp only [Option.some.injEq, Prod.mk.injEq] at h; obtain ⟨rfl, rfl⟩ := h
        simp only [decide_eq_true_eq] at hb
        obtain ⟨ha, heq⟩ := (hT T).eq _ hb
        obtain ⟨cs, rfl, _⟩ := (DT.val_agg ha).1 hu
        obtain ⟨ds, rfl, _⟩ := (DT.val_agg ha).1 hv
        obtain ⟨e1, e2⟩ := heq p q _ _ w _ .neq ox oy hu hv
        exact ⟨_, by simp [e1, binOp_neq_agg, e2], rfl⟩
      · cases h
    · cases h
  · obtain rfl : v = .slice none 0 0 := hv
    split at h
    · rename_i hk
      simp only [beq_iff_eq] at hk
      obtain ⟨e, ie, b1, _⟩ := (hT T).sl hk
      have hnil : ∀ r, x.isNil (tlook s.ob) = some r → ∃ p n k, u = .slice p n k ∧ p.isNone = r := fun r hr => by
        cases x with
        | nl => obtain rfl : u = .slice none 0 0 := hu; exact ⟨none, 0, 0, rfl, by simpa [TV.isNil] using hr⟩
        | dv t y =>
          cases t with
          | nsl t =>
            have hu' := (DT.val_one rfl).1 (show (DT.nsl t).val y w _ u from hu)
            simp only [TV.isNil, Option.some.injEq] at hr
            cases y with
            | none => obtain rfl : u = .slice none 0 0 := hu'; exact ⟨none, 0, 0, rfl, hr⟩
            | some l =>
              obtain ⟨p, cap, rfl, _, _, _, hp, _⟩ := hu'
              refine ⟨p, _, _, rfl, ?_⟩
              cases p with
              | none => exact absurd rfl hp
              | some p => exact hr
          | _ => simp [TV.isNil] at hr
        | _ => simp [TV.isNil] at hr
      cases hx : x.isNil (tlook s.ob) with
      | none => rw [hx] at h; cases op <;> simp at h
      | some r =>
        rw [hx] at h
        obtain ⟨p, n, k, rfl, hp⟩ := hnil r hx
        have hg := fun op => noGuard (P := P) (w := w) (op := op) (T := T) (ox := ox) (oy := oy) (u := .slice p n k) (v := .slice none 0 0) (by intro _ _ h; cases h) (by intro h; cases h)
        cases op <;> simp only [Option.some.injEq, Prod.mk.injEq, reduceCtorEq] at h
        · obtain ⟨rfl, rfl⟩ := h
          exact ⟨.bool p.isNone, by simp [hg, binOp_eql_sl, run_equal_nil b1], by rw [hp]; rfl⟩
        · obtain ⟨rfl, rfl⟩ := h
          exact ⟨.bool (!p.isNone), by simp [hg, binOp_neq_sl, run_equal_nil b1], by rw [hp]; rfl⟩
    · cases h
  · cases h

theorem len_ok (hT : TOK P TI) (hm : RelM c F π s a w) {T : TypeId} {x y : TV} (h : lenTV (tlook s.ob) (TI T) x = some y) {v : Value} (hv : VR w (Gz F w π (tlook s.ob)) π (tlook s.ob) x v) {ty : TypeId} :
    ∃ r, (Builtin.len_ #[T] ty #[v]).run P w = .ok r w ∧ VR w (Gz F w π (tlook s.ob)) π (tlook s.ob) y r := by
  have hsl : (TI T).kd = 2 → ∀ {p : Option Addr} {n cap : Nat}, v = .slice p n cap → y = .dv (.int .i64) (n : Int) → ∃ r, (Builtin.len_ #[T] ty #[v]).run P w = .ok r w ∧ VR w (Gz F w π (tlook s.ob)) π (tlook s.ob) y r := fun hk p n cap hv' hy => by
    subst hv'; subst hy
    obtain ⟨e, ie, b1, _⟩ := (hT T).sl hk
    exact ⟨_, by simp [Builtin.len_, run_underlying b1, goInt], rfl⟩
  have hdata : (match x.data (tlook s.ob) with | some ⟨_, l⟩ => some (TV.dv (.int .i64) (l.length : Int)) | none => none) = some y → (TI T).kd = 2 → ∃ r, (Builtin.len_ #[T] ty #[v]).run P w = .ok r w ∧ VR w (Gz F w π (tlook s.ob)) π (tlook s.ob) y r := fun h hk => by
    split at h
    · rename_i t l hd
      obtain rfl := Option.some.inj h
      obtain ⟨p, cap, hv'⟩ := TV.data_len hm hd hv
      exact hsl hk hv' rfl
    · cases h
  unfold lenTV at h
  split at h
  · split at h
    · rename_i hk
      simp only [beq_iff_eq] at hk
      obtain rfl := Option.some.inj h
      exact hsl hk (show v = _ from hv) rfl
    · cases h
  · rename_i l
    split at h
    · rename_i hk
      obtain rfl := Option.some.inj h
      obtain rfl : v = .string ⟨⟨l⟩⟩ := (DT.val_one (t := .str) rfl).1 hv
      refine ⟨.int .i64 (l.length : Int), ?_, rfl⟩
      simp [Builtin.len_, run_underlying ((hT T).string hk), goInt]
      rfl
    · cases h
  · rename_i id
    have hv0 := hv
    simp only [VR] at hv
    cases ho : tlook s.ob id with
    | none => rw [ho] at hv; exact hv.elim
    | some o =>
      rw [ho] at hv h
      cases o with
      | map kt vt l =>
        simp only at h hv
        split at h
        · rename_i hk
          obtain rfl := Option.some.inj h
          obtain ⟨kv, hkv⟩ := Option.isSome_iff_exists.1 hk
          obtain ⟨g, hg, rfl⟩ := hv
          obtain ⟨g', es, ck, q1, q2, q3, _⟩ := hm.obj id _ ho
          rw [hg] at q1; obtain rfl := Option.some.inj q1
          refine ⟨.int .i64 (l.length : Int), ?_, rfl⟩
          have hu := (hT T).map kv.1 kv.2 hkv
          have hgo : (getObj g).run P w = .ok (.map es ck) w := by simp [getObj, Sem.run, q2]
          simp [Builtin.len_, run_underlying hu, goInt, hgo, q3]
        · cases h
      | row t l =>
        simp only at h
        split at h
        · rename_i hk
          simp only [beq_iff_eq] at hk
          exact hdata (by simp only [TV.data, ho]; exact h) hk
        · cases h
      | frz t l =>
        simp only at h
        split at h
        · rename_i hk
          simp only [beq_iff_eq] at hk
          exact hdata (by simp only [TV.data, ho]; exact h) hk
        · cases h
      | _ => cases h
  · split at h
    · rename_i hk
      simp only [beq_iff_eq] at hk
      exact hdata h hk
    · cases h

theorem ix_ok (hT : TOK P TI) {T : TypeId} {x y : TV} {b : Bool} {z : Int} {k : IntKind} (h : ixTV x z (TI T) = some (y, b)) (hb : b = true) {G : Nat → Prop} {O : Obs} {v : Value} (hv : VR w G π O x v) : ∃ v', (Instr.index T v (.int k z)).run P w = .ok v' w ∧ VR w G π O y v' := by
  unfold ixTV at h
  split at h
  · rename_i n t l
    split at h
    · rename_i hk
      simp only [Bool.and_eq_true, beq_iff_eq, Bool.not_eq_true'] at hk
      obtain ⟨⟨⟨⟨⟨k1, k2⟩, k3⟩, k4⟩, k5⟩, k6⟩ := hk
      simp only [Option.some.injEq, Prod.mk.injEq] at h; obtain ⟨rfl, rfl⟩ := h
      simp only [decide_eq_true_eq] at hb
      obtain ⟨vs, rfl, h2, h3⟩ := (DT.val_agg (t := .arr n t) rfl).1 hv
      have hs := DT.size_one k4 k5
      have hzn : z.toNat < n := by omega
      obtain ⟨u, a1, a2, a3⟩ := h3 z.toNat (by show z.toNat < n * t.size; rw [hs]; omega)
      refine ⟨u, run_index_arr hT k1 hb.1 (by rw [k3]; exact hb.2) k6 (by rw [k2, hs, Nat.mul_one]; exact a1), ?_⟩
      refine (DT.val_one k4).2 ?_
      have : (DT.arr n t).cell l z.toNat w G u := a3
      simp only [DT.cell, hs, Nat.div_one, Nat.mod_one] at this
      exact this
    · cases h
  · rename_i l
    obtain rfl : v = .string ⟨⟨l⟩⟩ := (DT.val_one (t := .str) rfl).1 hv
    split at h
    · rename_i hk
      simp only [Option.some.injEq, Prod.mk.injEq] at h; obtain ⟨rfl, rfl⟩ := h
      simp only [decide_eq_true_eq] at hb
      have hlt : z.toNat < l.length := by omega
      refine ⟨.int .u8 (((l.getD z.toNat 0).toNat : Nat) : Int), ?_, rfl⟩
      have e3 : (ByteArray.mk ⟨l⟩)[z.toNat]? = some (l.getD z.toNat 0) := by
        have h1 : z.toNat < (ByteArray.mk ⟨l⟩).size := hlt
        rw [getElem?_pos (ByteArray.mk ⟨l⟩) z.toNat h1]
        congr 1
        show l[z.toNat] = _
        simp [hlt]
      simp [Instr.index, asIntOf, run_underlying ((hT T).string hk), hb.1, e3]
    · cases h
  · cases h

set_option maxHeartbeats 1000000 in
theorem tval_ok (hT : TOK P TI) {o : Oper} {x : TV} {b : Bool} (hp : tval TI s.ev (tlook s.ob) o.op = some (x, b)) (hb : b = true) (hm : RelM c F π s a w) :
    ∃ v, (execOp a.eval o).run P w = .ok (.value v) w ∧ VR w (Gz F w π (tlook s.ob)) π (tlook s.ob) x v := by
  obtain ⟨dst, op, ty, pos, after, guard⟩ := o
  simp only at hp
  have hev := fun x => hm.ev x
  cases op with
  | move y => simp only [tval, Option.some.injEq, Prod.mk.injEq] at hp; obtain ⟨rfl, rfl⟩ := hp; exact ⟨_, rfl, hev y⟩
  | assign y => simp only [tval, Option.some.injEq, Prod.mk.injEq] at hp; obtain ⟨rfl, rfl⟩ := hp; exact ⟨_, rfl, hev y⟩
  | nilCheck y =>
    simp only [tval] at hp
    have hy := hev y
    split at hp
    · rename_i id i p he
      rw [he] at hy
      split at hp
      · rename_i o ho
        split at hp
        · rename_i hl
          simp only [Option.some.injEq, Prod.mk.injEq] at hp; obtain ⟨rfl, rfl⟩ := hp
          have hy' := hy
          simp only [VR, ho] at hy
          obtain ⟨k, g, _, _, _, hv⟩ := hy hl
          exact ⟨_, by simp [execOp, hv], hv ▸ hy'⟩
        · cases hp
      · cases hp
    · rename_i t z p he
      rw [he] at hy
      simp only [Option.some.injEq, Prod.mk.injEq] at hp; obtain ⟨rfl, rfl⟩ := hp
      obtain ⟨b0, o, L, _, _, hv, _⟩ := id hy
      exact ⟨_, by simp [execOp, hv], hv ▸ hy⟩
    · rename_i g k n f he
      rw [he] at hy
      simp only [Option.some.injEq, Prod.mk.injEq] at hp; obtain ⟨rfl, rfl⟩ := hp
      obtain ⟨fs, cs, hv, _⟩ := id hy
      exact ⟨_, by simp [execOp, hv], hv ▸ hy⟩
    · cases hp
  | binOp bo t y z t2 =>
    simp only [tval] at hp
    obtain ⟨r, h1, h2⟩ := bop_ok hT hp hb hm (hev y) (hev z) y z
    exact ⟨r, exec_value (e := do eqGuard bo t y z (a.eval y) (a.eval z); binOp bo t (a.eval y) (a.eval z)) rfl h1, h2⟩
  | unOp uo t y =>
    simp only [tval] at hp
    have hy := hev y
    split at hp
    · rename_i k n he
      rw [he] at hy
      split at hp
      · rename_i r hr
        obtain ⟨x', hx', he'⟩ := Option.map_eq_some_iff.1 hp
        simp only [Prod.mk.injEq] at he'
        obtain ⟨rfl, rfl⟩ := he'
        have hy' : a.eval y = .int k n := hy
        exact ⟨r, by simp [execOp, hy', pureV_run hr w], ofValue_ok hx'⟩
      · cases hp
    · rename_i n he
      rw [he] at hy
      split at hp
      · rename_i r hr
        obtain ⟨x', hx', he'⟩ := Option.map_eq_some_iff.1 hp
        simp only [Prod.mk.injEq] at he'
        obtain ⟨rfl, rfl⟩ := he'
        have hy' : a.eval y = .bool n := hy
        exact ⟨r, by simp [execOp, hy', pureV_run hr w], ofValue_ok hx'⟩
      · cases hp
    · cases hp
  | convert src dst y =>
    simp only [tval] at hp
    have hy := hev y
    split at hp
    · rename_i k n k1 k2 he hd hs
      rw [he] at hy
      simp only [Option.some.injEq, Prod.mk.injEq] at hp; obtain ⟨rfl, rfl⟩ := hp
      refine ⟨_, ?_, rfl⟩
      have hy' : a.eval y = .int k n := hy
      simp [execOp, hy', convert, run_underlying ((hT src).int _ hs), run_underlying ((hT dst).int _ hd), Conv.intToInt]
    · cases hp
  | extract y i =>
    simp only [tval] at hp
    have hy := hev y
    split at hp
    · rename_i n f he
      rw [he] at hy
      split at hp
      · rename_i hi
        simp only [Option.some.injEq, Prod.mk.injEq] at hp; obtain ⟨rfl, rfl⟩ := hp
        obtain ⟨vs, h1, h2, h3⟩ := hy
        obtain ⟨u, h4, h5⟩ := h3 i hi
        exact ⟨u, by simp [execOp, h1, Instr.extract, h4], h5⟩
      · cases hp
    · cases hp
  | load T y =>
    simp only [tval] at hp
    obtain ⟨x', hx', he'⟩ := Option.map_eq_some_iff.1 hp
    simp only [Prod.mk.injEq] at he'
    obtain ⟨rfl, rfl⟩ := he'
    obtain ⟨v, h1, h2⟩ := TV.ld_ok hT hm hx' (hev y)
    exact ⟨v, exec_value (e := Instr.loadAt T (a.eval y)) rfl h1, h2⟩
  | indexAddr T y i =>
    simp only [tval] at hp
    have hi := hev i
    split at hp
    · rename_i k z he
      rw [he] at hi
      have hi' : a.eval i = .int k z := hi
      obtain ⟨v, h1, h2⟩ := TV.idx_ok (k := k) hT hm hp hb (hev y)
      exact ⟨v, exec_value (e := Instr.indexAt T (a.eval y) (a.eval i)) rfl (by rw [hi']; exact h1), h2⟩
    · cases hp
  | fieldAddr T y i =>
    simp only [tval] at hp
    obtain ⟨x', hx', he'⟩ := Option.map_eq_some_iff.1 hp
    simp only [Prod.mk.injEq] at he'
    obtain ⟨rfl, rfl⟩ := he'
    obtain ⟨v, h1, h2⟩ := TV.fld_ok hT hm hx' (hev y)
    exact ⟨v, exec_value (e := Instr.fieldAt T (a.eval y) i) rfl h1, h2⟩
  | index T y i =>
    simp only [tval] at hp
    have hi := hev i
    split at hp
    · rename_i k z he
      rw [he] at hi
      have hi' : a.eval i = .int k z := hi
      obtain ⟨v, h1, h2⟩ := ix_ok (k := k) hT hp hb (hev y)
      exact ⟨v, exec_value (e := Instr.index T (a.eval y) (a.eval i)) rfl (by rw [hi']; exact h1), h2⟩
    · cases hp
  | makeFunc fn first caps =>
    simp only [tval] at hp
    split at hp
    · rename_i g
      simp only [Option.some.injEq, Prod.mk.injEq] at hp; obtain ⟨rfl, rfl⟩ := hp
      refine ⟨.func (.func g) (first.map a.eval) (caps.map a.eval), exec_value (e := Instr.makeFunc (.func g) (first.map a.eval) (caps.map a.eval)) (by simp [execOp]) rfl, _, _, rfl, by simp, by simp, fun i hi => ?_, fun i hi => ?_⟩
      · refine ⟨a.eval first[i], by simp [hi], ?_⟩
        have : ((first ++ caps).toList.map s.ev).getD i .any = s.ev first[i] := by
          simp [List.getD, List.getElem?_append_left, hi]
        show VR w _ π _ (((first ++ caps).toList.map s.ev).getD i .any) _
        rw [this]; exact hev _
      · refine ⟨a.eval caps[i], by simp [hi], ?_⟩
        have : ((first ++ caps).toList.map s.ev).getD (first.size + i) .any = s.ev caps[i] := by
          simp [List.getD, List.getElem?_append_right, hi]
        show VR w _ π _ (((first ++ caps).toList.map s.ev).getD (first.size + i) .any) _
        rw [this]; exact hev _
    · cases hp
  | call cl =>
    simp only [tval] at hp
    obtain ⟨callee, args, ats⟩ := cl
    simp only at hp
    split at hp
    · rename_i y T hxs hts
      have ha : args = #[y] := by apply Array.ext'; simpa using hxs
      have ht : ats = #[T] := by apply Array.ext'; simpa using hts
      subst ha; subst ht
      obtain ⟨x', hx', he'⟩ := Option.map_eq_some_iff.1 hp
      simp only [Prod.mk.injEq] at he'
      obtain ⟨rfl, rfl⟩ := he'
      obtain ⟨r, h1, h2⟩ := len_ok (ty := ty) hT hm hx' (hev y)
      exact ⟨r, exec_value (e := Builtin.len_ #[T] ty #[a.eval y]) (by rw [BigFrame.execOp_builtin, BigFrame.builtin_len]; simp) h1, h2⟩
    · cases hp
  | _ => simp [tval] at hp

end
end Go.Proofs.YtbjfbbfglkmadaaDoor
