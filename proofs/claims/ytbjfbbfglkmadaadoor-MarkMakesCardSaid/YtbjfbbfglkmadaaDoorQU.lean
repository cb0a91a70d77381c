/-
  Lifting Go functions to plain Lean functions, part U: how what is told of types is paid.
-/
import Derived.Test.YtbjfbbfglkmadaaDoorQT
import Derived.ChangeKeysEq
namespace Go.Proofs.YtbjfbbfglkmadaaDoor
open Go.RowKit
set_option linter.unusedVariables false

section
variable {P : Program} {T : TypeId}

theorem info_of {z : Value} {n : Nat} (h : (P.info? T).map (fun i => (i.zero, i.size)) = some (some z, n)) : ∃ i, P.info? T = some i ∧ i.size = n ∧ i.zero = some z := by
  obtain ⟨i, hi, hzz⟩ := Option.map_eq_some_iff.1 h
  simp only [Prod.mk.injEq] at hzz
  exact ⟨i, hi, hzz.2, hzz.1⟩

theorem flat_of {z : Value} (h : z.cells.toList.all (fun c => c.oneCell') = true) : Flat z := fun c hc => by
  exact List.all_eq_true.1 h c (by simpa using hc)

theorem flat_one {z : Value} (h : z.oneCell' = true) : Flat z := fun c hc => by
  rw [cells_one h] at hc; simp at hc; rw [hc]; exact h

theorem TFact.nothing : TFact P T {} where
  info := fun h => absurd rfl h
  zc := fun h => absurd rfl h
  one := fun h => by rcases h with h | h <;> cases h
  many := fun h => by rcases h with h | h <;> cases h
  sl := fun h => by cases h
  arr := fun h => by cases h
  str := fun h => by cases h
  strp := fun h => by cases h
  int := fun k h => by cases h
  bool := fun h => by cases h
  string := fun h => by cases h
  map := fun k v h => by cases h
  mapk := fun _ _ h => by cases h
  one1 := fun h => by cases h
  eq := fun t h => by cases h

theorem TFact.int1 {k : IntKind} (hu : P.underlying T = some (.int k)) (hi : (P.info? T).map (fun i => (i.zero, i.size)) = some (some (.int k 0), 1)) : TFact P T { kd := 1, size := 1, zero := .int k 0, ik := some k } where
  info := fun _ => info_of hi
  zc := fun _ => ⟨rfl, flat_one rfl, (fun cs h => by cases h), Nat.one_pos⟩
  one := fun _ => ⟨rfl, fun w => by simp [isAgg, run_underlying hu]⟩
  many := fun h => by rcases h with h | h <;> cases h
  sl := fun h => by cases h
  arr := fun h => by cases h
  str := fun h => by cases h
  strp := fun h => by cases h
  int := fun k' h => by cases h; exact hu
  bool := fun h => by cases h
  string := fun h => by cases h
  map := fun k v h => by cases h
  mapk := fun _ _ h => by cases h
  one1 := fun h => by cases h
  eq := fun t h => by cases h

theorem TFact.bool1 (hu : P.underlying T = some .bool) (hi : (P.info? T).map (fun i => (i.zero, i.size)) = some (some (.bool false), 1)) : TFact P T { kd := 1, size := 1, zero := .bool false, bl := true } where
  info := fun _ => info_of hi
  zc := fun _ => ⟨rfl, flat_one rfl, (fun cs h => by cases h), Nat.one_pos⟩
  one := fun _ => ⟨rfl, fun w => by simp [isAgg, run_underlying hu]⟩
  many := fun h => by rcases h with h | h <;> cases h
  sl := fun h => by cases h
  arr := fun h => by cases h
  str := fun h => by cases h
  strp := fun h => by cases h
  int := fun k' h => by cases h
  bool := fun _ => hu
  string := fun h => by cases h
  map := fun k v h => by cases h
  mapk := fun _ _ h => by cases h
  one1 := fun h => by cases h
  eq := fun t h => by cases h

theorem TFact.str1 (hu : P.underlying T = some .string) (hi : (P.info? T).map (fun i => (i.zero, i.size)) = some (some (.string ⟨⟨[]⟩⟩), 1)) : TFact P T { kd := 1, size := 1, zero := .string ⟨⟨[]⟩⟩, st := true } where
  info := fun _ => info_of hi
  zc := fun _ => ⟨rfl, flat_one rfl, (fun cs h => by cases h), Nat.one_pos⟩
  one := fun _ => ⟨rfl, fun w => by simp [isAgg, run_underlying hu]⟩
  many := fun h => by rcases h with h | h <;> cases h
  sl := fun h => by cases h
  arr := fun h => by cases h
  str := fun h => by cases h
  strp := fun h => by cases h
  int := fun k' h => by cases h
  bool := fun h => by cases h
  string := fun _ => hu
  map := fun k v h => by cases h
  mapk := fun _ _ h => by cases h
  one1 := fun h => by cases h
  eq := fun t h => by cases h

theorem mapKey_int {k : TypeId} {j : IntKind} (hu : P.underlying k = some (.int j)) : MapKey P k (.int j) where
  plain := rfl
  check := fun x w G v b hv => by
    have hv' : v = .int j x := (DT.val_one (t := .int j) rfl).1 hv
    subst hv'
    unfold Instr.checkKey
    simp only [Sem.run_bind, run_underlying hu, Result.andThen_ok]
    rfl
  under := ⟨_, hu, .inl fun x y w G a b ha hb => by
    have ha' : a = .int j x := (DT.val_one (t := .int j) rfl).1 ha
    have hb' : b = .int j y := (DT.val_one (t := .int j) rfl).1 hb
    subst ha'; subst hb'
    simp only [Instr.sameNow, if_true, DT.beq]
    rfl⟩
  same := fun x y w G a b ha hb h => by
    have ha' : a = .int j x := (DT.val_one (t := .int j) rfl).1 ha
    have hb' : b = .int j y := (DT.val_one (t := .int j) rfl).1 hb
    subst ha'; subst hb'
    simp only [DT.beq, decide_eq_true_eq] at h
    simp [Instr.sameBits, h]

theorem mapKey_bool {k : TypeId} (hu : P.underlying k = some .bool) : MapKey P k .bool where
  plain := rfl
  check := fun x w G v b hv => by
    have hv' : v = .bool x := (DT.val_one (t := .bool) rfl).1 hv
    subst hv'
    unfold Instr.checkKey
    simp only [Sem.run_bind, run_underlying hu, Result.andThen_ok]
    rfl
  under := ⟨_, hu, .inl fun x y w G a b ha hb => by
    have ha' : a = .bool x := (DT.val_one (t := .bool) rfl).1 ha
    have hb' : b = .bool y := (DT.val_one (t := .bool) rfl).1 hb
    subst ha'; subst hb'
    rfl⟩
  same := fun x y w G a b ha hb h => by
    have ha' : a = .bool x := (DT.val_one (t := .bool) rfl).1 ha
    have hb' : b = .bool y := (DT.val_one (t := .bool) rfl).1 hb
    subst ha'; subst hb'
    simp only [DT.beq, beq_iff_eq] at h
    simp [Instr.sameBits, h]

theorem mapKey_str {k : TypeId} (hu : P.underlying k = some .string) : MapKey P k .str where
  plain := rfl
  check := fun x w G v b hv => by
    have hv' : v = .string ⟨⟨x⟩⟩ := (DT.val_one (t := .str) rfl).1 hv
    subst hv'
    unfold Instr.checkKey
    simp only [Sem.run_bind, run_underlying hu, Result.andThen_ok]
    rfl
  under := ⟨_, hu, .inl fun x y w G a b ha hb => by
    have ha' : a = .string ⟨⟨x⟩⟩ := (DT.val_one (t := .str) rfl).1 ha
    have hb' : b = .string ⟨⟨y⟩⟩ := (DT.val_one (t := .str) rfl).1 hb
    subst ha'; subst hb'
    simp only [Instr.sameNow, DT.beq, Option.some.injEq]
    rw [Bool.eq_iff_iff, MapKept.bytes_beq]
    constructor
    · intro h; injection h with h; injection h with h; subst h; exact beq_self_eq_true (α := List UInt8) _
    · intro h; have e : x = y := eq_of_beq (α := List UInt8) h; rw [e]⟩
  same := fun x y w G a b ha hb h => by
    have ha' : a = .string ⟨⟨x⟩⟩ := (DT.val_one (t := .str) rfl).1 ha
    have hb' : b = .string ⟨⟨y⟩⟩ := (DT.val_one (t := .str) rfl).1 hb
    subst ha'; subst hb'
    simp only [DT.beq] at h
    simp only [Instr.sameBits]
    have e : x = y := eq_of_beq h
    subst e
    exact (MapKept.bytes_beq _ _).2 rfl

theorem run_forIn_ok {w : World} {f : Nat → PUnit → Sem (ForInStep PUnit)} : ∀ (l : List Nat), (∀ i ∈ l, (f i PUnit.unit).run P w = .ok (.yield PUnit.unit) w) → (forIn l PUnit.unit f : Sem PUnit).run P w = .ok PUnit.unit w
  | [], _ => rfl
  | i :: l, h => by
    simp only [List.forIn_cons, Sem.run_bind, h i (by simp), Result.andThen_ok]
    exact run_forIn_ok l fun j hj => h j (by simp [hj])

/-- Arrays of integers as keys. -/
theorem mapKey_arr {k e : TypeId} {n : Nat} {j : IntKind} (hu : P.underlying k = some (.array n e)) (hk : P.underlying e = some (.int j)) (hi : (P.info? e).map (·.size) = some 1) (hag : ∀ w : World, (isAgg e).run P w = .ok false w)
    (he : ∀ t, some (DT.arr n (.int j)) = some t → t.agg = true ∧ ∀ (x y : t.den) (u v : Value) (w : World) (G : Nat → Prop) (op : BinOp) (ox oy : Operand), t.val x w G u → t.val y w G v → (eqGuard op k ox oy u v).run P w = .ok () w ∧ (Op.equal k u v).run P w = .ok (t.beq x y) w) : MapKey P k (.arr n (.int j)) where
  plain := rfl
  check := fun x w G v b hv => by
    obtain ⟨xs, rfl, x1, x2⟩ := (DT.val_agg (t := .arr n (.int j)) rfl).1 hv
    obtain ⟨ie, hie, hsz⟩ := Option.map_eq_some_iff.1 hi
    unfold Instr.checkKey
    simp only [Sem.run_bind, run_underlying hu, Result.andThen_ok]
    simp only [Std.Legacy.Range.forIn_eq_forIn_range', Std.Legacy.Range.size, Nat.sub_zero, Nat.add_one_sub_one, Nat.div_one]
    rw [run_forIn_ok]
    · rfl
    intro i hi
    have hin : i < n := by
      have := List.mem_range'.1 hi
      omega
    obtain ⟨a, a1, _, a3⟩ := x2 i (by simpa [DT.size] using hin)
    have a3' : a = .int j (x.getD i (0 : Int)) := by
      have : (DT.int j).cell (x.getD (i / 1) (0 : Int)) (i % 1) w G a := a3
      rw [Nat.div_one] at this; exact this
    have h1 : (sizeOf e).run P w = .ok 1 w := by simp [sizeOf, typeInfo, hie, hsz]
    have h2 : (part e xs i).run P w = .ok a w := by simp [part, hag, a1]
    subst a3'
    have h3 : (Instr.checkKey b 9999 e (.int j (x.getD i (0 : Int)))).run P w = .ok () w := by
      unfold Instr.checkKey
      simp only [Sem.run_bind, run_underlying hk, Result.andThen_ok]
      rfl
    simp only [Sem.run_bind, h1, Result.andThen_ok, Nat.mul_one, h2, h3]
    rfl
  under := ⟨_, hu, .inr ⟨fun x y w G a b ha hb => by
    obtain ⟨xs, rfl, x1, x2⟩ := (DT.val_agg (t := .arr n (.int j)) rfl).1 ha
    rfl, fun x y w G a b ha hb => ((he _ rfl).2 x y a b w G .eql (.tmp 0) (.tmp 0) ha hb).2⟩⟩
  same := fun x y w G a b ha hb h => by
    obtain ⟨xs, rfl, x1, x2⟩ := (DT.val_agg (t := .arr n (.int j)) rfl).1 ha
    obtain ⟨ys, rfl, y1, y2⟩ := (DT.val_agg (t := .arr n (.int j)) rfl).1 hb
    have hs : ys.size = xs.size := y1.trans x1.symm
    simp only [Instr.sameBits, Bool.and_eq_true, beq_iff_eq]
    refine ⟨hs, List.all_eq_true.2 fun p hp => ?_⟩
    obtain ⟨i, hi, rfl⟩ := List.getElem_of_mem hp
    simp only [List.length_zip, Array.length_toList] at hi
    have hin : i < n := by
      have : xs.size = n := by rw [x1]; simp [DT.size]
      omega
    obtain ⟨p, p1, _, p3⟩ := x2 i (by simpa [DT.size] using hin)
    obtain ⟨q, q1, _, q3⟩ := y2 i (by simpa [DT.size] using hin)
    have p3' : p = .int j (x.getD i (0 : Int)) := by
      have : (DT.int j).cell (x.getD (i / 1) (0 : Int)) (i % 1) w G p := p3
      rw [Nat.div_one] at this; exact this
    have q3' : q = .int j (y.getD i (0 : Int)) := by
      have : (DT.int j).cell (y.getD (i / 1) (0 : Int)) (i % 1) w G q := q3
      rw [Nat.div_one] at this; exact this
    simp only [DT.beq, List.all_eq_true, List.mem_range, DT.dflt] at h
    have hxy : x.getD i (0 : Int) = y.getD i (0 : Int) := of_decide_eq_true (h i hin)
    have e1 : ys.toList[i]'(by simp; omega) = q := by
      have : i < ys.size := by omega
      rw [Array.getElem?_eq_getElem this] at q1
      simpa using Option.some.inj q1
    have e2 : xs.toList[i]'(by simp; omega) = p := by
      have : i < xs.size := by omega
      rw [Array.getElem?_eq_getElem this] at p1
      simpa using Option.some.inj p1
    simp only [List.getElem_zip, e1, e2, p3', q3', Instr.sameBits, Bool.and_eq_true, beq_iff_eq, true_and]
    exact hxy.symm

theorem TFact.map1 {k v : TypeId} (hu : P.underlying T = some (.map k v)) (hi : (P.info? T).map (fun i => (i.zero, i.size)) = some (some (.map none), 1)) {q : Option (DT × DT)} (hq : ∀ kt vt, q = some (kt, vt) → MapKey P k kt ∧ ∃ i z, P.info? v = some i ∧ i.zero = some z ∧ isZero0 z vt ∧ vt.plain = true) : TFact P T { kd := 1, size := 1, zero := .map none, mp := some (k, v), mkv := q } where
  info := fun _ => info_of hi
  zc := fun _ => ⟨rfl, flat_one rfl, (fun cs h => by cases h), Nat.one_pos⟩
  one := fun _ => ⟨rfl, fun w => by simp [isAgg, run_underlying hu]⟩
  many := fun h => by rcases h with h | h <;> cases h
  sl := fun h => by cases h
  arr := fun h => by cases h
  str := fun h => by cases h
  strp := fun h => by cases h
  int := fun k h => by cases h
  bool := fun h => by cases h
  string := fun h => by cases h
  map := fun k' v' h => by cases h; exact hu
  mapk := fun kt vt h => by
    obtain ⟨h1, i, z, h2, h3, h4, h5⟩ := hq kt vt h
    exact ⟨k, v, i, z, hu, h1, h2, h3, h4, h5⟩
  one1 := fun h => by cases h
  eq := fun t h => by cases h

/-- Keys and values of a map, as data. -/
theorem mkv_of {k v : TypeId} {kt0 vt0 : DT} {z : Value} (hk : MapKey P k kt0) (hz : (P.info? v).map (·.zero) = some (some z)) (hz0 : isZero z vt0 = true) (hp : vt0.plain = true) : ∀ kt vt, some (kt0, vt0) = some (kt, vt) → MapKey P k kt ∧ ∃ i z, P.info? v = some i ∧ i.zero = some z ∧ isZero0 z vt ∧ vt.plain = true := fun kt vt h => by
  simp only [Option.some.injEq, Prod.mk.injEq] at h
  obtain ⟨rfl, rfl⟩ := h
  obtain ⟨i, h1, h2⟩ := Option.map_eq_some_iff.1 hz
  exact ⟨hk, i, z, h1, h2, fun w G => isZero_ok hp hz0, hp⟩

/-- Any other type of one cell. -/
theorem TFact.cell {z : Value} (ha : ∀ w : World, (isAgg T).run P w = .ok false w) (hi : (P.info? T).map (fun i => (i.zero, i.size)) = some (some z, 1)) (hz : z.oneCell' = true) : TFact P T { kd := 1, size := 1, zero := z } where
  info := fun _ => info_of hi
  zc := fun _ => ⟨by rw [cells_one hz]; rfl, fun c hc => by rw [cells_one hz] at hc; simp at hc; rw [hc]; exact hz, (fun cs h => by rw [show z = .agg cs from h] at hz; cases hz), Nat.one_pos⟩
  one := fun _ => ⟨rfl, ha⟩
  many := fun h => by rcases h with h | h <;> cases h
  sl := fun h => by cases h
  arr := fun h => by cases h
  str := fun h => by cases h
  strp := fun h => by cases h
  int := fun k' h => by cases h
  bool := fun h => by cases h
  string := fun h => by cases h
  map := fun k v h => by cases h
  mapk := fun _ _ h => by cases h
  one1 := fun h => by cases h
  eq := fun t h => by cases h

/-- A type of pointers. -/
theorem TFact.ptr1 {e : TypeId} (hu : P.underlying T = some (.pointer e)) (hi : (P.info? T).map (fun i => (i.zero, i.size)) = some (some (.pointer none), 1)) : TFact P T { kd := 1, size := 1, zero := .pointer none, pt := true } where
  info := fun _ => info_of hi
  zc := fun _ => ⟨rfl, flat_one rfl, (fun cs h => by cases h), Nat.one_pos⟩
  one := fun _ => ⟨rfl, fun w => by simp [isAgg, run_underlying hu]⟩
  many := fun h => by rcases h with h | h <;> cases h
  sl := fun h => by cases h
  arr := fun h => by cases h
  str := fun h => by cases h
  strp := fun h => by cases h
  int := fun k' h => by cases h
  bool := fun h => by cases h
  string := fun h => by cases h
  map := fun k v h => by cases h
  mapk := fun _ _ h => by cases h
  one1 := fun h => by cases h
  eq := fun t h => by cases h
  ptr := fun _ => ⟨e, hu⟩

/-- The methods of a type, beside what else is told of it. -/
theorem TFact.meth {d : TD} (h : TFact P T d) (l : List (String × Nat)) (hl : ∀ name g, l.lookup name = some g → ∀ (n : Nat) (v : Value) (w : World), (Go.method (n + 1) T v name).run P w = .ok (g, v) w) : TFact P T { d with mth := l } :=
  ⟨h.info, h.zc, h.one, h.many, h.sl, h.arr, h.str, h.strp, h.int, h.bool, h.string, h.map, h.mapk, h.one1, h.eq, hl, h.ptr⟩

def notPtr : TypeDesc → Bool
  | .pointer _ => false
  | _ => true

theorem method_of {d : TypeDesc} {name : String} {g : Nat} (hu : P.underlying T = some d) (hd : notPtr d = true) (hm : ((P.info? T).bind fun i => (i.methods.find? (·.name == name)).map fun m => (m.path.toList.isEmpty, m.func)) = some (true, some (g, false))) (n : Nat) (v : Value) (w : World) : (Go.method (n + 1) T v name).run P w = .ok (g, v) w := by
  obtain ⟨i, h1, h2⟩ := Option.bind_eq_some_iff.1 hm
  obtain ⟨m, h3, h4⟩ := Option.map_eq_some_iff.1 h2
  simp only [Prod.mk.injEq, List.isEmpty_iff] at h4
  obtain ⟨h4, h5⟩ := h4
  have hr : ∀ wr, (receiverAt T (.val v) false wr).run P w = .ok v w := fun wr => by
    unfold receiverAt
    simp only [Sem.run_bind, run_underlying hu, Result.andThen_ok]
    cases d <;> first | (simp [notPtr] at hd; done) | rfl
  simp [Go.method, typeInfo, h1, h3, h4, follow, h5, hr]

theorem lookup_one {a : String} {b : Nat} {Q : String → Nat → Prop} (h : Q a b) : ∀ name g, [(a, b)].lookup name = some g → Q name g := fun name g h' => by
  simp only [List.lookup] at h'
  split at h'
  · rename_i e
    obtain rfl := Option.some.inj h'
    rw [beq_iff_eq] at e
    rw [e]; exact h
  · cases h'

theorem TFact.slice1 {e : TypeId} {ze : Value} {k b : Nat} (hu : P.underlying T = some (.slice e)) (hi : (P.info? T).map (fun i => (i.zero, i.size)) = some (some (.slice none 0 0), 1)) (he : (P.info? e).map (fun i => (i.zero, i.size, i.bytes)) = some (some ze, k, b))
    (hc : ze.cells.size = k) (hf : ze.cells.toList.all (fun c => c.oneCell') = true) (hk : 0 < k) : TFact P T { kd := 2, size := 1, zero := .slice none 0 0, elem := k, eb := b, ez := ze } where
  info := fun _ => info_of hi
  zc := fun _ => ⟨rfl, flat_one rfl, (fun cs h => by cases h), Nat.one_pos⟩
  one := fun _ => ⟨rfl, fun w => by simp [isAgg, run_underlying hu]⟩
  many := fun h => by rcases h with h | h <;> cases h
  sl := fun _ => by
    obtain ⟨i, h1, h2, h3, h4⟩ := info_parts he
    exact ⟨e, i, hu, h1, h3, h4, h2, hc, flat_of hf, hk⟩
  arr := fun h => by cases h
  str := fun h => by cases h
  strp := fun h => by cases h
  int := fun k' h => by cases h
  bool := fun h => by cases h
  string := fun h => by cases h
  map := fun k v h => by cases h
  mapk := fun _ _ h => by cases h
  one1 := fun h => by cases h
  eq := fun t h => by cases h

theorem eqGuard_no {op : BinOp} {ox oy : Operand} {xs ys : Array Value} {w : World} (h : P.eqGuardType P.depth T = false) : (eqGuard op T ox oy (.agg xs) (.agg ys)).run P w = .ok () w := by
  unfold eqGuard
  cases op <;> simp [run_program, h]

theorem eqItems_int {e : TypeId} {k : IntKind} (hk : P.underlying e = some (.int k)) (hag : ∀ w : World, (isAgg e).run P w = .ok false w) {w : World} {xs ys : Array Value} {x y : List Int} (d : Nat) : ∀ is : List Nat, (∀ i ∈ is, xs[i]? = some (.int k (x.getD i 0)) ∧ ys[i]? = some (.int k (y.getD i 0))) →
    (Op.eqItems (d + 1) e 1 xs ys is).run P w = .ok (is.all fun i => decide (x.getD i 0 = y.getD i 0)) w
  | [], _ => rfl
  | i :: is, h => by
    obtain ⟨h1, h2⟩ := h i (by simp)
    have ih := eqItems_int hk hag (w := w) d is fun j hj => h j (by simp [hj])
    simp only [Op.eqItems, Sem.run_bind, part, hag, Result.andThen_ok, Nat.mul_one]
    simp only [h1, h2]
    simp only [List.all_cons]
    generalize x.getD i 0 = p
    generalize y.getD i 0 = q
    by_cases hxy : p = q
    · simp [run_equalIn_int, hk, hxy, ih]
    · simp [run_equalIn_int, hk, hxy]

/-- Arrays of integers are compared. -/
theorem eq_arr {e : TypeId} {n : Nat} {k : IntKind} (hu : P.underlying T = some (.array n e)) (hk : P.underlying e = some (.int k)) (hi : (P.info? e).isSome = true) (hag : ∀ w : World, (isAgg e).run P w = .ok false w) (hc : P.cellsOf e = 1) (hg : P.eqGuardType P.depth T = false) :
    ∀ t, some (DT.arr n (.int k)) = some t → t.agg = true ∧ ∀ (x y : t.den) (u v : Value) (w : World) (G : Nat → Prop) (op : BinOp) (ox oy : Operand), t.val x w G u → t.val y w G v → (eqGuard op T ox oy u v).run P w = .ok () w ∧ (Op.equal T u v).run P w = .ok (t.beq x y) w := fun t ht => by
  obtain rfl := Option.some.inj ht
  refine ⟨rfl, fun x y u v w G op ox oy hu' hv => ?_⟩
  obtain ⟨xs, rfl, x1, x2⟩ := (DT.val_agg (t := .arr n (.int k)) rfl).1 hu'
  obtain ⟨ys, rfl, y1, y2⟩ := (DT.val_agg (t := .arr n (.int k)) rfl).1 hv
  refine ⟨eqGuard_no hg, ?_⟩
  obtain ⟨i, hi'⟩ := Option.isSome_iff_exists.1 hi
  show (Op.equalIn (9999 + 1) T _ _).run P w = _
  rw [run_equalIn_array w 9999 xs ys hu hi', hc]
  refine eqItems_int hk hag 9998 (List.range n) fun j hj => ?_
  have hj' : j < n * 1 := by simpa using hj
  obtain ⟨a, a1, _, a3⟩ := x2 j hj'
  obtain ⟨b, b1, _, b3⟩ := y2 j hj'
  simp only [DT.cell, DT.size, Nat.div_one] at a3 b3
  exact ⟨by rw [a1, a3]; rfl, by rw [b1, b3]; rfl⟩

/-- A struct of integers, as a chain of pairs. -/
def chn : List IntKind → DT
  | [] => .unit
  | k :: r => .pair (.int k) (chn r)

def fokB (P : Program) : List Field → List IntKind → Nat → Bool
  | [], [], _ => true
  | f :: fs, k :: ks, o => (f.name != "_") && (f.offset == o) && (match P.underlying f.type with | some (.int k') => decide (k' = k) | _ => false) && fokB P fs ks (o + 1)
  | _, _, _ => false

theorem chn_size : ∀ ks : List IntKind, (chn ks).size = ks.length
  | [] => rfl
  | k :: r => by show 1 + (chn r).size = _; rw [chn_size r, List.length_cons]; omega

theorem eqFields_int {w : World} {G : Nat → Prop} {xs ys : Array Value} (d : Nat) : ∀ (fs : List Field) (ks : List IntKind) (o : Nat), fokB P fs ks o = true → ∀ (x y : (chn ks).den), (∀ j, j < ks.length → ∃ u, xs[o + j]? = some u ∧ (chn ks).cell x j w G u) → (∀ j, j < ks.length → ∃ u, ys[o + j]? = some u ∧ (chn ks).cell y j w G u) →
    (Op.eqFields (d + 1) xs ys fs).run P w = .ok ((chn ks).beq x y) w
  | [], [], _, _, x, y, _, _ => rfl
  | [], k :: ks, _, h, _, _, _, _ => by cases h
  | f :: fs, [], _, h, _, _, _, _ => by cases h
  | f :: fs, k :: ks, o, h, x, y, hx, hy => by
    simp only [fokB, Bool.and_eq_true, bne_iff_ne, beq_iff_eq] at h
    obtain ⟨⟨⟨h1, h2⟩, h3⟩, h4⟩ := h
    have hu : P.underlying f.type = some (.int k) := by
      split at h3
      · rename_i k' e; rw [e]; simp only [decide_eq_true_eq] at h3; rw [h3]
      · cases h3
    have hag : ∀ w : World, (isAgg f.type).run P w = .ok false w := fun w => by simp [isAgg, run_underlying hu]
    have ih := eqFields_int d fs ks (o + 1) h4 x.2 y.2 (fun j hj => by
      obtain ⟨u, a, b⟩ := hx (j + 1) (by simp; omega)
      refine ⟨u, by rw [← a]; congr 1; omega, ?_⟩
      have b' : (if j + 1 < (DT.int k).size then (DT.int k).cell x.1 (j + 1) w G u else (chn ks).cell x.2 (j + 1 - (DT.int k).size) w G u) := by
        have : (chn (k :: ks)).cell x (j + 1) w G u := b
        simp only [chn, DT.cell] at this
        split at this
        · rename_i q; exact absurd q (by show ¬ j + 1 < 1; omega)
        · rename_i q; rw [if_neg q]; exact this
      rw [if_neg (by show ¬ j + 1 < 1; omega)] at b'
      exact b') (fun j hj => by
      obtain ⟨u, a, b⟩ := hy (j + 1) (by simp; omega)
      refine ⟨u, by rw [← a]; congr 1; omega, ?_⟩
      have this : (chn (k :: ks)).cell y (j + 1) w G u := b
      simp only [chn, DT.cell] at this
      split at this
      · rename_i q; exact absurd q (by show ¬ j + 1 < 1; omega)
      · exact this)
    obtain ⟨u, a1, a2⟩ := hx 0 (by simp)
    obtain ⟨v, b1, b2⟩ := hy 0 (by simp)
    have a3 : u = .int k x.1 := by
      have this : (chn (k :: ks)).cell x 0 w G u := a2
      simp only [chn, DT.cell] at this
      split at this
      · exact this
      · rename_i q; exact absurd (show 0 < 1 by omega) q
    have b3 : v = .int k y.1 := by
      have this : (chn (k :: ks)).cell y 0 w G v := b2
      simp only [chn, DT.cell] at this
      split at this
      · exact this
      · rename_i q; exact absurd (show 0 < 1 by omega) q
    rw [Nat.add_zero] at a1 b1
    subst a3; subst b3
    simp only [Op.eqFields, if_pos h1, Sem.run_bind, part, hag, Result.andThen_ok, h2]
    simp only [a1, b1]
    have key : ∀ p q : Int, ∀ r : Bool, (Op.eqFields (d + 1) xs ys fs).run P w = .ok r w → ((Op.equalIn (d + 1) f.type (.int k p) (.int k q)).run P w).andThen (fun b w' => Sem.run P (if (!b) = true then pure false else Op.eqFields (d + 1) xs ys fs) w') = .ok (decide (p = q) && r) w := fun p q r hr => by
      rw [run_equalIn_int w d f.type k k p q hu]
      by_cases e : p = q
      · subst e; simp [hr]
      · simp [e]
    exact key x.1 y.1 _ ih

/-- Structs of integers are compared. -/
theorem eq_struct {ks : List IntKind} (hne : ks ≠ []) (hu : P.underlying T = some (.struct (P.fieldsOf T))) (hp : P.stoodInHeld T = false) (hk : fokB P (P.fieldsOf T).toList ks 0 = true) (hg : P.eqGuardType P.depth T = false) :
    ∀ t, some (chn ks) = some t → t.agg = true ∧ ∀ (x y : t.den) (u v : Value) (w : World) (G : Nat → Prop) (op : BinOp) (ox oy : Operand), t.val x w G u → t.val y w G v → (eqGuard op T ox oy u v).run P w = .ok () w ∧ (Op.equal T u v).run P w = .ok (t.beq x y) w := fun t ht => by
  obtain rfl := Option.some.inj ht
  have hagg : (chn ks).agg = true := by cases ks <;> first | rfl | exact absurd rfl hne
  refine ⟨hagg, fun x y u v w G op ox oy hu' hv => ?_⟩
  obtain ⟨xs, rfl, x1, x2⟩ := (DT.val_agg hagg).1 hu'
  obtain ⟨ys, rfl, y1, y2⟩ := (DT.val_agg hagg).1 hv
  refine ⟨eqGuard_no hg, ?_⟩
  show (Op.equalIn (9999 + 1) T _ _).run P w = _
  rw [run_equalIn_struct w 9999 T xs ys hu hp]
  refine eqFields_int (G := G) 9998 _ ks 0 hk x y (fun j hj => ?_) (fun j hj => ?_)
  · obtain ⟨a, a1, _, a3⟩ := x2 j (by rw [chn_size]; exact hj)
    exact ⟨a, by rw [Nat.zero_add]; exact a1, a3⟩
  · obtain ⟨a, a1, _, a3⟩ := y2 j (by rw [chn_size]; exact hj)
    exact ⟨a, by rw [Nat.zero_add]; exact a1, a3⟩

theorem TFact.withEq {d : TD} (h : TFact P T d) (q : Option DT) (hq : ∀ t, q = some t → t.agg = true ∧ ∀ (x y : t.den) (u v : Value) (w : World) (G : Nat → Prop) (op : BinOp) (ox oy : Operand), t.val x w G u → t.val y w G v → (eqGuard op T ox oy u v).run P w = .ok () w ∧ (Op.equal T u v).run P w = .ok (t.beq x y) w) : TFact P T { d with eqd := q } :=
  { h with eq := hq }

theorem TFact.array1 {e : TypeId} {ze : Value} {k b n m : Nat} {z : Array Value} (hu : P.underlying T = some (.array n e)) (hi : (P.info? T).map (fun i => (i.zero, i.size)) = some (some (.agg z), m)) (he : (P.info? e).map (fun i => (i.zero, i.size, i.bytes)) = some (some ze, k, b))
    (hc : z.size = m) (hf : z.toList.all (fun c => c.oneCell') = true) (hm : 0 < m) {o1 : Bool} (ho : o1 = true → ∀ w : World, (isAgg e).run P w = .ok false w) {q : Option DT} (hq : ∀ t, q = some t → t.agg = true ∧ ∀ (x y : t.den) (u v : Value) (w : World) (G : Nat → Prop) (op : BinOp) (ox oy : Operand), t.val x w G u → t.val y w G v → (eqGuard op T ox oy u v).run P w = .ok () w ∧ (Op.equal T u v).run P w = .ok (t.beq x y) w) :
    TFact P T { kd := 3, size := m, zero := .agg z, elem := k, eb := b, ez := ze, len := n, one1 := o1, eqd := q } where
  info := fun _ => info_of hi
  zc := fun _ => ⟨hc, flat_of hf, (fun cs h => by show 2 < 3; omega), hm⟩
  one := fun h => by rcases h with h | h <;> cases h
  many := fun _ => ⟨⟨z, rfl⟩, fun w => by simp [isAgg, run_underlying hu]⟩
  sl := fun h => by cases h
  arr := fun _ => by
    obtain ⟨i, h1, h2, h3, h4⟩ := info_parts he
    exact ⟨e, i, hu, h1, h3⟩
  str := fun h => by cases h
  strp := fun h => by cases h
  int := fun k' h => by cases h
  bool := fun h => by cases h
  string := fun h => by cases h
  map := fun k v h => by cases h
  mapk := fun _ _ h => by cases h
  one1 := fun h e' he' w => by
    rw [hu] at he'
    simp only [Option.some.injEq, TypeDesc.array.injEq] at he'
    rw [← he'.2]; exact ho h w
  eq := hq

theorem mapM_get {P : Program} : ∀ {fs : List Field} {places : List (Nat × Nat)}, fs.mapM (fun f => (P.info? f.type).map fun i => (f.offset, i.size)) = some places → fs.length = places.length ∧ ∀ (i : Nat) (p : Nat × Nat), places[i]? = some p → ∃ f fi, fs[i]? = some f ∧ f.offset = p.1 ∧ P.info? f.type = some fi ∧ fi.size = p.2
  | [], places, h => by simp at h; subst h; exact ⟨rfl, fun i p hp => by simp at hp⟩
  | f :: fs, places, h => by
    simp only [List.mapM_cons, Option.bind_eq_bind, Option.pure_def] at h
    cases hi : P.info? f.type with
    | none => simp [hi] at h
    | some i =>
      cases hr : fs.mapM (fun f => (P.info? f.type).map fun i => (f.offset, i.size)) with
      | none => simp [hi, hr] at h
      | some rest =>
        simp [hi, hr] at h
        subst h
        obtain ⟨h1, h2⟩ := mapM_get hr
        refine ⟨by simp [h1], fun j p hp => ?_⟩
        cases j with
        | zero => simp at hp; subst hp; exact ⟨f, i, rfl, rfl, hi, rfl⟩
        | succ j => simpa using h2 j p (by simpa using hp)

theorem TFact.struct1 {fs : Array Field} {m : Nat} {z : Array Value} {offs : List (Nat × Nat)} (hu : P.underlying T = some (.struct fs)) (hi : (P.info? T).map (fun i => (i.zero, i.size)) = some (some (.agg z), m)) (hp : fs.toList.mapM (fun f => (P.info? f.type).map fun i => (f.offset, i.size)) = some offs)
    (hc : z.size = m) (hf : z.toList.all (fun c => c.oneCell') = true) (hm : 0 < m) (ho : offs.all (fun p => decide (0 < p.2)) = true) : TFact P T { kd := 4, size := m, zero := .agg z, offs := offs } where
  info := fun _ => info_of hi
  zc := fun _ => ⟨hc, flat_of hf, (fun cs h => by show 2 < 4; omega), hm⟩
  one := fun h => by rcases h with h | h <;> cases h
  many := fun _ => ⟨⟨z, rfl⟩, fun w => by simp [isAgg, run_underlying hu]⟩
  sl := fun h => by cases h
  arr := fun h => by cases h
  str := fun _ => by
    obtain ⟨h1, h2⟩ := mapM_get hp
    refine ⟨fs, hu, by simpa using h1, fun i p hip => ?_⟩
    obtain ⟨f, fi, a1, a2, a3, a4⟩ := h2 i p hip
    have := List.all_eq_true.1 ho p (List.mem_of_getElem? hip)
    exact ⟨f, fi, by simpa using a1, a2, a3, a4, by simpa using this⟩
  strp := fun _ => ⟨fs, hu, hp⟩
  int := fun k' h => by cases h
  bool := fun h => by cases h
  string := fun h => by cases h
  map := fun k v h => by cases h
  mapk := fun _ _ h => by cases h
  one1 := fun h => by cases h
  eq := fun t h => by cases h

end
end Go.Proofs.YtbjfbbfglkmadaaDoor
