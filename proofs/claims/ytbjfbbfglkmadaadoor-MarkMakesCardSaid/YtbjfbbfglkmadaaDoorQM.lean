/-
  Lifting Go functions to plain Lean functions, part M: slices of slices; structs read whole; freezing.
-/
import Derived.Test.YtbjfbbfglkmadaaDoorQL
namespace Go.Proofs.YtbjfbbfglkmadaaDoor
open Go.RowKit
set_option linter.unusedVariables false

/-- A bound of a slice expression: none; or a number. -/
def ixOf (ev : Operand → TV) : Option Operand → Option (Option Int)
  | none => some none
  | some o => match ev o with
    | .dv (.int _) z => some (some z)
    | _ => none

def cutL {α : Type} (l : List α) : Option Int → Option Int → List α
  | none, none => l
  | some a, none => l.drop a.toNat
  | none, some b => l.take b.toNat
  | some a, some b => (l.take b.toNat).drop a.toNat

def cutB (n : Nat) : Option Int → Option Int → Bool
  | none, none => true
  | some a, none => decide (0 ≤ a ∧ a ≤ (n : Int))
  | none, some b => decide (0 ≤ b ∧ b ≤ (n : Int))
  | some a, some b => decide (0 ≤ a ∧ a ≤ b ∧ b ≤ (n : Int))

def loN : Option Int → Nat
  | none => 0
  | some a => a.toNat
def hiN (n : Nat) : Option Int → Nat
  | none => n
  | some b => b.toNat

theorem cutB_ok {n : Nat} {a b : Option Int} (h : cutB n a b = true) : loN a ≤ hiN n b ∧ hiN n b ≤ n ∧ (∀ z, a = some z → 0 ≤ z) ∧ (∀ z, b = some z → 0 ≤ z) := by
  cases a <;> cases b <;> simp only [cutB, decide_eq_true_eq] at h <;> simp only [loN, hiN] <;> refine ⟨by omega, by omega, fun z hz => ?_, fun z hz => ?_⟩ <;> first | (cases hz; done) | (obtain rfl := Option.some.inj hz; omega)

theorem cutL_eq {α : Type} (l : List α) (a b : Option Int) : cutL l a b = (l.take (hiN l.length b)).drop (loN a) := by
  cases a <;> cases b <;> simp [cutL, loN, hiN]

/-- Fields read as a struct. -/
def asmTV (L : Obs) : (t : DT) → List TV → Option (t.den × Bool)
  | .unit, [] => some ((), true)
  | .pair a b, x :: r => match x.as L a with
    | some (y, b1) => match asmTV L b r with
      | some (z, b2) => if x.size == a.size && a.plain then some ((y, z), b1 && b2) else none
      | none => none
    | none => none
  | _, _ => none

/-- Interfaces that hold one of some types. -/
def DT.chain : DT → Bool
  | .ifn => true
  | .ifc _ t r => !t.agg && t.plain && r.chain
  | _ => false

def DT.tagged : DT → Nat → Bool
  | .ifc T _ r, T' => decide (T = T') || r.tagged T'
  | _, _ => false

/-- What it holds, where it is of a type. -/
def DT.held : (s : DT) → Nat → Option (Σ t : DT, s.den → Option t.den)
  | .ifc T t r, T' => if T = T' then (if r.tagged T' then none else some ⟨t, fun y => match y with | .inl a => some a | .inr _ => none⟩)
      else match r.held T' with
        | some ⟨u, f⟩ => some ⟨u, fun y => match y with | .inl _ => none | .inr b => f b⟩
        | none => none
  | _, _ => none

theorem DT.tagged_cell {w : World} {G : Nat → Prop} : ∀ {s : DT} {T : Nat} {y : s.den} {v : Value}, s.chain = true → s.tagged T = false → s.cell y 0 w G v → v = .nilIface ∨ ∃ T' u, v = .iface T' u ∧ T' ≠ T := by
  intro s
  induction s with
  | ifn => intro T y v _ _ h; exact .inl h
  | ifc T0 t r _ ih =>
    intro T y v hc ht h
    simp only [DT.chain, Bool.and_eq_true] at hc
    simp only [DT.tagged, Bool.or_eq_false_iff, decide_eq_false_iff_not] at ht
    cases y with
    | inl a => obtain ⟨u, h1, _⟩ := h; exact .inr ⟨T0, u, h1, ht.1⟩
    | inr b => exact ih (y := b) hc.2 ht.2 h
  | _ => intro T y v hc; simp [DT.chain] at hc

theorem DT.held_one : ∀ {s : DT} {T : Nat} {t : DT} {f : s.den → Option t.den}, s.chain = true → s.held T = some ⟨t, f⟩ → t.agg = false ∧ t.plain = true := by
  intro s
  induction s with
  | ifc T0 t0 r _ ih =>
    intro T t f hc hh
    simp only [DT.chain, Bool.and_eq_true, Bool.not_eq_true'] at hc
    simp only [DT.held] at hh
    split at hh
    · split at hh
      · cases hh
      · obtain ⟨rfl, _⟩ := Sigma.mk.inj (Option.some.inj hh)
        exact hc.1
    · split at hh
      · rename_i u g hg
        obtain ⟨rfl, _⟩ := Sigma.mk.inj (Option.some.inj hh)
        exact ih hc.2 hg
      · cases hh
  | _ => intro T t f hc hh; simp [DT.held] at hh

theorem DT.held_cell {w : World} {G : Nat → Prop} : ∀ {s : DT} {T : Nat} {t : DT} {f : s.den → Option t.den} {y : s.den} {v : Value}, s.chain = true → s.held T = some ⟨t, f⟩ → s.cell y 0 w G v →
    (∃ a u, f y = some a ∧ v = .iface T u ∧ t.cell a 0 w G u) ∨ (f y = none ∧ (v = .nilIface ∨ ∃ T' u, v = .iface T' u ∧ T' ≠ T)) := by
  intro s
  induction s with
  | ifc T0 t0 r _ ih =>
    intro T t f y v hc hh h
    simp only [DT.chain, Bool.and_eq_true, Bool.not_eq_true'] at hc
    simp only [DT.held] at hh
    split at hh
    · rename_i e
      subst e
      split at hh
      · cases hh
      · rename_i ht
        obtain ⟨rfl, hf⟩ := Sigma.mk.inj (Option.some.inj hh)
        obtain rfl := eq_of_heq hf
        cases y with
        | inl a => obtain ⟨u, h1, _, h3⟩ := h; exact .inl ⟨a, u, rfl, h1, h3⟩
        | inr b => exact .inr ⟨rfl, DT.tagged_cell (y := b) hc.2 (by simpa using ht) h⟩
    · rename_i hne
      split at hh
      · rename_i u g hg
        obtain ⟨rfl, hf⟩ := Sigma.mk.inj (Option.some.inj hh)
        obtain rfl := eq_of_heq hf
        cases y with
        | inl a => obtain ⟨z, h1, _⟩ := h; exact .inr ⟨rfl, .inr ⟨T0, z, h1, hne⟩⟩
        | inr b => exact ih (y := b) hc.2 hg h
      · cases hh
  | _ => intro T t f y v hc hh; simp [DT.held] at hh

/-- A type that is no interface. -/
def noIface (d : TD) : Bool := d.ik.isSome || d.bl || d.st || d.kd == 2

def tmore (TI : Nat → TD) (TY : Nat → DT) (ev : Operand → TV) (L : Obs) : Op → Option (TV × Bool)
  | .slice T x lo hi mx => match ixOf ev lo, ixOf ev hi, ixOf ev mx with
    | some a, some b, some none => match ev x with
      | .row id => match L id with
        | some (.row t l) => if (TI T).kd == 2 && (TI T).elem == t.size then some (.vrow id (loN a) (hiN l.length b), cutB l.length a b) else none
        | some (.frz t l) => if (TI T).kd == 2 && (TI T).elem == t.size then some (.dv (.sl t) (cutL l a b), cutB l.length a b) else none
        | _ => none
      | .vrow id i j => match L id with
        | some (.row t l) => if (TI T).kd == 2 && (TI T).elem == t.size then some (.vrow id (i + loN a) (i + hiN (j - i) b), cutB (j - i) a b) else none
        | some (.frz t l) => if (TI T).kd == 2 && (TI T).elem == t.size then some (.dv (.sl t) (cutL ((l.take j).drop i) a b), cutB ((l.take j).drop i).length a b) else none
        | _ => none
      | .ptr id i p => match L id with
        | some o => match o.part i p with
          | some ⟨.arr n u, _⟩ => if (TI T).kd == 3 && (TI T).elem == u.size && (TI T).len == n then some (.view id i p u.size n (loN a) (hiN n b), cutB n a b && decide (n ≤ 1000000)) else none
          | _ => none
        | none => none
      | .dv .str l => if (TI T).st then some (.dv .str (cutL l a b), cutB l.length a b) else none
      | x => match x.fdata L with
        | some ⟨t, l⟩ => if (TI T).kd == 2 && (TI T).elem == t.size then some (.dv (.sl t) (cutL l a b), cutB l.length a b) else none
        | none => none
    | some a, some (some b), some (some m) => match (ev x).fdata L with
      | some ⟨t, l⟩ => if (TI T).kd == 2 && (TI T).elem == t.size then some (.dv (.csl t) (cutL l a (some b)), cutB l.length a (some b) && decide (m = b)) else none
      | none => none
    | _, _, _ => none
  | .load T p => match ev p with
    | .ptr id i [] => match L id with
      | some (.rcd fs) => match asmTV L (TY T) fs with
        | some (y, b) => if ((TI T).kd == 3 || (TI T).kd == 4) && (TI T).size == (TY T).size && (TY T).agg && i == 0 then some (.dv (TY T) y, b) else none
        | none => none
      | _ => none
    | _ => none
  | .makeInterface T x => match ev x with
    | .dv t y => if !t.agg && t.plain && noIface (TI T) then some (.dv (.ifc T t .ifn) (.inl y), true) else none
    | _ => none
  | .typeAssert x _ T true => match ev x with
    | .dv u y => match u.held T with
      | some ⟨t, f⟩ => if u.chain && noIface (TI T) && (TI T).kd != 0 && isZero (TI T).zero t then
          some (.tup 2 fun j => if j = 0 then .dv t ((f y).getD t.dflt) else .dv .bool (f y).isSome, true) else none
      | none => none
    | _ => none
  | .nilCheck x => match ev x with
    | .dv (.fp t) y => some (.dv (.fp t) y, y.isSome)
    | _ => none
  | .fieldAddr T x k => match ev x with
    | .dv (.fp t) y => match t.at [k], (TI T).offs[k]? with
      | some r, some (off, _) => if (TI T).kd == 4 && r.off == off && t.inb1 k then some (.el t (y.getD t.dflt) [k], y.isSome) else none
      | _, _ => none
    | _ => none
  | .binOp op T x y _ => match ev x, ev y with
    | .dv (.fp _) a, .cst (.pointer none) => if (TI T).pt then (match op with
      | .eql => some (.dv .bool a.isNone, true)
      | .neq => some (.dv .bool (!a.isNone), true)
      | _ => none) else none
    | _, _ => none
  | _ => none

section
variable {P : Program} {TI : Nat → TD} {TY : Nat → DT} {c : Cx} {F : Nat → Prop} {s : TS} {π : Nat → Pl} {a : Act} {w : World}

theorem ixOf_ok (hm : RelM c F π s a w) {o : Option Operand} {r : Option Int} (h : ixOf s.ev o = some r) : (o = none ∧ r = none) ∨ ∃ x k z, o = some x ∧ r = some z ∧ a.eval x = .int k z := by
  cases o with
  | none => simp only [ixOf, Option.some.injEq] at h; exact .inl ⟨rfl, h.symm⟩
  | some x =>
    simp only [ixOf] at h
    split at h
    · rename_i k z he
      obtain rfl := Option.some.inj h
      exact .inr ⟨x, k, z, rfl, rfl, hm.evb he⟩
    · cases h

theorem sliceBound_ok (k : IntKind) {z : Int} {y : Nat} (code : BoundsCode) (h0 : 0 ≤ z) (h1 : z.toNat ≤ y) : (Instr.sliceBound (.int k z) y code).run P w = .ok z.toNat w :=
  run_sliceBound (w := w) k z y code h0 (by omega)

theorem run_slice_sl {T e : TypeId} {ie : TypeInfo} (b1 : P.underlying T = some (.slice e)) (b2 : P.info? e = some ie) {p : Option Addr} {n cap : Nat} (hnc : n ≤ cap) {lo hi : Option Value} {ra rb : Option Int}
    (hlo : (lo = none ∧ ra = none) ∨ ∃ k z, lo = some (.int k z) ∧ ra = some z) (hhi : (hi = none ∧ rb = none) ∨ ∃ k z, hi = some (.int k z) ∧ rb = some z) (hc : cutB n ra rb = true) :
    (Instr.sliceAt T (.slice p n cap) lo hi none).run P w = .ok (.slice (if cap = loN ra then p else p.map (·.add (loN ra * ie.size))) (hiN n rb - loN ra) (cap - loN ra)) w := by
  obtain ⟨c1, c2, c3, c4⟩ := cutB_ok hc
  rcases hlo with ⟨rfl, rfl⟩ | ⟨kl, zl, rfl, rfl⟩ <;> rcases hhi with ⟨rfl, rfl⟩ | ⟨kh, zh, rfl, rfl⟩ <;> simp only [loN, hiN] at c1 c2 ⊢
  · simp [Instr.sliceAt, Instr.slice, run_underlying b1, Instr.sliceBounds, sizeOf, typeInfo, b2]
  · simp [Instr.sliceAt, Instr.slice, run_underlying b1, Instr.sliceBounds, sizeOf, typeInfo, b2, sliceBound_ok (P := P) (w := w) kh (y := cap) _ (c4 _ rfl) (by omega)]
  · simp [Instr.sliceAt, Instr.slice, run_underlying b1, Instr.sliceBounds, sizeOf, typeInfo, b2, sliceBound_ok (P := P) (w := w) kl (y := n) _ (c3 _ rfl) c1]
    congr
  · simp [Instr.sliceAt, Instr.slice, run_underlying b1, Instr.sliceBounds, sizeOf, typeInfo, b2, sliceBound_ok (P := P) (w := w) kh (y := cap) _ (c4 _ rfl) (by omega), sliceBound_ok (P := P) (w := w) kl (y := zh.toNat) _ (c3 _ rfl) c1]
    congr

theorem run_slice_sl3 {T e : TypeId} {ie : TypeInfo} (b1 : P.underlying T = some (.slice e)) (b2 : P.info? e = some ie) {p : Option Addr} {n cap : Nat} (hnc : n ≤ cap) {lo : Option Value} {ra : Option Int} {kh km : IntKind} {zh : Int}
    (hlo : (lo = none ∧ ra = none) ∨ ∃ k z, lo = some (.int k z) ∧ ra = some z) (hc : cutB n ra (some zh) = true) :
    (Instr.sliceAt T (.slice p n cap) lo (some (.int kh zh)) (some (.int km zh))).run P w = .ok (.slice (if zh.toNat = loN ra then p else p.map (·.add (loN ra * ie.size))) (zh.toNat - loN ra) (zh.toNat - loN ra)) w := by
  obtain ⟨c1, c2, c3, c4⟩ := cutB_ok hc
  simp only [hiN] at c1 c2
  rcases hlo with ⟨rfl, rfl⟩ | ⟨kl, zl, rfl, rfl⟩ <;> simp only [loN] at c1 ⊢
  · simp [Instr.sliceAt, Instr.slice, run_underlying b1, Instr.sliceBounds, sizeOf, typeInfo, b2, sliceBound_ok (P := P) (w := w) km (y := cap) _ (c4 _ rfl) (by omega), sliceBound_ok (P := P) (w := w) kh (y := zh.toNat) _ (c4 _ rfl) (Nat.le_refl _)]
  · simp [Instr.sliceAt, Instr.slice, run_underlying b1, Instr.sliceBounds, sizeOf, typeInfo, b2, sliceBound_ok (P := P) (w := w) km (y := cap) _ (c4 _ rfl) (by omega), sliceBound_ok (P := P) (w := w) kh (y := zh.toNat) _ (c4 _ rfl) (Nat.le_refl _), sliceBound_ok (P := P) (w := w) kl (y := zh.toNat) _ (c3 _ rfl) c1]
    congr

/-- A part of a frozen slice. -/
theorem slice_cell {G : Nat → Prop} {t : DT} {l : List t.den} {p : Option Addr} {n cap i j cap' : Nat} (hv : (DT.sl t).cell l 0 w G (.slice p n cap)) (h1 : i ≤ j) (h2 : j ≤ l.length) (h3 : j - i ≤ cap') (h4 : cap' ≤ cap - i) (fl : Option Addr → Nat → Nat → Prop) (p' : Option Addr) (hp' : i < j → p' = p.map (·.add (i * t.size))) (hpn : p = none → p' = none) (hfl : fl p' (j - i) cap') (hpp : p' = none → p = none) :
    SlP fl t.size ((l.take j).drop i).length (fun k c => t.cell (((l.take j).drop i).getD k t.dflt) c) w G (.slice p' (j - i) cap') := by
  obtain ⟨q, cap0, e, a1, a2, a3, _, a5⟩ := hv
  simp only [Value.slice.injEq] at e
  obtain ⟨rfl, rfl, rfl⟩ := e
  have hl : ((l.take j).drop i).length = j - i := by simp; omega
  refine ⟨p', cap', by rw [hl], by rw [hl]; exact h3, by omega, fun h => by have := a3 (hpp h); omega, by rw [hl]; exact hfl, fun hn => ?_⟩
  rw [hl] at hn ⊢
  obtain ⟨b, o, rfl, b1, b2⟩ := a5 (by omega)
  refine ⟨b, o + i * t.size, by rw [hp' (by omega)]; simp [add_lit], b1, fun k hk cc hcc => ?_⟩
  obtain ⟨u, d1, d2, d3⟩ := b2 (i + k) (by omega) cc hcc
  refine ⟨u, by rw [← d1, Nat.add_mul]; congr 2; omega, d2, ?_⟩
  show t.cell (((l.take j).drop i).getD k t.dflt) cc w G u
  rw [getD_slice _ _ _ _ _ h2 hk]; exact d3

theorem asm_ok {G : Nat → Prop} {O : Obs} : ∀ {t : DT} {fs : List TV} {y : t.den} {b : Bool} {cells : Nat → Option Value}, asmTV O t fs = some (y, b) → b = true → (∀ (j : Nat) (x : TV), fs[j]? = some x → ∀ cc, cc < x.size → ∃ u, cells (offs fs j + cc) = some u ∧ u.oneCell' = true ∧ x.fcell w G π O cc u) →
    ∀ cc, cc < t.size → ∃ u, cells cc = some u ∧ u.oneCell' = true ∧ t.cell y cc w G u := by
  intro t
  induction t with
  | unit => intro fs y b cells _ _ _ cc hcc; simp [DT.size] at hcc
  | pair a b iha ihb =>
    intro fs y bb cells h hb hc cc hcc
    cases fs with
    | nil => simp [asmTV] at h
    | cons x r =>
      simp only [asmTV] at h
      split at h
      · rename_i y1 b1 hy1
        split at h
        · rename_i z b2 hz
          split at h
          · rename_i hs
            simp only [Bool.and_eq_true, beq_iff_eq] at hs
            simp only [Option.some.injEq, Prod.mk.injEq] at h
            obtain ⟨rfl, rfl⟩ := h
            simp only [Bool.and_eq_true] at hb
            by_cases hca : cc < a.size
            · obtain ⟨u, a1, a2, a3⟩ := hc 0 x rfl cc (by rw [hs.1]; exact hca)
              simp only [offs, Nat.zero_add] at a1
              refine ⟨u, a1, a2, ?_⟩
              show (if cc < a.size then a.cell y1 cc else b.cell z (cc - a.size)) w G u
              rw [if_pos hca]
              -- the field, as data
              cases x with
              | dv u0 y0 =>
                simp only [TV.as] at hy1
                split at hy1
                · rename_i e; subst e
                  simp only [Option.some.injEq, Prod.mk.injEq] at hy1
                  obtain ⟨rfl, _⟩ := hy1
                  exact a3
                · cases a with
                  | sl v =>
                    have hna : u0.agg = false := by
                      cases u0 <;> first | rfl | simp [coAs, coSl, TV.fdata] at hy1
                    have := coAs_ok (π := π) (w := w) (G := G) hy1 hb.1 (z := u) (show VR w G π O (.dv u0 y0) u from (DT.val_one hna).2 (by
                      have h0 : cc = 0 := by simp only [DT.size] at hca; omega
                      subst h0; exact a3))
                    exact (DT.val_one rfl).1 this
                  | nsl v =>
                    have hna : u0.agg = false := by
                      cases u0 <;> first | rfl | simp [coAs, coSl, TV.fdata] at hy1
                    have := coAs_ok (π := π) (w := w) (G := G) hy1 hb.1 (z := u) (show VR w G π O (.dv u0 y0) u from (DT.val_one hna).2 (by
                      have h0 : cc = 0 := by simp only [DT.size] at hca; omega
                      subst h0; exact a3))
                    exact (DT.val_one rfl).1 this
                  | ifc T1 t1 r1 =>
                    have hna : u0.agg = false := by
                      cases u0 <;> first | rfl | simp [coAs] at hy1
                    have := coAs_ok (π := π) (w := w) (G := G) hy1 hb.1 (z := u) (show VR w G π O (.dv u0 y0) u from (DT.val_one hna).2 (by
                      have h0 : cc = 0 := by simp only [DT.size] at hca; omega
                      subst h0; exact a3))
                    exact (DT.val_one rfl).1 this
                  | _ => simp [coAs] at hy1
              | _ =>
                have ha1 : a.size = 1 := hs.1.symm
                have hag : ∀ v : Value, a.val y1 w G v → v = u → v.oneCell' = true → a.cell y1 cc w G u := fun v hv e he => by
                  subst e
                  cases hag : a.agg with
                  | false => have h0 : cc = 0 := by omega
                             subst h0; exact (DT.val_one hag).1 hv
                  | true =>
                    obtain ⟨vs, rfl, _⟩ := (DT.val_agg hag).1 hv
                    cases he
                exact hag u (TV.as_ok hy1 hb.1 hs.2 (π := π) (v := u) a3) rfl a2
            · have hcc' : cc < a.size + b.size := hcc
              obtain ⟨u, a1, a2, a3⟩ := ihb (cells := fun q => cells (a.size + q)) hz hb.2 (fun j x' hx' cc' hcc' => by
                obtain ⟨u, a1, a2⟩ := hc (j + 1) x' (by simpa using hx') cc' hcc'
                refine ⟨u, ?_, a2⟩
                simp only [offs, hs.1] at a1
                rw [← a1]; congr 1; omega) (cc - a.size) (by omega)
              refine ⟨u, by rw [← a1]; congr 1; omega, a2, ?_⟩
              show (if cc < a.size then a.cell y1 cc else b.cell z (cc - a.size)) w G u
              rw [if_neg hca]; exact a3
          · cases h
        · cases h
      · cases h
  | _ => intro fs y b cells h; cases fs <;> simp [asmTV] at h

theorem ite_none {q : Prop} [Decidable q] {p : Option Addr} {f : Addr → Addr} : (if q then p else p.map f) = none ↔ p = none := by
  split
  · rfl
  · simp

set_option maxHeartbeats 1000000 in
theorem noIface_ok (hT : TOK P TI) {T : TypeId} (h : noIface (TI T) = true) : ∃ d, P.underlying T = some d ∧ ∀ l, d ≠ .interface l := by
  simp only [noIface, Bool.or_eq_true, beq_iff_eq, Option.isSome_iff_exists] at h
  rcases h with ((⟨k, h⟩ | h) | h) | h
  · exact ⟨_, (hT T).int k h, fun l => by simp⟩
  · exact ⟨_, (hT T).bool h, fun l => by simp⟩
  · exact ⟨_, (hT T).string h, fun l => by simp⟩
  · obtain ⟨e, ie, h1, _⟩ := (hT T).sl h
    exact ⟨_, h1, fun l => by simp⟩

theorem run_makeIface {T : TypeId} {d : TypeDesc} (h : P.underlying T = some d) (hd : ∀ l, d ≠ .interface l) (x : Value) : (Instr.makeInterface T x).run P w = .ok (.iface T x) w := by
  simp only [Instr.makeInterface, Sem.run_bind, run_underlying h, Result.andThen_ok]
  cases d <;> first | exact absurd rfl (hd _) | rfl

theorem run_assert {T X : TypeId} {d : TypeDesc} (h : P.underlying T = some d) (hd : ∀ l, d ≠ .interface l) {i : TypeInfo} (hi : P.info? T = some i) {z : Value} (hz : i.zero = some z) (v : Value) :
    (∀ u, v = .iface T u → (Instr.typeAssert v X T true).run P w = .ok (.tuple #[u, .bool true]) w) ∧ ((v = .nilIface ∨ ∃ T' u, v = .iface T' u ∧ T' ≠ T) → (Instr.typeAssert v X T true).run P w = .ok (.tuple #[z, .bool false]) w) := by
  constructor
  · rintro u rfl
    simp only [Instr.typeAssert, Sem.run_bind, run_underlying h, Result.andThen_ok]
    cases d <;> first | exact absurd rfl (hd _) | simp
  · rintro (rfl | ⟨T', u, rfl, hne⟩)
    · simp only [Instr.typeAssert, Sem.run_bind, run_underlying h, Result.andThen_ok]
      cases d <;> first | exact absurd rfl (hd _) | simp [zeroValue, typeInfo, hi, hz]
    · simp only [Instr.typeAssert, Sem.run_bind, run_underlying h, Result.andThen_ok]
      cases d <;> first | exact absurd rfl (hd _) | simp [zeroValue, typeInfo, hi, hz, hne]

theorem run_equal_ptr {T e : TypeId} {p : Option Addr} (h : P.underlying T = some (.pointer e)) : (Op.equal T (.pointer p) (.pointer none)).run P w = .ok p.isNone w := by
  show (Op.equalIn (9999 + 1) T _ _).run P w = _
  unfold Op.equalIn
  simp only [Sem.run_bind, run_underlying h, Result.andThen]
  cases p <;> rfl

theorem binOp_eql_ptr (t : TypeId) (p q : Option Addr) : binOp .eql t (.pointer p) (.pointer q) = (do pure (.bool (← Op.equal t (.pointer p) (.pointer q)))) := rfl
theorem binOp_neq_ptr (t : TypeId) (p q : Option Addr) : binOp .neq t (.pointer p) (.pointer q) = (do pure (.bool (!(← Op.equal t (.pointer p) (.pointer q))))) := rfl

theorem tmore_ok (hT : TOK P TI) {o : Oper} {x : TV} {b : Bool} (hp : tmore TI TY s.ev (tlook s.ob) o.op = some (x, b)) (hb : b = true) (hm : RelM c F π s a w) :
    ∃ v, (execOp a.eval o).run P w = .ok (.value v) w ∧ VR w (Gz F w π (tlook s.ob)) π (tlook s.ob) x v := by
  obtain ⟨dst, op, ty, pos, after, guard⟩ := o
  simp only at hp
  cases op with
  | slice T y lo hi mx =>
    simp only [tmore] at hp
    have hv := hm.ev y
    have fin : ∀ {v : Value}, (Instr.sliceAt T (a.eval y) (lo.map a.eval) (hi.map a.eval) (mx.map a.eval)).run P w = .ok v w → (execOp a.eval ⟨dst, .slice T y lo hi mx, ty, pos, after, guard⟩).run P w = .ok (.value v) w := fun h => exec_value (e := Instr.sliceAt T (a.eval y) (lo.map a.eval) (hi.map a.eval) (mx.map a.eval)) rfl h
    have opt : ∀ {o : Option Operand} {r : Option Int}, ixOf s.ev o = some r → (o.map a.eval = none ∧ r = none) ∨ ∃ k z, o.map a.eval = some (.int k z) ∧ r = some z := fun h => by
      rcases ixOf_ok hm h with ⟨rfl, rfl⟩ | ⟨x, k, z, rfl, rfl, e⟩
      · exact .inl ⟨rfl, rfl⟩
      · exact .inr ⟨k, z, by simp [e], rfl⟩
    -- frozen slices
    have frozen : ∀ {t : DT} {l : List t.den} {ra rb : Option Int}, mx.map a.eval = none → ixOf s.ev lo = some ra → ixOf s.ev hi = some rb → (DT.sl t).cell l 0 w (Gz F w π (tlook s.ob)) (a.eval y) → (TI T).kd = 2 → (TI T).elem = t.size → cutB l.length ra rb = true → ∃ v, (execOp a.eval ⟨dst, .slice T y lo hi mx, ty, pos, after, guard⟩).run P w = .ok (.value v) w ∧ VR w (Gz F w π (tlook s.ob)) π (tlook s.ob) (.dv (.sl t) (cutL l ra rb)) v := fun {t l ra rb} h0 h1 h2 hc hk he hcb => by
      obtain ⟨e, ie, b1, b2, b3, _⟩ := (hT T).sl hk
      obtain ⟨p, cap, e1, n1, n2, n3, n4, n5⟩ := id hc
      obtain ⟨c1, c2, _, _⟩ := cutB_ok hcb
      refine ⟨_, fin (by rw [h0, e1]; exact run_slice_sl b1 b2 n1 (opt h1) (opt h2) hcb), (DT.val_one rfl).2 ?_⟩
      rw [cutL_eq]
      rw [e1] at hc
      exact slice_cell hc c1 c2 (by omega) (Nat.le_refl _) _ _ (fun hlt => by rw [if_neg (by omega), b3, he]) (fun hpn => by subst hpn; split <;> rfl) trivial (fun h => ite_none.1 h)
    split at hp
    · rename_i ra rb h1 h2 h3
      have hmx : mx.map a.eval = none := by
        rcases opt h3 with ⟨h, _⟩ | ⟨_, _, _, h⟩
        · exact h
        · cases h
      split at hp
      · rename_i id hy
        rw [hy] at hv
        have hv0 := hv
        simp only [VR] at hv
        split at hp
        · rename_i t l ho
          rw [ho] at hv
          simp only at hv
          split at hp
          · rename_i hk
            simp only [Bool.and_eq_true, beq_iff_eq] at hk
            simp only [Option.some.injEq, Prod.mk.injEq] at hp
            obtain ⟨rfl, rfl⟩ := hp
            obtain ⟨e, ie, b1, b2, b3, _⟩ := (hT T).sl hk.1
            obtain ⟨c1, c2, _, _⟩ := cutB_ok hb
            rcases hm.obj id _ ho with ⟨o1, o2⟩ | ⟨g, cur, e', o1, o2, o3, o4, o5, o6⟩
            · subst o2
              simp only [List.length_nil] at c1 c2 hb
              have hv' : a.eval y = .slice none 0 0 := by rw [hv, Pl.hdr, o1]
              refine ⟨_, fin (by rw [hmx, hv']; exact run_slice_sl b1 b2 (Nat.le_refl _) (opt h1) (opt h2) hb), ?_⟩
              have e1 : hiN 0 rb = 0 := by omega
              have e2 : loN ra = 0 := by omega
              simp only [VR, ho]
              exact ⟨by simp [e1, e2], by simp [e1], _, _, rfl, by simp [e1, e2], by simp [maxLen], fun _ => by omega, fun h => by simp [e1, e2] at h⟩
            · have hv' : a.eval y = .slice (some ⟨g, (π id).q, none⟩) l.length (π id).cap := by rw [hv, Pl.hdr, o1]
              refine ⟨_, fin (by rw [hmx, hv']; exact run_slice_sl b1 b2 o3 (opt h1) (opt h2) hb), ?_⟩
              simp only [VR, ho]
              refine ⟨c1, c2, _, _, rfl, by omega, by omega, fun h => by split at h <;> simp at h, fun hlt => ⟨g, o1, ?_⟩⟩
              · rw [if_neg (by omega)]; simp [add_lit, b3, hk.2]
          · cases hp
        · rename_i t l ho
          rw [ho] at hv
          simp only at hv
          split at hp
          · rename_i hk
            simp only [Bool.and_eq_true, beq_iff_eq] at hk
            simp only [Option.some.injEq, Prod.mk.injEq] at hp
            obtain ⟨rfl, rfl⟩ := hp
            exact frozen hmx h1 h2 hv hk.1 hk.2 hb
          · cases hp
        · cases hp
      · rename_i id i j hy
        rw [hy] at hv
        simp only [VR] at hv
        split at hp
        · rename_i t l ho
          rw [ho] at hv
          simp only at hv
          split at hp
          · rename_i hk
            simp only [Bool.and_eq_true, beq_iff_eq] at hk
            simp only [Option.some.injEq, Prod.mk.injEq] at hp
            obtain ⟨rfl, rfl⟩ := hp
            obtain ⟨e, ie, b1, b2, b3, _⟩ := (hT T).sl hk.1
            obtain ⟨c1, c2, _, _⟩ := cutB_ok hb
            obtain ⟨v1, v2, p, cp, hv', v4, v5, v6, v7⟩ := hv
            refine ⟨_, fin (by rw [hmx, hv']; exact run_slice_sl b1 b2 v4 (opt h1) (opt h2) hb), ?_⟩
            simp only [VR, ho]
            rw [show i + hiN (j - i) rb - (i + loN ra) = hiN (j - i) rb - loN ra by omega]
            refine ⟨by omega, by omega, _, _, rfl, ?_, ?_, fun h => ?_, fun hlt => ?_⟩
            · omega
            · omega
            · have := v6 (ite_none.1 h); omega
            · obtain ⟨g, hg, rfl⟩ := v7 (by omega)
              refine ⟨g, hg, ?_⟩
              rw [if_neg (by omega)]
              simp only [Option.map_some, add_lit, b3, hk.2, Nat.add_mul, Nat.add_assoc]
          · cases hp
        · rename_i t l ho
          rw [ho] at hv
          simp only at hv
          split at hp
          · rename_i hk
            simp only [Bool.and_eq_true, beq_iff_eq] at hk
            simp only [Option.some.injEq, Prod.mk.injEq] at hp
            obtain ⟨rfl, rfl⟩ := hp
            exact frozen hmx h1 h2 hv hk.1 hk.2 hb
          · cases hp
        · cases hp
      · rename_i id i p hy
        rw [hy] at hv
        split at hp
        · rename_i ob ho
          split at hp
          · rename_i n u y0 hpart
            split at hp
            · rename_i hk
              simp only [Bool.and_eq_true, beq_iff_eq] at hk
              simp only [Option.some.injEq, Prod.mk.injEq] at hp
              obtain ⟨rfl, rfl⟩ := hp
              simp only [Bool.and_eq_true, decide_eq_true_eq] at hb
              obtain ⟨hcb, hn⟩ := hb
              obtain ⟨e, ie, b1, b2, b3⟩ := (hT T).arr hk.1.1
              obtain ⟨g, k0, q1, q2, q3, q4, q5⟩ := hm.part ho hv hpart
              obtain ⟨c1, c2, c3, c4⟩ := cutB_ok hcb
              have hrun : (Instr.sliceAt T (a.eval y) (lo.map a.eval) (hi.map a.eval) (mx.map a.eval)).run P w = .ok (.slice (some (if n = loN ra then ⟨g, (π id).q + k0, none⟩ else (⟨g, (π id).q + k0, none⟩ : Addr).add (loN ra * ie.size))) (hiN n rb - loN ra) (n - loN ra)) w := by
                rw [hmx, q4]
                rw [hk.2] at b1
                rcases opt h1 with ⟨e1, rfl⟩ | ⟨kl, zl, e1, rfl⟩ <;> rcases opt h2 with ⟨e2, rfl⟩ | ⟨kh, zh, e2, rfl⟩ <;> rw [e1, e2] <;> simp only [loN, hiN] at c1 c2 ⊢
                · simp [Instr.sliceAt, run_underlying b1, Instr.sureAddr, Instr.sliceBounds, sizeOf, typeInfo, b2]
                · simp [Instr.sliceAt, run_underlying b1, Instr.sureAddr, Instr.sliceBounds, sizeOf, typeInfo, b2, sliceBound_ok (P := P) (w := w) kh (y := n) _ (c4 _ rfl) (by omega)]
                · simp [Instr.sliceAt, run_underlying b1, Instr.sureAddr, Instr.sliceBounds, sizeOf, typeInfo, b2, sliceBound_ok (P := P) (w := w) kl (y := n) _ (c3 _ rfl) c1]
                  congr
                · simp [Instr.sliceAt, run_underlying b1, Instr.sureAddr, Instr.sliceBounds, sizeOf, typeInfo, b2, sliceBound_ok (P := P) (w := w) kh (y := n) _ (c4 _ rfl) (by omega), sliceBound_ok (P := P) (w := w) kl (y := zh.toNat) _ (c3 _ rfl) c1]
                  congr
              refine ⟨_, fin hrun, ?_⟩
              simp only [VR, ho]
              refine fun _ => ⟨k0, g, _, q1, q2, q3, c1, c2, by simp only [maxLen]; omega, rfl, fun hlt => ?_⟩
              rw [if_neg (by omega), add_lit, b3, hk.1.2]
            · cases hp
          · cases hp
        · cases hp
      · rename_i l hy
        rw [hy] at hv
        split at hp
        · rename_i hk
          simp only [Option.some.injEq, Prod.mk.injEq] at hp
          obtain ⟨rfl, rfl⟩ := hp
          have hv' : a.eval y = .string ⟨⟨l⟩⟩ := (DT.val_one (t := .str) rfl).1 hv
          have b1 := (hT T).string hk
          obtain ⟨c1, c2, c3, c4⟩ := cutB_ok hb
          have hsz : (ByteArray.mk ⟨l⟩).size = l.length := rfl
          have hrun : (Instr.sliceAt T (a.eval y) (lo.map a.eval) (hi.map a.eval) (mx.map a.eval)).run P w = .ok (.string ((ByteArray.mk ⟨l⟩).extract (loN ra) (hiN (ByteArray.mk ⟨l⟩).size rb))) w := by
            rw [hmx, hv']
            generalize ByteArray.mk ⟨l⟩ = B at hsz ⊢
            rcases opt h1 with ⟨e1, rfl⟩ | ⟨kl, zl, e1, rfl⟩ <;> rcases opt h2 with ⟨e2, rfl⟩ | ⟨kh, zh, e2, rfl⟩ <;> rw [e1, e2] <;> simp only [loN, hiN] at c1 c2 ⊢
            · simp [Instr.sliceAt, Instr.slice, run_underlying b1, Instr.sliceBounds]
            · simp [Instr.sliceAt, Instr.slice, run_underlying b1, Instr.sliceBounds, sliceBound_ok (P := P) (w := w) kh (y := B.size) _ (c4 _ rfl) (by omega)]
            · simp [Instr.sliceAt, Instr.slice, run_underlying b1, Instr.sliceBounds, sliceBound_ok (P := P) (w := w) kl (y := B.size) _ (c3 _ rfl) (by omega)]
            · simp [Instr.sliceAt, Instr.slice, run_underlying b1, Instr.sliceBounds, sliceBound_ok (P := P) (w := w) kh (y := B.size) _ (c4 _ rfl) (by omega), sliceBound_ok (P := P) (w := w) kl (y := zh.toNat) _ (c3 _ rfl) c1]
          refine ⟨_, fin hrun, (DT.val_one (t := .str) rfl).2 ?_⟩
          show _ = Value.string ⟨⟨cutL l ra rb⟩⟩
          rw [cutL_eq, hsz]
          congr 1
          apply ByteArray.ext
          apply Array.ext'
          simp [ByteArray.data_extract, List.drop_take]
        · cases hp
      · split at hp
        · rename_i t l hf
          split at hp
          · rename_i hk
            simp only [Bool.and_eq_true, beq_iff_eq] at hk
            simp only [Option.some.injEq, Prod.mk.injEq] at hp
            obtain ⟨rfl, rfl⟩ := hp
            exact frozen hmx h1 h2 (TV.fdata_ok hf hv) hk.1 hk.2 hb
          · cases hp
        · cases hp
    · rename_i ra zb zm h1 h2 h3
      split at hp
      · rename_i t l hf
        split at hp
        · rename_i hk
          simp only [Bool.and_eq_true, beq_iff_eq] at hk
          simp only [Option.some.injEq, Prod.mk.injEq] at hp
          obtain ⟨rfl, rfl⟩ := hp
          simp only [Bool.and_eq_true, decide_eq_true_eq] at hb
          obtain ⟨hcb, rfl⟩ := hb
          have hc := TV.fdata_ok hf hv
          obtain ⟨e, ie, b1, b2, b3, _⟩ := (hT T).sl hk.1
          obtain ⟨p, cap, e1, n1, n2, n3, n4, n5⟩ := id hc
          obtain ⟨c1, c2, _, _⟩ := cutB_ok hcb
          rcases opt h2 with ⟨_, h⟩ | ⟨kh, z', e2, h⟩
          · cases h
          · obtain rfl := Option.some.inj h
            rcases opt h3 with ⟨_, h⟩ | ⟨km, z'', e3, h⟩
            · cases h
            · obtain rfl := Option.some.inj h
              refine ⟨_, fin (by rw [e2, e3, e1]; exact run_slice_sl3 b1 b2 n1 (opt h1) hcb), (DT.val_one rfl).2 ?_⟩
              rw [cutL_eq]
              rw [e1] at hc
              simp only [hiN] at c1 c2 ⊢
              exact slice_cell hc c1 c2 (Nat.le_refl _) (by omega) _ _ (fun hlt => by rw [if_neg (by omega), b3, hk.2]) (fun hpn => by subst hpn; split <;> rfl) rfl (fun h => ite_none.1 h)
        · cases hp
      · cases hp
    · cases hp
  | load T p =>
    simp only [tmore] at hp
    have hv := hm.ev p
    split at hp
    · rename_i id i hy
      rw [hy] at hv
      split at hp
      · rename_i fs ho
        split at hp
        · rename_i y b' hasm
          split at hp
          · rename_i hk
            simp only [Bool.and_eq_true, Bool.or_eq_true, beq_iff_eq] at hk
            simp only [Option.some.injEq, Prod.mk.injEq] at hp
            obtain ⟨rfl, rfl⟩ := hp
            obtain ⟨hk, hi0⟩ := hk
            subst hi0
            simp only [VR, ho] at hv
            obtain ⟨k0, g, q1, q2, q3, q4⟩ := hv rfl
            simp only [TO.loc, Option.some.injEq] at q1
            subst q1
            obtain ⟨g', cur, e', r1, r2, r3⟩ := hm.obj id _ ho
            rw [q3] at r1; obtain rfl := Option.some.inj r1
            have hh : HeldC w (Gz F w π (tlook s.ob)) g ((π id).q) (TY T) y := asm_ok (π := π) (O := tlook s.ob) (cells := fun q => w.cell? ⟨g, (π id).q + q, none⟩) hasm hb fun j x hx cc hcc => by
              obtain ⟨u, a1, a2⟩ := r3 j x hx cc hcc
              exact ⟨u, by rw [cell_at r2, ← a1]; congr 1; omega, a2⟩
            have hokL : okL (TI T) (TY T) = true := by
              unfold okL
              rw [if_pos hk.2]
              simp [hk.1.1, hk.1.2]
            obtain ⟨v, h1, h2⟩ := run_load (P := P) hT hokL hh
            exact ⟨v, exec_value (e := Instr.loadAt T (a.eval p)) rfl (by rw [q4]; exact h1), h2⟩
          · cases hp
        · cases hp
      · cases hp
    · cases hp
  | makeInterface T y =>
    simp only [tmore] at hp
    have hv := hm.ev y
    split at hp
    · rename_i t z he
      rw [he] at hv
      split at hp
      · rename_i hc
        simp only [Bool.and_eq_true, Bool.not_eq_true'] at hc
        simp only [Option.some.injEq, Prod.mk.injEq] at hp
        obtain ⟨rfl, rfl⟩ := hp
        obtain ⟨d, h1, h2⟩ := noIface_ok hT hc.2
        have hc' := (DT.val_one hc.1.1).1 hv
        exact ⟨_, exec_value (e := Instr.makeInterface T (a.eval y)) rfl (run_makeIface h1 h2 _), (DT.val_one rfl).2 ⟨_, rfl, DT.cell_one hc', hc'⟩⟩
      · cases hp
    · cases hp
  | typeAssert y X T ok =>
    have hv := hm.ev y
    cases ok with
    | false => simp [tmore] at hp
    | true =>
    simp only [tmore] at hp
    split at hp
    · rename_i u z he
      rw [he] at hv
      split at hp
      · rename_i t f hh
        split at hp
        · rename_i hc
          simp only [Bool.and_eq_true, bne_iff_ne, ne_eq] at hc
          obtain ⟨⟨⟨c1, c2⟩, c3⟩, c4⟩ := hc
          simp only [Option.some.injEq, Prod.mk.injEq] at hp
          obtain ⟨rfl, rfl⟩ := hp
          obtain ⟨d, h1, h2⟩ := noIface_ok hT c2
          obtain ⟨i, i1, _, i3⟩ := (hT T).info c3
          obtain ⟨g1, g2⟩ := DT.held_one c1 hh
          have hag : u.agg = false := by cases u <;> first | rfl | simp [DT.chain] at c1
          have hc' := (DT.val_one hag).1 hv
          obtain ⟨r1, r2⟩ := run_assert (P := P) (w := w) (X := X) h1 h2 i1 i3 (a.eval y)
          rcases DT.held_cell c1 hh hc' with ⟨b, q, e1, e2, e3⟩ | ⟨e1, e2⟩
          · refine ⟨_, exec_value (e := Instr.typeAssert (a.eval y) X T true) rfl (r1 q e2), _, rfl, rfl, fun j hj => ?_⟩
            match j, hj with
            | 0, _ => exact ⟨q, rfl, by show VR w _ π _ (.dv t ((f z).getD t.dflt)) q; rw [e1]; exact (DT.val_one g1).2 e3⟩
            | 1, _ => exact ⟨_, rfl, by show VR w _ π _ (.dv .bool (f z).isSome) _; rw [e1]; exact (DT.val_one (t := .bool) rfl).2 rfl⟩
          · refine ⟨_, exec_value (e := Instr.typeAssert (a.eval y) X T true) rfl (r2 e2), _, rfl, rfl, fun j hj => ?_⟩
            match j, hj with
            | 0, _ => exact ⟨_, rfl, by show VR w _ π _ (.dv t ((f z).getD t.dflt)) _; rw [e1]; exact isZero_ok g2 c4⟩
            | 1, _ => exact ⟨_, rfl, by show VR w _ π _ (.dv .bool (f z).isSome) _; rw [e1]; exact (DT.val_one (t := .bool) rfl).2 rfl⟩
        · cases hp
      · cases hp
    · cases hp
  | nilCheck y =>
    have hv := hm.ev y
    simp only [tmore] at hp
    split at hp
    · rename_i t z he
      rw [he] at hv
      simp only [Option.some.injEq, Prod.mk.injEq] at hp
      obtain ⟨rfl, rfl⟩ := hp
      have hc := (DT.val_one (t := .fp t) rfl).1 hv
      cases z with
      | none => cases hb
      | some z =>
        obtain ⟨b0, o0, e1, e2⟩ := id hc
        exact ⟨_, by simp [execOp, e1], e1 ▸ hv⟩
    · cases hp
  | fieldAddr T y k =>
    have hv := hm.ev y
    simp only [tmore] at hp
    split at hp
    · rename_i t z he
      rw [he] at hv
      split at hp
      · rename_i r off sz hr ho
        split at hp
        · rename_i hk
          simp only [Bool.and_eq_true, beq_iff_eq] at hk
          obtain ⟨⟨k1, k2⟩, k3⟩ := hk
          simp only [Option.some.injEq, Prod.mk.injEq] at hp
          obtain ⟨rfl, rfl⟩ := hp
          have hc := (DT.val_one (t := .fp t) rfl).1 hv
          cases z with
          | none => cases hb
          | some z =>
            obtain ⟨b0, o0, e1, e2, e3⟩ := hc
            refine ⟨_, exec_value (e := Instr.fieldAt T (a.eval y) k) rfl (by rw [e1]; exact run_fld hT k1 ho), b0, o0, r, hr, DT.inb_of k3, by rw [k2], e2, e3⟩
        · cases hp
      · cases hp
    · cases hp
  | binOp bo T y z t2 =>
    have hv := hm.ev y
    have hz := hm.ev z
    simp only [tmore] at hp
    split at hp
    · rename_i t q he he2
      rw [he] at hv
      rw [he2] at hz
      split at hp
      · rename_i hk
        obtain ⟨e, b1⟩ := (hT T).ptr hk
        have hz' : a.eval z = .pointer none := hz
        have hc := (DT.val_one (t := .fp t) rfl).1 hv
        obtain ⟨p, hp1, hp2⟩ : ∃ p, a.eval y = .pointer p ∧ p.isNone = q.isNone := by
          cases q with
          | none => exact ⟨none, hc, rfl⟩
          | some q => obtain ⟨b0, o0, e1, _⟩ := hc; exact ⟨_, e1, rfl⟩
        have hg := fun op => noGuard (P := P) (w := w) (op := op) (T := T) (ox := y) (oy := z) (u := .pointer p) (v := .pointer none) (by intro _ _ h; cases h) (by intro h; cases h)
        cases bo <;> simp only [Option.some.injEq, Prod.mk.injEq, reduceCtorEq] at hp
        · obtain ⟨rfl, rfl⟩ := hp
          exact ⟨.bool p.isNone, exec_value (e := do eqGuard .eql T y z (a.eval y) (a.eval z); binOp .eql T (a.eval y) (a.eval z)) rfl (by rw [hp1, hz']; simp [hg, binOp_eql_ptr, run_equal_ptr b1]), by rw [hp2]; rfl⟩
        · obtain ⟨rfl, rfl⟩ := hp
          exact ⟨.bool (!p.isNone), exec_value (e := do eqGuard .neq T y z (a.eval y) (a.eval z); binOp .neq T (a.eval y) (a.eval z)) rfl (by rw [hp1, hz']; simp [hg, binOp_neq_ptr, run_equal_ptr b1]), by rw [hp2]; rfl⟩
      · cases hp
    · cases hp
  | _ => simp [tmore] at hp

end
end Go.Proofs.YtbjfbbfglkmadaaDoor
