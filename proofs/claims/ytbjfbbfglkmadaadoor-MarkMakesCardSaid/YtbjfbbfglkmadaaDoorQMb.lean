/-
  Lifting Go functions to plain Lean functions, part Mb: structs field by field; nil slices that are cut, or grown by zeros.
-/
import Derived.Test.YtbjfbbfglkmadaaDoorQMa
namespace Go.Proofs.YtbjfbbfglkmadaaDoor
open Go.RowKit
set_option linter.unusedVariables false

/-- May it be a field's value? -/
def partOk (L : Obs) : TV → Bool
  | .dv t _ => t.plain
  | x => x.one' L

/-- A struct's fields, put one by one. -/
def tpart (ev : Operand → TV) (L : Obs) (d : TD) : List (Nat × Operand) → List TV → Option (List TV)
  | [], l => some l
  | (i, x) :: r, l => match l[i]? with
    | some y => if partOk L (ev x) && decide ((ev x).size = y.size) && placeOf d i == some (offs l i, y.size) then tpart ev L d r (l.set i (ev x)) else none
    | none => none

/-- A part of a list made zero. -/
def clr {β : Type} (l : List β) (a b : Nat) (d : β) : List β := l.take a ++ List.replicate (b - a) d ++ l.drop b

/-- An element of an array's view. -/
def tvi (d : TD) (L : Obs) (z : Int) (x : TV) : Option (TV × Bool) :=
  match x with
  | .view id i p k n a b => match L id with
    | some o => match o.part i p with
      | some ⟨.arr m u, _⟩ => if d.kd == 2 && d.elem == u.size && k == u.size && m == n && o.live then some (.ptr id i (p ++ [a + z.toNat]), decide (0 ≤ z ∧ z < ((b - a : Nat) : Int))) else none
      | _ => none
    | none => none
  | _ => none

def stL (n : Nat) (f : Nat → TV) : List TV := (List.range n).map f

/-- Structs as they are built, put and boxed; nil slices. -/
def tst (TI : Nat → TD) (TY : Nat → DT) (rc : Nat → Option (List (Option DT))) (ev : Operand → TV) (L : Obs) (dst : Option Nat) : Op → Option Eff
  | .build T parts => match dst.bind rc with
    | some fs => match recZero fs (TI T).zero.cells.toList with
      | some l => match tpart ev L (TI T) parts.toList l with
        | some l' => if (TI T).kd == 4 && decide (offs l l.length = (TI T).size) then some ⟨.st l'.length fun i => l'.getD i .any, [], true⟩ else none
        | none => none
      | none => none
    | none => none
  | .store T p y => match dst, ev p, ev y with
    | none, .ptr id i [], .st n f => match L id with
      | some (.rcd fs) => if i == 0 && (TI T).kd == 4 && keepAll fs (stL n f) && decide (offs (stL n f) n = (TI T).size) then some ⟨.any, [(id, .rcd (stL n f))], true⟩ else none
      | _ => none
    | _, _, _ => none
  | .box T x => match dst, ev x with
    | some d, .st n f => match L d with
      | none => if (TI T).kd == 4 then some ⟨.ptr d 0 [], [(d, .rcd (stL n f))], true⟩ else none
      | some _ => none
    | _, _ => none
  | .slice T x lo hi mx => match mx, ev x, ixOf ev lo, ixOf ev hi with
    | none, .nl, some a, some b => if (TI T).kd == 2 then some ⟨.nl, [], cutB 0 a b⟩ else none
    | _, _, _, _ => none
  | .call c => match c.callee, c.args.toList, c.argTypes.toList with
    | .builtin .cap, [x], [T] => match ev x with
      | .nl => if (TI T).kd == 2 then some ⟨.dv (.int .i64) 0, [], true⟩ else none
      | _ => none
    | .builtin .append, [x, y], [T, T'] => match dst, ev x, ev y, TY T with
      | some d, .nl, .dv (.int k) n, .sl t => match L d with
        | none => if (TI T').ik == some k && (TI T).kd == 2 && isZero (TI T).ez t && t.plain && (TI T).elem == t.size then
            some ⟨.row d, [(d, .row t (List.replicate n.toNat t.dflt))], decide (0 < n) && mkOk n n (TI T).eb⟩ else none
        | some _ => none
      | _, _, _, _ => none
    | .builtin .clear, [x], [T] => match ev x with
      | .vrow id a b => match L id with
        | some (.row t l) => if (TI T).kd == 2 && isZero (TI T).ez t && t.plain && (TI T).elem == t.size then some ⟨.any, [(id, .row t (clr l a b t.dflt))], decide (a < b)⟩ else none
        | _ => none
      | _ => none
    | .builtin .len, [x], [T] => match ev x with
      | .view id i p k n a b => match L id with
        | some o => if (TI T).kd == 2 && o.live then some ⟨.dv (.int .i64) ((b - a : Nat) : Int), [], true⟩ else none
        | none => none
      | _ => none
    | _, _, _ => none
  | .indexAddr T x y => match ev y with
    | .dv (.int _) z => match tvi (TI T) L z (ev x) with
      | some (r, b) => some ⟨r, [], b⟩
      | none => none
    | _ => none
  | _ => none

section
variable {P : Program} {TI : Nat → TD} {TY : Nat → DT} {c : Cx} {F : Nat → Prop} {s : TS} {π : Nat → Pl} {a : Act} {w : World}

/-- A field's value, cell by cell. -/
theorem partOk_ok {x : TV} {G : Nat → Prop} {O : Obs} (h : partOk O x = true) {v : Value} (hv : VR w G π O x v) : v.cells.size = x.size ∧ ∀ cc, cc < x.size → ∃ u, v.cells[cc]? = some u ∧ u.oneCell' = true ∧ x.fcell w G π O cc u := by
  have one : x.one' O = true → v.cells.size = x.size ∧ ∀ cc, cc < x.size → ∃ u, v.cells[cc]? = some u ∧ u.oneCell' = true ∧ x.fcell w G π O cc u := fun h1 => by
    have hone := TV.one_ok' h1 hv
    obtain ⟨f1, f2⟩ := TV.fcell_one h1 hv
    rw [cells_one hone]
    refine ⟨by simp [f1], fun cc hcc => ?_⟩
    obtain rfl : cc = 0 := by omega
    exact ⟨v, rfl, hone, f2⟩
  cases x with
  | dv t y => exact DT.val_cells (t := t) h hv
  | _ => exact one h

/-- Cells that hold some fields. -/
def HoldsF (w : World) (G : Nat → Prop) (π : Nat → Pl) (O : Obs) (l : List TV) (cs : Array Value) : Prop :=
  ∀ (j : Nat) (x : TV), l[j]? = some x → ∀ cc, cc < x.size → ∃ u, cs[offs l j + cc]? = some u ∧ u.oneCell' = true ∧ x.fcell w G π O cc u

theorem tpart_ok {d : TD} {G : Nat → Prop} {O : Obs} {ev : Operand → TV} (hv : ∀ x, VR w G π O (ev x) (a.eval x)) : ∀ {r : List (Nat × Operand)} {l l' : List TV} {cells : Array Value}, tpart ev O d r l = some l' → offs l l.length ≤ cells.size → HoldsF w G π O l cells →
    ∃ cells', Instr.fill (placeOf d) cells (r.map fun p => (p.1, a.eval p.2)) = some cells' ∧ cells'.size = cells.size ∧ HoldsF w G π O l' cells' ∧ l'.length = l.length ∧ ∀ k, offs l' k = offs l k
  | [], l, l', cells, h, hs, hz => by
    simp only [tpart, Option.some.injEq] at h
    subst h
    exact ⟨cells, rfl, rfl, hz, rfl, fun _ => rfl⟩
  | (i, o) :: r, l, l', cells, h, hs, hz => by
    simp only [tpart] at h
    split at h
    · rename_i y hy
      split at h
      · rename_i hk
        simp only [Bool.and_eq_true, decide_eq_true_eq, beq_iff_eq] at hk
        obtain ⟨⟨k1, k2⟩, k3⟩ := hk
        obtain ⟨v1, v2⟩ := partOk_ok k1 (hv o)
        have hil := (List.getElem?_eq_some_iff.1 hy).1
        have hos := fun k => offs_set l i k (ev o) (fun z hz => by rw [hy] at hz; obtain rfl := Option.some.inj hz; exact k2)
        have hfit : offs l i + y.size ≤ cells.size := by
          rcases offs_lt hy hil with h' | h' <;> omega
        have hf := fold_set (offs l i) (a.eval o).cells.toList 0 cells (by simp [v1]; omega)
        have e : (a.eval o).cells.zipIdx.foldl (fun cs (c, j) => cs.setIfInBounds (offs l i + j) c) cells = ((a.eval o).cells.toList.zipIdx 0).foldl (fun cs p => cs.setIfInBounds (offs l i + p.2) p.1) cells := by
          rw [← Array.foldl_toList, Array.toList_zipIdx]
        obtain ⟨cells', g1, g2, g3, g4, g5⟩ := tpart_ok (cells := ((a.eval o).cells.toList.zipIdx 0).foldl (fun cs p => cs.setIfInBounds (offs l i + p.2) p.1) cells) hv h (by rw [hf.1, List.length_set, hos]; exact hs) (fun j x hx cc hcc => by
          rw [hos, hf.2]
          by_cases hji : j = i
          · subst hji
            simp only [List.getElem?_set_self hil, Option.some.injEq] at hx
            subst hx
            obtain ⟨u, a1, a2, a3⟩ := v2 cc hcc
            rw [if_pos (by simp [v1]; omega)]
            exact ⟨u, by rw [Array.getElem?_toList, ← a1]; congr 1; omega, a2, a3⟩
          · rw [List.getElem?_set_ne (fun e => hji e.symm)] at hx
            have hap := offs_apart hy hx (fun e => hji e.symm)
            rw [if_neg (by simp [v1]; omega)]
            exact hz j x hx cc hcc)
        refine ⟨cells', ?_, g2.trans hf.1, g3, by rw [g4, List.length_set], fun k => (g5 k).trans (hos k)⟩
        simp only [List.map_cons, Instr.fill, k3]
        rw [if_neg (by simp [v1, k2]; omega), e]
        exact g1
      · cases h
    · cases h

theorem stL_getD (l : List TV) : stL l.length (fun i => l.getD i .any) = l := by
  unfold stL
  apply List.ext_getElem
  · simp
  · intro i h1 h2
    simp [h2]

theorem stL_at {n : Nat} {f : Nat → TV} {j : Nat} {x : TV} (h : (stL n f)[j]? = some x) : j < n ∧ x = f j := by
  have hj : j < n := by have := (List.getElem?_eq_some_iff.1 h).1; simpa [stL] using this
  refine ⟨hj, ?_⟩
  unfold stL at h
  rw [List.getElem?_map, List.getElem?_range hj] at h
  exact (Option.some.inj h).symm

theorem HoldsF.st {G : Nat → Prop} {O : Obs} {l : List TV} {cs : Array Value} (h : HoldsF w G π O l cs) (hs : cs.size = offs l l.length) : VR w G π O (.st l.length fun i => l.getD i .any) (.agg cs) := by
  refine ⟨cs, rfl, ?_, fun j hj c hc => ?_⟩
  · have := stL_getD l; unfold stL at this; rw [this]; exact hs
  · have e := stL_getD l
    unfold stL at e
    rw [e]
    have hx : l[j]? = some (l.getD j .any) := by simp [List.getD, hj]
    obtain ⟨u, a1, a2, a3⟩ := h j _ hx c hc
    obtain ⟨b1, b2⟩ := TV.of_fcell a3
    exact ⟨u, a1, a2, b1, b2⟩

theorem HoldsF.of_st {G : Nat → Prop} {O : Obs} {n : Nat} {f : Nat → TV} {v : Value} (h : VR w G π O (.st n f) v) : ∃ cs : Array Value, v = .agg cs ∧ cs.size = offs (stL n f) n ∧ HoldsF w G π O (stL n f) cs := by
  obtain ⟨cs, h1, h2, h3⟩ := h
  refine ⟨cs, h1, h2, fun j x hx cc hcc => ?_⟩
  obtain ⟨hj, rfl⟩ := stL_at hx
  obtain ⟨u, a1, a2, a3, a4⟩ := h3 j hj cc hcc
  exact ⟨u, a1, a2, TV.fcell_of a3 a4⟩

theorem HoldsF.flat {G : Nat → Prop} {O : Obs} {l : List TV} {cs : Array Value} (h : HoldsF w G π O l cs) (hs : cs.size = offs l l.length) : ∀ u ∈ cs, u.oneCell' = true := fun u hu => by
  obtain ⟨i, hi, rfl⟩ := Array.getElem_of_mem hu
  obtain ⟨j, x, cc, a1, a2, a3⟩ := offs_cover l i (by omega)
  obtain ⟨u', b1, b2, _⟩ := h j x a1 cc a2
  rw [← a3, Array.getElem?_eq_getElem hi] at b1
  rw [Option.some.inj b1]; exact b2

theorem run_cap_nil {T ty e : TypeId} (h : P.underlying T = some (.slice e)) : (Builtin.cap_ #[T] ty #[.slice none 0 0]).run P w = .ok (.int .i64 0) w := by
  simp [Builtin.cap_, run_underlying h, goInt]

theorem zero_get (z : Array Value) (n q : Nat) (hq : q < n * z.size) (h : q % z.size < z.size) : (Builtin.zeroCells z n)[q]? = z[q % z.size]? := by
  unfold Builtin.zeroCells
  rw [Array.getElem?_map, Array.getElem?_range, if_pos hq]
  simp [h]

/-- A nil slice grown by zeros. -/
theorem run_app_zero {t t' ty e : TypeId} {i : TypeInfo} {z : Value} {k : IntKind} (ht : P.underlying t = some (.slice e)) (ht' : P.underlying t' = some (.int k)) (hi : P.info? e = some i) (hz : i.zero = some z) (hsz : 0 < i.size) {w : World} {n : Nat} (hn : 0 < n)
    (h63 : n ≤ 140737488355328) (hb : n * i.bytes ≤ 140737488355328) (hfit : Builtin.nextslicecap n 0 * i.bytes ≤ 281474976710656) :
    (Builtin.append_ #[t, t'] ty #[.slice none 0 0, .int k (n : Int)]).run P w =
      .ok (.slice (some ⟨w.heap.size, 0, none⟩) n (grownCap w n 0 e)) (w.drew.alloc (.cells (Builtin.zeroCells z.cells n ++ Builtin.zeroCells z.cells (grownCap w n 0 e - n)) e)) := by
  have hw : IntKind.i64.wrap (n : Int) = (n : Int) := by simp [IntKind.wrap, IntKind.bits, IntKind.signed]; omega
  have h0 : ¬ ((n : Int) < 0) := by omega
  have hb' : ¬ ((281474976710656 : Int) < (n : Int) * (i.bytes : Int)) := by
    have : ((n * i.bytes : Nat) : Int) ≤ ((140737488355328 : Nat) : Int) := Int.ofNat_le.2 hb
    rw [Int.natCast_mul] at this
    omega
  have hne : n * i.size ≠ 0 := by
    have := Nat.mul_pos hn hsz; omega
  have hne' : n ≠ 0 := by omega
  have hne2 : i.size ≠ 0 := by omega
  have h63' : ¬ ((9223372036854775807 : Int) < (n : Int)) := by omega
  have h48' : ¬ (281474976710656 < Builtin.nextslicecap n 0 * i.bytes) := by omega
  simp [Builtin.append_, run_underlying ht, run_underlying ht', sizeOf, typeInfo, zeroValue, hi, hz, asInt, asIntOf, hw, h0, hb', hne', h63', h48', Question.forced, newRow, grownCap, Builtin.firstCells]
  exact fun h => absurd h hne

theorem tvi_ok (hT : TOK P TI) (hm : RelM c F π s a w) {T : TypeId} {x y : TV} {b : Bool} {z : Int} {kk : IntKind} (h : tvi (TI T) (tlook s.ob) z x = some (y, b)) (hb : b = true) {v : Value} (hv : VR w (Gz F w π (tlook s.ob)) π (tlook s.ob) x v) :
    ∃ v', (Instr.indexAt T v (.int kk z)).run P w = .ok v' w ∧ VR w (Gz F w π (tlook s.ob)) π (tlook s.ob) y v' := by
  unfold tvi at h
  split at h
  · rename_i id i p k n i1 j1
    split at h
    · rename_i ob ho
      split at h
      · rename_i m u yy hpart
        split at h
        · rename_i hk
          simp only [Bool.and_eq_true, beq_iff_eq] at hk
          obtain ⟨⟨⟨⟨k0, k1⟩, k2⟩, k3⟩, k4⟩ := hk
          simp only [Option.some.injEq, Prod.mk.injEq] at h
          obtain ⟨rfl, rfl⟩ := h
          simp only [VR, ho] at hv
          obtain ⟨c0, g, pp, h1, h2, h3, h4, h5, h6, h7, h8⟩ := hv k4
          have hb' : 0 ≤ z ∧ z < ((j1 - i1 : Nat) : Int) := of_decide_eq_true hb
          obtain rfl := h8 (by omega)
          subst k3
          obtain ⟨r, r1, r2, r3⟩ := arr_at m (i1 + Int.toNat z) u
          obtain ⟨l1, l2, _⟩ := TO.part_loc hpart h1 h2 r1 (by simp only [DT.inb1, decide_eq_true_eq]; omega)
          refine ⟨_, by rw [h7]; exact run_idx_sl hT k0 hb'.1 hb'.2, ?_⟩
          simp only [VR, ho]
          refine fun _ => ⟨_, g, l1, l2, h3, ?_⟩
          have e1 : (i1 + z.toNat) * u.size = i1 * u.size + z.toNat * u.size := Nat.add_mul _ _ _
          rw [r3, k1, k2, e1]
          congr 3; omega
        · cases h
      · cases h
    · cases h
  · cases h

set_option maxHeartbeats 1000000 in
theorem tst_ok (hT : TOK P TI) {rc : Nat → Option (List (Option DT))} {o : Oper} {e : Eff} (h : tst TI TY rc s.ev (tlook s.ob) o.dst o.op = some e) (hb : e.b = true) (hm : RelM c F π s a w) : EffOk P c F s π a w o e := by
  obtain ⟨dst, op, ty, pos, after, g⟩ := o
  simp only at h
  cases op with
  | build T parts =>
    simp only [tst] at h
    split at h
    · rename_i fs hfs
      split at h
      · rename_i l hl
        split at h
        · rename_i l' hl'
          split at h
          · rename_i hk
            simp only [Bool.and_eq_true, beq_iff_eq, decide_eq_true_eq] at hk
            obtain ⟨k1, k2⟩ := hk
            obtain rfl := Option.some.inj h
            obtain ⟨i, h1, h2, h3⟩ := (hT T).info (by omega)
            obtain ⟨z1, z2, z3, z4⟩ := (hT T).zc (by omega)
            have hz : HoldsF w (Gz F w π (tlook s.ob)) π (tlook s.ob) l (TI T).zero.cells := fun j x hx cc hcc => by
              obtain ⟨u, a1, a2⟩ := rec_ok hm hl j x hx cc hcc
              exact ⟨u, by rw [← Array.getElem?_toList]; exact a1, a2⟩
            obtain ⟨cells, c1, c2, c3, c4, c5⟩ := tpart_ok (fun x => hm.ev x) hl' (by rw [z1, k2]; exact Nat.le_refl _) hz
            have hbuilt : P.built T (parts.map fun (i, x) => (i, a.eval x)).toList = some cells := by
              have e0 : (parts.map fun (i, x) => (i, a.eval x)).toList = parts.toList.map fun p => (p.1, a.eval p.2) := by simp
              rw [e0]
              unfold Program.built
              obtain ⟨fs, b1, b2⟩ := (hT T).strp k1
              simp only [h1, b1, h3, b2]
              have : placeOf (TI T) = fun i => (TI T).offs.toArray[i]? := by funext i; simp [placeOf, k1]
              rw [← this]; exact c1
            have hx : execOp a.eval ⟨dst, .build T parts, ty, pos, after, g⟩ = (do pure (.value (← Instr.build T (parts.map fun (i, x) => (i, a.eval x))))) := by simp only [execOp]
            have hexec : (execOp a.eval ⟨dst, .build T parts, ty, pos, after, g⟩).run P w = .ok (.value (.agg cells)) w := by
              rw [hx]; simp only [Sem.run_bind, run_build w T _ cells hbuilt, Result.andThen_ok, Sem.run_pure]
            clear hx hbuilt
            exact ⟨_, _, π, .inl hexec, hm, c3.st (by rw [c2, z1, c4, c5, k2])⟩
          · cases h
        · cases h
      · cases h
    · cases h
  | store T p y =>
    simp only [tst] at h
    split at h
    · rename_i id i n f hp hy
      have hvp := hm.ev p
      have hvy := hm.ev y
      rw [hp] at hvp
      rw [hy] at hvy
      split at h
      · rename_i fs ho
        split at h
        · rename_i hk
          simp only [Bool.and_eq_true, beq_iff_eq, decide_eq_true_eq] at hk
          obtain ⟨⟨⟨k1, k2⟩, k3⟩, k4⟩ := hk
          subst k1
          obtain rfl := Option.some.inj h
          simp only [VR, ho] at hvp
          obtain ⟨k, g0, h1, h2, h3, h4⟩ := hvp rfl
          simp only [TO.loc, Option.some.injEq] at h1
          subst h1
          obtain ⟨cs, e1, e2, e3⟩ := HoldsF.of_st hvy
          have hlen : (stL n f).length = n := by simp [stL]
          have hcs : (a.eval y).cells = cs := by rw [e1]; rfl
          have hfl := e3.flat (by rw [hlen]; exact e2)
          have hpos : 0 < (TI T).size := ((hT T).zc (by omega)).2.2.2
          obtain ⟨cur, e0, c1, c2, c3⟩ := hm.writeAll (fs' := stL n f) (vs := cs.toList) ho k3 (fun u hu => hfl u (by simpa using hu)) (by rw [hlen]; simp [e2]) (fun j x hx cc hcc => by
            obtain ⟨u, a1, _, a3⟩ := e3 j x hx cc hcc
            exact ⟨u, by rw [Array.getElem?_toList]; exact a1, a3⟩) h3 (by simp [e2, k4, hpos])
          refine ⟨undef, _, π, .inr ⟨?_, rfl⟩, c3, trivial⟩
          have hrun := run_store (P := P) (T := T) (v := a.eval y) hT (by omega) (by rw [hcs, e2, k4]) (fun u hu => hfl u (by rw [hcs] at hu; exact hu)) c1 (by rw [hcs]; exact c2)
          rw [← h4, hcs] at hrun
          simp [execOp, hrun]
        · cases h
      · cases h
    · cases h
  | box T x =>
    simp only [tst] at h
    split at h
    · rename_i d n f hx
      have hv := hm.ev x
      rw [hx] at hv
      split at h
      · rename_i hd
        split at h
        · rename_i hk
          simp only [beq_iff_eq] at hk
          obtain rfl := Option.some.inj h
          obtain ⟨cs, e1, e2, e3⟩ := HoldsF.of_st hv
          have hcs : (a.eval x).cells = cs := by rw [e1]; rfl
          have hR := hm.newRcd hd (fs := stL n f) (cur := cs) (e := T) e3
          refine ⟨.pointer (some ⟨w.heap.size, 0, none⟩), _, _, .inl ?_, hR, ?_⟩
          · refine exec_value (e := Instr.box T (a.eval x)) rfl ?_
            simp [Instr.box, newVar, newRow, hcs]
          · simp only [VR, List.singleton_append, tlook, if_true]
            exact fun _ => ⟨0, w.heap.size, rfl, trivial, by simp [updP], by simp [updP]⟩
        · cases h
      · cases h
    · cases h
  | slice T x lo hi mx =>
    simp only [tst] at h
    split at h
    · rename_i ra rb hx h1 h2
      have hv := hm.ev x
      rw [hx] at hv
      have hv' : a.eval x = .slice none 0 0 := hv
      split at h
      · rename_i hk
        simp only [beq_iff_eq] at hk
        obtain rfl := Option.some.inj h
        have hb : cutB 0 ra rb = true := hb
        obtain ⟨el, ie, b1, b2, b3, _⟩ := (hT T).sl hk
        have opt : ∀ {o : Option Operand} {r : Option Int}, ixOf s.ev o = some r → (o.map a.eval = none ∧ r = none) ∨ ∃ k z, o.map a.eval = some (.int k z) ∧ r = some z := fun h => by
          rcases ixOf_ok hm h with ⟨rfl, rfl⟩ | ⟨x, k, z, rfl, rfl, e⟩
          · exact .inl ⟨rfl, rfl⟩
          · exact .inr ⟨k, z, by simp [e], rfl⟩
        obtain ⟨c1, c2, _, _⟩ := cutB_ok hb
        have e1 : hiN 0 rb = 0 := by omega
        have e2 : loN ra = 0 := by omega
        have := run_slice_sl (P := P) (w := w) b1 b2 (p := none) (n := 0) (Nat.le_refl 0) (opt h1) (opt h2) hb
        refine ⟨.slice none 0 0, w, π, .inl (exec_value (e := Instr.sliceAt T (a.eval x) (lo.map a.eval) (hi.map a.eval) (Option.map a.eval none)) rfl ?_), hm, rfl⟩
        rw [hv']
        simp only [e1, e2, Option.map_none, Nat.sub_self] at this
        simpa using this
      · cases h
    · cases h
  | call cl =>
    simp only [tst] at h
    obtain ⟨callee, args, ats⟩ := cl
    simp only at h
    split at h
    · rename_i x T hxs hts
      have ha : args = #[x] := by apply Array.ext'; simpa using hxs
      have ht : ats = #[T] := by apply Array.ext'; simpa using hts
      subst ha; subst ht
      split at h
      · rename_i hx
        have hv := hm.ev x
        rw [hx] at hv
        have hv' : a.eval x = .slice none 0 0 := hv
        split at h
        · rename_i hk
          simp only [beq_iff_eq] at hk
          obtain rfl := Option.some.inj h
          obtain ⟨el, ie, b1, _⟩ := (hT T).sl hk
          refine ⟨.int .i64 0, w, π, .inl (exec_value (e := Builtin.cap_ #[T] ty #[a.eval x]) (by rw [BigFrame.execOp_builtin, BigFrame.builtin_cap]; simp) (by rw [hv']; exact run_cap_nil b1)), hm, rfl⟩
        · cases h
      · cases h
    · rename_i x y T T' hxs hts
      have ha : args = #[x, y] := by apply Array.ext'; simpa using hxs
      have ht : ats = #[T, T'] := by apply Array.ext'; simpa using hts
      subst ha; subst ht
      split at h
      · rename_i d k n t hx hy hTY
        have hvx := hm.ev x
        have hvy := hm.ev y
        rw [hx] at hvx
        rw [hy] at hvy
        have hvx' : a.eval x = .slice none 0 0 := hvx
        have hvy' : a.eval y = .int k n := hvy
        split at h
        · rename_i hd
          split at h
          · rename_i hk
            simp only [Bool.and_eq_true, beq_iff_eq] at hk
            obtain ⟨⟨⟨⟨k1, k2⟩, k3⟩, k4⟩, k5⟩ := hk
            obtain rfl := Option.some.inj h
            obtain ⟨hb0', hb1⟩ := Bool.and_eq_true_iff.1 (show (decide (0 < n) && mkOk n n (TI T).eb) = true from hb)
            have hb0 : (0 : Int) < n := of_decide_eq_true hb0'
            obtain ⟨m0, _, m2, m3⟩ := mkOk_ok hb1
            obtain ⟨m, rfl⟩ : ∃ m : Nat, n = (m : Int) := ⟨n.toNat, (Int.toNat_of_nonneg m0).symm⟩
            obtain ⟨el, ie, b1, b2, b3, b4, b5, b6, b7, b8⟩ := (hT T).sl k2
            have b9 := (hT T').int k k1
            have hmb : m * ie.bytes ≤ 140737488355328 := by
              rw [b4]; rw [← Int.natCast_mul] at m2; exact Int.ofNat_le.1 m2
            have hm63 : m ≤ 140737488355328 := by omega
            have hrun := run_app_zero (P := P) (ty := ty) (w := w) b1 b9 b2 b5 (by omega) (n := m) (by omega) hm63 hmb (by
              exact growslice_fits (by omega) hmb)
            have hge := grownCap_ge w m 0 el
            have hcm : grownCap w m 0 el ≤ maxLen := grownCap_le_maxLen w m 0 el (by simp [maxLen]; omega)
            obtain ⟨v1, v2⟩ := DT.val_cells k4 (isZero_ok (w := w) (G := Gz F w π (tlook s.ob)) k4 k3)
            have hpos : 0 < t.size := by rw [← k5]; exact b8
            have hcl : CL w (Gz F w π (tlook s.ob)) t (List.replicate m t.dflt) (Builtin.zeroCells (TI T).ez.cells m).toList := by
              refine ⟨by simp [size_zeroCells, v1], fun i hi cc hcc => ?_⟩
              simp only [List.length_replicate] at hi
              obtain ⟨u, a1, a2, a3⟩ := v2 cc hcc
              have hq : i * t.size + cc < m * t.size := idx_lt hi hcc
              refine ⟨u, ?_, a2, by rw [getD_rep]; exact a3⟩
              rw [Array.getElem?_toList, zero_get _ _ _ (by rw [v1]; exact hq) (by rw [v1]; exact Nat.mod_lt _ hpos), v1, Nat.mul_comm, Nat.mul_add_mod, Nat.mod_eq_of_lt hcc]
              exact a1
            have hsz2 : (Builtin.zeroCells (TI T).ez.cells m ++ Builtin.zeroCells (TI T).ez.cells (grownCap w m 0 el - m)).size = grownCap w m 0 el * t.size := by
              simp only [Array.size_append, size_zeroCells, v1, ← Nat.add_mul]
              congr 1; omega
            have hR := hm.newRow (cap := grownCap w m 0 el) hd hcl (w' := w.drew.alloc _) ((Below.refl _ _).drew.alloc (by simp) _) (heap_alloc_new w.drew (.cells (Builtin.zeroCells (TI T).ez.cells m ++ Builtin.zeroCells (TI T).ez.cells (grownCap w m 0 el - m)) el)) (fun q hq => by
              rw [Array.getElem?_append_left (by simpa using hq), Array.getElem?_toList]) (by rw [hsz2]; exact Nat.le_refl _) (by simpa using hge) hcm
            refine ⟨_, _, _, .inl (exec_value (e := Builtin.append_ #[T, T'] ty #[a.eval x, a.eval y]) (by rw [BigFrame.execOp_builtin, BigFrame.builtin_append]; simp) (by rw [hvx', hvy']; exact hrun)), hR, ?_⟩
            simp only [VR, List.singleton_append, tlook, if_true, updP, Pl.hdr, Int.toNat_natCast, List.length_replicate]
          · cases h
        · cases h
      · cases h
    · rename_i x T hxs hts
      have ha : args = #[x] := by apply Array.ext'; simpa using hxs
      have ht : ats = #[T] := by apply Array.ext'; simpa using hts
      subst ha; subst ht
      split at h
      · rename_i id i j hx
        have hv := hm.ev x
        rw [hx] at hv
        split at h
        · rename_i t l ho
          split at h
          · rename_i hk
            simp only [Bool.and_eq_true, beq_iff_eq] at hk
            obtain ⟨⟨⟨k2, k3⟩, k4⟩, k5⟩ := hk
            obtain rfl := Option.some.inj h
            have hij : i < j := of_decide_eq_true hb
            simp only [VR, ho] at hv
            obtain ⟨_, hjl, p, cp, hv', _, _, _, h7⟩ := hv
            obtain ⟨g, hg, rfl⟩ := h7 hij
            obtain ⟨el, ie, b1, b2, b3, b4, b5, b6, b7, b8⟩ := (hT T).sl k2
            obtain ⟨v1, v2⟩ := DT.val_cells k4 (isZero_ok (w := w) (G := Gz F w π (tlook s.ob)) k4 k3)
            have hpos : 0 < t.size := by rw [← k5]; exact b8
            rcases hm.obj id _ ho with ⟨h1, _⟩ | ⟨g', cur, e0, q1, q2, q3, q4, q5, q6⟩
            · rw [h1] at hg; cases hg
            rw [hg] at q1; obtain rfl := Option.some.inj q1
            have hzl : (Builtin.zeroCells (TI T).ez.cells (j - i)).toList.length = (j - i) * t.size := by simp [size_zeroCells, v1]
            have hjc : j * t.size ≤ (π id).cap * t.size := Nat.mul_le_mul_right _ (by omega)
            have hsub : (j - i) * t.size + i * t.size = j * t.size := by rw [← Nat.add_mul]; congr 1; omega
            have hfit : (π id).q + i * t.size + (Builtin.zeroCells (TI T).ez.cells (j - i)).toList.length ≤ cur.size := by rw [hzl]; omega
            have hst := run_storeCells_at P g ((π id).q + i * t.size) e0 (Builtin.zeroCells (TI T).ez.cells (j - i)).toList 0 cur w q2 (by simpa using hfit) (fun u hu => by
              simp only [Builtin.zeroCells, Array.toList_map, List.mem_map] at hu
              obtain ⟨q, _, rfl⟩ := hu
              have hm' : q % (TI T).ez.cells.size < t.size := by rw [v1]; exact Nat.mod_lt _ hpos
              obtain ⟨u, a1, a2, a3⟩ := v2 _ hm'
              rw [Array.getElem?_eq_getElem (by rw [v1] at hm' ⊢; exact hm')] at a1
              simp only [Option.some.injEq] at a1
              rw [getElem!_pos _ _ (by rw [v1] at hm' ⊢; exact hm'), a1]; exact a2)
            simp only [Nat.add_zero] at hst
            have hrun : (Builtin.clear_ #[T] ty #[a.eval x]).run P w = .ok (.tuple #[]) (w.setRow g (spl cur ((π id).q + i * t.size) (Builtin.zeroCells (TI T).ez.cells (j - i)).toList)) := by
              rw [hv']
              obtain ⟨m, hm'⟩ : ∃ m, j - i = m + 1 := ⟨j - i - 1, by omega⟩
              unfold spl
              rw [hm'] at hst ⊢
              simp [Builtin.clear_, run_underlying b1, zeroValue, typeInfo, b2, b5, hst]
            refine ⟨.tuple #[], _, π, .inl (exec_value (e := Builtin.clear_ #[T] ty #[a.eval x]) (by rw [BigFrame.execOp_builtin, BigFrame.builtin_clear]; simp) hrun), hm.write ho hg q2 ⟨rfl, by simp [clr]; omega⟩ rfl rfl fun G' O' hz _ => .inr ⟨g, _, e0, hg, setRow_heap w g cur _ e0 (0, 0) q2, by simp [clr]; omega, q4, by rw [spl_size _ _ _ hfit]; exact q5, fun n hn cc hcc => ?_⟩, trivial⟩
            have hn' : n < l.length := by simp [clr] at hn; omega
            rw [spl_get _ _ _ _ hfit, hzl]
            by_cases hin : i ≤ n ∧ n < j
            · have h1 : i * t.size ≤ n * t.size := Nat.mul_le_mul_right _ hin.1
              have h2 : n * t.size + t.size ≤ j * t.size := by
                have := Nat.mul_le_mul_right t.size (show n + 1 ≤ j by omega)
                rw [Nat.add_mul] at this; omega
              have e1 : (clr l i j t.dflt).getD n t.dflt = t.dflt := by
                unfold clr
                rw [List.append_assoc, getD_append, if_neg (by simp; omega), getD_append, if_pos (by simp; omega), getD_rep]
              rw [if_pos (by omega), e1]
              obtain ⟨u, a1, a2, a3⟩ := v2 cc hcc
              have hsub2 : (n - i) * t.size + i * t.size = n * t.size := by rw [← Nat.add_mul]; congr 1; omega
              have hq : (π id).q + n * t.size + cc - ((π id).q + i * t.size) = (n - i) * t.size + cc := by omega
              refine ⟨u, ?_, a2, DT.cell_mono hz a3⟩
              have hlt : (n - i) * t.size + cc < (j - i) * t.size := idx_lt (by omega) hcc
              rw [hq, Array.getElem?_toList, zero_get _ _ _ (by rw [v1]; exact hlt) (by rw [v1]; exact Nat.mod_lt _ hpos), v1, Nat.mul_comm, Nat.mul_add_mod, Nat.mod_eq_of_lt hcc]
              exact a1
            · have e1 : (clr l i j t.dflt).getD n t.dflt = l.getD n t.dflt := by
                unfold clr
                rw [List.append_assoc, getD_append]
                by_cases h1 : n < i
                · rw [if_pos (by simp; omega)]; simp [List.getD, h1]
                · rw [if_neg (by simp; omega), getD_append, if_neg (by simp; omega), getD_drop']
                  congr 1
                  simp; omega
              have hno : ¬ ((π id).q + i * t.size ≤ (π id).q + n * t.size + cc ∧ (π id).q + n * t.size + cc < (π id).q + i * t.size + (j - i) * t.size) := by
                rintro ⟨x1, x2⟩
                rcases Nat.lt_or_ge n i with hlt | hge
                · have := Nat.mul_le_mul_right t.size (show n + 1 ≤ i by omega)
                  rw [Nat.add_mul] at this; omega
                · have := Nat.mul_le_mul_right t.size (show j ≤ n by omega)
                  omega
              rw [if_neg hno, e1]
              obtain ⟨u, a1, a2, a3⟩ := q6 n hn' cc hcc
              exact ⟨u, a1, a2, DT.cell_mono hz a3⟩
          · cases h
        · cases h
      · cases h
    · rename_i x T hxs hts
      have ha : args = #[x] := by apply Array.ext'; simpa using hxs
      have ht : ats = #[T] := by apply Array.ext'; simpa using hts
      subst ha; subst ht
      split at h
      · rename_i id i p k n i1 j1 hx
        have hv := hm.ev x
        rw [hx] at hv
        split at h
        · rename_i ob ho
          split at h
          · rename_i hk
            simp only [Bool.and_eq_true, beq_iff_eq] at hk
            obtain rfl := Option.some.inj h
            simp only [VR, ho] at hv
            obtain ⟨c0, g, pp, h1, h2, h3, h4, h5, h6, h7, h8⟩ := hv hk.2
            obtain ⟨el, ie, b1, _⟩ := (hT T).sl hk.1
            refine ⟨.int .i64 ((j1 - i1 : Nat) : Int), w, π, .inl (exec_value (e := Builtin.len_ #[T] ty #[a.eval x]) (by rw [BigFrame.execOp_builtin, BigFrame.builtin_len]; simp) ?_), hm, (DT.val_one (t := .int .i64) rfl).2 rfl⟩
            have : j1 - i1 ≤ maxLen := by omega
            rw [h7]
            simp [Builtin.len_, run_underlying b1, goInt]
          · cases h
        · cases h
      · cases h
    · cases h
  | indexAddr T x y =>
    simp only [tst] at h
    split at h
    · rename_i kk z hy
      split at h
      · rename_i r b hr
        obtain rfl := Option.some.inj h
        have hvy := hm.ev y
        rw [hy] at hvy
        have hvy' : a.eval y = .int kk z := (DT.val_one (t := .int kk) rfl).1 hvy
        obtain ⟨v', h1, h2⟩ := tvi_ok hT hm hr hb (hm.ev x)
        exact ⟨v', w, π, .inl (exec_value (e := Instr.indexAt T (a.eval x) (a.eval y)) rfl (by rw [hvy']; exact h1)), hm, h2⟩
      · cases h
    · cases h
  | _ => simp [tst] at h

end
end Go.Proofs.YtbjfbbfglkmadaaDoor
