/-
  Lifting Go functions to plain Lean functions, part C: code, regions, contracts, calls.
-/
import Derived.Test.YtbjfbbfglkmadaaDoorQB
import Derived.RangeFuncNested
import Derived.RangeFuncIn
import Derived.RangeFuncLeaves
import Derived.TacticsIn
import Derived.OrdersIn
import Derived.ControlIn
namespace Go.Proofs.YtbjfbbfglkmadaaDoor
open Go.RowKit
set_option linter.unusedVariables false

/-- With blocks for the rounds' deferred calls. -/
def Cx.add (c : Cx) (Ds : List Nat) : Cx := { c with ds := Ds }
def but (F : Nat → Prop) (Ds : List Nat) (b : Nat) : Prop := F b ∧ b ∉ Ds
structure DsOk (c : Cx) (Ds : List Nat) : Prop where
  nd : Ds.Nodup
  old : ∀ D ∈ Ds, c.w.heap.size ≤ D
  rd : c.rnd ≠ none → Ds = []

/-- What the state says, whatever loops over functions are over. -/
def Rl (c : Cx) (F : Nat → Prop) (s : TS) (a : Act) (w : World) : Prop := ∃ Ds, DsOk c Ds ∧ Rel (c.add Ds) (but F Ds) s a w

/-- Where the code runs: in a function's frame, or in a round's. -/
def Cx.fen (c : Cx) : Fence := { Fence.wide with round := c.rnd }

theorem fen_room (c : Cx) (n : Nat) : c.fen.room n := fun d hd => by cases hd
theorem fen_fn (c : Cx) (f : FuncId) : c.fen.fn f := trivial
theorem callsIn_fen (c : Cx) {n : Nat} {P : Program} {f : FuncId} {args : Array Value} {w : World} {R : Ending → World → Prop} (h : Calls P f args w R) : CallsIn c.fen n P f args w R := callsIn_wide (n := n).2 h

/-- THE LOGIC: from every frame and world that the state s speaks of, the code comes to an exit and a state of Q. -/
def PWP (P : Program) (c : Cx) (F : Nat → Prop) (x : Code) (Q : Exit → TS → Prop) (s : TS) : Prop :=
  ∀ n a w, Rl c F s a w → x.wpIn c.fen n P (fun e a' w' => ∃ s', Q e s' ∧ Rl c F s' a' w') a w

def PThen (K : TS → Prop) (Q : Exit → TS → Prop) : Exit → TS → Prop
  | .normal, s => K s
  | e, s => Q e s

def PBlock (id : Nat) (Q : Exit → TS → Prop) : Exit → TS → Prop
  | .exit i, s => if i = id then Q .normal s else Q (.exit i) s
  | e, s => Q e s

def tcst : Value → TV
  | .int k n => .dv (.int k) n
  | .bool b => .dv .bool b
  | .string s => .dv .str s.data.toList
  | .slice none 0 0 => .nl
  | v => .cst v

/-- What an operand holds. -/
def TS.ev (s : TS) : Operand → TV
  | .tmp t => s.sl.getD t .any
  | .const v => tcst v
  | .global g => match GTV g with
    | some ⟨t, x⟩ => .el t x []
    | none => .any
  | .func f => .fn f 0 0 fun _ => .any

theorem tcst_ok {w : World} {G : Nat → Prop} {π : Nat → Pl} {O : Obs} (v : Value) : VR w G π O (tcst v) v := by
  unfold tcst
  split
  · rfl
  · rfl
  · rfl
  · rfl
  · rfl

section
variable {P : Program} {c : Cx} {F : Nat → Prop} {Q : Exit → TS → Prop} {s : TS}

theorem PWP.mono {x : Code} {Q' : Exit → TS → Prop} (h : PWP P c F x Q s) (hq : ∀ e s, Q e s → Q' e s) : PWP P c F x Q' s :=
  fun n a w hr => wpIn_mono (h n a w hr) fun e a' w' ⟨s', h1, h2⟩ => ⟨s', hq e s' h1, h2⟩

theorem pseq {x y : Code} (h : PWP P c F x (PThen (PWP P c F y Q) Q) s) : PWP P c F (.seq x y) Q s := fun n a w hr => by
  refine wpIn_seq (wpIn_mono (h n a w hr) fun e a' w' ⟨s', h1, h2⟩ => ?_)
  cases e with
  | normal => exact h1 n a' w' h2
  | _ => exact ⟨s', h1, h2⟩

theorem pblock {id : Nat} {x : Code} (h : PWP P c F x (PBlock id Q) s) : PWP P c F (.block id x) Q s := fun n a w hr => by
  refine wpIn_block (wpIn_mono (h n a w hr) fun e a' w' ⟨s', h1, h2⟩ => ?_)
  cases e with
  | exit i =>
    simp only [PBlock] at h1
    simp only [Exit.inBlock]
    split
    · rename_i e; rw [if_pos e] at h1; exact ⟨s', h1, h2⟩
    · rename_i e; rw [if_neg e] at h1; exact ⟨s', h1, h2⟩
  | _ => exact ⟨s', h1, h2⟩

theorem pskip (h : Q .normal s) : PWP P c F .skip Q s := fun n a w hr => wpIn_skip ⟨s, h, hr⟩
theorem pret (h : Q .ret s) : PWP P c F .ret Q s := fun n a w hr => wpIn_ret ⟨s, h, hr⟩
theorem pexit {id : Nat} (h : Q (.exit id) s) : PWP P c F (.exit id) Q s := fun n a w hr => wpIn_exit ⟨s, h, hr⟩

theorem RelM.slotD {π : Nat → Pl} {a : Act} {w : World} (h : RelM c F π s a w) (t : Nat) : VR w (Gz F w π (tlook s.ob)) π (tlook s.ob) (s.sl.getD t .any) (a.tmps.getD t undef) := by
  by_cases ht : t < s.sl.length
  · have : s.sl.getD t .any = s.sl[t] := by simp [ht]
    rw [this]; exact h.slot t _ (by simp [ht])
  · have : s.sl.getD t .any = .any := by simp [List.getD, List.getElem?_eq_none (Nat.le_of_not_lt ht)]
    rw [this]; trivial

theorem RelM.ev {π : Nat → Pl} {a : Act} {w : World} (h : RelM c F π s a w) (x : Operand) : VR w (Gz F w π (tlook s.ob)) π (tlook s.ob) (s.ev x) (a.eval x) := by
  cases x with
  | tmp t => exact h.slotD t
  | const v => exact tcst_ok v
  | global g =>
    simp only [TS.ev]
    cases e : GTV g with
    | none => trivial
    | some p => obtain ⟨t, y⟩ := p; exact h.glb g t y e
  | func f => exact ⟨#[], #[], rfl, rfl, rfl, fun j hj => by omega, fun j hj => by omega⟩

theorem RelM.evb {π : Nat → Pl} {a : Act} {w : World} (h : RelM c F π s a w) {x : Operand} {t : DT} {y : t.den} (hx : s.ev x = .dv t y) : t.val y w (Gz F w π (tlook s.ob)) (a.eval x) := by
  have := h.ev x; rw [hx] at this; exact this

theorem pcond {x : Operand} {y z : Code} {t : Bool} (hc : s.ev x = .dv .bool t) (hx : t = true → PWP P c F y Q s) (hy : t = false → PWP P c F z Q s) : PWP P c F (.cond x y z) Q s := fun n a w hr => by
  obtain ⟨Ds, hD, π, hm⟩ := hr
  have he : a.eval x = .bool t := hm.evb hc
  refine wpIn_cond (t := t) he ?_
  cases t with
  | true => exact hx rfl n a w ⟨Ds, hD, π, hm⟩
  | false => exact hy rfl n a w ⟨Ds, hD, π, hm⟩

theorem least_of {p : Nat → Prop} {n : Nat} (h : p n) : ∃ k, p k ∧ ∀ j, j < k → ¬ p j := by
  induction n using Nat.strongRecOn with
  | _ n ih =>
    by_cases h' : ∃ j, j < n ∧ p j
    · obtain ⟨j, hj, hp⟩ := h'; exact ih j hj hp
    · exact ⟨n, h, fun j hj hp => h' ⟨j, hj, hp⟩⟩

/-- A LOOP: I n: what holds at a round's head; n goes down. -/
theorem ploop {x : Code} (I : Nat → TS → Prop) (n : Nat) (h0 : I n s) (round : ∀ n s, I n s → PWP P c F x (PThen (fun s' => ∃ k, k < n ∧ I k s') Q) s) : PWP P c F (.loop x) Q s := fun nn a w hr => by
  classical
  let J : Nat → Act → World → Prop := fun n a w => ∃ s, I n s ∧ Rl c F s a w
  let μ : Act → World → Nat := fun a w => if h : ∃ n, J n a w then Classical.choose (least_of (p := fun n => J n a w) (Classical.choose_spec h)) else 0
  have hμ : ∀ a w n, J n a w → J (μ a w) a w ∧ μ a w ≤ n := fun a w n hn => by
    have h : ∃ n, J n a w := ⟨n, hn⟩
    have hs := Classical.choose_spec (least_of (p := fun n => J n a w) (Classical.choose_spec h))
    have e : μ a w = Classical.choose (least_of (p := fun n => J n a w) (Classical.choose_spec h)) := dif_pos h
    rw [e]
    refine ⟨hs.1, ?_⟩
    rcases Nat.lt_or_ge n (Classical.choose (least_of (p := fun n => J n a w) (Classical.choose_spec h))) with hlt | hge
    · exact absurd hn (hs.2 n hlt)
    · exact hge
  refine wpIn_loop (fun a w => ∃ n, J n a w) μ ⟨n, s, h0, hr⟩ fun a w ⟨n, hn⟩ => ?_
  obtain ⟨s1, h1, h2⟩ := (hμ a w n hn).1
  refine wpIn_mono (round _ s1 h1 nn a w h2) fun e a' w' ⟨s', h3, h4⟩ => ?_
  cases e with
  | normal =>
    obtain ⟨k, hk, h5⟩ := h3
    have hJ : J k a' w' := ⟨s', h5, h4⟩
    exact ⟨⟨k, hJ⟩, Nat.lt_of_le_of_lt (hμ a' w' k hJ).2 hk⟩
  | _ => exact ⟨s', h3, h4⟩

/-- Less is known. -/
theorem pweak {x : Code} {s' : TS} (hw : ∀ Ds a w, Rel (c.add Ds) (but F Ds) s a w → Rel (c.add Ds) (but F Ds) s' a w) (h : PWP P c F x Q s') : PWP P c F x Q s := fun n a w ⟨Ds, hD, hr⟩ => h n a w ⟨Ds, hD, hw Ds a w hr⟩

/-- A region's operations, one after another. -/
def PL (P : Program) (c : Cx) (F : Nat → Prop) (ops : Array Oper) (l : List Oper) (K : TS → Prop) (s : TS) : Prop :=
  ∀ n a w (Q : Exit → Act → World → Prop), Rel c F s a w → (∀ s' a' w', K s' → Rel c F s' a' w' → Q .normal a' w') → wpListIn c.fen n P ops Q l a w

theorem PL.nil {ops : Array Oper} {K : TS → Prop} (h : K s) : PL P c F ops [] K s := fun n a w Q hr hk => hk s a w h hr

theorem pregion {id : Nat} {l : List Oper} (h : ∀ Ds, PL P (c.add Ds) (but F Ds) l.toArray l (fun s' => Q .normal s') s) : PWP P c F (.region id l.toArray false) Q s := fun n a w ⟨Ds, hD, hr⟩ =>
  wpIn_region_lit (h Ds n a w _ hr fun s' a' w' hk hr' => ⟨s', hk, Ds, hD, hr'⟩)

/-- An operation, with what comes behind it. -/
def OpW (P : Program) (c : Cx) (F : Nat → Prop) (o : Oper) (K : TS → Prop) (s : TS) : Prop :=
  ∀ (n : Nat) (a : Act) (w : World) (next : Act → World → Prop) (Q : Exit → Act → World → Prop), Rel c F s a w → (∀ (s' : TS) (a' : Act) (w' : World), K s' → Rel c F s' a' w' → next a' w') → o.wpIn c.fen n P a w next Q

/-- Outside of 'defer' it is all one where an operation runs. -/
theorem not_defer {ρ : Operand → Value} {o : Oper} {w w' : World} {x : Next} (h : (execOp ρ o).run P w = .ok x w') (hx : ∀ d, x ≠ .defer d) : ∀ c, o.op ≠ .defer c := fun c e => by
  unfold execOp at h
  rw [e] at h
  simp only [Sem.run_bind] at h
  cases hr : (resolve ρ c o.type).run P w with
  | ok d w1 => rw [hr] at h; simp [Result.andThen] at h; exact hx _ h.1.symm
  | halt s w1 => rw [hr] at h; simp [Result.andThen] at h
theorem opIn_of {ρ : Operand → Value} {o : Oper} {w w' : World} {x : Next} (ro : Option Nat) (h : (execOp ρ o).run P w = .ok x w') (hx : ∀ d, x ≠ .defer d) : (o.semAt ro ρ).run P w = .ok x w' := by
  rw [Oper.semAt_eq _ _ _ (not_defer h hx)]; exact h
theorem wpIn_value {o : Oper} {a : Act} {w w' : World} {n : Nat} {v : Value} {next : Act → World → Prop} {Q : Exit → Act → World → Prop} (h : (execOp a.eval o).run P w = .ok (.value v) w') (hn : next (a.put o.dst v) w') : o.wpIn c.fen n P a w next Q := by
  refine ⟨fun _ _ => trivial, ?_⟩
  rw [opIn_of _ h (fun d e => by cases e), Oper.uponIn_value]; exact hn
theorem wpIn_skipped {o : Oper} {a : Act} {w w' : World} {n : Nat} {next : Act → World → Prop} {Q : Exit → Act → World → Prop} (h : (execOp a.eval o).run P w = .ok .skip w') (hn : next (a.put o.dst undef) w') : o.wpIn c.fen n P a w next Q := by
  refine ⟨fun _ _ => trivial, ?_⟩
  rw [opIn_of _ h (fun d e => by cases e), Oper.uponIn_skip]; exact hn
theorem wpIn_enter {o : Oper} {a : Act} {w w' : World} {n : Nat} {f : FuncId} {args : Array Value} {next : Act → World → Prop} {Q : Exit → Act → World → Prop} (h : (execOp a.eval o).run P w = .ok (.enter f args) w') (hn : Calls P f args w' fun
      | .returned v, w'' => next (a.put o.dst v) w''
      | .panicked chain, w'' => Q (.panic chain) a w''
      | .outgrown, _ => LetsOut Q) : o.wpIn c.fen n P a w next Q := by
  refine ⟨fun _ _ => trivial, ?_⟩
  rw [opIn_of _ h (fun d e => by cases e), Oper.uponIn_enter]
  exact ⟨(fun h => by cases h), callsIn_fen c hn⟩

/-- An operation that goes through. -/
theorem OpW.of {o : Oper} {K : TS → Prop} {s' : TS} (h : ∀ a w, Rel c F s a w → ∃ v w', ((execOp a.eval o).run P w = .ok (.value v) w' ∨ (execOp a.eval o).run P w = .ok .skip w' ∧ v = undef) ∧ Rel c F s' (a.put o.dst v) w') (hk : K s') : OpW P c F o K s := fun n a w next Q hr hn => by
  obtain ⟨v, w', hrun, hr'⟩ := h a w hr
  rcases hrun with hrun | ⟨hrun, rfl⟩
  · exact wpIn_value hrun (hn _ _ _ hk hr')
  · exact wpIn_skipped hrun (hn _ _ _ hk hr')

theorem OpW.mono {o : Oper} {K K' : TS → Prop} (h : OpW P c F o K s) (hk : ∀ s, K s → K' s) : OpW P c F o K' s := fun n a w next Q hr hn => h n a w next Q hr fun s' a' w' h1 h2 => hn s' a' w' (hk _ h1) h2

theorem PL.opW {ops : Array Oper} {o : Oper} {l : List Oper} {K : TS → Prop} (hg : o.guard = none) (h : OpW P c F o (fun s' => PL P c F ops l K s') s) : PL P c F ops (o :: l) K s := fun n a w Q hr hk =>
  wpListIn_plain hg fun K' hK' => h n a w K' Q hr fun s' a' w' h1 h2 => hK' _ _ (h1 n a' w' Q h2 hk)

theorem RelM.yields {π : Nat → Pl} {a : Act} {w : World} (h : RelM c F π s a w) {ops : Array Oper} {j d : Nat} {b : Bool} (hd : (ops[j]?).bind (·.dst) = some d) (hs : s.sl[d]? = some (.dv .bool b)) : yielded ops a.tmps j = some b := by
  have h1 := h.slot d _ hs
  have hl : d < s.sl.length := (List.getElem?_eq_some_iff.1 hs).1
  have hl' : d < a.tmps.size := by rw [h.size]; exact hl
  have h2 : a.tmps.getD d undef = .bool b := h1
  have h3 : a.tmps[d]? = some (.bool b) := by
    rw [Array.getElem?_eq_getElem hl']; simp only [Array.getD, hl', dif_pos] at h2; exact congrArg some h2
  simp [yielded, hd, h3]

theorem PL.wantW {ops : Array Oper} {o : Oper} {l : List Oper} {K : TS → Prop} {j d : Nat} {b : Bool} (hg : o.guard = some (j, b)) (hd : (ops[j]?).bind (·.dst) = some d) (hs : s.sl[d]? = some (.dv .bool b))
    (h : OpW P c F o (fun s' => PL P c F ops l K s') s) : PL P c F ops (o :: l) K s := fun n a w Q hr hk => by
  have hr0 := hr
  obtain ⟨π, hm⟩ := hr0
  refine wpListIn_step fun K' hK' => ?_
  rw [if_pos (by simp [Region.wanted, hg, hm.yields hd hs])]
  exact h n a w K' Q hr fun s' a' w' h1 h2 => hK' _ _ (h1 n a' w' Q h2 hk)

theorem PL.pass {ops : Array Oper} {o : Oper} {l : List Oper} {K : TS → Prop} {j d : Nat} {b b' : Bool} (hg : o.guard = some (j, b)) (hd : (ops[j]?).bind (·.dst) = some d) (hs : s.sl[d]? = some (.dv .bool b')) (hne : b' ≠ b)
    (h : PL P c F ops l K (s.put o.dst .any)) : PL P c F ops (o :: l) K s := fun n a w Q hr hk => by
  have hr0 := hr
  obtain ⟨π, hm⟩ := hr0
  refine wpListIn_step fun K' hK' => ?_
  rw [if_neg (by simp [Region.wanted, hg, hm.yields hd hs]; exact hne)]
  exact ⟨fun _ _ => trivial, hK' _ _ (h n _ w Q ⟨π, hm.put _ trivial⟩ hk)⟩

end

/-- Objects in a world. -/
structure Frame (F : Nat → Prop) (w : World) (π : Nat → Pl) (O : List (Nat × TO)) : Prop where
  obj : ∀ id o, tlook O id = some o → OR w (Gz F w π (tlook O)) π (tlook O) id o
  inj : ∀ i j g, Own π (tlook O) i g → Own π (tlook O) j g → i = j
  new : ∀ id g, Own π (tlook O) id g → F g ∧ g < w.heap.size

/-- A CONTRACT: called with values and objects, the function hands back a value and objects of Q; blocks of other objects are not turned. -/
structure HSpec (P : Program) (f : FuncId) (args : List TV) (O : List (Nat × TO)) (Q : TV → List (Nat × TO) → Prop) : Prop where
  enters : ∀ (as : Array Value) (w : World), (callFunc f as).run P w = .ok (.enter f as) w
  calls : ∀ (w : World) (F : Nat → Prop) (π : Nat → Pl) (vs : List Value), vs.length = args.length → (∀ b, F b → b < w.heap.size) → Frame F w π O →
    (∀ (i : Nat) (x : TV) (v : Value), args[i]? = some x → vs[i]? = some v → VR w (Gz F w π (tlook O)) π (tlook O) x v) → GlbOk w (Gz F w π (tlook O)) →
    Calls P f vs.toArray w fun e w' => ∃ r v O' π', e = .returned v ∧ Q r O' ∧ Frame (fun b => F b ∨ w.heap.size ≤ b) w' π' O' ∧ VR w' (Gz (fun b => F b ∨ w.heap.size ≤ b) w' π' (tlook O')) π' (tlook O') r v ∧
      (∀ id o, tlook O id = some o → ∃ o', tlook O' id = some o' ∧ (o'.live = true → π' id = π id ∧ Shp o o')) ∧ (∀ id g, Own π' (tlook O') id g → (∃ j, Own π (tlook O) j g) ∨ w.heap.size ≤ g) ∧ Kept ⟨w, fun b => ∀ id, ¬ Own π (tlook O) id b, fun _ => none, none, [], []⟩ w'

theorem HSpec.mono {P : Program} {f : FuncId} {args : List TV} {O : List (Nat × TO)} {Q Q' : TV → List (Nat × TO) → Prop} (h : HSpec P f args O Q) (hq : ∀ r O', Q r O' → Q' r O') : HSpec P f args O Q' :=
  ⟨h.enters, fun w F π vs h1 h2 h3 h4 h5 => (h.calls w F π vs h1 h2 h3 h4 h5).mono fun e w' ⟨r, v, O', π', a, b, c⟩ => ⟨r, v, O', π', a, hq r O' b, c⟩⟩

/-- Results as one value. -/
def tupOf : List TV → TV
  | [x] => x
  | l => .tup l.length fun i => l.getD i .any

/-- What is asked at a function's end. -/
def PEnd (R : TS → List TV → List (Nat × TO) → Prop) (Q : TV → List (Nat × TO) → Prop) (e : Exit) (s : TS) : Prop :=
  (e = .normal ∨ e = .ret) ∧ ∃ l O', R s l O' ∧ Q (tupOf l) O'

/-- The blocks for deferred calls are taken. -/
def takeAll : List Nat → World → World
  | [], w => w
  | D :: Ds, w => takeAll Ds (w.putObj D (.deferred none))
theorem takeAll_size : ∀ (Ds : List Nat) (w : World), (takeAll Ds w).heap.size = w.heap.size
  | [], w => rfl
  | D :: Ds, w => by rw [takeAll, takeAll_size Ds]; simp
theorem takeAll_other : ∀ (Ds : List Nat) (w : World) {b : Nat}, b ∉ Ds → (takeAll Ds w).heap[b]? = w.heap[b]?
  | [], w, b, _ => rfl
  | D :: Ds, w, b, h => by
    rw [takeAll, takeAll_other Ds _ (fun q => h (List.mem_cons_of_mem _ q))]
    exact World.putObj_heap_other fun e => h (by simp [e])
theorem takeAll_os : ∀ (Ds : List Nat) (w : World), (takeAll Ds w).os = w.os ∧ (takeAll Ds w).tape = w.tape ∧ (takeAll Ds w).output = w.output
  | [], w => ⟨rfl, rfl, rfl⟩
  | D :: Ds, w => takeAll_os Ds _

theorem leaves_marks {Fe : Fence} {n : Nat} {P : Program} {fn : Func} {tmps : Array Value} {R : Ending → World → Prop} : ∀ (Ds : List Nat) (w : World), Ds.Nodup → (∀ D ∈ Ds, w.heap[D]? = some (.deferred (some []))) → LeavesInM Fe n P fn tmps R [] .returning (takeAll Ds w) → LeavesInM Fe n P fn tmps R (Ds.map dmark) .returning w
  | [], w, _, _, h => h
  | D :: Ds, w, hn, hd, h => by
    obtain ⟨h1, h2⟩ := List.nodup_cons.1 hn
    refine ⟨by simp, .inl ⟨D, _, rfl, run_takeDeferred (hd D (by simp)), leaves_marks Ds _ h2 (fun D' hD' => ?_) h⟩⟩
    exact (World.putObj_heap_other fun e => h1 (by rw [← e]; exact hD')).trans (hd D' (List.mem_cons_of_mem _ hD'))

theorem RelM.leave {c : Cx} {F : Nat → Prop} {Ds : List Nat} {π : Nat → Pl} {s : TS} {a : Act} {w : World} (hD : DsOk c Ds) (hc : c.ds = []) (hno : c.no = []) (hF : ∀ b, ¬ c.bar b → F b) (h : RelM (c.add Ds) (but F Ds) π s a w) : RelM c F π s { a with defers := [] } (takeAll Ds w) := by
  have own : ∀ id g, Own π (tlook s.ob) id g → g ∉ Ds := fun id g hg hm => (h.new id g hg).1 (.inr (.inl hm))
  have E : Evo w (Gz (but F Ds) w π (tlook s.ob)) π (tlook s.ob) (takeAll Ds w) (Gz F (takeAll Ds w) π (tlook s.ob)) π (tlook s.ob) :=
    ⟨fun b hb => ⟨⟨hb.1.1, by rw [takeAll_size]; exact hb.2.1, hb.2.2⟩, takeAll_other Ds w hb.1.2⟩, fun id o ho => ⟨o, ho, Step.refl o⟩⟩
  obtain ⟨q1, q2, q3⟩ := takeAll_os Ds w
  refine ⟨⟨q1.trans h.kept.os, q2.trans h.kept.tape, q3.trans h.kept.output, by rw [takeAll_size]; exact h.kept.size, fun b hb _ => ?_, fun b hb => by rw [hno] at hb; cases hb⟩, hF, by simp [hc], h.size, fun i x hx => VR.evo E (h.slot i x hx), fun id o ho => (h.obj id o ho).evo E rfl fun g hg hl => takeAll_other Ds w (own id g ⟨hg, o, ho, hl⟩), h.inj, fun id g hg => ⟨fun hb => ?_, by rw [takeAll_size]; exact (h.new id g hg).2⟩, h.pin, h.glb.mono E.fz⟩
  · rcases hb with hb | hb | hb
    · have hn : b ∉ Ds := fun hm => by have := hD.old b hm; have := hb.2; omega
      rw [takeAll_other Ds w hn, h.kept.block b (.inl hb) (by show b ∉ c.no; rw [hno]; simp)]
      have h1 : (c.add Ds).blk b = c.w.heap[b]? := if_neg hn
      have h2 : c.blk b = c.w.heap[b]? := if_neg (by rw [hc]; simp)
      rw [h1, h2]
    · rw [hc] at hb; cases hb
    · rw [hno] at hb; cases hb
  · rcases hb with hb | hb | hb
    · exact (h.new id g hg).1 (.inl hb)
    · rw [hc] at hb; cases hb
    · rw [hno] at hb; cases hb

/-- FROM A BODY TO A CONTRACT. -/
theorem HSpec.of {P : Program} {f : FuncId} {fn : Func} {x : Code} {R : TS → List TV → List (Nat × TO) → Prop} {args : List TV} {O : List (Nat × TO)} {Q : TV → List (Nat × TO) → Prop} (hf : P.funcs[f]? = some fn) (hb : fn.body = some x)
    (hR : ∀ s l O', R s l O' → ∀ (c : Cx), (∀ id p, c.pin id = some p → ∃ o, tlook O id = some o) → ∀ (F : Nat → Prop) (π : Nat → Pl) (a : Act) (w : World), RelM c F π s a w → ∃ v π' s1 a1, (results fn a.tmps).run P w = .ok v w ∧ RelM c F π' s1 a1 w ∧ s1.ob = O' ∧ VR w (Gz F w π' (tlook O')) π' (tlook O') (tupOf l) v) (hname : (fn.name == "runtime.NumGoroutine") = false)
    {nt : Nat} (hn : fn.ntmps = args.length + nt) (hO : ∀ id o, tlook O id = some o → o.live = true) (h : ∀ (c : Cx) (F : Nat → Prop), c.rnd = none → c.no = [] → (∀ id p, c.pin id = some p → ∃ o, tlook O id = some o) → PWP P c F x (PEnd R Q) ⟨args ++ List.replicate nt .any, O⟩) : HSpec P f args O Q := by
  have hname' : ¬ fn.name = "runtime.NumGoroutine" := by simpa using hname
  refine ⟨fun as w => by simp [callFunc, hf, hname', hb], fun w F π vs hl hF hfr hv hgl => ?_⟩
  refine callsIn_wide.1 (callsIn_of_wp_marks (F := Fence.wide) (n := 9) hf hb trivial ?_)
  have hG : ∀ b, Gz F w π (tlook O) b → Gz (fun b => F b ∨ w.heap.size ≤ b) w π (tlook O) b := fun b ⟨h0, h1, h2⟩ => ⟨.inl h0, h1, h2⟩
  have E : Evo w (Gz F w π (tlook O)) π (tlook O) w (Gz (fun b => F b ∨ w.heap.size ≤ b) w π (tlook O)) π (tlook O) := ⟨fun b hb => ⟨hG b hb, rfl⟩, fun id o ho => ⟨o, ho, Step.refl o⟩⟩
  let c : Cx := ⟨w, fun b => ∀ id, ¬ Own π (tlook O) id b, fun id => (tlook O id).map fun o => (π id, o), none, [], []⟩
  have hFc : ∀ b, ¬ c.bar b → F b ∨ w.heap.size ≤ b := fun b hb => by
    rcases Nat.lt_or_ge b w.heap.size with hlt | hge
    · have : ∃ id, Own π (tlook O) id b := Classical.byContradiction fun hno => hb (.inl ⟨fun id hid => hno ⟨id, hid⟩, hlt⟩)
      obtain ⟨id, hid⟩ := this
      exact .inl (hfr.new id b hid).1
    · exact .inr hge
  have hr : Rel c (fun b => F b ∨ w.heap.size ≤ b) ⟨args ++ List.replicate nt .any, O⟩ { tmps := vs.toArray ++ Array.replicate (fn.ntmps - vs.toArray.size) undef, defers := [] } w := by
    refine ⟨π, ⟨rfl, rfl, rfl, Nat.le_refl _, fun b _ _ => by simp [Cx.blk, c], fun b hb => by cases hb⟩, hFc, rfl, by simp [hl, hn], fun i x hx => ?_, fun id o ho => (hfr.obj id o ho).evo E rfl fun _ _ _ => rfl, hfr.inj, fun id g hg => ⟨fun hb => hb.elim (fun hb => hb.1 id hg) (fun hb => hb.elim (fun hb => by cases hb) (fun hb => by cases hb)), (hfr.new id g hg).2⟩, fun id p o0 hp => ?_, hgl.mono E.fz⟩
    · by_cases hi : i < args.length
      · have hi' : i < vs.length := by omega
        have e1 : (args ++ List.replicate nt TV.any)[i]? = args[i]? := List.getElem?_append_left hi
        rw [e1] at hx
        have e2 : (vs.toArray ++ Array.replicate (fn.ntmps - vs.toArray.size) undef).getD i undef = vs[i] := by
          simp [Array.getD_eq_getD_getElem?, Array.getElem?_append, hi']
        rw [e2]
        exact VR.evo E (hv i x vs[i] hx (by simp [hi']))
      · have e1 : (args ++ List.replicate nt TV.any)[i]? = (List.replicate nt TV.any)[i - args.length]? := List.getElem?_append_right (by omega)
        rw [e1] at hx
        have : x = .any := by
          rw [List.getElem?_replicate] at hx
          split at hx
          · exact (Option.some.inj hx).symm
          · cases hx
        subst this; trivial
    · obtain ⟨o, ho, hp'⟩ := Option.map_eq_some_iff.1 hp
      simp only [Prod.mk.injEq] at hp'
      obtain ⟨rfl, rfl⟩ := hp'
      exact ⟨o, ho, fun hl => ⟨rfl, Shp.refl hl⟩⟩
  have hrl : Rl c (fun b => F b ∨ w.heap.size ≤ b) ⟨args ++ List.replicate nt .any, O⟩ { tmps := vs.toArray ++ Array.replicate (fn.ntmps - vs.toArray.size) undef, defers := [] } w := by
    refine ⟨[], ⟨.nil, (fun _ h => by cases h), fun _ => rfl⟩, ?_⟩
    have e : but (fun b => F b ∨ w.heap.size ≤ b) [] = fun b => F b ∨ w.heap.size ≤ b := funext fun b => propext ⟨fun h => h.1, fun h => ⟨h, by simp⟩⟩
    rw [e]; exact hr
  have hpin : ∀ id p, c.pin id = some p → ∃ o, tlook O id = some o := fun id p hp => by
    obtain ⟨o, ho, _⟩ := Option.map_eq_some_iff.1 hp
    exact ⟨o, ho⟩
  refine wpIn_mono (h c _ rfl rfl hpin 9 _ _ hrl) fun e a' w' ⟨s', he, Ds, hD, π', hm0⟩ => ?_
  have hm := hm0.leave hD rfl rfl hFc
  have key : (∃ l O', R s' l O' ∧ Q (tupOf l) O') → LeavesInM Fence.wide 9 P fn a'.tmps (fun e w' => ∃ r v O' π', e = .returned v ∧ Q r O' ∧ Frame (fun b => F b ∨ w.heap.size ≤ b) w' π' O' ∧ VR w' (Gz (fun b => F b ∨ w.heap.size ≤ b) w' π' (tlook O')) π' (tlook O') r v ∧
      (∀ id o, tlook O id = some o → ∃ o', tlook O' id = some o' ∧ (o'.live = true → π' id = π id ∧ Shp o o')) ∧ (∀ id g, Own π' (tlook O') id g → (∃ j, Own π (tlook O) j g) ∨ w.heap.size ≤ g) ∧ Kept ⟨w, fun b => ∀ id, ¬ Own π (tlook O) id b, fun _ => none, none, [], []⟩ w') a'.defers .returning w' := fun ⟨r, O1, h1, h3⟩ => by
    rw [hm0.defers]
    refine leaves_marks Ds w' hD.nd (fun D hDs => ?_) ?_
    · have := hm0.kept.block D (.inr (.inl hDs)) (by show D ∉ ([] : List Nat); simp)
      rw [this]; unfold Cx.blk; exact if_pos hDs
    obtain ⟨v, π1, s1, a1, hv1, hm1, hO1, hv2⟩ := hR s' r O1 h1 c hpin _ π' _ _ hm
    subst hO1
    refine ⟨v, hv1, tupOf r, v, s1.ob, π1, rfl, h3, ⟨hm1.obj, hm1.inj, fun id g hg => ⟨hm1.hF g (hm1.new id g hg).1, (hm1.new id g hg).2⟩⟩, hv2, fun id o ho => hm1.pin id (π id) o (by simp [c, ho]), fun id g hg => ?_, ?_⟩
    · have hb := (hm1.new id g hg).1
      rcases Nat.lt_or_ge g w.heap.size with hlt | hge
      · exact .inl (Classical.byContradiction fun hno => hb (.inl ⟨fun j hj => hno ⟨j, hj⟩, hlt⟩))
      · exact .inr hge
    · obtain ⟨k1, k2, k3, k4, k5, k6⟩ := hm1.kept
      exact ⟨k1, k2, k3, k4, k5, k6⟩
  obtain ⟨he1, he2⟩ := he
  rcases he1 with rfl | rfl
  · exact key he2
  · exact key he2

end Go.Proofs.YtbjfbbfglkmadaaDoor
