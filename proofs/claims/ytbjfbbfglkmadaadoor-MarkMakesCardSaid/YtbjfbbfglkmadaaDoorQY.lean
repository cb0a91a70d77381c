/-
  Lifting Go functions to plain Lean functions, part Y: a loop over what a function yields.
-/
import Derived.Test.YtbjfbbfglkmadaaDoorQC
import Derived.RangeFuncCalls
namespace Go.Proofs.YtbjfbbfglkmadaaDoor
open Go.RowKit
set_option linter.unusedVariables false

/-- WHAT AN ITERATOR PROMISES: it yields the data xs, one after another, till a round says 'no more'. S: the blocks that it reads; M: the blocks that rounds may turn. -/
def Yields (P : Program) (g : Nat) (lb : Array Value) (S : Nat → Prop) (w : World) (t : DT) (xs : List t.den) : Prop :=
  ∀ (l : Nat) (J : Nat → (Nat → Prop) → World → Prop) (Jx : World → Prop) (W : World) (M : Nat → Prop),
    (∀ b, S b → b < W.heap.size ∧ W.heap[b]? = w.heap[b]? ∧ ¬ M b) →
    (∀ k M A B, J k M A → Below A.heap.size A B → J k M B) →
    (∀ k M A, J k M A → ∀ b, M b → b < A.heap.size) →
    (∀ k M W1 v x, J k M W1 → xs[k]? = some x → t.val x W1 (fun b => S b ∨ (W.heap.size ≤ b ∧ b < W1.heap.size ∧ ¬ M b)) v →
      ∀ n, YieldAt Fence.wide n P l #[v] W1 fun e W' =>
        (e = .returned (.bool true) ∧ ∃ M', J (k + 1) M' W' ∧ W1.heap.size ≤ W'.heap.size ∧ (∀ b, b < W1.heap.size → ¬ M b → W'.heap[b]? = W1.heap[b]?) ∧ ∀ b, M' b → M b ∨ W1.heap.size ≤ b) ∨ (e = .returned (.bool false) ∧ Jx W')) →
    J 0 M W →
    Calls P g (#[.func (.yield l) #[] #[]] ++ lb) W fun e W' => (∃ v, e = .returned v) ∧ ((∃ M', J xs.length M' W') ∨ Jx W')

/-- Everything that is not one's own is kept; all objects that there are keep their shape. -/
def freshCx (w : World) (π : Nat → Pl) (O : List (Nat × TO)) (r : Option Nat) : Cx := ⟨w, fun b => ∀ id, ¬ Own π (tlook O) id b, fun id => (tlook O id).map fun o => (π id, o), r, [], []⟩

theorem freshCx.bar {w : World} {π : Nat → Pl} {O : List (Nat × TO)} {r : Option Nat} {b : Nat} : (freshCx w π O r).bar b ↔ (∀ id, ¬ Own π (tlook O) id b) ∧ b < w.heap.size := by
  unfold Cx.bar freshCx; simp
theorem freshCx.blk (w : World) (π : Nat → Pl) (O : List (Nat × TO)) (r : Option Nat) (b : Nat) : (freshCx w π O r).blk b = w.heap[b]? := if_neg (by simp [freshCx])

/-- A round begins. -/
theorem RelM.fresh {c : Cx} {F : Nat → Prop} {π : Nat → Pl} {s : TS} {a a2 : Act} {w : World} (r : Option Nat) (h : RelM c F π s a w) (hF : ∀ b, ¬ (freshCx w π s.ob r).bar b → F b) (ht : a2.tmps = a.tmps) (hd : a2.defers = []) : RelM (freshCx w π s.ob r) F π s a2 w :=
  ⟨⟨rfl, rfl, rfl, Nat.le_refl _, fun b _ _ => (freshCx.blk w π s.ob r b).symm, fun b hb => by cases hb⟩, hF, hd, by rw [ht]; exact h.size, fun i x hx => by rw [ht]; exact h.slot i x hx, h.obj, h.inj, fun id g hg => ⟨fun hb => (freshCx.bar.1 hb).1 id hg, (h.new id g hg).2⟩, fun id p o0 hp => by
    obtain ⟨o, ho, hp'⟩ := Option.map_eq_some_iff.1 hp
    simp only [Prod.mk.injEq] at hp'
    obtain ⟨rfl, rfl⟩ := hp'
    exact ⟨o, ho, fun hl => ⟨rfl, Shp.refl hl⟩⟩, h.glb⟩

/-- What is alive or dead of the old objects. -/
def keepOk (O O' : List (Nat × TO)) : Prop := ∀ id o, tlook O id = some o → ∀ o', tlook O' id = some o' → o'.live = true ∨ o' = .dead

/-- The world turns in a block that nobody speaks of. -/
theorem RelM.sys {c c2 : Cx} {F F2 : Nat → Prop} {π : Nat → Pl} {s : TS} {a : Act} {w w2 : World} (h : RelM c F π s a w) (hk : Kept c2 w2) (hF : ∀ b, ¬ c2.bar b → F2 b) (hd : a.defers = c2.ds.map dmark)
    (fz : FzTo w (Gz F w π (tlook s.ob)) w2 (Gz F2 w2 π (tlook s.ob))) (hown : ∀ id g, Own π (tlook s.ob) id g → w2.heap[g]? = w.heap[g]? ∧ ¬ c2.bar g) (hsz : w.heap.size ≤ w2.heap.size) (hpin : ∀ id p, c2.pin id = some p → c.pin id = some p) : RelM c2 F2 π s a w2 := by
  have E : Evo w (Gz F w π (tlook s.ob)) π (tlook s.ob) w2 (Gz F2 w2 π (tlook s.ob)) π (tlook s.ob) := ⟨fz, fun id o ho => ⟨o, ho, Step.refl o⟩⟩
  exact ⟨hk, hF, hd, h.size, fun i x hx => VR.evo E (h.slot i x hx), fun id o ho => (h.obj id o ho).evo E rfl fun g hg hl => (hown id g ⟨hg, o, ho, hl⟩).1, h.inj, fun id g hg => ⟨(hown id g hg).2, Nat.lt_of_lt_of_le (h.new id g hg).2 hsz⟩, fun id p o0 hp => h.pin id p o0 (hpin id _ hp), h.glb.mono fz⟩

/-- A round is over: the loop's own frame again. W: the world at the round's head; W3: behind the round. -/
theorem RelM.back {c : Cx} {F F3 : Nat → Prop} {π π3 : Nat → Pl} {s s3 : TS} {a a3 : Act} {W W3 W4 : World} {r : Option Nat} {Ds : List Nat} {WB : World} {l : Nat} (h : RelM c F π s a W) (h3 : RelM ((freshCx WB π s.ob r).add Ds) F3 π3 s3 a3 W3)
    (hF3 : ∀ b, F3 b → F b) (hFl : ¬ F l) (hcl : l ∈ c.no) (hol : ∀ id, ¬ Own π (tlook s.ob) id l) (hWB : ∀ b, b ≠ l → WB.heap[b]? = W.heap[b]?) (hWBo : WB.os = W.os ∧ WB.tape = W.tape ∧ WB.output = W.output) (hsz : WB.heap.size = W.heap.size) (hDs : ∀ D ∈ Ds, WB.heap.size ≤ D) (hl : l < W.heap.size)
    (hW4 : ∀ b, b ≠ l → W4.heap[b]? = W3.heap[b]?) (hW4o : W4.os = W3.os ∧ W4.tape = W3.tape ∧ W4.output = W3.output) (hsz4 : W4.heap.size = W3.heap.size) (hkeep : keepOk s.ob s3.ob) :
    RelM c F π3 ⟨s.sl, s3.ob⟩ a W4 ∧ (∀ b, b < W.heap.size → (∀ id, ¬ Own π (tlook s.ob) id b) → b ≠ l → W4.heap[b]? = W.heap[b]?) ∧ (∀ id g, Own π3 (tlook s3.ob) id g → (∃ j, Own π (tlook s.ob) j g) ∨ W.heap.size ≤ g) ∧ ∀ id, ¬ Own π3 (tlook s3.ob) id l := by
  have bar : ∀ b, b < W.heap.size → (∀ id, ¬ Own π (tlook s.ob) id b) → ((freshCx WB π s.ob r).add Ds).bar b := fun b hb hno => .inl ⟨hno, by show b < WB.heap.size; omega⟩
  have blk : ∀ b, b < W.heap.size → ((freshCx WB π s.ob r).add Ds).blk b = WB.heap[b]? := fun b hb => if_neg fun hm => by have := hDs b hm; omega
  have same : ∀ b, b < W.heap.size → (∀ id, ¬ Own π (tlook s.ob) id b) → b ≠ l → W4.heap[b]? = W.heap[b]? := fun b hb hno hne => by
    rw [hW4 b hne, h3.kept.block b (bar b hb hno) (by show b ∉ ([] : List Nat); simp), blk b hb, hWB b hne]
  have hgrow : W.heap.size ≤ W4.heap.size := by
    have := h3.kept.size
    have e : ((freshCx WB π s.ob r).add Ds).w.heap.size = WB.heap.size := rfl
    omega
  have own : ∀ id g, Own π3 (tlook s3.ob) id g → (∃ j, Own π (tlook s.ob) j g) ∨ W.heap.size ≤ g := fun id g hg => by
    have hb := (h3.new id g hg).1
    rcases Nat.lt_or_ge g W.heap.size with hlt | hge
    · exact .inl (Classical.byContradiction fun hno => hb (bar g hlt fun j hj => hno ⟨j, hj⟩))
    · exact .inr hge
  have ownl : ∀ id, ¬ Own π3 (tlook s3.ob) id l := fun id hg => (h3.new id l hg).1 (bar l hl hol)
  have fz : FzTo W (Gz F W π (tlook s.ob)) W4 (Gz F W4 π3 (tlook s3.ob)) := fun b hb => by
    have hne : b ≠ l := fun e => hFl (e ▸ hb.1)
    refine ⟨⟨hb.1, Nat.lt_of_lt_of_le hb.2.1 hgrow, fun id hid => ?_⟩, same b hb.2.1 hb.2.2 hne⟩
    rcases own id b hid with ⟨j, hj⟩ | hge
    · exact hb.2.2 j hj
    · have := hb.2.1; omega
  have fz3 : FzTo W3 (Gz F3 W3 π3 (tlook s3.ob)) W4 (Gz F W4 π3 (tlook s3.ob)) := fun b hb => by
    have hne : b ≠ l := fun e => hFl (e ▸ hF3 b hb.1)
    exact ⟨⟨hF3 b hb.1, by rw [hsz4]; exact hb.2.1, hb.2.2⟩, hW4 b hne⟩
  have pin : ∀ id o, tlook s.ob id = some o → ∃ o', tlook s3.ob id = some o' ∧ (o'.live = true → π3 id = π id ∧ Shp o o') := fun id o ho => h3.pin id (π id) o (by show (tlook s.ob id).map (fun o => (π id, o)) = _; rw [ho]; rfl)
  have E : Evo W (Gz F W π (tlook s.ob)) π (tlook s.ob) W4 (Gz F W4 π3 (tlook s3.ob)) π3 (tlook s3.ob) := ⟨fz, fun id o ho => by
    obtain ⟨o', ho', hl'⟩ := pin id o ho
    refine ⟨o', ho', ?_⟩
    rcases hkeep id o ho o' ho' with q | q
    · obtain ⟨e1, e2⟩ := hl' q
      rw [e1]; exact Step.of_shp e2
    · subst q; cases o <;> trivial⟩
  have E3 : Evo W3 (Gz F3 W3 π3 (tlook s3.ob)) π3 (tlook s3.ob) W4 (Gz F W4 π3 (tlook s3.ob)) π3 (tlook s3.ob) := ⟨fz3, fun id o ho => ⟨o, ho, Step.refl o⟩⟩
  have hos : W4.os = W.os ∧ W4.tape = W.tape ∧ W4.output = W.output :=
    ⟨hW4o.1.trans (h3.kept.os.trans hWBo.1), hW4o.2.1.trans (h3.kept.tape.trans hWBo.2.1), hW4o.2.2.trans (h3.kept.output.trans hWBo.2.2)⟩
  refine ⟨⟨h.kept.onN hos hgrow fun b hb hn => ?_, h.hF, h.defers, h.size, fun i x hx => VR.evo E (h.slot i x hx), fun id o ho => (h3.obj id o ho).evo E3 rfl fun g hg hl' => hW4 g fun e => ownl id (e ▸ ⟨hg, o, ho, hl'⟩), h3.inj, fun id g hg => ⟨fun hb => ?_, by rw [hsz4]; exact (h3.new id g hg).2⟩, fun id p o0 hp => ?_, h.glb.mono fz⟩, same, own, ownl⟩
  · exact same b (h.kept.lt hb) (fun id hid => (h.new id b hid).1 hb) fun e => hn (e ▸ hcl)
  · rcases own id g hg with ⟨j, hj⟩ | hge
    · exact (h.new j g hj).1 hb
    · have := h.kept.lt hb; omega
  · obtain ⟨o, ho, hl1⟩ := h.pin id p o0 hp
    obtain ⟨o', ho', hl2⟩ := pin id o ho
    refine ⟨o', ho', fun hl' => ?_⟩
    obtain ⟨q1, q2⟩ := hl2 hl'
    have hlo : o.live = true := by cases o <;> first | rfl | exact q2.elim
    obtain ⟨q3, q4⟩ := hl1 hlo
    exact ⟨q1.trans q3, q4.trans q2⟩

/-- A round's record lies where it lay. -/
structure CxOk (c : Cx) : Prop where
  no : c.no = []
  rc : ∀ l, c.rnd = some l → ∃ r, (c.kp l ∧ l < c.w.heap.size) ∧ c.w.heap[l]? = some (.loop r)

/-- How a round's body may end; Nx: what is asked for the next one. -/
def RoundQ (Q : Exit → TS → Prop) (sl : List TV) (O : List (Nat × TO)) (Nx : TS → Prop) : Exit → TS → Prop
  | .normal, s' => keepOk O s'.ob ∧ Nx ⟨sl, s'.ob⟩
  | .ret, s' => keepOk O s'.ob ∧ Q .ret ⟨sl, s'.ob⟩
  | .exit id, s' => keepOk O s'.ob ∧ Q (.exit id) ⟨sl, s'.ob⟩
  | _, _ => False

theorem yieldAt_n {n m : Nat} {P : Program} {l : Nat} {args : Array Value} {W : World} {R : Ending → World → Prop} (h : YieldAt Fence.wide n P l args W R) : YieldAt Fence.wide m P l args W R := by
  obtain ⟨fn, tmps, assign, body, h1, h2, h3⟩ := h
  exact ⟨fn, tmps, assign, body, h1, h2, fun c cs _ => h3 c cs fun d hd => by cases hd⟩

theorem but_nil (F : Nat → Prop) : but F [] = F := funext fun b => propext ⟨fun h => h.1, fun h => ⟨h, by simp⟩⟩
theorem add_nil {c : Cx} (h : c.ds = []) : c.add [] = c := by cases c; simp only at h; subst h; rfl

/-- In a round. -/
theorem Rl.inRound {c : Cx} {F : Nat → Prop} {s : TS} {a : Act} {w : World} (hc : c.rnd ≠ none) (hd : c.ds = []) (h : Rl c F s a w) : Rel c F s a w := by
  obtain ⟨Ds, hD, hr⟩ := h
  obtain rfl := hD.rd hc
  rwa [but_nil, add_nil hd] at hr
theorem Rl.ofRound {c : Cx} {F : Nat → Prop} {s : TS} {a : Act} {w : World} (hd : c.ds = []) (h : Rel c F s a w) : Rl c F s a w :=
  ⟨[], ⟨.nil, (fun _ h => by cases h), fun _ => rfl⟩, by rwa [but_nil, add_nil hd]⟩

/-- The same state, told by other words that own no more. -/
theorem RelM.weak {c : Cx} {F : Nat → Prop} {π : Nat → Pl} {s s2 : TS} {a : Act} {w : World} (h : RelM c F π s a w) (hw : ∀ (c2 : Cx), c2.pin = c.pin → Rel c2 F s a w → Rel c2 F s2 a w) : ∃ π2, RelM c F π2 s2 a w ∧ ∀ id g, Own π2 (tlook s2.ob) id g → ∃ j, Own π (tlook s.ob) j g := by
  let c4 : Cx := { c with w := w, kp := fun b => ∀ id, ¬ Own π (tlook s.ob) id b }
  have hbar : ∀ b, c4.bar b → (∀ id, ¬ Own π (tlook s.ob) id b) ∧ b < w.heap.size := fun b hb => by
    rcases hb with hb | hb
    · exact hb
    · exact ⟨fun id hid => (h.new id b hid).1 (.inr hb), h.kept.lt (.inr hb)⟩
  have hF : ∀ b, ¬ c4.bar b → F b := fun b hb => by
    refine h.hF b fun hb' => hb (.inl ⟨fun id hid => (h.new id b hid).1 hb', h.kept.lt hb'⟩)
  have h4 : RelM c4 F π s a w := ⟨⟨rfl, rfl, rfl, Nat.le_refl _, fun b hb hn => by
    unfold Cx.blk
    by_cases q : b ∈ c4.ds
    · rw [if_pos q]
      have := h.kept.block b (.inr (.inl q)) hn
      unfold Cx.blk at this
      rwa [if_pos (show b ∈ c.ds from q)] at this
    · rw [if_neg q], h.kept.no⟩, hF, h.defers, h.size, h.slot, h.obj, h.inj, fun id g hg => ⟨fun hb => (hbar g hb).1 id hg, (h.new id g hg).2⟩, h.pin, h.glb⟩
  obtain ⟨π2, h5⟩ := hw c4 rfl ⟨π, h4⟩
  have own : ∀ id g, Own π2 (tlook s2.ob) id g → ∃ j, Own π (tlook s.ob) j g := fun id g hg => by
    obtain ⟨n1, n2⟩ := h5.new id g hg
    exact Classical.byContradiction fun hno => n1 (.inl ⟨fun j hj => hno ⟨j, hj⟩, n2⟩)
  exact ⟨π2, ⟨h.kept, h.hF, h.defers, h5.size, h5.slot, h5.obj, h5.inj, fun id g hg => by
    obtain ⟨j, hj⟩ := own id g hg
    exact h.new j g hj, h5.pin, h5.glb⟩, own⟩

/-- The rounds of a loop, whose record l lies ready: told for the loop's own context c0 (with the block for deferred calls, if any). -/
theorem rounds {P : Program} {c0 : Cx} {F0 : Nat → Prop} {a : Act} {p : Tmp} {assign body : Code} {fn : FuncId} {dfr : Nat} {l : Nat} {Q : Exit → TS → Prop} {t : DT} {xs : List t.den} {gf : Nat} {lb : Array Value} {S : Nat → Prop} {w0 W0 : World}
    (hy : Yields P gf lb S w0 t xs) (hbc : l ∈ c0.no) (hFl : ¬ F0 l) (wk : TS → TS → Prop) (hwk : ∀ (c2 : Cx) s s' a w, c2.pin = c0.pin → wk s s' → Rel c2 F0 s a w → Rel c2 F0 s' a w) (I : Nat → TS → Prop)
    (hround : ∀ k x s1, I k s1 → xs[k]? = some x → ∀ (c2 : Cx) (F2 : Nat → Prop), (∀ id q, c2.pin id = some q → ∃ o, tlook s1.ob id = some o) → CxOk c2 →
      PWP P c2 F2 assign (fun e s' => e = .normal ∧ keepOk s1.ob s'.ob ∧ ∀ (c3 : Cx) (F3 : Nat → Prop), (∀ id q, c3.pin id = some q → ∃ o, tlook s'.ob id = some o) → CxOk c3 →
        PWP P c3 F3 body (RoundQ Q s1.sl s'.ob fun s2 => ∃ s3, wk s2 s3 ∧ I (k + 1) s3) s') (s1.put (some p) (.dv t x)))
    {s : TS} {π : Nat → Pl} (h0 : I 0 s) (hr : RelM c0 F0 π s a W0) (hrec : W0.heap[l]? = some (.loop { state := .ready, pending := none, fn, tmps := a.tmps, params := #[p], assign, body, defers := dfr }))
    (hol : ∀ id, ¬ Own π (tlook s.ob) id l)
    (hS : ∀ b, S b → F0 b ∧ b < W0.heap.size ∧ W0.heap[b]? = w0.heap[b]? ∧ b ≠ l ∧ ∀ id, ¬ Own π (tlook s.ob) id b) (hnew : ∀ b, W0.heap.size ≤ b → F0 b) :
    Calls P gf (#[.func (.yield l) #[] #[]] ++ lb) W0 fun e W' => (∃ v, e = .returned v) ∧ ((∃ s1, I xs.length s1 ∧ Rel c0 F0 s1 a W' ∧ W'.heap[l]? = some (.loop { state := .ready, pending := none, fn, tmps := a.tmps, params := #[p], assign, body, defers := dfr })) ∨
      ∃ e s1, ((e = .ret ∧ Q .ret s1) ∨ ∃ id, e = .exit id ∧ Q (.exit id) s1) ∧ Rel c0 F0 s1 a W' ∧ W'.heap[l]? = some (.loop { state := .done, pending := some e, fn, tmps := a.tmps, params := #[p], assign, body, defers := dfr })) := by
  let rec_ : LoopState → Option Code → Loop := fun st pe => { state := st, pending := pe, fn, tmps := a.tmps, params := #[p], assign, body, defers := dfr }
  have hW0 : l < W0.heap.size := (Array.getElem?_eq_some_iff.1 hrec).1
  refine (hy l
    (fun k M W => ∃ s1 π, I k s1 ∧ RelM c0 F0 π s1 a W ∧ (∀ id, ¬ Own π (tlook s1.ob) id l) ∧ W.heap[l]? = some (.loop (rec_ .ready none)) ∧ (∀ b, M b ↔ (∃ id, Own π (tlook s1.ob) id b) ∨ b = l) ∧ W0.heap.size ≤ W.heap.size ∧ ∀ b, S b → ¬ M b)
    (fun W => ∃ e s1, ((e = .ret ∧ Q .ret s1) ∨ ∃ id, e = .exit id ∧ Q (.exit id) s1) ∧ Rel c0 F0 s1 a W ∧ W.heap[l]? = some (.loop (rec_ .done (some e))))
    W0 (fun b => (∃ id, Own π (tlook s.ob) id b) ∨ b = l) (fun b hb => ?_) (fun k M A B hJ hAB => ?_) (fun k M A hJ b hb => ?_) (fun k M W1 v x hJ hx hv n => ?_) ?_).mono ?_
  · obtain ⟨_, q2, q3, q4, q5⟩ := hS b hb
    exact ⟨q2, q3, fun hm => hm.elim (fun ⟨id, hid⟩ => q5 id hid) q4⟩
  · obtain ⟨s1, π1, i1, hm, o1, r1, m1, z1, n1⟩ := hJ
    have hlA : l < A.heap.size := (Array.getElem?_eq_some_iff.1 r1).1
    refine ⟨s1, π1, i1, hm.sys (hm.kept.below hAB) hm.hF hm.defers (fun b hb => ⟨⟨hb.1, Nat.lt_of_lt_of_le hb.2.1 hAB.size, hb.2.2⟩, hAB.block b hb.2.1⟩) (fun id g hg => ⟨hAB.block g (hm.new id g hg).2, (hm.new id g hg).1⟩) hAB.size (fun _ _ h => h), o1, (hAB.block l hlA).trans r1, m1, Nat.le_trans z1 hAB.size, n1⟩
  · obtain ⟨s1, π1, i1, hm, o1, r1, m1, z1, n1⟩ := hJ
    rcases (m1 b).1 hb with ⟨id, hid⟩ | rfl
    · exact (hm.new id b hid).2
    · exact (Array.getElem?_eq_some_iff.1 r1).1
  · obtain ⟨s1, π1, i1, hm, o1, r1, m1, z1, n1⟩ := hJ
    have hl1 : l < W1.heap.size := (Array.getElem?_eq_some_iff.1 r1).1
    have hy1 := run_yield (P := P) (args := #[v]) r1 rfl
    have hact : ((rec_ .ready none).params.zip #[v]).foldl (fun tmps (x : Tmp × Value) => match x with | (t, a) => tmps.setIfInBounds t a) (rec_ .ready none).tmps = a.tmps.setIfInBounds p v := by simp [rec_]
    refine ⟨fn, _, assign, body, hy1, roundIn_of_wpIn (F := Fence.wide) trivial ?_⟩
    rw [hact]
    -- the round's first context
    have hF2 : ∀ b, ¬ (freshCx W1 π1 s1.ob (some l)).bar b → F0 b := fun b hb => by
      rcases Nat.lt_or_ge b W1.heap.size with hlt | hge
      · have : ∃ id, Own π1 (tlook s1.ob) id b := Classical.byContradiction fun hno => hb (freshCx.bar.2 ⟨fun id hid => hno ⟨id, hid⟩, hlt⟩)
        obtain ⟨id, hid⟩ := this
        exact hm.hF b (hm.new id b hid).1
      · exact hnew b (by omega)
    have hm1 : RelM (freshCx W1 π1 s1.ob (some l)) F0 π1 s1 { tmps := a.tmps, defers := [] } W1 := hm.fresh (some l) hF2 rfl rfl
    have hvG : t.val x W1 (Gz F0 W1 π1 (tlook s1.ob)) v := DT.val_mono (w := W1) (G := fun b => S b ∨ (W0.heap.size ≤ b ∧ b < W1.heap.size ∧ ¬ M b)) (fun b hb => ⟨by
      rcases hb with hb | ⟨q1, q2, q3⟩
      · obtain ⟨q1, q2, _⟩ := hS b hb
        exact ⟨q1, by omega, fun id hid => n1 b hb ((m1 b).2 (.inl ⟨id, hid⟩))⟩
      · exact ⟨hnew b q1, q2, fun id hid => q3 ((m1 b).2 (.inl ⟨id, hid⟩))⟩, rfl⟩) hv
    have hm1p := hm1.put (some p) (x := .dv t x) (v := v) hvG
    have hcx2 : CxOk (freshCx W1 π1 s1.ob (some l)) := ⟨rfl, fun l' e => by
      obtain rfl := Option.some.inj e
      exact ⟨_, ⟨o1, hl1⟩, r1⟩⟩
    have hpin2 : ∀ (W : World) (π : Nat → Pl) (O : List (Nat × TO)) id q, (freshCx W π O (some l)).pin id = some q → ∃ o, tlook O id = some o := fun W π O id q h => by
      obtain ⟨o, ho, _⟩ := Option.map_eq_some_iff.1 h
      exact ⟨o, ho⟩
    refine wpIn_mono (hround k x s1 i1 hx _ F0 (hpin2 W1 π1 s1.ob) hcx2 n _ W1 (Rl.ofRound rfl ⟨π1, hm1p⟩)) fun e a2 W2 ⟨s2, ⟨he, hk2, hbody⟩, hrl⟩ => ?_
    subst he
    obtain ⟨π2, hm2⟩ := Rl.inRound (by simp [freshCx]) rfl hrl
    -- back in the loop's own words
    have hm2' : RelM ((freshCx W1 π1 s1.ob (some l)).add []) F0 π2 s2 a2 W2 := by rw [add_nil rfl]; exact hm2
    obtain ⟨hmO, same2, own2, ownl2⟩ := hm.back hm2' (fun _ h => h) hFl hbc o1 (fun _ _ => rfl) ⟨rfl, rfl, rfl⟩ rfl (fun _ h => by cases h) hl1 (fun _ _ => rfl) ⟨rfl, rfl, rfl⟩ rfl hk2
    have hg2 : W1.heap.size ≤ W2.heap.size := hm2.kept.size
    have r2 : W2.heap[l]? = some (.loop (rec_ .ready none)) := by
      rw [hm2.kept.block l (freshCx.bar.2 ⟨o1, hl1⟩) (by simp [freshCx]), freshCx.blk]; exact r1
    have hl2 : l < W2.heap.size := by omega
    refine ⟨_, run_beginRound r2 rfl, ?_⟩
    obtain ⟨WB, hWB⟩ : ∃ WB, W2.putObj l (.loop { rec_ .ready none with state := .busy }) = WB := ⟨_, rfl⟩
    rw [hWB]
    have hB1 : ∀ b, b ≠ l → WB.heap[b]? = W2.heap[b]? := fun b hb => by rw [← hWB]; exact World.putObj_heap_other hb
    have hB2 : WB.heap.size = W2.heap.size := by rw [← hWB]; simp
    have hB3 : WB.os = W2.os ∧ WB.tape = W2.tape ∧ WB.output = W2.output := by rw [← hWB]; exact ⟨rfl, rfl, rfl⟩
    have rB : WB.heap[l]? = some (.loop { rec_ .ready none with state := .busy }) := by rw [← hWB]; exact World.putObj_heap_same hl2
    -- the round's second context
    have hF3 : ∀ b, ¬ (freshCx WB π2 s2.ob (some l)).bar b → F0 b := fun b hb => by
      rcases Nat.lt_or_ge b W2.heap.size with hlt | hge
      · have : ∃ id, Own π2 (tlook s2.ob) id b := Classical.byContradiction fun hno => hb (freshCx.bar.2 ⟨fun id hid => hno ⟨id, hid⟩, by omega⟩)
        obtain ⟨id, hid⟩ := this
        exact hmO.hF b (hmO.new id b hid).1
      · exact hnew b (by omega)
    have hm3a : RelM (freshCx W2 π2 s2.ob (some l)) F0 π2 s2 a2 W2 := hm2.fresh (some l) (fun b hb => hF3 b fun hb' => hb (freshCx.bar.2 ⟨(freshCx.bar.1 hb').1, by have := (freshCx.bar.1 hb').2; omega⟩)) rfl hm2.defers
    have hm3 : RelM (freshCx WB π2 s2.ob (some l)) F0 π2 s2 a2 WB := hm3a.sys ⟨rfl, rfl, rfl, Nat.le_refl _, fun b _ _ => (freshCx.blk WB π2 s2.ob (some l) b).symm, fun b hb => by cases hb⟩ hF3 hm2.defers
      (fun b hb => ⟨⟨hb.1, by rw [hB2]; exact hb.2.1, hb.2.2⟩, hB1 b fun e => hFl (e ▸ hb.1)⟩)
      (fun id g hg => ⟨hB1 g fun e => ownl2 id (e ▸ hg), fun hb => (freshCx.bar.1 hb).1 id hg⟩) (by omega) (fun _ _ h => h)
    have hcx3 : CxOk (freshCx WB π2 s2.ob (some l)) := ⟨rfl, fun l' e => by
      obtain rfl := Option.some.inj e
      exact ⟨_, ⟨ownl2, by show l < WB.heap.size; omega⟩, rB⟩⟩
    refine wpIn_mono (hbody _ F0 (hpin2 WB π2 s2.ob) hcx3 n _ WB (Rl.ofRound rfl ⟨π2, hm3⟩)) fun e a3 W3 ⟨s3, hq, hrl3⟩ => ?_
    obtain ⟨π3, hm4⟩ := Rl.inRound (by simp [freshCx]) rfl hrl3
    have hm4' : RelM ((freshCx WB π2 s2.ob (some l)).add []) F0 π3 s3 a3 W3 := by rw [add_nil rfl]; exact hm4
    have r3 : W3.heap[l]? = some (.loop { rec_ .ready none with state := .busy }) := by
      rw [hm4.kept.block l (freshCx.bar.2 ⟨ownl2, by omega⟩) (by simp [freshCx]), freshCx.blk]; exact rB
    have hg3 : W2.heap.size ≤ W3.heap.size := by
      have := hm4.kept.size
      have e : (freshCx WB π2 s2.ob (some l)).w.heap.size = WB.heap.size := rfl
      omega
    have hl3 : l < W3.heap.size := by omega
    -- the round's end
    have fin : ∀ (jump : Option Code), keepOk s2.ob s3.ob → (Instr.endRound l jump).run P W3 = .ok (.bool jump.isNone) (W3.putObj l (.loop (rec_ (if jump.isNone then .ready else .done) jump))) ∧
        (W3.putObj l (.loop (rec_ (if jump.isNone then .ready else .done) jump))).heap[l]? = some (.loop (rec_ (if jump.isNone then .ready else .done) jump)) ∧
        (RelM c0 F0 π3 ⟨s1.sl, s3.ob⟩ a (W3.putObj l (.loop (rec_ (if jump.isNone then .ready else .done) jump))) ∧ (∀ b, b < W2.heap.size → (∀ id, ¬ Own π2 (tlook s2.ob) id b) → b ≠ l → (W3.putObj l (.loop (rec_ (if jump.isNone then .ready else .done) jump))).heap[b]? = W2.heap[b]?) ∧ (∀ id g, Own π3 (tlook s3.ob) id g → (∃ j, Own π2 (tlook s2.ob) j g) ∨ W2.heap.size ≤ g) ∧ ∀ id, ¬ Own π3 (tlook s3.ob) id l) := fun jump hk3 =>
      ⟨run_endRound jump r3, World.putObj_heap_same hl3, RelM.back (s := ⟨s1.sl, s2.ob⟩) hmO hm4' (fun _ h => h) hFl hbc ownl2 hB1 hB3 hB2 (fun _ h => by cases h) hl2 (fun b hb => World.putObj_heap_other hb) ⟨rfl, rfl, rfl⟩ (by simp) hk3⟩
    cases e with
    | normal =>
      obtain ⟨hk3, s4, hw4, i4⟩ := hq
      obtain ⟨f1, f2, f3, f4, f5, f6⟩ := fin none hk3
      refine ⟨_, _, f1, .inl ⟨rfl, ?_⟩⟩
      obtain ⟨π4, g1, g2⟩ := f3.weak (s2 := s4) fun c2 hp hr2 => hwk c2 _ _ _ _ hp hw4 hr2
      have hsz4 : ∀ o, (W3.putObj l o).heap.size = W3.heap.size := fun o => by simp
      have own14 : ∀ id g, Own π4 (tlook s4.ob) id g → (∃ j, Own π1 (tlook s1.ob) j g) ∨ W1.heap.size ≤ g := fun id g hg => by
        obtain ⟨j, hj⟩ := g2 id g hg
        rcases f5 j g hj with ⟨j2, hj2⟩ | hge
        · exact own2 j2 g hj2
        · exact .inr (by omega)
      refine ⟨fun b => (∃ id, Own π4 (tlook s4.ob) id b) ∨ b = l, ⟨s4, π4, i4, g1, fun id hid => by obtain ⟨j, hj⟩ := g2 id l hid; exact f6 j hj, f2, fun b => Iff.rfl, ?_, fun b hb hM => ?_⟩, ?_, fun b hb hM => ?_, fun b hb => ?_⟩
      · show W0.heap.size ≤ (W3.putObj l _).heap.size
        rw [hsz4]; omega
      · rcases hM with ⟨id, hid⟩ | rfl
        · rcases own14 id b hid with ⟨j, hj⟩ | hge
          · exact n1 b hb ((m1 b).2 (.inl ⟨j, hj⟩))
          · have := (hS b hb).2.1; omega
        · exact (hS _ hb).2.2.2.1 rfl
      · show W1.heap.size ≤ (W3.putObj l _).heap.size
        rw [hsz4]; omega
      · have hne : b ≠ l := fun e => hM ((m1 b).2 (.inr e))
        have hno : ∀ id, ¬ Own π1 (tlook s1.ob) id b := fun id hid => hM ((m1 b).2 (.inl ⟨id, hid⟩))
        have hno2 : ∀ id, ¬ Own π2 (tlook s2.ob) id b := fun id hid => by
          rcases own2 id b hid with ⟨j, hj⟩ | hge
          · exact hno j hj
          · omega
        exact (f4 b (by omega) hno2 hne).trans (same2 b hb hno hne)
      · rcases hb with ⟨id, hid⟩ | rfl
        · rcases own14 id b hid with ⟨j, hj⟩ | hge
          · exact .inl ((m1 b).2 (.inl ⟨j, hj⟩))
          · exact .inr hge
        · exact .inl ((m1 _).2 (.inr rfl))
    | ret =>
      obtain ⟨hk3, hQ⟩ := hq
      obtain ⟨f1, f2, f3, _⟩ := fin (some .ret) hk3
      exact ⟨_, _, f1, .inr ⟨rfl, .ret, _, .inl ⟨rfl, hQ⟩, ⟨π3, f3⟩, f2⟩⟩
    | exit id =>
      obtain ⟨hk3, hQ⟩ := hq
      obtain ⟨f1, f2, f3, _⟩ := fin (some (.exit id)) hk3
      exact ⟨_, _, f1, .inr ⟨rfl, .exit id, _, .inr ⟨id, rfl, hQ⟩, ⟨π3, f3⟩, f2⟩⟩
    | goto i => exact hq.elim
    | panic ch => exact hq.elim
    | outgrown => exact hq.elim
  · exact ⟨s, π, h0, hr, hol, hrec, fun b => Iff.rfl, Nat.le_refl _, fun b hb hM => by
      obtain ⟨_, _, _, q4, q5⟩ := hS b hb
      rcases hM with ⟨id, hid⟩ | e
      · exact q5 id hid
      · exact q4 e⟩
  · rintro e W' ⟨hv, (⟨M', s1, π1, i1, hm, _, r1, _⟩ | hx)⟩
    · exact ⟨hv, .inl ⟨s1, i1, ⟨π1, hm⟩, r1⟩⟩
    · exact ⟨hv, .inr hx⟩

theorem RelM.act {c : Cx} {F : Nat → Prop} {π : Nat → Pl} {s : TS} {a a2 : Act} {w : World} (h : RelM c F π s a w) (ht : a2.tmps = a.tmps) (hd : a2.defers = a.defers) : RelM c F π s a2 w := by
  have : a2 = a := by cases a; cases a2; simp only at ht hd; subst ht; subst hd; rfl
  rw [this]; exact h

/-- A loop over a function begins: its record l, the blocks for deferred calls. -/
theorem range_start {c : Cx} {F : Nat → Prop} {Ds Ds' : List Nat} {l : Nat} {π : Nat → Pl} {s : TS} {a a0 : Act} {w W1 : World} (hm : RelM (c.add Ds) (but F Ds) π s a w) (hcno : c.no = []) (ht : a0.tmps = a.tmps) (hd : a0.defers = Ds'.map dmark)
    (hsub : ∀ b, b ∈ Ds' → b ∈ Ds ∨ (w.heap.size ≤ b ∧ W1.heap[b]? = some (.deferred (some [])))) (hsup : ∀ b, b ∈ Ds → b ∈ Ds') (hB : Below w.heap.size w W1) (hl : w.heap.size ≤ l) (hl1 : l < W1.heap.size) :
    RelM { c with ds := Ds', no := [l] } (fun b => but F Ds' b ∧ b ≠ l) π s a0 W1 := by
  have hno : (c.add Ds).no = [] := hcno
  have hksz := hm.kept.size
  have hksz' : c.w.heap.size ≤ w.heap.size := hksz
  have bar : ∀ b, ({ c with ds := Ds', no := [l] } : Cx).bar b → (c.add Ds).bar b ∨ w.heap.size ≤ b := fun b hb => by
    rcases hb with hb | hb | hb
    · exact .inl (.inl hb)
    · rcases hsub b hb with h | h
      · exact .inl (.inr (.inl h))
      · exact .inr h.1
    · have : b = l := by simpa using hb
      exact .inr (by omega)
  have E : Evo w (Gz (but F Ds) w π (tlook s.ob)) π (tlook s.ob) W1 (Gz (fun b => but F Ds' b ∧ b ≠ l) W1 π (tlook s.ob)) π (tlook s.ob) := ⟨fun b hb => by
    refine ⟨⟨⟨⟨hb.1.1, fun hm' => ?_⟩, by have := hb.2.1; omega⟩, Nat.lt_of_lt_of_le hb.2.1 hB.size, hb.2.2⟩, hB.block b hb.2.1⟩
    rcases hsub b hm' with h | h
    · exact hb.1.2 h
    · have := hb.2.1; omega, fun id o ho => ⟨o, ho, Step.refl o⟩⟩
  have hlt : ∀ id g, Own π (tlook s.ob) id g → g < w.heap.size := fun id g hg => (hm.new id g hg).2
  refine ⟨⟨hB.os.trans hm.kept.os, hB.tape.trans hm.kept.tape, hB.output.trans hm.kept.output, Nat.le_trans hksz hB.size, fun b hb hn => ?_, fun b hb => ?_⟩, fun b hb => ?_, hd, by rw [ht]; exact hm.size, fun i x hx => by rw [ht]; exact VR.evo E (hm.slot i x hx), fun id o ho => (hm.obj id o ho).evo E rfl fun g hg hl' => hB.block g (hlt id g ⟨hg, o, ho, hl'⟩), hm.inj, fun id g hg => ⟨fun hb => ?_, Nat.lt_of_lt_of_le (hlt id g hg) hB.size⟩, hm.pin, hm.glb.mono E.fz⟩
  · have blk1 : ∀ b, b ∈ Ds' → ({ c with ds := Ds', no := [l] } : Cx).blk b = some (.deferred (some [])) := fun b h => if_pos h
    have blk2 : ∀ b, b ∉ Ds' → ({ c with ds := Ds', no := [l] } : Cx).blk b = c.w.heap[b]? := fun b h => if_neg h
    have old1 : ∀ b, b ∈ Ds → (c.add Ds).blk b = some (.deferred (some [])) := fun b h => if_pos h
    have old2 : ∀ b, b ∉ Ds → (c.add Ds).blk b = c.w.heap[b]? := fun b h => if_neg h
    by_cases hin : b ∈ Ds'
    · rw [blk1 b hin]
      rcases hsub b hin with h | h
      · have hb' : (c.add Ds).bar b := .inr (.inl h)
        rw [hB.block b (hm.kept.lt hb'), hm.kept.block b hb' (by rw [hno]; simp), old1 b h]
      · exact h.2
    · rw [blk2 b hin]
      rcases hb with hb | hb | hb
      · have hb' : (c.add Ds).bar b := .inl hb
        rw [hB.block b (hm.kept.lt hb'), hm.kept.block b hb' (by rw [hno]; simp), old2 b fun h => hin (hsup b h)]
      · exact absurd hb hin
      · exact absurd hb hn
  · have : b = l := by simpa using hb
    omega
  · refine ⟨⟨(hm.hF b fun hb' => hb ?_).1, fun hm' => hb (.inr (.inl hm'))⟩, fun e => hb (.inr (.inr (by simp [e])))⟩
    rcases hb' with h | h | h
    · exact .inl h
    · exact .inr (.inl (hsup b h))
    · rw [hno] at h; cases h
  · rcases bar g hb with h | h
    · exact (hm.new id g hg).1 h
    · have := hlt id g hg; omega

/-- It is over: its record turns once more, and is of no concern. -/
theorem range_end {c : Cx} {F : Nat → Prop} {Ds' : List Nat} {l : Nat} {s : TS} {a0 : Act} {W' : World} {o' : Obj} (hr : Rel { c with ds := Ds', no := [l] } (fun b => but F Ds' b ∧ b ≠ l) s a0 W') (hcno : c.no = []) (hl : ¬ (c.add Ds').bar l) (hF : ∀ b, ¬ (c.add Ds').bar b → but F Ds' b) :
    Rel (c.add Ds') (but F Ds') s a0 (W'.putObj l o') := by
  obtain ⟨π, hm⟩ := hr
  have hbar : ∀ b, (c.add Ds').bar b → ({ c with ds := Ds', no := [l] } : Cx).bar b ∧ b ≠ l := fun b hb => by
    refine ⟨?_, fun e => hl (e ▸ hb)⟩
    rcases hb with h | h | h
    · exact .inl h
    · exact .inr (.inl h)
    · have h : b ∈ c.no := h
      rw [hcno] at h; cases h
  have hsz : (W'.putObj l o').heap.size = W'.heap.size := by simp
  refine ⟨π, hm.sys ⟨hm.kept.os, hm.kept.tape, hm.kept.output, by rw [hsz]; exact hm.kept.size, fun b hb _ => ?_, fun b hb => ?_⟩ hF hm.defers (fun b hb => ⟨⟨hb.1.1, by rw [hsz]; exact hb.2.1, hb.2.2⟩, World.putObj_heap_other hb.1.2⟩) (fun id g hg => ⟨World.putObj_heap_other fun e => (hm.new id g hg).1 (.inr (.inr (by simp [e]))), fun hb => (hm.new id g hg).1 (hbar g hb).1⟩) (by rw [hsz]; exact Nat.le_refl _) (fun _ _ h => h)⟩
  · obtain ⟨h1, h2⟩ := hbar b hb
    rw [World.putObj_heap_other h2]
    exact hm.kept.block b h1 (by simpa using h2)
  · have hb : b ∈ c.no := hb
    rw [hcno] at hb; cases hb

/-- A LOOP OVER WHAT A FUNCTION YIELDS. -/
theorem prange {P : Program} {c : Cx} {F : Nat → Prop} {g : Operand} {p : Tmp} {assign body : Code} {Q : Exit → TS → Prop} {s : TS} {gf nn : Nat} {fv : Nat → TV} {t : DT} {xs : List t.den}
    (hg : s.ev g = .fn gf 0 nn fv) (eg : ∀ args w, (callFunc gf args).run P w = .ok (.enter gf args) w)
    (hseq : ∀ (w : World) (G : Nat → Prop) (π : Nat → Pl) (O : Obs) (lb : Array Value), lb.size = nn → (∀ j, j < nn → ∃ u, lb[j]? = some u ∧ VR w G π O (fv j) u) → (∀ b, G b → b < w.heap.size) → ∃ S : Nat → Prop, (∀ b, S b → G b) ∧ Yields P gf lb S w t xs)
    (hcx : CxOk c) (wk : TS → TS → Prop) (hwk : ∀ (c2 : Cx) (F2 : Nat → Prop) s s' a w, c2.pin = c.pin → wk s s' → Rel c2 F2 s a w → Rel c2 F2 s' a w) (I : Nat → TS → Prop) (h0 : I 0 s)
    (hround : ∀ k x s1, I k s1 → xs[k]? = some x → ∀ (c2 : Cx) (F2 : Nat → Prop), (∀ id q, c2.pin id = some q → ∃ o, tlook s1.ob id = some o) → CxOk c2 →
      PWP P c2 F2 assign (fun e s' => e = .normal ∧ keepOk s1.ob s'.ob ∧ ∀ (c3 : Cx) (F3 : Nat → Prop), (∀ id q, c3.pin id = some q → ∃ o, tlook s'.ob id = some o) → CxOk c3 →
        PWP P c3 F3 body (RoundQ Q s1.sl s'.ob fun s2 => ∃ s3, wk s2 s3 ∧ I (k + 1) s3) s') (s1.put (some p) (.dv t x)))
    (hdone : ∀ s1, I xs.length s1 → Q .normal s1) : PWP P c F (.rangeFunc g #[p] assign body) Q s := fun n a w ⟨Ds, hD, π, hm⟩ => by
  have hcno := hcx.no
  have hv := hm.ev g
  rw [hg] at hv
  simp only [VR] at hv
  obtain ⟨fs, lb, he, hfs, hlb, _, hcap⟩ := hv
  have hfs0 : fs = #[] := Array.eq_empty_of_size_eq_zero hfs
  subst hfs0
  obtain ⟨S, hSG, hy⟩ := hseq w (Gz (but F Ds) w π (tlook s.ob)) π (tlook s.ob) lb hlb (fun j hj => by have := hcap j hj; rwa [Nat.zero_add] at this) (fun b hb => hb.2.1)
  have hksz : c.w.heap.size ≤ w.heap.size := hm.kept.size
  have hDlt : ∀ D, D ∈ Ds → D < w.heap.size := fun D hd => hm.kept.lt (.inr (.inl hd))
  -- what is alike in a function's frame and in a round's
  have main : ∀ (fn : FuncId) (Ds' : List Nat) (mark : List Deferred) (l dfr : Nat) (W1 : World), DsOk c Ds' → ({ a with defers := mark ++ a.defers } : Act).defers = Ds'.map dmark → (∀ b, b ∈ Ds' → b ∈ Ds ∨ (w.heap.size ≤ b ∧ W1.heap[b]? = some (.deferred (some [])))) → (∀ b, b ∈ Ds → b ∈ Ds') →
      Below w.heap.size w W1 → w.heap.size ≤ l → l < W1.heap.size → l ∉ Ds' → W1.heap[l]? = some (.loop { state := .ready, pending := none, fn, tmps := a.tmps, params := #[p], assign, body, defers := dfr }) →
      Calls P gf (#[.func (.yield l) #[] #[]] ++ lb) W1 (rangePost c.fen n P l (fun e a' w' => ∃ s', Q e s' ∧ Rl c F s' a' w') { a with defers := mark ++ a.defers }) := fun fn Ds' mark l dfr W1 hD' hdm hsub hsup hB hl hl1 hlD hrec => by
    have hm0 := range_start (a0 := { a with defers := mark ++ a.defers }) hm hcno rfl hdm hsub hsup hB hl hl1
    have hlbar : ¬ (c.add Ds').bar l := fun hb => by
      rcases hb with h | h | h
      · have := h.2; have e : (c.add Ds').w.heap.size = c.w.heap.size := rfl; omega
      · exact hlD h
      · have h : l ∈ c.no := h
        rw [hcno] at h; cases h
    have hFend : ∀ b, ¬ (c.add Ds').bar b → but F Ds' b := fun b hb => by
      refine ⟨(hm.hF b fun hb' => hb ?_).1, fun h => hb (.inr (.inl h))⟩
      rcases hb' with h | h | h
      · exact .inl h
      · exact .inr (.inl (hsup b h))
      · have h : b ∈ c.no := h
        rw [hcno] at h; cases h
    have hr := rounds (a := { a with defers := mark ++ a.defers }) (c0 := { c with ds := Ds', no := [l] }) (F0 := fun b => but F Ds' b ∧ b ≠ l) (fn := fn) (dfr := dfr) (Q := Q) hy (by simp) (fun h => h.2 rfl) wk (fun c2 s s' a w hp hw hr => hwk c2 _ s s' a w hp hw hr) I hround h0 hm0 hrec
      (fun id hid => by have := (hm.new id l hid).2; omega)
      (fun b hb => by
        obtain ⟨q1, q2, q3⟩ := hSG b hb
        refine ⟨⟨⟨q1.1, fun h => ?_⟩, by omega⟩, Nat.lt_of_lt_of_le q2 hB.size, hB.block b q2, by omega, q3⟩
        rcases hsub b h with h | h
        · exact q1.2 h
        · omega)
      (fun b hb => by
        have hge : w.heap.size ≤ b := Nat.le_trans hB.size hb
        refine hm0.hF b fun hb' => ?_
        have := hm0.kept.lt hb'; omega)
    refine hr.mono fun e W' ⟨⟨v, hv⟩, hpost⟩ => ?_
    subst hv
    rcases hpost with ⟨s1, i1, hr1, hl'⟩ | ⟨e, s1, hq, hr1, hl'⟩
    · exact ⟨_, _, run_endLoop hl' (by simp), s1, hdone s1 i1, Ds', hD', range_end hr1 hcno hlbar hFend⟩
    · refine ⟨_, _, run_endLoop hl' (by simp), ?_⟩
      have hfin := range_end (o' := .loop { state := .exhausted, pending := some e, fn, tmps := a.tmps, params := #[p], assign, body, defers := dfr }) hr1 hcno hlbar hFend
      rcases hq with ⟨rfl, hq⟩ | ⟨id, rfl, hq⟩
      · exact wpIn_ret ⟨s1, hq, Ds', hD', hfin⟩
      · exact wpIn_exit ⟨s1, hq, Ds', hD', hfin⟩
  have hres : ∀ (l : Nat) (W1 : World), (resolve a.eval (rangeCall g l) 0).run P W1 = .ok { target := .fn (.func gf) lb, args := #[.func (.yield l) #[] #[]] } W1 := fun l W1 => by
    simp only [resolve, he]
    simp [go_sem]
  have hinv : ∀ (l : Nat) (W1 : World), (invoke (.fn (.func gf) lb) #[.func (.yield l) #[] #[]]).run P W1 = .ok (.enter gf (#[.func (.yield l) #[] #[]] ++ lb)) W1 := fun l W1 => by
    simp [invoke, go_sem, eg]
  refine wpIn_rangeFunc fun fn hfn => ?_
  cases hc : c.rnd with
  | none =>
    have hround0 : c.fen.round = none := hc
    rw [hround0]
    have hB : Below w.heap.size w ((w.alloc (.deferred (some []))).alloc (.loop { state := .ready, pending := none, fn, tmps := a.tmps, params := #[p], assign, body, defers := w.heap.size })) :=
      ((Below.refl _ w).alloc (Nat.le_refl _) _).alloc (by simp) _
    have hK1 : ((w.alloc (.deferred (some []))).alloc (.loop { state := .ready, pending := none, fn, tmps := a.tmps, params := #[p], assign, body, defers := w.heap.size })).heap[w.heap.size]? = some (.deferred (some [])) :=
      (Below.heap_alloc _ _ _ (by simp)).trans (World.alloc_heap_new w _)
    have hL1 : ((w.alloc (.deferred (some []))).alloc (.loop { state := .ready, pending := none, fn, tmps := a.tmps, params := #[p], assign, body, defers := w.heap.size })).heap[w.heap.size + 1]? = some (.loop { state := .ready, pending := none, fn, tmps := a.tmps, params := #[p], assign, body, defers := w.heap.size }) := by
      have := World.alloc_heap_new (w.alloc (.deferred (some []))) (.loop { state := .ready, pending := none, fn, tmps := a.tmps, params := #[p], assign, body, defers := w.heap.size }); rwa [World.size_alloc] at this
    refine ⟨w.heap.size + 1, [dmark w.heap.size], _, _, _, gf, _, _, run_enterLoop_outer _ _ _ _ _, hres _ _, fun _ _ => trivial, hinv _ _, (fun h => by cases h), callsIn_fen c (main fn (w.heap.size :: Ds) [dmark w.heap.size] (w.heap.size + 1) w.heap.size _ ?_ ?_ ?_ ?_ hB (by omega) ?_ ?_ hL1)⟩
    · exact ⟨List.nodup_cons.2 ⟨fun h => by have := hDlt _ h; omega, hD.nd⟩, fun D h => by
        rcases List.mem_cons.1 h with rfl | h
        · exact hksz
        · exact hD.old D h, fun h => absurd hc h⟩
    · show dmark w.heap.size :: a.defers = _
      rw [hm.defers]; rfl
    · intro b hb
      rcases List.mem_cons.1 hb with rfl | hb
      · exact .inr ⟨Nat.le_refl _, hK1⟩
      · exact .inl hb
    · intro b hb; exact List.mem_cons_of_mem _ hb
    · simp
    · intro h
      rcases List.mem_cons.1 h with h | h
      · omega
      · have := hDlt _ h; omega
  | some l0 =>
    have hround0 : c.fen.round = some l0 := hc
    rw [hround0]
    have hDs : Ds = [] := hD.rd (by rw [hc]; simp)
    subst hDs
    obtain ⟨r0, hk0, hl0⟩ := hcx.rc l0 hc
    have hl0' : w.heap[l0]? = some (.loop r0) := by
      rw [hm.kept.block l0 (.inl hk0) (by show l0 ∉ c.no; rw [hcno]; simp)]
      exact (if_neg (by simp [Cx.add])).trans hl0
    refine ⟨w.heap.size, [], _, _, _, gf, _, _, run_enterLoop_inner hl0' _ _ _ _ _, hres _ _, fun _ _ => trivial, hinv _ _, (fun h => by cases h), callsIn_fen c (main fn [] [] w.heap.size r0.defers _ hD ?_ ?_ ?_ ((Below.refl _ w).alloc (Nat.le_refl _) _) (Nat.le_refl _) ?_ (by simp) (World.alloc_heap_new w _))⟩
    · exact hm.defers
    · intro b hb; cases hb
    · intro b hb; cases hb
    · simp

/-- What is told of iterators is so. -/
def SeqsOk (P : Program) (seq : TV → Option (Bool × ((t : DT) × List t.den))) : Prop := ∀ fv t xs, seq fv = some (true, ⟨t, xs⟩) → ∃ gf nn f, fv = .fn gf 0 nn f ∧ (∀ args w, (callFunc gf args).run P w = .ok (.enter gf args) w) ∧
  ∀ (w : World) (G : Nat → Prop) (π : Nat → Pl) (O : Obs) (lb : Array Value), lb.size = nn → (∀ j, j < nn → ∃ u, lb[j]? = some u ∧ VR w G π O (f j) u) → (∀ b, G b → b < w.heap.size) → ∃ S : Nat → Prop, (∀ b, S b → G b) ∧ Yields P gf lb S w t xs

theorem seqsOk_none (P : Program) : SeqsOk P fun _ => none := fun _ _ _ h => by cases h

end Go.Proofs.YtbjfbbfglkmadaaDoor
