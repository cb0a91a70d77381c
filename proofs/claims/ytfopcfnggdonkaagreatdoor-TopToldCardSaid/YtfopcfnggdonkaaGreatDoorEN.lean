/-
 From the data of a law's arguments to plain Lean values.
-/
import Derived.Test.YtfopcfnggdonkaaGreatDoorYD
import Derived.OpenShut
import Derived.ChangeOld
import Derived.Carry
import Derived.WalkKit
import Derived.ProofKit
import Derived.ChangeShapes
import Derived.Below
import Derived.Test.YtfopcfnggdonkaaGreatDoorRows
namespace Go.Proofs.YtfopcfnggdonkaaGreatDoor
open Go.Proofs.Tryz
open Go.RowKit Go.ChangeShapes Go.WideShapes Go.ChangeAt
set_option linter.unusedVariables false
def reads (P : Program) : DT -> Option (List Field × Nat) -> TypeId -> Bool
 | .int k, none, T => match P.underlying T with | some (.int k') => decide (k' = k) | _ => false
 | .sl t, none, T => match P.underlying T with | some (.slice e) => P.cellsOf e == t.size && decide (0 < t.size) && reads P t none e | _ => false
 | .arr n t, none, T => match P.underlying T with | some (.array m e) => m == n && P.cellsOf e == t.size && P.cellsOf T == n * t.size && reads P t none e | _ => false
 | _, _, _ => false
def DT.wf : (t : DT) -> t.den -> Prop
 | .int k, x => (Lit.int k x).wf = true
 | .str, s => s.length <= maxLen
 | .sl t, l => l.length <= maxLen /\ ∀ i, i < l.length -> t.wf (l.getD i t.dflt)
 | .arr n t, l => l.length = n /\ ∀ i, i < l.length -> t.wf (l.getD i t.dflt)
 | .pair a b, x => a.wf x.1 /\ b.wf x.2
 | _, _ => True
theorem Vd {α : Type} (d : α) {Q : Nat -> α -> Prop} : ∀ {n : Nat}, (∀ i, i < n -> ∃ y, Q i y) -> ∃ l : List α, l.length = n /\ ∀ i, i < n -> Q i (l.getD i d)
 | 0, _ => ⟨[], rfl, fun i h => absurd h (by omega)⟩
 | n + 1, h => by
  obtain ⟨l, hl, hq⟩ := Vd d (n := n) fun i hi => h i (by omega)
  obtain ⟨y, hy⟩ := h n (by omega)
  refine ⟨l ++ [y], by simp [hl], fun i hi => ?_⟩
  by_cases h' : i < n
  ·rw [List.getD_eq_getElem?_getD, List.getElem?_append_left (by omega), <- List.getD_eq_getElem?_getD]; exact hq i h'
  ·have : i = n := by omega
   subst this
   rw [List.getD_eq_getElem?_getD, List.getElem?_append_right (by omega), hl]
   simpa using hy
section
variable {H : Type} {enc : TypeId × Value -> H} {P : Program} {w : World} {base : Nat} {spare : Nat -> Bool} {held : Bool}
def XM (w : World) (t : DT) (y : t.den) (cs : List Value) (off : Nat) : Prop := ∀ j, j < t.size -> ∃ c, cs[off + j]? = some c /\ c.oneCell' = true /\ t.cell y j w (fun b => b < w.heap.size) c
theorem ac0 {a : Addr} {n : Nat} {cs : List Value} (h : w.cells? base a n = some cs) : cs.length = n /\ ∀ i, i < n -> w.cell? (a.add i) = cs[i]? := by
 unfold World.cells? at h
 split at h
 ·exact ⟨by simpa using mapM_some_length h, fun i hi => mapM_some_get h i i (by simp [hi])⟩
 ·cases h
theorem alE {a : Addr} {v : Value} (h : w.cell? a = some v) : a.spot = none /\ a.block < w.heap.size := by
 unfold World.cell? at h
 split at h
 ·rename_i c e f hb
  split at h
  ·cases h
  ·rename_i hs
   refine ⟨by cases hq : a.spot <;> simp_all, ?_⟩
   exact (Array.getElem?_eq_some_iff.1 hb).1
 ·cases h
theorem entry : ∀ (t : DT) (o : Option (List Field × Nat)) (T : TypeId), reads P t o T = true -> match o with
  | none => ∀ (fuel : Nat) (cs : List Value) (x : DataW H × List MemPlace), DataW.trod enc P w base spare held fuel T cs = some x -> cs.length = t.size /\ ∃ y : t.den, t.wf y /\ XM w t y cs 0
  | some (fs, off) => ∀ (fuel : Nat) (cs : List Value), (∀ f ∈ fs, ∃ x, DataW.trod enc P w base spare held fuel f.type ((cs.drop f.offset).take (P.cellsOf f.type)) = some x) -> ∃ y : t.den, t.wf y /\ XM w t y cs off := by
 intro t
 induction t with
 | unit =>
  intro o T h
  match o with
  | some (_, _) => simp [reads] at h
  | none => simp [reads] at h
 | int k =>
  intro o T h
  match o with
  | some (_, _) => simp [reads] at h
  | none =>
   intro fuel cs x hx
   simp only [reads] at h
   split at h
   ·rename_i k' hu
    have : k' = k := by simpa using h
    subst this
    obtain ⟨n, rfl, _, hw⟩ := DataW.trod_int hu hx
    refine ⟨rfl, n, hw, fun j hj => ?_⟩
    have : j = 0 := by simp only [DT.size] at hj; omega
    subst this
    exact ⟨_, rfl, rfl, rfl⟩
   ·cases h
 | bool =>
  intro o T h
  match o with
  | some (_, _) => simp [reads] at h
  | none => simp [reads] at h
 | str =>
  intro o T h
  match o with
  | some (_, _) => simp [reads] at h
  | none => simp [reads] at h
 | sl t ih =>
  intro o T h
  match o with
  | some (_, _) => simp [reads] at h
  | none =>
   intro fuel cs x hx
   simp only [reads] at h
   split at h
   ·rename_i e hu
    simp only [bC, beq_iff_eq, fH] at h
    obtain ⟨⟨hc, h0⟩, hr⟩ := h
    rcases DataW.trod_slice hu hx with ⟨rfl, _⟩ | ⟨a, len, cap, elems, rest, n, _, rfl, _, hb, hl, hm, hlen, hel, _⟩
    ·refine ⟨rfl, ([] : List t.den), ⟨Nat.zero_le _, fun i hi => absurd hi (by simp)⟩, fun j hj => ?_⟩
     have : j = 0 := by simp only [DT.size] at hj; omega
     subst this
     exact ⟨_, rfl, rfl, none, 0, rfl, Nat.le_refl _, Nat.zero_le _, fun _ => rfl, trivial, fun hn => absurd hn (by simp)⟩
    ·have each : ∀ i, i < len -> ∃ y : t.den, t.wf y /\ ∃ cs' : List Value, w.cells? base (a.add (i * P.cellsOf e)) (P.cellsOf e) = some cs' /\ XM w t y cs' 0 := by
      intro i hi
      have h1 := hel i hi
      have h2 : elems[i]? = some elems[i] := List.getElem?_eq_getElem (by omega)
      rw [h2, Option.bind_eq_some_iff] at h1
      obtain ⟨cs', h3, h4⟩ := h1
      obtain ⟨_, y, hy, hh⟩ := ih none e hr n cs' _ h4
      exact ⟨y, hy, cs', h3, hh⟩
     obtain ⟨l, hll, hq⟩ := Vd t.dflt each
     refine ⟨rfl, l, ⟨by omega, fun i hi => (hq i (by omega)).1⟩, fun j hj => ?_⟩
     have : j = 0 := by simp only [DT.size] at hj; omega
     subst this
     refine ⟨_, rfl, rfl, some a, cap, by rw [hll], by omega, hm, fun hn => (by cases hn), trivial, fun hn => ?_⟩
     rw [hll] at hn
     have spot : a.spot = none /\ a.block < w.heap.size := by
      obtain ⟨_, cs', h3, hh⟩ := hq 0 hn
      obtain ⟨hcl, hcs⟩ := ac0 h3
      have h5 := hcs 0 (by omega)
      obtain ⟨c, hc', _⟩ := hh 0 h0
      rw [show 0 + 0 = 0 from rfl] at hc'
      rw [hc'] at h5
      have h6 : (a.add (0 * P.cellsOf e)).add 0 = a := by simp [Addr.add]
      rw [h6] at h5
      exact alE h5
     refine ⟨a.block, a.off, ?_, spot.2, fun i hi c hcc => ?_⟩
     ·obtain ⟨b, o, s⟩ := a
      have : s = none := spot.1
      subst this; rfl
     ·rw [hll] at hi
      obtain ⟨_, cs', h3, hh⟩ := hq i hi
      obtain ⟨hcl, hcs⟩ := ac0 h3
      obtain ⟨v, h7, h8, h9⟩ := hh c hcc
      rw [Nat.zero_add] at h7
      refine ⟨v, ?_, h8, h9⟩
      have h10 := hcs c (by omega)
      rw [h7, hc] at h10
      rw [<- h10]
      congr 1
      obtain ⟨b, o, s⟩ := a
      have : s = none := spot.1
      subst this
      simp only [Addr.add]
      by_cases z1 : i * t.size = 0
      ·by_cases z2 : c = 0
       ·simp [z1, z2]
       ·simp [z1, z2]
      ·by_cases z2 : c = 0
       ·simp [z1, z2]
       ·simp [z1, z2]
   ·cases h
 | jT t ih => intro o T h; cases o <;> simp [reads] at h
 | fJ t ih => intro o T h; cases o <;> simp [reads] at h
 | fp t ih => intro o T h; cases o <;> simp [reads] at h
 | rY => intro o T h; cases o <;> simp [reads] at h
 | iT T t r _ _ => intro o T' h; cases o <;> simp [reads] at h
 | dM t ih => intro o T h; cases o <;> simp [reads] at h
 | arr n t ih =>
  intro o T h
  match o with
  | some (_, _) => simp [reads] at h
  | none =>
   intro fuel cs x hx
   simp only [reads] at h
   split at h
   ·rename_i m e hu
    simp only [bC, beq_iff_eq] at h
    obtain ⟨⟨⟨rfl, hc⟩, hC⟩, hr⟩ := h
    obtain ⟨xs, m', _, _, hl, hn, hel⟩ := DataW.trod_array hu hx
    refine ⟨by rw [hl, hC]; rfl, ?_⟩
    have each : ∀ i, i < m -> ∃ y : t.den, t.wf y /\ XM w t y ((cs.drop (i * t.size)).take t.size) 0 := by
     intro i hi
     have h1 := hel i hi
     have h2 : xs[i]? = some xs[i] := List.getElem?_eq_getElem (by omega)
     rw [h2, hc] at h1
     exact (ih none e hr _ _ _ h1).2
    obtain ⟨l, hll, hq⟩ := Vd t.dflt each
    refine ⟨l, ⟨hll, fun i hi => (hq i (by omega)).1⟩, fun j hj => ?_⟩
    simp only [DT.size] at hj
    have hs : 0 < t.size := Nat.pos_of_ne_zero fun z => by rw [z, Nat.mul_zero] at hj; omega
    have hd : j / t.size < m := Nat.div_lt_of_lt_mul (by rw [Nat.mul_comm]; exact hj)
    have hmo : j % t.size < t.size := Nat.mod_lt _ hs
    obtain ⟨c, a1, a2, a3⟩ := (hq (j / t.size) hd).2 (j % t.size) hmo
    refine ⟨c, ?_, a2, a3⟩
    rw [Nat.zero_add] at a1 ⊢
    rw [List.getElem?_take_of_lt hmo, List.getElem?_drop] at a1
    rwa [show j / t.size * t.size + j % t.size = j by rw [Nat.mul_comm]; exact Nat.div_add_mod j t.size] at a1
   ·cases h
 | pair a b iha ihb =>
  intro o T h
  match o with
  | some (_, _) => simp [reads] at h
  | none => simp [reads] at h
theorem auL {t : DT} {T : TypeId} {v : Value} {d : DataW H} {ps : List MemPlace} {base' : Nat} (hr : reads P t none T = true) (hok : Value.okWide P w .any base' T v) (h : DataW.Trod enc P w base spare held T v d ps) :
  ∃ y : t.den, t.wf y /\ t.val y w (fun b => b < w.heap.size) v := by
 obtain ⟨fuel, hf⟩ := h
 obtain ⟨hl, y, hy, hh⟩ := entry t none T hr fuel _ _ hf
 refine ⟨y, hy, ?_⟩
 unfold DT.val
 have one : t.agg = false -> v.cells = #[v] /\ t.size = 1 := by
  intro ha
  have hu : t.size = 1 := by cases t <;> simp_all [DT.agg, DT.size, reads]
  refine ⟨?_, hu⟩
  rw [hu] at hl
  obtain ⟨c, hc, hoc, _⟩ := hh 0 (by omega)
  cases v with
  | agg cs =>
   exfalso
   unfold Value.okWide at hok
   cases t <;> simp only [reads] at hr <;> (try cases hr) <;> (try simp [DT.agg] at ha) <;> (split at hr <;> (try cases hr); rename_i hu'; rw [hu'] at hok; simp [Cell.okWide, Cell.ok, hu'] at hok)
  | _ => rfl
 split
 ·rename_i ha
  have : ∃ cs, v = .agg cs := by
   unfold Value.okWide at hok
   cases t <;> simp only [reads] at hr <;> (try cases hr) <;> (try simp [DT.agg] at ha)
   all_goals
    split at hr
    ·rename_i hu
     rw [hu] at hok
     obtain ⟨cs, h1, _⟩ := hok
     exact ⟨cs, h1⟩
    ·cases hr
  obtain ⟨cs, rfl⟩ := this
  refine ⟨cs, rfl, by simpa [Value.cells] using hl, fun j hj => ?_⟩
  obtain ⟨c, a1, a2, a3⟩ := hh j hj
  exact ⟨c, by simpa [Value.cells] using a1, a2, a3⟩
 ·rename_i ha
  obtain ⟨h1, h2⟩ := one (by simpa using ha)
  obtain ⟨c, a1, a2, a3⟩ := hh 0 (by omega)
  rw [h1] at a1
  have : v = c := by simpa using a1
  subst this; exact a3
end
def sN (w : World) : List DT -> List Value -> Prop
 | [], [] => True
 | t :: ts, v :: vs => (∃ y : t.den, t.wf y /\ t.val y w (fun b => b < w.heap.size) v) /\ sN w ts vs
 | _, _ => False
theorem sN.cons {w : World} {t : DT} {ts : List DT} : ∀ {vs : List Value}, sN w (t :: ts) vs -> ∃ v vs' y, vs = v :: vs' /\ t.wf y /\ t.val y w (fun b => b < w.heap.size) v /\ sN w ts vs'
 | [], h => by simp [sN] at h
 | v :: vs', h => by
  simp only [sN] at h
  obtain ⟨⟨y, a, b⟩, c⟩ := h
  exact ⟨v, vs', y, rfl, a, b, c⟩
theorem sN.nil {w : World} : ∀ {vs : List Value}, sN w [] vs -> vs = []
 | [], _ => rfl
 | v :: vs', h => by simp [sN] at h
def CY (P : Program) : List DT -> List TypeId -> Bool
 | [], [] => true
 | t :: ts, T :: Ts => reads P t none T && P.readableRec T && decide (T < P.types.size) && CY P ts Ts
 | _, _ => false
def rM (w : World) : List TV -> List Value -> Prop
 | [], [] => True
 | .dv t y :: xs, v :: vs => t.val y w (fun b => b < w.heap.size) v /\ rM w xs vs
 | _, _ => False
theorem rM.nil {w : World} : rM w [] [] := trivial
theorem rM.cons {w : World} {t : DT} {y : t.den} {v : Value} {xs : List TV} {vs : List Value} (h : t.val y w (fun b => b < w.heap.size) v) (h2 : rM w xs vs) : rM w (.dv t y :: xs) (v :: vs) := ⟨h, h2⟩
theorem rM.len {w : World} : ∀ {xs : List TV} {vs : List Value}, rM w xs vs -> vs.length = xs.length
 | [], [], _ => rfl
 | .dv t y :: xs, v :: vs, h => by simp [rM.len h.2]
theorem rM.at {w : World} : ∀ {xs : List TV} {vs : List Value}, rM w xs vs -> ∀ (i : Nat) (x : TV) (v : Value), xs[i]? = some x -> vs[i]? = some v -> ∃ t y, x = .dv t y /\ t.val y w (fun b => b < w.heap.size) v
 | [], [], _, i, x, v, hx, _ => by simp at hx
 | .dv t y :: xs, u :: vs, h, 0, x, v, hx, hv => by
  simp only [List.getElem?_cons_zero, aS] at hx hv
  subst hx; subst hv; exact ⟨t, y, rfl, h.1⟩
 | .dv t y :: xs, u :: vs, h, i + 1, x, v, hx, hv => by
  simp only [List.getElem?_cons_succ] at hx hv
  exact rM.at h.2 i x v hx hv
theorem aHB {P : Program} {f : Nat} {c : bT} (K : aF P f c) {xs : List TV} {r : c.ρ} (ha : c.ans xs [] = some r) (henc : c.enc xs [] r = .dv .bool true) {w : World} {vs : List Value} (hv : rM w xs vs) (hgl : wF w (fun b => b < w.heap.size)) :
  Calls P f vs.toArray w fun e w' => e = .returned (.bool true) /\ Below w.heap.size w w' := by
 have h := K xs [] r ha
 have none : ∀ {π : Nat -> Pl} {id g : Nat}, ¬ Own π (aA []) id g := fun ⟨o, ho, _⟩ => by cases ho
 have hfr0 : Frame (fun b => b < w.heap.size) w (fun _ => ⟨Option.none, 0, 0, iU⟩) [] := ⟨fun id o ho => (by cases ho), fun i j g hi => absurd hi none, fun id g hi => absurd hi none⟩
 refine (h.calls w (fun b => b < w.heap.size) (fun _ => ⟨Option.none, 0, 0, iU⟩) vs hv.len (fun b hb => hb) hfr0 (fun i x v hx hv' => ?_) (hgl.mono fun b hb => ⟨⟨hb, hb, fun id => none⟩, rfl⟩)).mono fun e w' hq => ?_
 ·obtain ⟨t, y, rfl, hy⟩ := hv.at i x v hx hv'
  exact DT.iD (fun b hb => ⟨⟨hb, hb, fun id => none⟩, rfl⟩) hy
 ·obtain ⟨r', v, O', aJ, he, ⟨hr, hO⟩, hfr, hv, _, _, hk⟩ := hq
  rw [henc] at hr
  subst hr
  have hv' : v = .bool true := (DT.val_one (t := .bool) rfl).1 hv
  subst hv'
  exact ⟨he, hk.os, hk.tape, hk.output, hk.size, fun k hk' => (hk.block k (.inl ⟨fun id => none, hk'⟩) (by simp)).trans (if_neg (by simp))⟩
section
variable {H : Type} {enc : TypeId × Value -> H} {P : Program}
theorem acF {w : World} {base base' : Nat} {spare : Nat -> Bool} {held : Bool} : ∀ {ts : List DT} {Ts : List TypeId} {vs : List Value} {ds : List (DataW H)} {ps : List MemPlace}, CY P ts Ts = true ->
  (∀ (j : Nat) T v, Ts[j]? = some T -> vs[j]? = some v -> Value.okWide P w .any base' T v) -> DataW.TrodAll enc P w base spare held Ts vs ds ps -> sN w ts vs /\ ds.length = Ts.length
 | [], [], [], [], _, _, _, _ => ⟨trivial, rfl⟩
 | t :: ts, T :: Ts, v :: vs, d :: ds, ps, hr, hv, h => by
  obtain ⟨p, q, h1, h2, _⟩ := h
  simp only [CY, bC] at hr
  obtain ⟨a, b⟩ := acF (ts := ts) hr.2 (fun j T v hT hv' => hv (j + 1) T v hT hv') h2
  exact ⟨⟨auL hr.1.1.1 (hv 0 T v rfl rfl) h1, a⟩, by simp [b]⟩
 | [], T :: Ts, _, _, _, hr, _, _ => by simp [CY] at hr
 | t :: ts, [], _, _, _, hr, _, _ => by simp [CY] at hr
 | [], [], v :: vs, _, _, _, _, h => by cases h
 | [], [], [], d :: ds, _, _, _, h => by cases h
 | t :: ts, T :: Ts, [], _, _, _, _, h => by cases h
 | t :: ts, T :: Ts, v :: vs, [], _, _, _, h => by cases h
theorem al0 (hl : laidOutB P = true) {W W' : World} (hb : Below W.heap.size W W') : ∀ {ts : List DT} {Ts : List TypeId} {vs : List Value} {ds : List (DataW H)} {ps : List MemPlace}, CY P ts Ts = true ->
  DataW.TrodAll enc P W 0 (fun _ => true) true Ts vs ds ps -> (∀ p ∈ ps, p.block < W.heap.size) -> DataW.TrodAll enc P W' 0 (fun b => decide (b < W.heap.size)) true Ts vs ds ps
 | [], [], [], [], _, _, h, _ => h
 | t :: ts, T :: Ts, v :: vs, d :: ds, ps, hr, h, hlt => by
  obtain ⟨p, q, h1, h2, rfl⟩ := h
  simp only [CY, bC, fH] at hr
  exact ⟨p, q, Below.trod hl hr.1.1.2 hr.1.2 h1 hb (fun x hx => hlt x (List.mem_append_left _ hx)), al0 hl hb (ts := ts) hr.2 h2 (fun x hx => hlt x (List.mem_append_right _ hx)), rfl⟩
 | [], T :: Ts, _, _, _, hr, _, _ => by simp [CY] at hr
 | t :: ts, [], _, _, _, hr, _, _ => by simp [CY] at hr
 | [], [], v :: vs, _, _, _, h, _ => by cases h
 | [], [], [], d :: ds, _, _, h, _ => by cases h
 | t :: ts, T :: Ts, [], _, _, _, h, _ => by cases h
 | t :: ts, T :: Ts, v :: vs, [], _, _, h, _ => by cases h
end
set_option maxRecDepth 100000 in
theorem aCL : ownKnob prog.godebug = none := by kernel_rfl
theorem ax' : laidOutB prog = true := by kernel_rfl
end Go.Proofs.YtfopcfnggdonkaaGreatDoor
