/-
  Lifting Go functions to plain Lean functions, part S: drawn regions.
-/
import Derived.Test.YtbjfbbfglkmadaaDoorQS1
namespace Go.Proofs.YtbjfbbfglkmadaaDoor
open Go.RowKit
set_option linter.unusedVariables false

/-- An operation to be carried out: its number; what it looks at; what it does. -/
structure Lb where
  i : Nat
  rd : List Nat
  e : Eff

def Lb.lab (l : Lb) : Lab := ⟨l.i, l.rd, l.e.u.map (·.1)⟩

/-- How an operation comes to do what it does. -/
inductive Way (E : Env) (ops : Array Oper) (o : Oper) (s : TS) (e : Eff) : Prop
  | run (hg : o.guard = none) (hd : ∀ (β : Type) (k' : Eff → Option β), eff E o s.ev (tlook s.ob) k' = k' e)
  | want (j d : Nat) (g : Bool) (hg : o.guard = some (j, g)) (hd : (ops[j]?).bind (·.dst) = some d) (hs : s.sl[d]? = some (.dv .bool g)) (he : ∀ (β : Type) (k' : Eff → Option β), eff E o s.ev (tlook s.ob) k' = k' e)
  | pass (j d : Nat) (g t : Bool) (hg : o.guard = some (j, g)) (hd : (ops[j]?).bind (·.dst) = some d) (hs : s.sl[d]? = some (.dv .bool t)) (hne : t ≠ g) (he : e = ⟨.cst undef, [], true⟩)
  | skip (j d : Nat) (g : Bool) (xs : Array Value) (hg : o.guard = some (j, g)) (hd : (ops[j]?).bind (·.dst) = some d) (hs : s.sl[d]? = some (.cst (.tuple xs))) (he : e = ⟨.cst undef, [], true⟩)

structure DS (E : Env) (ops : Array Oper) (o : Oper) (s : TS) (l : Lb) : Prop where
  at_ : ops[l.i]? = some o
  opn : flat o.op = false → ∀ x ∈ opsOf o.op, ∀ i ∈ (s.ev x).ids, i ∈ l.rd
  cl : flat o.op = false → ∀ i ∈ l.rd, ∀ ob, tlook s.ob i = some ob → ∀ j ∈ ob.ids, j ∈ l.rd
  dst : ∀ d, o.dst = some d → d ∈ l.rd ∧ 2000000 + d ∈ l.rd
  way : Way E ops o s l.e

theorem slot_of_ev {s : TS} {d : Nat} {t : DT} {x : t.den} (h : s.ev (.tmp d) = .dv t x) : s.sl[d]? = some (.dv t x) := by
  simp only [TS.ev, List.getD] at h
  cases e : s.sl[d]? with
  | none => rw [e] at h; cases h
  | some y => rw [e] at h; exact congrArg some h

theorem slot_of_ev' {s : TS} {d : Nat} {v : Value} (h : s.ev (.tmp d) = .cst v) : s.sl[d]? = some (.cst v) := by
  simp only [TS.ev, List.getD] at h
  cases e : s.sl[d]? with
  | none => rw [e] at h; cases h
  | some y => rw [e] at h; exact congrArg some h

theorem ev_of_slot {s : TS} {d : Nat} {x : TV} (h : s.sl[d]? = some x) : s.ev (.tmp d) = x := by simp [TS.ev, List.getD, h]

theorem guard_looks {ops : Array Oper} {o : Oper} {j d : Nat} {g : Bool} (hg : o.guard = some (j, g)) (hd : (ops[j]?).bind (·.dst) = some d) : Operand.tmp d ∈ looks ops o := by
  simp only [looks, hg, hd]; simp

theorem eff_flat {E : Env} {o : Oper} (h : flat o.op = true) (ev : Operand → TV) (L L' : Obs) {β : Type} (k : Eff → Option β) : eff E o ev L k = eff E o ev L' k := by
  obtain ⟨dst, op, g, af⟩ := o
  cases op <;> first | rfl | (simp [flat] at h)

theorem DS.move {P : Program} {E : Env} (hE : EnvOk P E) {ops : Array Oper} {o : Oper} {s t : TS} {l : Lb} (h : DS E ops o s l) (hev : ∀ x ∈ looks ops o, s.ev x = t.ev x) (hrd : ∀ i ∈ l.rd, tlook s.ob i = tlook t.ob i) (hks : ∀ p ∈ l.e.u, tlook s.ob p.1 = tlook t.ob p.1) : DS E ops o t l := by
  have hop : ∀ x ∈ opsOf o.op, s.ev x = t.ev x := fun x hx => hev x (by simp only [looks, List.mem_append]; exact .inl hx)
  have key : (∀ (β : Type) (k' : Eff → Option β), eff E o s.ev (tlook s.ob) k' = k' l.e) → ∀ (β : Type) (k' : Eff → Option β), eff E o t.ev (tlook t.ob) k' = k' l.e := fun hd β k' => by
    rw [← eff_ev E hop]
    cases hf : flat o.op with
    | true => rw [eff_flat hf s.ev (tlook t.ob) (tlook s.ob)]; exact hd β k'
    | false => exact eff_local hE (show Agr o s.ev (tlook s.ob) (tlook t.ob) l.rd from ⟨h.opn hf, h.cl hf, h.dst, hrd⟩) hks hd β k'
  refine ⟨h.at_, fun hf x hx i hi => h.opn hf x hx i (by rw [hop x hx]; exact hi), fun hf i hi ob hob j hj => h.cl hf i hi ob (by rw [hrd i hi]; exact hob) j hj, h.dst, ?_⟩
  cases h.way with
  | run hg hd => exact .run hg (key hd)
  | want j d g hg hd hs he => exact .want j d g hg hd (slot_of_ev (by rw [← hev _ (guard_looks hg hd)]; exact ev_of_slot hs)) (key he)
  | pass j d g t' hg hd hs hne he => exact .pass j d g t' hg hd (slot_of_ev (by rw [← hev _ (guard_looks hg hd)]; exact ev_of_slot hs)) hne he
  | skip j d g xs hg hd hs he => exact .skip j d g xs hg hd (slot_of_ev' (by rw [← hev _ (guard_looks hg hd)]; exact ev_of_slot hs)) he

/-- The same but for the order in the list of objects. -/
structure Sim (s t : TS) : Prop where
  sl : s.sl = t.sl
  ob : tlook s.ob = tlook t.ob

theorem Sim.ev {s t : TS} (h : Sim s t) : s.ev = t.ev := by
  funext x; cases x <;> simp only [TS.ev, h.sl]

theorem app_sl (s : TS) (d : Option Nat) (e : Eff) : (s.app d e).sl = (s.put d e.y).sl := rfl

theorem app_ob (s : TS) (d : Option Nat) (e : Eff) : tlook (s.app d e).ob = ovr e.u (tlook s.ob) := tlook_append e.u s.ob

theorem Sim.app {s t : TS} (h : Sim s t) (d : Option Nat) (e : Eff) : Sim (s.app d e) (t.app d e) :=
  ⟨by rw [app_sl, app_sl]; cases d <;> simp only [TS.put, h.sl], by rw [app_ob, app_ob, h.ob]⟩

inductive RL (E : Env) (ops : Array Oper) : List Lb → TS → TS → Prop
  | nil {s t : TS} (h : Sim s t) : RL E ops [] s t
  | cons {l : Lb} {r : List Lb} {o : Oper} {s t : TS} (h : DS E ops o s l) (hr : RL E ops r (s.app o.dst l.e) t) : RL E ops (l :: r) s t

section
variable {P : Program} {E : Env} {ops : Array Oper}

theorem RL.sim (hE : EnvOk P E) : ∀ {l : List Lb} {s t s' : TS}, RL E ops l s t → Sim s s' → RL E ops l s' t
  | _, _, _, _, .nil h, hs => .nil ⟨hs.sl ▸ h.sl, hs.ob ▸ h.ob⟩
  | _, _, _, _, .cons h hr, hs => .cons (h.move hE (fun x _ => by rw [hs.ev]) (fun i _ => by rw [hs.ob]) fun p _ => by rw [hs.ob]) (RL.sim hE hr (hs.app _ _))

theorem ev_put_ne {s : TS} {d : Option Nat} {e : Eff} {x : Operand} (h : ∀ i, d = some i → x ≠ .tmp i) : (s.app d e).ev x = s.ev x := by
  cases x with
  | tmp t =>
    cases d with
    | none => rfl
    | some d =>
      have : d ≠ t := fun q => h d rfl (q ▸ rfl)
      simp only [TS.ev, app_sl, TS.put, List.getD, List.getElem?_set_ne this]
  | _ => rfl

theorem apt_spec {x i : Oper} (h : apt ops x i = true) : (∀ z ∈ looks ops i, ∀ d, x.dst = some d → z ≠ .tmp d) ∧ (∀ d, x.dst = some d → i.dst ≠ some d) ∧ (∀ z ∈ looks ops x, ∀ d, i.dst = some d → z ≠ .tmp d) := by
  simp only [apt, Bool.and_eq_true] at h
  obtain ⟨h1, h2⟩ := h
  refine ⟨fun z hz d hd => ?_, fun d hd => ?_, fun z hz d hd => ?_⟩
  · rw [hd] at h1
    simp only [Bool.and_eq_true, List.all_eq_true] at h1
    have := h1.1 z hz
    intro q; subst q; simp at this
  · rw [hd] at h1
    simp only [Bool.and_eq_true, bne_iff_ne] at h1
    exact h1.2
  · rw [hd] at h2
    simp only [List.all_eq_true] at h2
    have := h2 z hz
    intro q; subst q; simp at this

theorem disj_spec {a b : List Nat} (h : disj a b = true) {i : Nat} (ha : i ∈ a) (hb : i ∈ b) : False := by
  simp only [disj, List.all_eq_true, Bool.not_eq_true'] at h
  have := h i ha
  rw [List.contains_iff_mem.2 hb] at this; cases this

theorem tlook_none {u : List (Nat × TO)} {i : Nat} (h : i ∉ u.map (·.1)) : tlook u i = none := by
  induction u with
  | nil => rfl
  | cons p r ih =>
    obtain ⟨j, o⟩ := p
    rw [tlook_cons, if_neg (fun e => h (by simp [e]))]
    exact ih fun q => h (by simp only [List.map_cons, List.mem_cons]; exact .inr q)

theorem ovr_off {u : List (Nat × TO)} {L : Obs} {i : Nat} (h : i ∉ u.map (·.1)) : ovr u L i = L i := by simp only [ovr, tlook_none h]

theorem ovr_comm {u v : List (Nat × TO)} (h : disj (u.map (·.1)) (v.map (·.1)) = true) (L : Obs) : ovr u (ovr v L) = ovr v (ovr u L) := by
  funext i
  by_cases hu : i ∈ u.map (·.1)
  · have hv : i ∉ v.map (·.1) := fun q => disj_spec h hu q
    rw [ovr_off (u := v) hv]
    simp only [ovr, tlook_none hv]
  · rw [ovr_off hu]
    simp only [ovr, tlook_none hu]

theorem app_comm {s : TS} {d d' : Option Nat} {e e' : Eff} (h : ∀ i, d = some i → d' ≠ some i) (hd : disj (e.u.map (·.1)) (e'.u.map (·.1)) = true) : Sim ((s.app d e).app d' e') ((s.app d' e').app d e) := by
  constructor
  · simp only [TS.app]
    cases d with
    | none => cases d' <;> rfl
    | some i =>
      cases d' with
      | none => rfl
      | some j =>
        have : i ≠ j := fun q => h i rfl (q ▸ rfl)
        simp only [TS.put, List.set_comm _ _ this]
  · rw [app_ob, app_ob, app_ob, app_ob]
    exact (ovr_comm hd _).symm

theorem RL.swap (hE : EnvOk P E) {x i : Lb} {ox oi : Oper} {r : List Lb} {s t : TS} (hx : ops[x.i]? = some ox) (hi : ops[i.i]? = some oi) (ha : apt ops ox oi = true) (h1 : disj (x.e.u.map (·.1)) i.rd = true) (h2 : disj (x.e.u.map (·.1)) (i.e.u.map (·.1)) = true) (h3 : disj (i.e.u.map (·.1)) x.rd = true)
    (h : RL E ops (x :: i :: r) s t) : RL E ops (i :: x :: r) s t := by
  cases h with
  | cons hdx hr =>
    cases hr with
    | cons hdi hr =>
      obtain rfl : _ = ox := Option.some.inj (hdx.at_.symm.trans hx)
      obtain rfl : _ = oi := Option.some.inj (hdi.at_.symm.trans hi)
      obtain ⟨a1, a2, a3⟩ := apt_spec ha
      have k1 : DS E ops _ s i := hdi.move hE (fun z hz => ev_put_ne fun d hd => a1 z hz d hd)
        (fun j hj => by rw [app_ob]; exact ovr_off fun q => disj_spec h1 q hj)
        (fun p hp => by rw [app_ob]; exact ovr_off fun q => disj_spec h2 q (List.mem_map_of_mem hp))
      have k2 : DS E ops _ (s.app _ i.e) x := hdx.move hE (fun z hz => (ev_put_ne fun d hd => a3 z hz d hd).symm)
        (fun j hj => by rw [app_ob]; exact (ovr_off fun q => disj_spec h3 q hj).symm)
        (fun p hp => by rw [app_ob]; exact (ovr_off fun q => disj_spec h2 (List.mem_map_of_mem hp) q).symm)
      exact .cons k1 (.cons k2 (hr.sim hE (app_comm a2 h2)))

theorem RL.bubble (hE : EnvOk P E) {i : Lb} {r : List Lb} {t : TS} : ∀ (pre : List Lb) {s : TS}, (∀ x ∈ pre, ∃ ox oi, ops[x.i]? = some ox ∧ ops[i.i]? = some oi ∧ apt ops ox oi = true ∧ disj (x.e.u.map (·.1)) i.rd = true ∧ disj (x.e.u.map (·.1)) (i.e.u.map (·.1)) = true ∧ disj (i.e.u.map (·.1)) x.rd = true) →
    RL E ops (pre ++ i :: r) s t → RL E ops (i :: (pre ++ r)) s t
  | [], s, _, h => h
  | x :: pre, s, ha, h => by
    cases h with
    | cons hd hr =>
      have := RL.bubble hE pre (fun y hy => ha y (by simp [hy])) hr
      obtain ⟨ox, oi, b1, b2, b3, b4, b5, b6⟩ := ha x (by simp)
      exact RL.swap hE b1 b2 b3 b4 b5 b6 (.cons hd this)

theorem closed_spec {o : Oper} {s : TS} {R : List Nat} (h : closedB o s R = true) (hf : flat o.op = false) : (∀ x ∈ opsOf o.op, ∀ i ∈ (s.ev x).ids, i ∈ R) ∧ (∀ i ∈ R, ∀ ob, tlook s.ob i = some ob → ∀ j ∈ ob.ids, j ∈ R) := by
  simp only [closedB, hf, Bool.false_or, Bool.and_eq_true, List.all_eq_true, List.contains_iff_mem] at h
  refine ⟨fun x hx i hi => h.1 i (by simp only [List.mem_flatMap]; exact ⟨x, hx, hi⟩), fun i hi ob hob j hj => ?_⟩
  have := h.2 i hi
  rw [hob] at this
  simp only [List.all_eq_true, List.contains_iff_mem] at this
  exact this j hj

theorem prun_RL (hT : TOK P E.TI) (hE : EnvOk P E) {α : Type} {k : TS → Option α} {r : α} : ∀ (l : List Oper) (n : Nat) (hist : List Lab) (s : TS), (∀ j, l[j]? = ops[n + j]?) → prun E ops n l hist s k = some r →
    ∃ ll t, ll.map Lb.i = List.range' n l.length ∧ RL E ops ll s t ∧ k t = some r ∧ ll.Pairwise (fun x y => okPair ops x.lab y.lab = true) ∧ ∀ h ∈ hist, ∀ x ∈ ll, okPair ops h x.lab = true
  | [], n, hist, s, _, h => ⟨[], s, rfl, .nil ⟨rfl, rfl⟩, h, .nil, fun _ _ _ hx => by simp at hx⟩
  | o :: l, n, hist, s, hl, h => by
    simp only [prun] at h
    split at h
    · rename_i hcl
      obtain ⟨s', ks, h1, h2⟩ := pg_st (P := P) (c := ⟨default, fun _ => False, fun _ => none, none, [], []⟩) (F := fun _ => True) hT hE h
      split at h1
      · rename_i hhist
        have hat : ops[n]? = some o := by have := hl 0; simpa using this.symm
        obtain ⟨ll, t, e1, e2, e3, e4, e5⟩ := prun_RL hT hE l (n + 1) _ s' (fun j => by have := hl (j + 1); simp only [List.getElem?_cons_succ] at this; rw [this]; congr 1; omega) h1
        have hdst : ∀ d, o.dst = some d → d ∈ rdOf o s ∧ 2000000 + d ∈ rdOf o s := fun d hd => by simp [rdOf, hd]
        have fin : ∀ e : Eff, s' = s.app o.dst e → ks = e.u.map (·.1) → Way E ops o s e → ∃ ll t, ll.map Lb.i = List.range' n (o :: l).length ∧ RL E ops ll s t ∧ k t = some r ∧ ll.Pairwise (fun x y => okPair ops x.lab y.lab = true) ∧ ∀ h ∈ hist, ∀ x ∈ ll, okPair ops h x.lab = true := fun e q1 q2 q3 => by
          subst q1; subst q2
          refine ⟨⟨n, rdOf o s, e⟩ :: ll, t, ?_, .cons ⟨hat, fun hf => (closed_spec hcl hf).1, fun hf => (closed_spec hcl hf).2, hdst, q3⟩ e2, e3, ?_, ?_⟩
          · simp only [List.map_cons, e1, List.length_cons, List.range'_succ]
          · exact .cons (fun x hx => e5 ⟨n, rdOf o s, e.u.map fun p : Nat × TO => p.1⟩ (by simp) x hx) e4
          · intro h hh x hx
            rcases List.mem_cons.1 hx with rfl | hx
            · simp only [List.all_eq_true] at hhist; exact hhist h hh
            · exact e5 h (by simp [hh]) x hx
        cases h2 with
        | run hg e hd => exact fin e rfl rfl (.run hg hd)
        | want j d g hg hd hs e he => exact fin e rfl rfl (.want j d g hg hd hs he)
        | pass j d g t hg hd hs hne => exact fin ⟨.cst undef, [], true⟩ (by cases o.dst <;> rfl) rfl (.pass j d g t hg hd hs hne rfl)
        | skip j d g xs hg hd hs => exact fin ⟨.cst undef, [], true⟩ (by cases o.dst <;> rfl) rfl (.skip j d g xs hg hd hs rfl)
      · cases h1
    · cases h

variable {c : Cx} {F : Nat → Prop}

/-- One operation of a drawn region, as the kit has it. -/
theorem DS.wp (hT : TOK P E.TI) (hE : EnvOk P E) {o : Oper} {s : TS} {l : Lb} (h : DS E ops o s l) {a : Act} {w : World} (hr : Rel c F s a w) {Q : Exit → Act → World → Prop} {K : Act → World → Prop} (nn : Nat) (hK : ∀ (a' : Act) (w' : World), Rel c F (s.app o.dst l.e) a' w' → K a' w') : wpOpIn c.fen nn P ops Q l.i K a w := by
  unfold wpOpIn
  rw [h.at_]
  simp only
  cases h.way with
  | run hg hd =>
    rw [if_pos (by simp [Region.wanted, hg])]
    exact det_opW (P := P) (c := c) (F := F) hT hE hd nn a w K Q hr fun s' a' w' h1 h2 => hK a' w' (h1 ▸ h2)
  | want j d g hg hd hs he =>
    obtain ⟨π, hm⟩ := id hr
    rw [if_pos (by simp [Region.wanted, hg, hm.yields hd hs])]
    exact det_opW (P := P) (c := c) (F := F) hT hE he nn a w K Q hr fun s' a' w' h1 h2 => hK a' w' (h1 ▸ h2)
  | pass j d g t hg hd hs hne he =>
    obtain ⟨π, hm⟩ := id hr
    rw [if_neg (by simp [Region.wanted, hg, hm.yields hd hs]; exact hne)]
    refine ⟨fun _ _ => trivial, hK _ _ ⟨π, ?_⟩⟩
    have := hm.put o.dst (x := .cst undef) (v := undef) rfl
    rw [he]
    exact this.same (by cases o.dst <;> rfl) (by cases o.dst <;> rfl)
  | skip j d g xs hg hd hs he =>
    obtain ⟨π, hm⟩ := id hr
    rw [if_neg (by simp [Region.wanted, hg, hm.yieldsNot hd hs])]
    refine ⟨fun _ _ => trivial, hK _ _ ⟨π, ?_⟩⟩
    have := hm.put o.dst (x := .cst undef) (v := undef) rfl
    rw [he]
    exact this.same (by cases o.dst <;> rfl) (by cases o.dst <;> rfl)

def rem (n : Nat) (listed : Array Bool) : List Nat := (List.range n).filter fun i => !listed.getD i true

theorem mem_rem {n : Nat} {listed : Array Bool} {i : Nat} : i ∈ rem n listed ↔ i < n ∧ listed.getD i true = false := by
  simp [rem]

theorem rem_split {n : Nat} {listed : Array Bool} {i : Nat} (h : i ∈ rem n listed) (hs : listed.size = n) {A B : List Nat} (e : rem n listed = A ++ i :: B) : (∀ x ∈ A, x < i) ∧ rem n (listed.setIfInBounds i true) = A ++ B := by
  have hp : (rem n listed).Pairwise (· < ·) := List.Pairwise.filter _ List.pairwise_lt_range
  rw [e] at hp
  obtain ⟨h1, h2, h3⟩ := List.pairwise_append.1 hp
  have h4 := List.pairwise_cons.1 h2
  have hin : i < n := (mem_rem.1 h).1
  refine ⟨fun x hx => h3 x hx i (by simp), ?_⟩
  have e2 : rem n (listed.setIfInBounds i true) = (rem n listed).filter fun j => j != i := by
    unfold rem
    rw [List.filter_filter]
    apply List.filter_congr
    intro j hj
    by_cases hji : j = i
    · subst hji
      have : (listed.setIfInBounds j true).getD j true = true := by simp [Array.getD_eq_getD_getElem?, hs, hin]
      simp [this]
    · have : (listed.setIfInBounds i true).getD j true = listed.getD j true := by simp [Array.getD_eq_getD_getElem?, Array.getElem?_setIfInBounds_ne (fun q => hji q.symm)]
      rw [this]
      simp [hji]
  rw [e2, e, List.filter_append, List.filter_cons]
  simp only [bne_self_eq_false, Bool.false_eq_true, if_false]
  have f1 : A.filter (fun j => j != i) = A := List.filter_eq_self.2 fun x hx => by have := h3 x hx i (by simp); simp; omega
  have f2 : B.filter (fun j => j != i) = B := List.filter_eq_self.2 fun x hx => by have := h4.1 x hx; simp; omega
  rw [f1, f2]

/-- What has been listed, its grounds have been too. -/
def ClosedL (ops : Array Oper) (listed : Array Bool) : Prop :=
  ∀ (i : Nat) (o : Oper), ops[i]? = some o → listed.getD i false = true → ∀ ed ∈ o.after, Region.binds .any ed = true → listed.getD ed.on false = true

theorem waitsT_listed {listed : Array Bool} (hc : ClosedL ops listed) : ∀ (f : Nat) (o : Oper) (x : Nat), (∀ ed ∈ o.after, Region.binds .any ed = true → listed.getD ed.on false = true) → waitsT ops f o x = true → listed.getD x false = true
  | 0, _, _, _, h => by simp [waitsT] at h
  | f + 1, o, x, ho, h => by
    simp only [waitsT, List.any_eq_true, Bool.and_eq_true, Bool.or_eq_true, beq_iff_eq] at h
    obtain ⟨ed, hed, hb, h⟩ := h
    have hl := ho ed (by simpa using hed) hb
    rcases h with rfl | h
    · exact hl
    · split at h
      · rename_i oe he
        exact waitsT_listed hc f oe x (hc _ oe he hl) h
      · cases h

theorem getD_setT {listed : Array Bool} {j k : Nat} (h : listed.getD j false = true) : (listed.setIfInBounds k true).getD j false = true := by
  by_cases e : k = j
  · subst e
    have : k < listed.size := by
      by_cases q : k < listed.size
      · exact q
      · simp [Array.getD, q] at h
    simp [Array.getD_eq_getD_getElem?, this]
  · rw [Array.getD_eq_getD_getElem?, Array.getElem?_setIfInBounds_ne e, ← Array.getD_eq_getD_getElem?]; exact h

theorem drawn_any (nn : Nat) (hT : TOK P E.TI) (hE : EnvOk P E) (hd : drawnOk ops = true) {t : TS} {Q : Exit → Act → World → Prop} (hQ : ∀ (a' : Act) (w' : World), Rel c F t a' w' → Q .normal a' w') :
    ∀ (fuel : Nat) (listed : Array Bool) (s : TS) (a : Act) (w : World) (ll : List Lb), listed.size = ops.size → ClosedL ops listed → ll.length ≤ fuel → ll.map Lb.i = rem ops.size listed → RL E ops ll s t → ll.Pairwise (fun x y => okPair ops x.lab y.lab = true) → Rel c F s a w → wpAnyIn c.fen nn P .any ops Q fuel listed a w := by
  simp only [drawnOk, List.all_eq_true, List.mem_range] at hd
  have hready : ∀ (listed : Array Bool), listed.size = ops.size → Region.ready .any ops listed = [] → rem ops.size listed = [] := fun listed hs hr => by
    cases e : rem ops.size listed with
    | nil => rfl
    | cons i l =>
      exfalso
      have hi : i ∈ rem ops.size listed := by rw [e]; simp
      obtain ⟨h1, h2⟩ := mem_rem.1 hi
      have ho : ops[i]? = some ops[i] := Array.getElem?_eq_getElem h1
      have : i ∈ Region.ready .any ops listed := by
        refine mem_ready.2 ⟨h2, ops[i], ho, fun ed hed hb => ?_⟩
        have hdi := hd i h1
        rw [ho] at hdi
        simp only [List.all_eq_true, Bool.or_eq_true, decide_eq_true_eq] at hdi
        have hlt : ed.on < i := (hdi ed (by simpa using hed)).resolve_left (by rw [hb]; simp)
        cases hl : listed.getD ed.on true with
        | true =>
          have hon : ed.on < listed.size := by omega
          have e5 : listed.getD ed.on false = listed.getD ed.on true := by simp [Array.getD, hon]
          rw [e5, hl]
        | false =>
          have hm : ed.on ∈ rem ops.size listed := mem_rem.2 ⟨by omega, hl⟩
          have hp : (rem ops.size listed).Pairwise (· < ·) := List.Pairwise.filter _ List.pairwise_lt_range
          rw [e] at hm hp
          rcases List.mem_cons.1 hm with q | q
          · omega
          · have := (List.pairwise_cons.1 hp).1 _ q; omega
      rw [hr] at this; cases this
  have hend : ∀ {s : TS} {a : Act} {w : World}, RL E ops [] s t → Rel c F s a w → Q .normal a w := fun h hr => by
    cases h with
    | nil h => obtain ⟨π, hm⟩ := hr; exact hQ _ _ ⟨π, hm.same h.sl.symm h.ob.symm⟩
  intro fuel
  induction fuel with
  | zero =>
    intro listed s a w ll hs hc hlen hl h hp hr
    have e0 : ll = [] := List.eq_nil_of_length_eq_zero (by omega)
    subst e0
    have e : rem ops.size listed = [] := hl.symm
    refine ⟨?_, hend h hr⟩
    cases er : Region.ready .any ops listed with
    | nil => rfl
    | cons i l =>
      have hi : i ∈ Region.ready .any ops listed := by rw [er]; simp
      obtain ⟨h1, o, h2, _⟩ := mem_ready.1 hi
      have : i ∈ rem ops.size listed := mem_rem.2 ⟨(Array.getElem?_eq_some_iff.1 h2).1, h1⟩
      rw [e] at this; cases this
  | succ fuel ih =>
    intro listed s a w ll hs hc hlen hl h hp hr
    refine ⟨fun hn => ?_, fun i hi => ?_⟩
    · have e0 : ll = [] := List.eq_nil_of_length_eq_zero (by rw [← List.length_map (f := Lb.i), hl, hready listed hs hn]; rfl)
      subst e0
      exact hend h hr
    · obtain ⟨h1, o, h2, h3⟩ := mem_ready.1 hi
      have hlt : i < ops.size := (Array.getElem?_eq_some_iff.1 h2).1
      have hmr : i ∈ rem ops.size listed := mem_rem.2 ⟨hlt, h1⟩
      have hml : i ∈ ll.map Lb.i := by rw [hl]; exact hmr
      obtain ⟨x, hx, rfl⟩ := List.mem_map.1 hml
      obtain ⟨pre, post, rfl⟩ := List.append_of_mem hx
      have hrem : rem ops.size listed = pre.map Lb.i ++ x.i :: post.map Lb.i := by rw [← hl]; simp
      obtain ⟨e2, e3⟩ := rem_split hmr hs hrem
      have hpp := List.pairwise_append.1 hp
      have hall : ∀ y ∈ pre, ∃ oy ox, ops[y.i]? = some oy ∧ ops[x.i]? = some ox ∧ apt ops oy ox = true ∧ disj (y.e.u.map (·.1)) x.rd = true ∧ disj (y.e.u.map (·.1)) (x.e.u.map (·.1)) = true ∧ disj (x.e.u.map (·.1)) y.rd = true := fun y hy => by
        have hyx := hpp.2.2 y hy x (by simp)
        simp only [okPair, Lb.lab, h2] at hyx
        split at hyx
        · rename_i oy ox g1 g2
          obtain rfl := Option.some.inj g2
          simp only [Bool.or_eq_true, Bool.and_eq_true] at hyx
          have hym : y.i ∈ rem ops.size listed := by rw [hrem]; simp only [List.mem_append, List.mem_map]; exact .inl ⟨y, hy, rfl⟩
          have hun : listed.getD y.i true = false := (mem_rem.1 hym).2
          have hxs : y.i < listed.size := by have := (mem_rem.1 hym).1; omega
          have e5 : listed.getD y.i false = listed.getD y.i true := by simp [Array.getD, hxs]
          rcases hyx with (hyx | hyx) | hyx
          rotate_left 2
          · have := waitsT_listed hc 4 _ _ (fun ed hed hb => h3 ed hed hb) hyx
            rw [e5, hun] at this; cases this
          · exfalso
            simp only [waits, List.any_eq_true, Bool.and_eq_true, beq_iff_eq] at hyx
            obtain ⟨ed, hed, q1, q2⟩ := hyx
            have hl' := h3 ed (by simpa using hed) q2
            rw [q1] at hl'
            rw [e5, hun] at hl'; cases hl'
          · exact ⟨oy, _, g1, h2, hyx.1.1.1, hyx.1.1.2, hyx.1.2, hyx.2⟩
        · cases hyx
      have h4 := RL.bubble hE pre hall h
      cases h4 with
      | cons hd4 hr4 =>
        refine hd4.wp hT hE hr nn fun a' w' hr' => ?_
        refine ih (listed.setIfInBounds x.i true) _ a' w' (pre ++ post) (by simpa using hs) ?_ ?_ ?_ hr4 ?_ hr'
        · intro i oi hi hli ed hed hb
          by_cases e : x.i = i
          · subst e
            obtain rfl := Option.some.inj (h2.symm.trans hi)
            exact getD_setT (h3 ed hed hb)
          · rw [Array.getD_eq_getD_getElem?, Array.getElem?_setIfInBounds_ne e, ← Array.getD_eq_getD_getElem?] at hli
            exact getD_setT (hc i oi hi hli ed hed hb)
        · simp only [List.length_append, List.length_cons] at hlen ⊢; omega
        · rw [e3]; simp
        · exact List.pairwise_append.2 ⟨hpp.1, (List.pairwise_cons.1 hpp.2.1).2, fun y hy z hz => hpp.2.2 y hy z (by simp [hz])⟩

theorem pdrawn (hmix : P.follows .mixedOrders = true) (hT : TOK P E.TI) (hE : EnvOk P E) {id : Nat} {s : TS} (hd : drawnOk ops = true) {α : Type} {k : TS → Option α} {r : α} (h : prun E ops 0 ops.toList [] s k = some r) : PWP P c F (.region id ops true) (fun e p => e = .normal ∧ k p = some r) s := fun nn a w ⟨Ds, hD, π, hm⟩ => by
  obtain ⟨ll, t, e1, e2, e3, e4, _⟩ := prun_RL (ops := ops) hT hE ops.toList 0 [] s (fun j => by simp) h
  refine wpIn_region_any hmix ?_
  refine drawn_any (c := c.add Ds) (F := but F Ds) nn hT hE hd (t := t) (fun a' w' hr => ⟨t, ⟨rfl, e3⟩, Ds, hD, hr⟩) ops.size _ s a _ ll (by simp) (fun i oi hi hli => by simp [Array.getD_eq_getD_getElem?, Array.getElem?_replicate] at hli; split at hli <;> simp_all) ?_ ?_ e2 e4 ⟨π, hm.drew⟩
  · have : ll.length = (ll.map Lb.i).length := (List.length_map ..).symm
    rw [this, e1]; simp
  · rw [e1]
    unfold rem
    rw [List.filter_eq_self.2]
    · simp [List.range_eq_range']
    · intro i hi
      have : i < ops.size := by simpa using hi
      simp [Array.getD_eq_getD_getElem?, this]

end
end Go.Proofs.YtbjfbbfglkmadaaDoor
