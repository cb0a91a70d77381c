/-
  Lifting Go functions to plain Lean functions, part T: code is sound; functions.
-/
import Derived.Test.YtbjfbbfglkmadaaDoorQS
import Derived.Test.YtbjfbbfglkmadaaDoorQY
namespace Go.Proofs.YtbjfbbfglkmadaaDoor
open Go.RowKit
set_option linter.unusedVariables false

section
variable {P : Program} {E : Env} {c : Cx} {F : Nat → Prop} {s : TS} {α : Type}

def KE (k : Exit → TS → Option α) (r : α) : Exit → TS → Prop := fun e s => k e s = some r

theorem norm_rel {pp : List Nat} (hpin : ∀ id p, c.pin id = some p → pinQ pp id = true) {nm : Norm} {s' : TS} (h : s.normP pp nm = some s') {a : Act} {w : World} (hr : Rel c F s a w) : Rel c F s' a w := by
  obtain ⟨π, hm⟩ := hr
  exact norm_ok hpin h hm

theorem loopK_ok {pp : List Nat} (hpin : ∀ id p, c.pin id = some p → pinQ pp id = true) {x : Code} {body : TS → Kont α → Option α} (hbody : ∀ {s k r}, body s k = some r → PWP P c F x (KE k r) s) {nm : Norm} {N : Nat} {s1 : TS} {k : Kont α} {r : α} (hs : s.normP pp nm = some s1) (h : loopK body (TS.normP pp nm) k N s1 = some r) :
    PWP P c F (.loop x) (KE k r) s := by
  refine ploop (fun n s' => ∃ s1, s'.normP pp nm = some s1 ∧ loopK body (TS.normP pp nm) k n s1 = some r) N ⟨s1, hs, h⟩ fun n s' ⟨s1, hs1, h2⟩ => ?_
  cases n with
  | zero => cases h2
  | succ n =>
    simp only [loopK] at h2
    refine fun nn a w ⟨Ds, hD, hr⟩ => ((hbody h2).mono fun e s2 q3 => ?_) nn a w ⟨Ds, hD, norm_rel (c := c.add Ds) hpin hs1 hr⟩
    cases e with
    | normal =>
      simp only [KE, kloop] at q3
      split at q3
      · rename_i s3 hs3; exact ⟨n, Nat.lt_succ_self n, s3, hs3, q3⟩
      · cases q3
    | exit i => exact q3
    | ret => exact q3
    | goto i => cases q3
    | panic c => cases q3
    | outgrown => cases q3

theorem keepB_ok {O O' : List (Nat × TO)} (h : keepB O O' = true) : keepOk O O' := fun id o ho o' ho' => by
  have := List.all_eq_true.1 h (id, o) (tlook_mem ho)
  simp only [ho', Bool.or_eq_true] at this
  rcases this with q | q
  · exact .inl q
  · cases o' <;> first | exact .inr rfl | cases q

theorem pinQ_of {O : List (Nat × TO)} {c : Cx} (h : ∀ id q, c.pin id = some q → ∃ o, tlook O id = some o) : ∀ id p, c.pin id = some p → pinQ (O.map (·.1)) id = true := fun id p hp => by
  obtain ⟨o, ho⟩ := h id p hp
  have : (O.map (·.1)).contains id = true := List.contains_iff_mem.2 (List.mem_map.2 ⟨_, tlook_mem ho, rfl⟩)
  rw [pinQ, this, Bool.or_true]

theorem denP_ok [Jn α] (hmix : P.follows .mixedOrders = true) (hT : TOK P E.TI) (hE : EnvOk P E) (hQ : SeqsOk P E.seq) {lv : Nat → Option Norm} (N : Nat) : ∀ (x : Code) {pp : List Nat} {c : Cx} {F : Nat → Prop}, (∀ id p, c.pin id = some p → pinQ pp id = true) → CxOk c → ∀ {s : TS} {k : Kont α} {r : α}, denP E lv N x pp s k = some r → PWP P c F x (KE k r) s := by
  intro x
  induction x with
  | skip => intro pp c F hpin hcx s k r h; exact pskip h
  | region id ops dr =>
    intro pp c F hpin hcx s0 k r h0
    simp only [denP] at h0
    split at h0
    rotate_left
    · cases h0
    rename_i s hpre
    refine pweak (s' := s) (fun Ds a w ⟨π, hm⟩ => ?_) ?_
    · unfold preR at hpre
      split at hpre
      · exact ⟨π, boxFz_ok (c := c.add Ds) hpin hpre hm⟩
      · obtain rfl := Option.some.inj hpre; exact ⟨π, hm⟩
    have h := h0
    clear h0
    cases dr with
    | true =>
      have h0 : (if drawnOk ops then prun E ops 0 ops.toList [] s fun s' => k .normal s' else none) = some r := h
      clear h
      split at h0
      · rename_i hd
        exact (pdrawn hmix hT hE hd h0).mono fun e p ⟨e1, q⟩ => by subst e1; exact q
      · cases h0
    | false =>
      have h' : rops E ops ops.toList s (fun s' => k .normal s') = some r := h
      have := pregion (P := P) (c := c) (F := F) (s := s) (id := id) (Q := KE k r) (l := ops.toList) (fun Ds => by
        have h2 := rops_ok (P := P) (c := c.add Ds) (F := but F Ds) hT hE ops.toList h'
        rw [Array.toArray_toList]
        exact h2)
      rw [Array.toArray_toList] at this
      exact this
  | seq a b iha ihb =>
    intro pp c F hpin hcx s k r h
    refine pseq ((iha hpin hcx h).mono fun e s' q => ?_)
    cases e with
    | normal => exact ihb hpin hcx q
    | exit i => exact q
    | ret => exact q
    | goto i => cases q
    | panic c => cases q
    | outgrown => cases q
  | cond q a b iha ihb =>
    intro pp c F hpin hcx s k r h
    simp only [denP] at h
    split at h
    · rename_i t ht
      refine pcond ht (fun e => ?_) (fun e => ?_)
      · subst e
        simp only [cond_true] at h
        rw [TS.lit_eq ht] at h
        exact iha hpin hcx h
      · subst e
        simp only [cond_false] at h
        rw [TS.lit_eq ht] at h
        exact ihb hpin hcx h
    · cases h
  | block id a iha =>
    intro pp c F hpin hcx s k r h
    refine pblock ((iha hpin hcx h).mono fun e s' q => ?_)
    cases e with
    | exit i =>
      simp only [KE, kblk, inBlk] at q
      simp only [PBlock]
      split
      · rename_i hi; rw [if_pos hi] at q; exact q
      · rename_i hi; rw [if_neg hi] at q; exact q
    | normal => exact q
    | ret => exact q
    | goto i => exact q
    | panic c => exact q
    | outgrown => exact q
  | loop a iha =>
    intro pp c F hpin hcx s k r h
    simp only [denP] at h
    split at h
    · split at h
      · rename_i hs; exact loopK_ok hpin (fun hh => iha hpin hcx hh) hs h
      · cases h
    · cases h
  | rangeFunc g ps as_ b iha ihb =>
    intro pp c F hpin hcx s k r h
    simp only [denP] at h
    split at h
    rotate_left
    · cases h
    rename_i nm p hnm hps
    have hps' : ps = #[p] := by apply Array.ext'; simpa using hps
    subst hps'
    split at h
    rotate_left
    · cases h
    rename_i s1 hs1
    split at h
    rotate_left
    · cases h
    rename_i bb t xs hseq
    obtain ⟨hbb, h⟩ := chk_some h
    subst hbb
    obtain ⟨gf, nn, f, e1, e2, e3⟩ := hQ _ _ _ hseq
    refine pweak (s' := s1) (fun Ds a w hr => norm_rel (c := c.add Ds) hpin hs1 hr) ?_
    refine prange (nn := nn) (fv := f) (xs := xs) e1 e2 e3 hcx (fun s s' => s.normP pp nm = some s') (fun c2 F2 s s' a w hp hw hr => norm_rel (c := c2) (F := F2) (fun id q hq => hpin id q (by rw [← hp]; exact hq)) hw hr)
      (fun j s => seqK (fun x s1 K => roundK (denP E lv N as_) (denP E lv N b) p (.dv t x) s1 K) (TS.normP pp nm) k (xs.drop j) s = some r) (by rw [List.drop_zero]; exact h) (fun j x s2 hI hx c2 F2 hp2 hcx2 => ?_) (fun s2 hI => ?_)
    · have hd : xs.drop j = x :: xs.drop (j + 1) := by
        obtain ⟨hj, rfl⟩ := List.getElem?_eq_some_iff.1 hx
        exact List.drop_eq_getElem_cons hj
      rw [hd] at hI
      simp only [seqK, roundK] at hI
      refine (iha (pinQ_of hp2) hcx2 hI).mono fun e s3 hq => ?_
      cases e with
      | normal =>
        simp only [KE] at hq
        split at hq
        · rename_i hk2
          refine ⟨rfl, keepB_ok hk2, fun c3 F3 hp3 hcx3 => (ihb (pinQ_of hp3) hcx3 hq).mono fun e s4 hq4 => ?_⟩
          simp only [KE] at hq4
          split at hq4
          · rename_i hk3
            cases e with
            | normal =>
              simp only at hq4
              split at hq4
              · rename_i s5 hs5; exact ⟨keepB_ok hk3, s5, hs5, hq4⟩
              · cases hq4
            | ret => exact ⟨keepB_ok hk3, hq4⟩
            | exit i => exact ⟨keepB_ok hk3, hq4⟩
            | goto i => cases hq4
            | panic ch => cases hq4
            | outgrown => cases hq4
          · cases hq4
        · cases hq
      | exit i => cases hq
      | ret => cases hq
      | goto i => cases hq
      | panic ch => cases hq
      | outgrown => cases hq
    · rw [List.drop_length] at hI
      exact hI
  | exit id => intro pp c F hpin hcx s k r h; exact pexit h
  | ret => intro pp c F hpin hcx s k r h; exact pret h
  | _ => intro pp c F hpin hcx s k r h; cases h

theorem RelM.extL {π : Nat → Pl} {w : World} : ∀ {l : List TV} {vs : List Value} {s : TS} {a : Act}, RelM c F π s a w → vs.length = l.length → (∀ (i : Nat) (x : TV) (v : Value), l[i]? = some x → vs[i]? = some v → VR w (Gz F w π (tlook s.ob)) π (tlook s.ob) x v) →
    RelM c F π ⟨s.sl ++ l, s.ob⟩ { a with tmps := (a.tmps.toList ++ vs).toArray } w
  | [], vs, s, a, hm, hl, _ => by
    have : vs = [] := List.eq_nil_of_length_eq_zero (by simpa using hl)
    subst this
    simpa using hm
  | x :: l, [], s, a, hm, hl, _ => by simp at hl
  | x :: l, v :: vs, s, a, hm, hl, h => by
    have h1 := hm.ext (x := x) (v := v) (h 0 x v rfl rfl)
    have h2 := RelM.extL (l := l) (vs := vs) h1 (by simpa using hl) fun i y u hy hu => h (i + 1) y u (by simpa using hy) (by simpa using hu)
    simpa using h2

theorem run_mapM {P : Program} {w : World} {f : ResultVar → Sem Value} : ∀ {rs : List ResultVar} {vs : List Value}, vs.length = rs.length → (∀ (i : Nat) (r : ResultVar) (v : Value), rs[i]? = some r → vs[i]? = some v → (f r).run P w = .ok v w) → (rs.mapM f).run P w = .ok vs w
  | [], vs, h, _ => by
    have : vs = [] := List.eq_nil_of_length_eq_zero (by simpa using h)
    subst this; rfl
  | r :: rs, [], h, _ => by simp at h
  | r :: rs, v :: vs, h, hv => by
    have h1 := hv 0 r v rfl rfl
    have h2 := run_mapM (P := P) (w := w) (f := f) (rs := rs) (vs := vs) (by simpa using h) fun i q u hq hu => hv (i + 1) q u (by simpa using hq) (by simpa using hu)
    simp only [List.mapM_cons, Sem.run_bind, h1, Result.andThen_ok, h2, Sem.run_pure]

theorem results_of {fn : Func} {rs : List ResultVar} (hrs : fn.results = rs.toArray) {tmps : Array Value} {w : World} {vs : List Value} (hl : vs.length = rs.length) (hv : ∀ (i : Nat) (r : ResultVar) (v : Value), rs[i]? = some r → vs[i]? = some v → rdV P tmps w r v) :
    (results fn tmps).run P w = .ok (if h : vs.toArray.size = 1 then vs.toArray[0] else .tuple vs.toArray) w := by
  unfold results
  rw [hrs]
  simp only [List.mapM_toArray, Sem.run_bind]
  have : ∀ f : ResultVar → Sem Value, (∀ (i : Nat) (r : ResultVar) (v : Value), rs[i]? = some r → vs[i]? = some v → (f r).run P w = .ok v w) → (List.toArray <$> rs.mapM f).run P w = .ok vs.toArray w := fun f hf => by
    have e : (List.toArray <$> rs.mapM f : Sem (Array Value)) = (do pure (← rs.mapM f).toArray) := by simp
    rw [e, Sem.run_bind, run_mapM hl hf]
    rfl
  rw [this _ fun i r v hr hv' => by
    have := hv i r v hr hv'
    cases r with
    | tmp t => have e : v = _ := this; subst e; rfl
    | cell t T => exact this]
  rfl

/-- What is read at a function's end. -/
def FinR (TI : Nat → TD) (en : End) (rs : List ResultVar) (s : TS) (l : List TV) (O' : List (Nat × TO)) : Prop :=
  ∃ l0 s0 s1, resM TI s rs = some l0 ∧ toData en.rsp ⟨s.sl ++ l0, s.ob⟩ = some (s0, true) ∧ s0.norm en.nm = some s1 ∧ l = s1.sl.drop s.sl.length ∧ O' = s1.ob

theorem finS_R {TI : Nat → TD} {en : End} {rs : List ResultVar} {dec : List TV → List (Nat × TO) → Option α} {r : α} (h : finS TI en rs dec s = some r) : ∃ l O', FinR TI en rs s l O' ∧ dec l O' = some r := by
  unfold finS at h
  split at h
  · rename_i l hl
    split at h
    · rename_i s0 b h0
      obtain ⟨hb, h⟩ := chk_some h
      subst hb
      split at h
      · rename_i s1 h1; exact ⟨_, _, ⟨l, s0, s1, hl, h0, h1, rfl, rfl⟩, h⟩
      · cases h
    · cases h
  · cases h

theorem setData_len : ∀ {rsp : List (Nat × DT)} {s s' : TS} {b : Bool}, setData rsp s = some (s', b) → s'.sl.length = s.sl.length
  | [], s, s', b, h => by
    simp only [setData, Option.some.injEq, Prod.mk.injEq] at h
    rw [← h.1]
  | (i, t) :: r, s, s', b, h => by
    simp only [setData] at h
    split at h
    · split at h
      · split at h
        · rename_i hr
          simp only [Option.some.injEq, Prod.mk.injEq] at h
          obtain ⟨rfl, _⟩ := h
          rw [setData_len hr]; simp
        · cases h
      · cases h
    · cases h

theorem cutAt_len (i : Nat) (s : TS) : (cutAt i s).sl.length = s.sl.length := by
  unfold cutAt
  split
  · split <;> simp
  · rfl

theorem cutView_len (i : Nat) (t : DT) (s : TS) : (cutView i t s).sl.length = s.sl.length := by
  unfold cutView
  split
  · split
    · split
      · split <;> simp
      · rfl
    · rfl
  · rfl

theorem cutAll_len : ∀ {rsp : List (Nat × DT)} {s : TS}, (cutAll rsp s).sl.length = s.sl.length
  | [], s => rfl
  | (i, t) :: r, s => by
    cases t <;> first | exact (cutAll_len (rsp := r) (s := cutView i _ (cutAt i s))).trans ((cutView_len i _ _).trans (cutAt_len i s)) | exact (cutAll_len (rsp := r) (s := cutAt i s)).trans (cutAt_len i s)

theorem toData_len {rsp : List (Nat × DT)} {s s' : TS} {b : Bool} (h : toData rsp s = some (s', b)) : s'.sl.length = s.sl.length :=
  (setData_len h).trans cutAll_len

theorem norm0_len {pp : List Nat} {nm : Norm} {s s' : TS} (h : s.norm0 pp nm = some s') : s'.sl.length = s.sl.length := by
  unfold TS.norm0 at h
  split at h
  · split at h
    · split at h
      · obtain rfl := Option.some.inj h; exact normSlots_len _ _ _ _
      · cases h
    · cases h
  · cases h

theorem norm_len {nm : Norm} {s s' : TS} (h : s.norm nm = some s') : s'.sl.length = s.sl.length := by
  unfold TS.norm TS.normP at h
  split at h
  · exact norm0_len h
  · split at h
    · rename_i s0 h0; exact (norm0_len h).trans (toData_len h0)
    · cases h

theorem tupOf_VR {w : World} {G : Nat → Prop} {π : Nat → Pl} {O : Obs} {l : List TV} {vs : List Value} (hl : vs.length = l.length) (h : ∀ (i : Nat) (x : TV) (v : Value), l[i]? = some x → vs[i]? = some v → VR w G π O x v) :
    VR w G π O (tupOf l) (if h : vs.toArray.size = 1 then vs.toArray[0] else .tuple vs.toArray) := by
  have gen : ∀ {l : List TV} {vs : List Value}, vs.length = l.length → (∀ (i : Nat) (x : TV) (v : Value), l[i]? = some x → vs[i]? = some v → VR w G π O x v) → VR w G π O (.tup l.length fun i => l.getD i .any) (.tuple vs.toArray) := fun {l vs} hl h => by
    refine ⟨vs.toArray, rfl, by simpa using hl, fun j hj => ?_⟩
    have hj' : j < vs.length := by omega
    refine ⟨vs[j], by simp [hj'], ?_⟩
    have := h j l[j] vs[j] (by simp [hj]) (by simp [hj'])
    simpa [List.getD, hj] using this
  match l, vs, hl with
  | [], [], _ => exact gen rfl h
  | [x], [v], _ => exact h 0 x v rfl rfl
  | x :: y :: r, v :: u :: vs, hl =>
    have := gen hl h
    simpa [tupOf] using this

theorem finR_ok (hT : TOK P E.TI) (hpin : ∀ id p, c.pin id = some p → pinR id = true) {fn : Func} {en : End} {rs : List ResultVar} (hrs : fn.results = rs.toArray) {l : List TV} {O' : List (Nat × TO)} (h : FinR E.TI en rs s l O') {π : Nat → Pl} {a : Act} {w : World} (hm : RelM c F π s a w) :
    ∃ v π' s1 a1, (results fn a.tmps).run P w = .ok v w ∧ RelM c F π' s1 a1 w ∧ s1.ob = O' ∧ VR w (Gz F w π' (tlook O')) π' (tlook O') (tupOf l) v := by
  obtain ⟨l0, s0, s1, h1, h2, h3, rfl, rfl⟩ := h
  obtain ⟨vs, a1, a2, a3, a4⟩ := resM_ok (P := P) hT hm h1
  have hx := RelM.extL hm a1 a4
  have hd := toData_ok h2 rfl hx
  obtain ⟨π', hn⟩ := norm_ok (pp := []) (fun id p hp => by rw [pinQ, hpin id p hp, Bool.true_or]) h3 hd
  refine ⟨_, π', s1, _, results_of hrs a2 a3, hn, rfl, ?_⟩
  have hlen : s1.sl.length = s.sl.length + l0.length := by rw [norm_len h3, toData_len h2]; simp
  refine tupOf_VR (by simp [hlen]; omega) fun i x v hx' hv => ?_
  have hsz := hm.size
  have hi : i < vs.length := (List.getElem?_eq_some_iff.1 hv).1
  have := hn.slot (s.sl.length + i) x (by rw [← hx']; simp)
  have e : ((a.tmps.toList ++ vs).toArray).getD (s.sl.length + i) undef = v := by
    have : (a.tmps.toList ++ vs)[s.sl.length + i]? = some v := by
      rw [List.getElem?_append_right (by simp [hsz])]
      rw [← hv]; congr 1; simp [hsz]
    simp [Array.getD_eq_getD_getElem?, this]
  rw [e] at this
  exact this

def pinAll (O : List (Nat × TO)) : Bool := O.all fun p => pinR p.1 && p.2.live

/-- FROM THE RECKONING TO THE CONTRACT. -/
theorem callF_ok [Jn α] (hmix : P.follows .mixedOrders = true) (hT : TOK P E.TI) (hE : EnvOk P E) (hQ : SeqsOk P E.seq) {f : FuncId} {fn : Func} {x : Code} {rs : List ResultVar} {args : List TV} {O : List (Nat × TO)} {lv : Nat → Option Norm} {N nt : Nat} {en : End} {dec : List TV → List (Nat × TO) → Option α} {r : α}
    (hf : P.funcs[f]? = some fn) (hb : fn.body = some x) (hrs : fn.results = rs.toArray) (hname : (fn.name == "runtime.NumGoroutine") = false) (hn : fn.ntmps = args.length + nt) (hO : pinAll O = true)
    (h : callF E lv N en x rs nt args O dec = some r) : HSpec P f args O fun rv O' => ∃ l, rv = tupOf l ∧ dec l O' = some r := by
  simp only [pinAll, List.all_eq_true, Bool.and_eq_true] at hO
  have hpin0 : ∀ (c : Cx), (∀ id p, c.pin id = some p → ∃ o, tlook O id = some o) → ∀ id p, c.pin id = some p → pinR id = true := fun c hc id p hp => by
    obtain ⟨o, ho⟩ := hc id p hp
    exact (hO (id, o) (tlook_mem ho)).1
  refine HSpec.of (R := fun s l O' => FinR E.TI en rs s l O') hf hb (fun s l O' hR c hc F π a w hm => finR_ok hT (hpin0 c hc) hrs hR hm) hname hn (fun id o ho => (hO (id, o) (tlook_mem ho)).2) fun c F hrnd hno hc => ?_
  have hpin := hpin0 c hc
  refine fun nn a w hr => wpIn_mono (denP_ok (pp := []) (c := c) (F := F) hmix hT hE hQ N x (fun id p hp => by rw [pinQ, hpin id p hp, Bool.true_or]) ⟨hno, fun l e => by rw [hrnd] at e; cases e⟩ h nn a w hr) fun e a' w' ⟨s', h1, h2⟩ => ?_
  have key : finS E.TI en rs dec s' = some r → ∃ l O', FinR E.TI en rs s' l O' ∧ ∃ l', tupOf l = tupOf l' ∧ dec l' O' = some r := fun h => by
    obtain ⟨l, O', q1, q2⟩ := finS_R h
    exact ⟨l, O', q1, l, rfl, q2⟩
  cases e with
  | normal => exact ⟨s', ⟨.inl rfl, key h1⟩, h2⟩
  | ret => exact ⟨s', ⟨.inr rfl, key h1⟩, h2⟩
  | exit i => cases h1
  | goto i => cases h1
  | panic c => cases h1
  | outgrown => cases h1

/-- What is told of a function is so. -/
def FnOk (P : Program) (f : Nat) (c : FnC) : Prop := ∀ args Of x, c.ans args Of = some x → HSpec P f args Of fun r O' => r = c.enc args Of x ∧ O' = c.obs args Of x

theorem envOk_ofw {TI : Nat → TD} {TY : Nat → DT} {L : List (Nat × FnC)} {rc : Nat → Option (List (Option DT))} {fz : Nat → Bool} {tw : Nat → Option Nat} (h : ∀ p ∈ L, FnOk P p.1 p.2) : EnvOk P (mkEw TI TY L rc fz tw) := by
  intro g args Of α k res hres
  simp only [mkEw, mkE] at hres ⊢
  induction L with
  | nil => cases hres
  | cons p r ih =>
    obtain ⟨i, c⟩ := p
    have ih' := ih fun p hp => h p (by simp [hp])
    simp only [phiL] at hres ⊢
    by_cases e : g = i
    · simp only [if_pos e] at hres ⊢
      cases hx : c.ans args Of with
      | none => simp only [hx] at hres ⊢; exact ih' hres
      | some x =>
        simp only [hx] at hres ⊢
        subst e
        exact ⟨c.enc args Of x, c.obs args Of x, hres, fun β k' => rfl, h (g, c) (by simp) args Of x hx⟩
    · simp only [if_neg e] at hres ⊢; exact ih' hres

theorem envOk_of {TI : Nat → TD} {TY : Nat → DT} {L : List (Nat × FnC)} {rc : Nat → Option (List (Option DT))} {fz : Nat → Bool} (h : ∀ p ∈ L, FnOk P p.1 p.2) : EnvOk P (mkE TI TY L rc fz) :=
  envOk_ofw (tw := fun _ => none) h

end
end Go.Proofs.YtbjfbbfglkmadaaDoor
