/-
 Lifting Go functions to plain Lean functions, parts T U TI TY W V.
-/
import Derived.Test.YtfopcfnggdonkaaDoorYE
import Derived.ChangeKeysEq
import Derived.Test.YtfopcfnggdonkaaDoorRows
namespace Go.Proofs.YtfopcfnggdonkaaDoor
open Go.RowKit
set_option linter.unusedVariables false

section
section
variable {P : Program} {E : Env} {c : Cx} {F : Nat → Prop} {s : TS} {α : Type}

def KE (k : Exit → TS → Option α) (r : α) : Exit → TS → Prop := fun e s => k e s = some r
theorem norm_rel {pp : List Nat} (hpin : ∀ id p, c.pin id = some p → pinQ pp id = true) {nm : Norm} {s' : TS} (h : s.normP pp nm = some s') {a : Act} {w : World} (hr : Rel c F s a w) : Rel c F s' a w := by
 obtain ⟨π, hm⟩ := hr
 exact norm_ok hpin h hm
theorem loopK_ok {pp : List Nat} (hpin : ∀ id p, c.pin id = some p → pinQ pp id = true) {x : Code} {body : TS → Kont α → Option α} (hbody : ∀ {s k r}, body s k = some r → PWP P c F x (KE k r) s) {nm : Norm} {N : Nat} {s1 : TS} {k : Kont α} {r : α} (hs : s.normP pp nm = some s1) (h : loopK body (TS.normP pp nm) k N s1 = some r) :
  PWP P c F (.loop x) (KE k r) s := by
 refine ploop (fun n s' => ∃ s1, s'.normP pp nm = some s1 ∧ loopK body (TS.normP pp nm) k n s1 = some r) N ⟨s1, hs, h⟩ fun n s' ⟨s1, hs1, h2⟩ => ?_
 cases n with
 | zero => cases h2
 | succ n =>
  simp only [loopK] at h2
  refine fun nn a w ⟨Ds, hD, hr⟩ => ((hbody h2).mono fun e s2 q3 => ?_) nn a w ⟨Ds, hD, norm_rel (c := c.add Ds) hpin hs1 hr⟩
  cases e with
  | normal =>
   simp only [KE, kloop] at q3
   split at q3
   ·rename_i s3 hs3; exact ⟨n, Nat.lt_succ_self n, s3, hs3, q3⟩
   ·cases q3
  | exit i => exact q3
  | ret => exact q3
  | goto i => exact q3
  | panic c => cases q3
  | outgrown => cases q3
theorem stepR_scope {P : Program} {b : Go.Frame} {a : Act} {k : List Item} {cs : List Go.Frame} {w : World} {x : Code} : step P (lone (b.atR a (.code (.scope x) :: k)) cs w) = .next (lone (b.atR a (.code x :: .inScope x :: k)) cs w) :=
 step_lone_go (by simp [stepG, stepG.exec, Frame.atR])
theorem stepR_inScope {P : Program} {b : Go.Frame} {a : Act} {k : List Item} {cs : List Go.Frame} {w : World} {x : Code} : step P (lone (b.atR a (.inScope x :: k)) cs w) = .next (lone (b.atR a k) cs w) :=
 step_lone_go (by simp [stepG, stepG.exec, Frame.atR])
theorem wpIn_scope {P : Program} {F : Fence} {n : Nat} {Q : Exit → Act → World → Prop} {a : Act} {w : World} {x : Code} (h : x.wpIn F n P (Exit.noGoto Q) a w) : (Code.scope x).wpIn F n P Q a w := by
 intro b k cs hro hb hr
 have h0 : (lone (b.atR a (.code (.scope x) :: k)) cs w).fenced P F := fenced_calm hb hr rfl
 obtain ⟨e, a₁, w₁, hq, harr⟩ := h b (.inScope x :: k) cs hro hb hr
 cases e with
 | normal => exact ⟨.normal, a₁, w₁, hq, .head h0 stepR_scope (StepsIn.trans harr (.one (fenced_calm hb hr rfl) stepR_inScope))⟩
 | exit id' =>
  have hx : exitTo id' (.inScope x :: k) = exitTo id' k := by simp [exitTo]
  exact ⟨.exit id', a₁, w₁, hq, fun k' hk => .head h0 stepR_scope (harr.1 k' (by rw [hx]; exact hk)),
   fun hr' hk => let ⟨k₁, h1, h2⟩ := harr.2 hr' (by rw [hx]; exact hk); ⟨k₁, h1, .head h0 stepR_scope h2⟩⟩
 | goto l => exact hq.elim
 | ret => exact ⟨_, a₁, w₁, hq, .of_steps (.one h0 stepR_scope) harr⟩
 | panic ch => exact ⟨_, a₁, w₁, hq, .of_steps (.one h0 stepR_scope) harr⟩
 | outgrown => exact ⟨_, a₁, w₁, hq, .of_steps (.one h0 stepR_scope) harr⟩
theorem denP_ok [Jn α] (hmix : P.follows .mixedOrders = true) (hT : TOK P E.TI) (hE : EnvOk P E) (hQ : SeqsOk P E.seq) {lv : Nat → Option Norm} (N : Nat) : ∀ (x : Code) {pp : List Nat} {c : Cx} {F : Nat → Prop}, (∀ id p, c.pin id = some p → pinQ pp id = true) → CxOk c → ∀ {s : TS} {k : Kont α} {r : α}, denP E lv N x pp s k = some r → PWP P c F x (KE k r) s := by
 intro x
 induction x with
 | skip => intro pp c F hpin hcx s k r h; exact pskip h
 | region id ops dr =>
  intro pp c F hpin hcx s0 k r h0
  simp only [denP] at h0
  split at h0
  rotate_left
  ·cases h0
  rename_i s hpre
  refine pweak (s' := s) (fun Ds a w ⟨π, hm⟩ => ?_) ?_
  ·unfold preR at hpre
   split at hpre
   ·split at hpre
    ·exact ⟨π, boxFz_ok (c := c.add Ds) hpin hpre hm⟩
    ·exact norm_rel (c := c.add Ds) hpin hpre ⟨π, hm⟩
   ·split at hpre
    ·exact norm_rel (c := c.add Ds) hpin hpre ⟨π, hm⟩
    ·obtain rfl := Option.some.inj hpre; exact ⟨π, hm⟩
  have h := h0
  clear h0
  cases dr with
  | true =>
   have h0 : (if drawnOk ops then prun E ops 0 ops.toList [] s fun s' => k .normal s' else none) = some r := h
   clear h
   split at h0
   ·rename_i hd
    exact (pdrawn hmix hT hE hd h0).mono fun e p ⟨e1, q⟩ => by subst e1; exact q
   ·cases h0
  | false =>
   have h' : rops E ops ops.toList s (fun s' => k .normal s') = some r := h
   have := pregion (P := P) (c := c) (F := F) (s := s) (id := id) (Q := KE k r) (l := ops.toList) (fun Ds => by
    have h2 := rops_ok (P := P) (c := c.add Ds) (F := but F Ds) hT hE ops.toList h'
    rw [Array.toArray_toList]
    exact h2)
   rw [Array.toArray_toList] at this
   exact this
 | seq a b iha ihb =>
  intro pp c F hpin hcx s k r h
  refine pseq ((iha hpin hcx h).mono fun e s' q => ?_)
  cases e with
  | normal => exact ihb hpin hcx q
  | exit i => exact q
  | ret => exact q
  | goto i => exact q
  | panic c => cases q
  | outgrown => cases q
 | cond q a b iha ihb =>
  intro pp c F hpin hcx s k r h
  simp only [denP] at h
  split at h
  ·rename_i t ht
   refine pcond ht (fun e => ?_) (fun e => ?_)
   ·subst e
    simp only [cond_true] at h
    rw [TS.lit_eq ht] at h
    exact iha hpin hcx h
   ·subst e
    simp only [cond_false] at h
    rw [TS.lit_eq ht] at h
    exact ihb hpin hcx h
  ·cases h
 | block id a iha =>
  intro pp c F hpin hcx s k r h
  refine pblock ((iha hpin hcx h).mono fun e s' q => ?_)
  cases e with
  | exit i =>
   simp only [KE, kblk, inBlk] at q
   simp only [PBlock]
   split
   ·rename_i hi; rw [if_pos hi] at q; exact q
   ·rename_i hi; rw [if_neg hi] at q; exact q
  | normal => exact q
  | ret => exact q
  | goto i => exact q
  | panic c => exact q
  | outgrown => exact q
 | scope a iha =>
  intro pp c F hpin hcx s k r h n a' w' hr
  refine wpIn_scope (wpIn_mono (iha hpin hcx h n a' w' hr) fun e a2 w2 ⟨s2, h1, h2⟩ => ?_)
  cases e with
  | goto l => cases h1
  | _ => exact ⟨s2, h1, h2⟩
 | label l => intro pp c F hpin hcx s k r h n a' w' hr; exact wpIn_label ⟨s, h, hr⟩
 | loop a iha =>
  intro pp c F hpin hcx s k r h
  simp only [denP] at h
  split at h
  ·split at h
   ·rename_i hs; exact loopK_ok hpin (fun hh => iha hpin hcx hh) hs h
   ·cases h
  ·cases h
 | exit id => intro pp c F hpin hcx s k r h; exact pexit h
 | goto l => intro pp c F hpin hcx s k r h n a' w' hr; exact wpIn_goto ⟨s, h, hr⟩
 | ret => intro pp c F hpin hcx s k r h; exact pret h
 | _ => intro pp c F hpin hcx s k r h; cases h
theorem RelM.extL {π : Nat → Pl} {w : World} : ∀ {l : List TV} {vs : List Value} {s : TS} {a : Act}, RelM c F π s a w → vs.length = l.length → (∀ (i : Nat) (x : TV) (v : Value), l[i]? = some x → vs[i]? = some v → VR w (Gz F w π (tlook s.ob)) π (tlook s.ob) x v) →
  RelM c F π ⟨s.sl ++ l, s.ob⟩ { a with tmps := (a.tmps.toList ++ vs).toArray } w
 | [], vs, s, a, hm, hl, _ => by
  have : vs = [] := List.eq_nil_of_length_eq_zero (by simpa using hl)
  subst this
  simpa using hm
 | x :: l, [], s, a, hm, hl, _ => by simp at hl
 | x :: l, v :: vs, s, a, hm, hl, h => by
  have h1 := hm.ext (x := x) (v := v) (h 0 x v rfl rfl)
  have h2 := RelM.extL (l := l) (vs := vs) h1 (by simpa using hl) fun i y u hy hu => h (i + 1) y u (by simpa using hy) (by simpa using hu)
  simpa using h2
theorem run_mapM {P : Program} {w : World} {f : ResultVar → Sem Value} : ∀ {rs : List ResultVar} {vs : List Value}, vs.length = rs.length → (∀ (i : Nat) (r : ResultVar) (v : Value), rs[i]? = some r → vs[i]? = some v → (f r).run P w = .ok v w) → (rs.mapM f).run P w = .ok vs w
 | [], vs, h, _ => by
  have : vs = [] := List.eq_nil_of_length_eq_zero (by simpa using h)
  subst this; rfl
 | r :: rs, [], h, _ => by simp at h
 | r :: rs, v :: vs, h, hv => by
  have h1 := hv 0 r v rfl rfl
  have h2 := run_mapM (P := P) (w := w) (f := f) (rs := rs) (vs := vs) (by simpa using h) fun i q u hq hu => hv (i + 1) q u (by simpa using hq) (by simpa using hu)
  simp only [List.mapM_cons, Sem.run_bind, h1, Result.andThen_ok, h2, Sem.run_pure]
theorem results_of {fn : Func} {rs : List ResultVar} (hrs : fn.results = rs.toArray) {tmps : Array Value} {w : World} {vs : List Value} (hl : vs.length = rs.length) (hv : ∀ (i : Nat) (r : ResultVar) (v : Value), rs[i]? = some r → vs[i]? = some v → rdV P tmps w r v) :
  (results fn tmps).run P w = .ok (if h : vs.toArray.size = 1 then vs.toArray[0] else .tuple vs.toArray) w := by
 unfold results
 rw [hrs]
 simp only [List.mapM_toArray, Sem.run_bind]
 have : ∀ f : ResultVar → Sem Value, (∀ (i : Nat) (r : ResultVar) (v : Value), rs[i]? = some r → vs[i]? = some v → (f r).run P w = .ok v w) → (List.toArray <$> rs.mapM f).run P w = .ok vs.toArray w := fun f hf => by
  have e : (List.toArray <$> rs.mapM f : Sem (Array Value)) = (do pure (← rs.mapM f).toArray) := by simp
  rw [e, Sem.run_bind, run_mapM hl hf]
  rfl
 rw [this _ fun i r v hr hv' => by
  have := hv i r v hr hv'
  cases r with
  | tmp t => have e : v = _ := this; subst e; rfl
  | cell t T => exact this]
 rfl
def FinR (TI : Nat → TD) (en : End) (rs : List ResultVar) (s : TS) (l : List TV) (O' : List (Nat × TO)) : Prop :=
 ∃ l0 s0 s1, resM TI s rs = some l0 ∧ toData en.rsp ⟨s.sl ++ l0, s.ob⟩ = some (s0, true) ∧ s0.norm en.nm = some s1 ∧ l = s1.sl.drop s.sl.length ∧ O' = s1.ob
theorem finS_R {TI : Nat → TD} {en : End} {rs : List ResultVar} {dec : List TV → List (Nat × TO) → Option α} {r : α} (h : finS TI en rs dec s = some r) : ∃ l O', FinR TI en rs s l O' ∧ dec l O' = some r := by
 unfold finS at h
 split at h
 ·rename_i l hl
  split at h
  ·rename_i s0 b h0
   obtain ⟨hb, h⟩ := chk_some h
   subst hb
   split at h
   ·rename_i s1 h1; exact ⟨_, _, ⟨l, s0, s1, hl, h0, h1, rfl, rfl⟩, h⟩
   ·cases h
  ·cases h
 ·cases h
theorem setData_len : ∀ {rsp : List (Nat × DT)} {s s' : TS} {b : Bool}, setData rsp s = some (s', b) → s'.sl.length = s.sl.length
 | [], s, s', b, h => by
  simp only [setData, Option.some.injEq, Prod.mk.injEq] at h
  rw [← h.1]
 | (i, t) :: r, s, s', b, h => by
  simp only [setData] at h
  split at h
  ·split at h
   ·split at h
    ·rename_i hr
     simp only [Option.some.injEq, Prod.mk.injEq] at h
     obtain ⟨rfl, _⟩ := h
     rw [setData_len hr]; simp
    ·cases h
   ·cases h
  ·cases h
theorem cutAt_len (i : Nat) (s : TS) : (cutAt i s).sl.length = s.sl.length := by
 unfold cutAt
 split
 ·split <;> simp
 ·rfl
theorem cutView_len (i : Nat) (t : DT) (s : TS) : (cutView i t s).sl.length = s.sl.length := by
 unfold cutView
 split
 ·split
  ·split
   ·split <;> simp
   ·rfl
  ·rfl
 ·rfl
theorem cutAll_len : ∀ {rsp : List (Nat × DT)} {s : TS}, (cutAll rsp s).sl.length = s.sl.length
 | [], s => rfl
 | (i, t) :: r, s => by
  cases t <;> first | exact (cutAll_len (rsp := r) (s := cutView i _ (cutAt i s))).trans ((cutView_len i _ _).trans (cutAt_len i s)) | exact (cutAll_len (rsp := r) (s := cutAt i s)).trans (cutAt_len i s)
theorem settle_len (s : TS) : s.settle.sl.length = s.sl.length := by
 unfold TS.settle
 split <;> rfl
theorem toData_len {rsp : List (Nat × DT)} {s s' : TS} {b : Bool} (h : toData rsp s = some (s', b)) : s'.sl.length = s.sl.length :=
 (setData_len h).trans (cutAll_len.trans (settle_len s))
theorem norm0_len {pp : List Nat} {nm : Norm} {s s' : TS} (h : s.norm0 pp nm = some s') : s'.sl.length = s.sl.length := by
 unfold TS.norm0 at h
 split at h
 ·split at h
  ·split at h
   ·obtain rfl := Option.some.inj h; exact normSlots_len _ _ _ _
   ·cases h
  ·cases h
 ·cases h
theorem norm_len {nm : Norm} {s s' : TS} (h : s.norm nm = some s') : s'.sl.length = s.sl.length := by
 unfold TS.norm TS.normP TS.norm1 at h
 split at h
 ·exact (norm0_len h).trans (settle_len s)
 ·split at h
  ·rename_i s0 h0; exact (norm0_len h).trans ((toData_len h0).trans (settle_len s))
  ·cases h
theorem tupOf_VR {w : World} {G : Nat → Prop} {π : Nat → Pl} {O : Obs} {l : List TV} {vs : List Value} (hl : vs.length = l.length) (h : ∀ (i : Nat) (x : TV) (v : Value), l[i]? = some x → vs[i]? = some v → VR w G π O x v) :
  VR w G π O (tupOf l) (if h : vs.toArray.size = 1 then vs.toArray[0] else .tuple vs.toArray) := by
 have gen : ∀ {l : List TV} {vs : List Value}, vs.length = l.length → (∀ (i : Nat) (x : TV) (v : Value), l[i]? = some x → vs[i]? = some v → VR w G π O x v) → VR w G π O (.tup l.length fun i => l.getD i .any) (.tuple vs.toArray) := fun {l vs} hl h => by
  refine ⟨vs.toArray, rfl, by simpa using hl, fun j hj => ?_⟩
  have hj' : j < vs.length := by omega
  refine ⟨vs[j], by simp [hj'], ?_⟩
  have := h j l[j] vs[j] (by simp [hj]) (by simp [hj'])
  simpa [List.getD, hj] using this
 match l, vs, hl with
 | [], [], _ => exact gen rfl h
 | [x], [v], _ => exact h 0 x v rfl rfl
 | x :: y :: r, v :: u :: vs, hl =>
  have := gen hl h
  simpa [tupOf] using this
theorem finR_ok (hT : TOK P E.TI) (hpin : ∀ id p, c.pin id = some p → pinR id = true) {fn : Func} {en : End} {rs : List ResultVar} (hrs : fn.results = rs.toArray) {l : List TV} {O' : List (Nat × TO)} (h : FinR E.TI en rs s l O') {π : Nat → Pl} {a : Act} {w : World} (hm : RelM c F π s a w) :
  ∃ v π' s1 a1, (results fn a.tmps).run P w = .ok v w ∧ RelM c F π' s1 a1 w ∧ s1.ob = O' ∧ VR w (Gz F w π' (tlook O')) π' (tlook O') (tupOf l) v := by
 obtain ⟨l0, s0, s1, h1, h2, h3, rfl, rfl⟩ := h
 obtain ⟨vs, a1, a2, a3, a4⟩ := resM_ok (P := P) hT hm h1
 have hx := RelM.extL hm a1 a4
 obtain ⟨π1, hd⟩ := toData_ok h2 rfl hx
 obtain ⟨π', hn⟩ := norm_ok (pp := []) (fun id p hp => by rw [pinQ, hpin id p hp, Bool.true_or]) h3 hd
 refine ⟨_, π', s1, _, results_of hrs a2 a3, hn, rfl, ?_⟩
 have hlen : s1.sl.length = s.sl.length + l0.length := by rw [norm_len h3, toData_len h2]; simp
 refine tupOf_VR (by simp [hlen]; omega) fun i x v hx' hv => ?_
 have hsz := hm.size
 have hi : i < vs.length := (List.getElem?_eq_some_iff.1 hv).1
 have := hn.slot (s.sl.length + i) x (by rw [← hx']; simp)
 have e : ((a.tmps.toList ++ vs).toArray).getD (s.sl.length + i) undef = v := by
  have : (a.tmps.toList ++ vs)[s.sl.length + i]? = some v := by
   rw [List.getElem?_append_right (by simp [hsz])]
   rw [← hv]; congr 1; simp [hsz]
  simp [Array.getD_eq_getD_getElem?, this]
 rw [e] at this
 exact this
def pinAll (O : List (Nat × TO)) : Bool := O.all fun p => pinR p.1 && (p.2.live && !p.2.isMat)
theorem callF_ok [Jn α] (hmix : P.follows .mixedOrders = true) (hT : TOK P E.TI) (hE : EnvOk P E) (hQ : SeqsOk P E.seq) {f : FuncId} {fn : Func} {x : Code} {rs : List ResultVar} {args : List TV} {O : List (Nat × TO)} {lv : Nat → Option Norm} {N nt : Nat} {en : End} {dec : List TV → List (Nat × TO) → Option α} {r : α}
  (hf : P.funcs[f]? = some fn) (hb : fn.body = some x) (hrs : fn.results = rs.toArray) (hname : (fn.name == "runtime.NumGoroutine") = false) (hn : fn.ntmps = args.length + nt) (hO : pinAll O = true)
  (h : callF E lv N en x rs nt args O dec = some r) : HSpec P f args O fun rv O' => ∃ l, rv = tupOf l ∧ dec l O' = some r := by
 simp only [pinAll, List.all_eq_true, Bool.and_eq_true] at hO
 have hpin0 : ∀ (c : Cx), (∀ id p, c.pin id = some p → ∃ o, tlook O id = some o) → ∀ id p, c.pin id = some p → pinR id = true := fun c hc id p hp => by
  obtain ⟨o, ho⟩ := hc id p hp
  exact (hO (id, o) (tlook_mem ho)).1
 refine HSpec.of (R := fun s l O' => FinR E.TI en rs s l O') hf hb (fun s l O' hR c hc F π a w hm => finR_ok hT (hpin0 c hc) hrs hR hm) hname hn (fun id o ho => by have := (hO (id, o) (tlook_mem ho)).2; simpa using this) fun c F hrnd hno hc => ?_
 have hpin := hpin0 c hc
 refine fun nn a w hr => wpIn_mono (denP_ok (pp := []) (c := c) (F := F) hmix hT hE hQ N x (fun id p hp => by rw [pinQ, hpin id p hp, Bool.true_or]) ⟨hno, fun l e => by rw [hrnd] at e; cases e⟩ h nn a w hr) fun e a' w' ⟨s', h1, h2⟩ => ?_
 have key : finS E.TI en rs dec s' = some r → ∃ l O', FinR E.TI en rs s' l O' ∧ ∃ l', tupOf l = tupOf l' ∧ dec l' O' = some r := fun h => by
  obtain ⟨l, O', q1, q2⟩ := finS_R h
  exact ⟨l, O', q1, l, rfl, q2⟩
 cases e with
 | normal => exact ⟨s', ⟨.inl rfl, key h1⟩, h2⟩
 | ret => exact ⟨s', ⟨.inr rfl, key h1⟩, h2⟩
 | exit i => cases h1
 | goto i => cases h1
 | panic c => cases h1
 | outgrown => cases h1
def FnOk (P : Program) (f : Nat) (c : FnC) : Prop := ∀ args Of x, c.ans args Of = some x → HSpec P f args Of fun r O' => r = c.enc args Of x ∧ O' = c.obs args Of x
theorem envOk_ofw {TI : Nat → TD} {TY : Nat → DT} {L : List (Nat × FnC)} {rc : Nat → Option (List (Option DT))} {fz : Nat → Bool} {tw : Nat → Option Nat} (h : ∀ p ∈ L, FnOk P p.1 p.2) : EnvOk P (mkEw TI TY L rc fz tw) := by
 intro g args Of α k res hres
 simp only [mkEw, mkE] at hres ⊢
 induction L with
 | nil => cases hres
 | cons p r ih =>
  obtain ⟨i, c⟩ := p
  have ih' := ih fun p hp => h p (by simp [hp])
  simp only [phiL] at hres ⊢
  by_cases e : g = i
  ·simp only [if_pos e] at hres ⊢
   cases hx : c.ans args Of with
   | none => simp only [hx] at hres ⊢; exact ih' hres
   | some x =>
    simp only [hx] at hres ⊢
    subst e
    exact ⟨c.enc args Of x, c.obs args Of x, hres, fun β k' => rfl, h (g, c) (by simp) args Of x hx⟩
  ·simp only [if_neg e] at hres ⊢; exact ih' hres
theorem envOk_of {TI : Nat → TD} {TY : Nat → DT} {L : List (Nat × FnC)} {rc : Nat → Option (List (Option DT))} {fz : Nat → Bool} (h : ∀ p ∈ L, FnOk P p.1 p.2) : EnvOk P (mkE TI TY L rc fz) :=
 envOk_ofw (tw := fun _ => none) h
end
end

section
section
variable {P : Program} {T : TypeId}

theorem info_of {z : Value} {n : Nat} (h : (P.info? T).map (fun i => (i.zero, i.size)) = some (some z, n)) : ∃ i, P.info? T = some i ∧ i.size = n ∧ i.zero = some z := by
 obtain ⟨i, hi, hzz⟩ := Option.map_eq_some_iff.1 h
 simp only [Prod.mk.injEq] at hzz
 exact ⟨i, hi, hzz.2, hzz.1⟩
theorem flat_of {z : Value} (h : z.cells.toList.all (fun c => c.oneCell') = true) : Flat z := fun c hc => by
 exact List.all_eq_true.1 h c (by simpa using hc)
theorem flat_one {z : Value} (h : z.oneCell' = true) : Flat z := fun c hc => by
 rw [cells_one h] at hc; simp at hc; rw [hc]; exact h
theorem TFact.nothing : TFact P T {} where
 info := fun h => absurd rfl h
 zc := fun h => absurd rfl h
 one := fun h => by rcases h with h | h <;> cases h
 many := fun h => by rcases h with h | h <;> cases h
 sl := fun h => by cases h
 arr := fun h => by cases h
 str := fun h => by cases h
 strp := fun h => by cases h
 int := fun k h => by cases h
 bool := fun h => by cases h
 string := fun h => by cases h
 map := fun k v h => by cases h
 mapk := fun _ _ h => by cases h
 one1 := fun h => by cases h
 eq := fun t h => by cases h
theorem TFact.int1 {k : IntKind} (hu : P.underlying T = some (.int k)) (hi : (P.info? T).map (fun i => (i.zero, i.size)) = some (some (.int k 0), 1)) : TFact P T { kd := 1, size := 1, zero := .int k 0, ik := some k } where
 info := fun _ => info_of hi
 zc := fun _ => ⟨rfl, flat_one rfl, (fun cs h => by cases h), Nat.one_pos⟩
 one := fun _ => ⟨rfl, fun w => by simp [isAgg, run_underlying hu]⟩
 many := fun h => by rcases h with h | h <;> cases h
 sl := fun h => by cases h
 arr := fun h => by cases h
 str := fun h => by cases h
 strp := fun h => by cases h
 int := fun k' h => by cases h; exact hu
 bool := fun h => by cases h
 string := fun h => by cases h
 map := fun k v h => by cases h
 mapk := fun _ _ h => by cases h
 one1 := fun h => by cases h
 eq := fun t h => by cases h
theorem TFact.bool1 (hu : P.underlying T = some .bool) (hi : (P.info? T).map (fun i => (i.zero, i.size)) = some (some (.bool false), 1)) : TFact P T { kd := 1, size := 1, zero := .bool false, bl := true } where
 info := fun _ => info_of hi
 zc := fun _ => ⟨rfl, flat_one rfl, (fun cs h => by cases h), Nat.one_pos⟩
 one := fun _ => ⟨rfl, fun w => by simp [isAgg, run_underlying hu]⟩
 many := fun h => by rcases h with h | h <;> cases h
 sl := fun h => by cases h
 arr := fun h => by cases h
 str := fun h => by cases h
 strp := fun h => by cases h
 int := fun k' h => by cases h
 bool := fun _ => hu
 string := fun h => by cases h
 map := fun k v h => by cases h
 mapk := fun _ _ h => by cases h
 one1 := fun h => by cases h
 eq := fun t h => by cases h
theorem TFact.str1 (hu : P.underlying T = some .string) (hi : (P.info? T).map (fun i => (i.zero, i.size)) = some (some (.string ⟨⟨[]⟩⟩), 1)) : TFact P T { kd := 1, size := 1, zero := .string ⟨⟨[]⟩⟩, st := true } where
 info := fun _ => info_of hi
 zc := fun _ => ⟨rfl, flat_one rfl, (fun cs h => by cases h), Nat.one_pos⟩
 one := fun _ => ⟨rfl, fun w => by simp [isAgg, run_underlying hu]⟩
 many := fun h => by rcases h with h | h <;> cases h
 sl := fun h => by cases h
 arr := fun h => by cases h
 str := fun h => by cases h
 strp := fun h => by cases h
 int := fun k' h => by cases h
 bool := fun h => by cases h
 string := fun _ => hu
 map := fun k v h => by cases h
 mapk := fun _ _ h => by cases h
 one1 := fun h => by cases h
 eq := fun t h => by cases h
theorem mapKey_int {k : TypeId} {j : IntKind} (hu : P.underlying k = some (.int j)) : MapKey P k (.int j) where
 plain := rfl
 check := fun x w G v b hv => by
  have hv' : v = .int j x := (DT.val_one (t := .int j) rfl).1 hv
  subst hv'
  unfold Instr.checkKey
  simp only [Sem.run_bind, run_underlying hu, Result.andThen_ok]
  rfl
 under := ⟨_, hu, .inl fun x y w G a b ha hb => by
  have ha' : a = .int j x := (DT.val_one (t := .int j) rfl).1 ha
  have hb' : b = .int j y := (DT.val_one (t := .int j) rfl).1 hb
  subst ha'; subst hb'
  simp only [Instr.sameNow, if_true, DT.beq]
  rfl⟩
 same := fun x y w G a b ha hb h => by
  have ha' : a = .int j x := (DT.val_one (t := .int j) rfl).1 ha
  have hb' : b = .int j y := (DT.val_one (t := .int j) rfl).1 hb
  subst ha'; subst hb'
  simp only [DT.beq, decide_eq_true_eq] at h
  simp [Instr.sameBits, h]
theorem TFact.map1 {k v : TypeId} (hu : P.underlying T = some (.map k v)) (hi : (P.info? T).map (fun i => (i.zero, i.size)) = some (some (.map none), 1)) {q : Option (DT × DT)} (hq : ∀ kt vt, q = some (kt, vt) → MapKey P k kt ∧ ∃ i z, P.info? v = some i ∧ i.zero = some z ∧ isZero0 z vt ∧ vt.plain = true) : TFact P T { kd := 1, size := 1, zero := .map none, mp := some (k, v), mkv := q } where
 info := fun _ => info_of hi
 zc := fun _ => ⟨rfl, flat_one rfl, (fun cs h => by cases h), Nat.one_pos⟩
 one := fun _ => ⟨rfl, fun w => by simp [isAgg, run_underlying hu]⟩
 many := fun h => by rcases h with h | h <;> cases h
 sl := fun h => by cases h
 arr := fun h => by cases h
 str := fun h => by cases h
 strp := fun h => by cases h
 int := fun k h => by cases h
 bool := fun h => by cases h
 string := fun h => by cases h
 map := fun k' v' h => by cases h; exact hu
 mapk := fun kt vt h => by
  obtain ⟨h1, i, z, h2, h3, h4, h5⟩ := hq kt vt h
  exact ⟨k, v, i, z, hu, h1, h2, h3, h4, h5⟩
 one1 := fun h => by cases h
 eq := fun t h => by cases h
theorem mkv_of {k v : TypeId} {kt0 vt0 : DT} {z : Value} (hk : MapKey P k kt0) (hz : (P.info? v).map (·.zero) = some (some z)) (hz0 : isZero z vt0 = true) (hp : vt0.plain = true) : ∀ kt vt, some (kt0, vt0) = some (kt, vt) → MapKey P k kt ∧ ∃ i z, P.info? v = some i ∧ i.zero = some z ∧ isZero0 z vt ∧ vt.plain = true := fun kt vt h => by
 simp only [Option.some.injEq, Prod.mk.injEq] at h
 obtain ⟨rfl, rfl⟩ := h
 obtain ⟨i, h1, h2⟩ := Option.map_eq_some_iff.1 hz
 exact ⟨hk, i, z, h1, h2, fun w G => isZero_ok hp hz0, hp⟩
theorem TFact.cell {z : Value} (ha : ∀ w : World, (isAgg T).run P w = .ok false w) (hi : (P.info? T).map (fun i => (i.zero, i.size)) = some (some z, 1)) (hz : z.oneCell' = true) : TFact P T { kd := 1, size := 1, zero := z } where
 info := fun _ => info_of hi
 zc := fun _ => ⟨by rw [cells_one hz]; rfl, fun c hc => by rw [cells_one hz] at hc; simp at hc; rw [hc]; exact hz, (fun cs h => by rw [show z = .agg cs from h] at hz; cases hz), Nat.one_pos⟩
 one := fun _ => ⟨rfl, ha⟩
 many := fun h => by rcases h with h | h <;> cases h
 sl := fun h => by cases h
 arr := fun h => by cases h
 str := fun h => by cases h
 strp := fun h => by cases h
 int := fun k' h => by cases h
 bool := fun h => by cases h
 string := fun h => by cases h
 map := fun k v h => by cases h
 mapk := fun _ _ h => by cases h
 one1 := fun h => by cases h
 eq := fun t h => by cases h
theorem TFact.ptr1 {e : TypeId} (hu : P.underlying T = some (.pointer e)) (hi : (P.info? T).map (fun i => (i.zero, i.size)) = some (some (.pointer none), 1)) : TFact P T { kd := 1, size := 1, zero := .pointer none, pt := true } where
 info := fun _ => info_of hi
 zc := fun _ => ⟨rfl, flat_one rfl, (fun cs h => by cases h), Nat.one_pos⟩
 one := fun _ => ⟨rfl, fun w => by simp [isAgg, run_underlying hu]⟩
 many := fun h => by rcases h with h | h <;> cases h
 sl := fun h => by cases h
 arr := fun h => by cases h
 str := fun h => by cases h
 strp := fun h => by cases h
 int := fun k' h => by cases h
 bool := fun h => by cases h
 string := fun h => by cases h
 map := fun k v h => by cases h
 mapk := fun _ _ h => by cases h
 one1 := fun h => by cases h
 eq := fun t h => by cases h
 ptr := fun _ => ⟨e, hu⟩
theorem TFact.meth {d : TD} (h : TFact P T d) (l : List (String × Nat)) (hl : ∀ name g, l.lookup name = some g → ∀ (n : Nat) (v : Value) (w : World), (Go.method (n + 1) T v name).run P w = .ok (g, v) w) : TFact P T { d with mth := l } :=
 ⟨h.info, h.zc, h.one, h.many, h.sl, h.arr, h.str, h.strp, h.int, h.bool, h.string, h.map, h.mapk, h.one1, h.eq, hl, h.ptr, h.by8, h.ag1⟩
def notPtr : TypeDesc → Bool
 | .pointer _ => false
 | _ => true
theorem method_of {d : TypeDesc} {name : String} {g : Nat} (hu : P.underlying T = some d) (hd : notPtr d = true) (hm : ((P.info? T).bind fun i => (i.methods.find? (·.name == name)).map fun m => (m.path.toList.isEmpty, m.func)) = some (true, some (g, false))) (n : Nat) (v : Value) (w : World) : (Go.method (n + 1) T v name).run P w = .ok (g, v) w := by
 obtain ⟨i, h1, h2⟩ := Option.bind_eq_some_iff.1 hm
 obtain ⟨m, h3, h4⟩ := Option.map_eq_some_iff.1 h2
 simp only [Prod.mk.injEq, List.isEmpty_iff] at h4
 obtain ⟨h4, h5⟩ := h4
 have hr : ∀ wr, (receiverAt T (.val v) false wr).run P w = .ok v w := fun wr => by
  unfold receiverAt
  simp only [Sem.run_bind, run_underlying hu, Result.andThen_ok]
  cases d <;> first | (simp [notPtr] at hd; done) | rfl
 simp [Go.method, typeInfo, h1, h3, h4, follow, h5, hr]
theorem lookup_one {a : String} {b : Nat} {Q : String → Nat → Prop} (h : Q a b) : ∀ name g, [(a, b)].lookup name = some g → Q name g := fun name g h' => by
 simp only [List.lookup] at h'
 split at h'
 ·rename_i e
  obtain rfl := Option.some.inj h'
  rw [beq_iff_eq] at e
  rw [e]; exact h
 ·cases h'
theorem TFact.slice1 {e : TypeId} {ze : Value} {k b : Nat} (hu : P.underlying T = some (.slice e)) (hi : (P.info? T).map (fun i => (i.zero, i.size)) = some (some (.slice none 0 0), 1)) (he : (P.info? e).map (fun i => (i.zero, i.size, i.bytes)) = some (some ze, k, b))
  (hc : ze.cells.size = k) (hf : ze.cells.toList.all (fun c => c.oneCell') = true) (hk : 0 < k) : TFact P T { kd := 2, size := 1, zero := .slice none 0 0, elem := k, eb := b, ez := ze } where
 info := fun _ => info_of hi
 zc := fun _ => ⟨rfl, flat_one rfl, (fun cs h => by cases h), Nat.one_pos⟩
 one := fun _ => ⟨rfl, fun w => by simp [isAgg, run_underlying hu]⟩
 many := fun h => by rcases h with h | h <;> cases h
 sl := fun _ => by
  obtain ⟨i, h1, h2, h3, h4⟩ := info_parts he
  exact ⟨e, i, hu, h1, h3, h4, h2, hc, flat_of hf, hk⟩
 arr := fun h => by cases h
 str := fun h => by cases h
 strp := fun h => by cases h
 int := fun k' h => by cases h
 bool := fun h => by cases h
 string := fun h => by cases h
 map := fun k v h => by cases h
 mapk := fun _ _ h => by cases h
 one1 := fun h => by cases h
 eq := fun t h => by cases h
theorem eqGuard_no {op : BinOp} {ox oy : Operand} {xs ys : Array Value} {w : World} (h : P.eqGuardType P.depth T = false) : (eqGuard op T ox oy (.agg xs) (.agg ys)).run P w = .ok () w := by
 unfold eqGuard
 cases op <;> simp [run_program, h]
theorem eqItems_int {e : TypeId} {k : IntKind} (hk : P.underlying e = some (.int k)) (hag : ∀ w : World, (isAgg e).run P w = .ok false w) {w : World} {xs ys : Array Value} {x y : List Int} (d : Nat) : ∀ is : List Nat, (∀ i ∈ is, xs[i]? = some (.int k (x.getD i 0)) ∧ ys[i]? = some (.int k (y.getD i 0))) →
  (Op.eqItems (d + 1) e 1 xs ys is).run P w = .ok (is.all fun i => decide (x.getD i 0 = y.getD i 0)) w
 | [], _ => rfl
 | i :: is, h => by
  obtain ⟨h1, h2⟩ := h i (by simp)
  have ih := eqItems_int hk hag (w := w) d is fun j hj => h j (by simp [hj])
  simp only [Op.eqItems, Sem.run_bind, part, hag, Result.andThen_ok, Nat.mul_one]
  simp only [h1, h2]
  simp only [List.all_cons]
  generalize x.getD i 0 = p
  generalize y.getD i 0 = q
  by_cases hxy : p = q
  ·simp [run_equalIn_int, hk, hxy, ih]
  ·simp [run_equalIn_int, hk, hxy]
theorem eq_arr {e : TypeId} {n : Nat} {k : IntKind} (hu : P.underlying T = some (.array n e)) (hk : P.underlying e = some (.int k)) (hi : (P.info? e).isSome = true) (hag : ∀ w : World, (isAgg e).run P w = .ok false w) (hc : P.cellsOf e = 1) (hg : P.eqGuardType P.depth T = false) :
  ∀ t, some (DT.arr n (.int k)) = some t → t.agg = true ∧ ∀ (x y : t.den) (u v : Value) (w : World) (G : Nat → Prop) (op : BinOp) (ox oy : Operand), t.val x w G u → t.val y w G v → (eqGuard op T ox oy u v).run P w = .ok () w ∧ (Op.equal T u v).run P w = .ok (t.beq x y) w := fun t ht => by
 obtain rfl := Option.some.inj ht
 refine ⟨rfl, fun x y u v w G op ox oy hu' hv => ?_⟩
 obtain ⟨xs, rfl, x1, x2⟩ := (DT.val_agg (t := .arr n (.int k)) rfl).1 hu'
 obtain ⟨ys, rfl, y1, y2⟩ := (DT.val_agg (t := .arr n (.int k)) rfl).1 hv
 refine ⟨eqGuard_no hg, ?_⟩
 obtain ⟨i, hi'⟩ := Option.isSome_iff_exists.1 hi
 show (Op.equalIn (9999 + 1) T _ _).run P w = _
 rw [run_equalIn_array w 9999 xs ys hu hi', hc]
 refine eqItems_int hk hag 9998 (List.range n) fun j hj => ?_
 have hj' : j < n * 1 := by simpa using hj
 obtain ⟨a, a1, _, a3⟩ := x2 j hj'
 obtain ⟨b, b1, _, b3⟩ := y2 j hj'
 simp only [DT.cell, DT.size, Nat.div_one] at a3 b3
 exact ⟨by rw [a1, a3]; rfl, by rw [b1, b3]; rfl⟩
theorem TFact.bytes {d : TD} (h : TFact P T d) (hb : ∃ e, P.underlying T = some (.slice e) ∧ P.underlying e = some (.int .u8)) : TFact P T { d with b8 := true } :=
 ⟨h.info, h.zc, h.one, h.many, h.sl, h.arr, h.str, h.strp, h.int, h.bool, h.string, h.map, h.mapk, h.one1, h.eq, h.mth, h.ptr, fun _ => hb, h.ag1⟩
theorem TFact.aggs {d : TD} {e : TypeId} (h : TFact P T d) (hu : P.underlying T = some (.array d.len e)) (ha : ∀ w : World, (isAgg e).run P w = .ok true w) : TFact P T { d with ag1 := true } :=
 ⟨h.info, h.zc, h.one, h.many, h.sl, h.arr, h.str, h.strp, h.int, h.bool, h.string, h.map, h.mapk, h.one1, h.eq, h.mth, h.ptr, h.by8, fun _ e' he' w => by
  rw [hu] at he'
  simp only [Option.some.injEq, TypeDesc.array.injEq] at he'
  rw [← he'.2]; exact ha w⟩
theorem TFact.array1 {e : TypeId} {ze : Value} {k b n m : Nat} {z : Array Value} (hu : P.underlying T = some (.array n e)) (hi : (P.info? T).map (fun i => (i.zero, i.size)) = some (some (.agg z), m)) (he : (P.info? e).map (fun i => (i.zero, i.size, i.bytes)) = some (some ze, k, b))
  (hc : z.size = m) (hf : z.toList.all (fun c => c.oneCell') = true) (hm : 0 < m) {o1 : Bool} (ho : o1 = true → ∀ w : World, (isAgg e).run P w = .ok false w) {q : Option DT} (hq : ∀ t, q = some t → t.agg = true ∧ ∀ (x y : t.den) (u v : Value) (w : World) (G : Nat → Prop) (op : BinOp) (ox oy : Operand), t.val x w G u → t.val y w G v → (eqGuard op T ox oy u v).run P w = .ok () w ∧ (Op.equal T u v).run P w = .ok (t.beq x y) w) :
  TFact P T { kd := 3, size := m, zero := .agg z, elem := k, eb := b, ez := ze, len := n, one1 := o1, eqd := q } where
 info := fun _ => info_of hi
 zc := fun _ => ⟨hc, flat_of hf, (fun cs h => by show 2 < 3; omega), hm⟩
 one := fun h => by rcases h with h | h <;> cases h
 many := fun _ => ⟨⟨z, rfl⟩, fun w => by simp [isAgg, run_underlying hu]⟩
 sl := fun h => by cases h
 arr := fun _ => by
  obtain ⟨i, h1, h2, h3, h4⟩ := info_parts he
  exact ⟨e, i, hu, h1, h3⟩
 str := fun h => by cases h
 strp := fun h => by cases h
 int := fun k' h => by cases h
 bool := fun h => by cases h
 string := fun h => by cases h
 map := fun k v h => by cases h
 mapk := fun _ _ h => by cases h
 one1 := fun h e' he' w => by
  rw [hu] at he'
  simp only [Option.some.injEq, TypeDesc.array.injEq] at he'
  rw [← he'.2]; exact ho h w
 eq := hq
theorem mapM_get {P : Program} : ∀ {fs : List Field} {places : List (Nat × Nat)}, fs.mapM (fun f => (P.info? f.type).map fun i => (f.offset, i.size)) = some places → fs.length = places.length ∧ ∀ (i : Nat) (p : Nat × Nat), places[i]? = some p → ∃ f fi, fs[i]? = some f ∧ f.offset = p.1 ∧ P.info? f.type = some fi ∧ fi.size = p.2
 | [], places, h => by simp at h; subst h; exact ⟨rfl, fun i p hp => by simp at hp⟩
 | f :: fs, places, h => by
  simp only [List.mapM_cons, Option.bind_eq_bind, Option.pure_def] at h
  cases hi : P.info? f.type with
  | none => simp [hi] at h
  | some i =>
   cases hr : fs.mapM (fun f => (P.info? f.type).map fun i => (f.offset, i.size)) with
   | none => simp [hi, hr] at h
   | some rest =>
    simp [hi, hr] at h
    subst h
    obtain ⟨h1, h2⟩ := mapM_get hr
    refine ⟨by simp [h1], fun j p hp => ?_⟩
    cases j with
    | zero => simp at hp; subst hp; exact ⟨f, i, rfl, rfl, hi, rfl⟩
    | succ j => simpa using h2 j p (by simpa using hp)
theorem TFact.struct1 {fs : Array Field} {m : Nat} {z : Array Value} {offs : List (Nat × Nat)} (hu : P.underlying T = some (.struct fs)) (hi : (P.info? T).map (fun i => (i.zero, i.size)) = some (some (.agg z), m)) (hp : fs.toList.mapM (fun f => (P.info? f.type).map fun i => (f.offset, i.size)) = some offs)
  (hc : z.size = m) (hf : z.toList.all (fun c => c.oneCell') = true) (hm : 0 < m) (ho : offs.all (fun p => decide (0 < p.2)) = true) : TFact P T { kd := 4, size := m, zero := .agg z, offs := offs } where
 info := fun _ => info_of hi
 zc := fun _ => ⟨hc, flat_of hf, (fun cs h => by show 2 < 4; omega), hm⟩
 one := fun h => by rcases h with h | h <;> cases h
 many := fun _ => ⟨⟨z, rfl⟩, fun w => by simp [isAgg, run_underlying hu]⟩
 sl := fun h => by cases h
 arr := fun h => by cases h
 str := fun _ => by
  obtain ⟨h1, h2⟩ := mapM_get hp
  refine ⟨fs, hu, by simpa using h1, fun i p hip => ?_⟩
  obtain ⟨f, fi, a1, a2, a3, a4⟩ := h2 i p hip
  have := List.all_eq_true.1 ho p (List.mem_of_getElem? hip)
  exact ⟨f, fi, by simpa using a1, a2, a3, a4, by simpa using this⟩
 strp := fun _ => ⟨fs, hu, hp⟩
 int := fun k' h => by cases h
 bool := fun h => by cases h
 string := fun h => by cases h
 map := fun k v h => by cases h
 mapk := fun _ _ h => by cases h
 one1 := fun h => by cases h
 eq := fun t h => by cases h
end
end

section
set_option maxRecDepth 100000

theorem ti1 : TFact Tryd.prog 1 { kd := 1, size := 1, zero := .nilFunc } := TFact.cell (fun w => by kernel_rfl) (by kernel_rfl) rfl
theorem ti2 : TFact Tryd.prog 2 { kd := 1, size := 1, zero := .int .i64 0, ik := some .i64 } := TFact.int1 (by kernel_rfl) (by kernel_rfl)
theorem ti3 : TFact Tryd.prog 3 { kd := 1, size := 1, zero := .int .i64 0, ik := some .i64 } := TFact.int1 (by kernel_rfl) (by kernel_rfl)
theorem ti4 : TFact Tryd.prog 4 { kd := 1, size := 1, zero := .bool false, bl := true } := TFact.bool1 (by kernel_rfl) (by kernel_rfl)
theorem ti5 : TFact Tryd.prog 5 { kd := 1, size := 1, zero := .int .u8 0, ik := some .u8 } := TFact.int1 (by kernel_rfl) (by kernel_rfl)
theorem ti6 : TFact Tryd.prog 6 { kd := 1, size := 1, zero := .int .u8 0, ik := some .u8 } := TFact.int1 (by kernel_rfl) (by kernel_rfl)
theorem ti7 : TFact Tryd.prog 7 { kd := 4, size := 4, zero := .agg #[(.int .i64 (0)), (.int .i64 (0)), (.bool false), (.int .u8 (0))], offs := [(0, 1), (1, 1), (2, 1), (3, 1)] } := TFact.struct1 (fs := _) (z := #[(.int .i64 (0)), (.int .i64 (0)), (.bool false), (.int .u8 (0))]) (offs := [(0, 1), (1, 1), (2, 1), (3, 1)]) rfl (by kernel_rfl) (by kernel_rfl) (by rfl) (by rfl) (by decide) (by decide)
theorem ti8 : TFact Tryd.prog 8 { kd := 4, size := 4, zero := .agg #[(.int .i64 (0)), (.int .i64 (0)), (.bool false), (.int .u8 (0))], offs := [(0, 1), (1, 1), (2, 1), (3, 1)] } := TFact.struct1 (fs := _) (z := #[(.int .i64 (0)), (.int .i64 (0)), (.bool false), (.int .u8 (0))]) (offs := [(0, 1), (1, 1), (2, 1), (3, 1)]) rfl (by kernel_rfl) (by kernel_rfl) (by rfl) (by rfl) (by decide) (by decide)
theorem ti9 : TFact Tryd.prog 9 { kd := 1, size := 1, zero := .string ⟨⟨[]⟩⟩, st := true } := TFact.str1 (by kernel_rfl) (by kernel_rfl)
theorem ti10 : TFact Tryd.prog 10 { kd := 1, size := 1, zero := .string ⟨⟨[]⟩⟩, st := true } := TFact.str1 (by kernel_rfl) (by kernel_rfl)
theorem ti11 : TFact Tryd.prog 11 { kd := 1, size := 1, zero := .string ⟨⟨[]⟩⟩, st := true } := TFact.str1 (by kernel_rfl) (by kernel_rfl)
theorem ti12 : TFact Tryd.prog 12 { kd := 1, size := 1, zero := .int .u64 0, ik := some .u64 } := TFact.int1 (by kernel_rfl) (by kernel_rfl)
theorem ti13 : TFact Tryd.prog 13 { kd := 4, size := 2, zero := .agg #[(.string ⟨⟨[]⟩⟩), (.int .u64 (0))], offs := [(0, 1), (1, 1)] } := TFact.struct1 (fs := _) (z := #[(.string ⟨⟨[]⟩⟩), (.int .u64 (0))]) (offs := [(0, 1), (1, 1)]) rfl (by kernel_rfl) (by kernel_rfl) (by rfl) (by rfl) (by decide) (by decide)
theorem ti14 : TFact Tryd.prog 14 { kd := 4, size := 2, zero := .agg #[(.string ⟨⟨[]⟩⟩), (.int .u64 (0))], offs := [(0, 1), (1, 1)] } := TFact.struct1 (fs := _) (z := #[(.string ⟨⟨[]⟩⟩), (.int .u64 (0))]) (offs := [(0, 1), (1, 1)]) rfl (by kernel_rfl) (by kernel_rfl) (by rfl) (by rfl) (by decide) (by decide)
theorem ti15 : TFact Tryd.prog 15 { kd := 1, size := 1, zero := .pointer none, pt := true } := TFact.ptr1 (e := 109) (by kernel_rfl) (by kernel_rfl)
theorem ti16 : TFact Tryd.prog 16 { kd := 1, size := 1, zero := .pointer none, pt := true } := TFact.ptr1 (e := 112) (by kernel_rfl) (by kernel_rfl)
theorem ti17 : TFact Tryd.prog 17 { kd := 1, size := 1, zero := .pointer none, pt := true } := TFact.ptr1 (e := 121) (by kernel_rfl) (by kernel_rfl)
theorem ti18 : TFact Tryd.prog 18 { kd := 4, size := 1, zero := .agg #[(.pointer none)], offs := [(0, 1)] } := TFact.struct1 (fs := _) (z := #[(.pointer none)]) (offs := [(0, 1)]) rfl (by kernel_rfl) (by kernel_rfl) (by rfl) (by rfl) (by decide) (by decide)
theorem ti19 : TFact Tryd.prog 19 { kd := 4, size := 1, zero := .agg #[(.pointer none)], offs := [(0, 1)] } := TFact.struct1 (fs := _) (z := #[(.pointer none)]) (offs := [(0, 1)]) rfl (by kernel_rfl) (by kernel_rfl) (by rfl) (by rfl) (by decide) (by decide)
theorem ti20 : TFact Tryd.prog 20 { kd := 1, size := 1, zero := .nilIface } := TFact.cell (fun w => by kernel_rfl) (by kernel_rfl) rfl
theorem ti21 : TFact Tryd.prog 21 { kd := 1, size := 1, zero := .int .i32 0, ik := some .i32 } := TFact.int1 (by kernel_rfl) (by kernel_rfl)
theorem ti22 : TFact Tryd.prog 22 { kd := 3, size := 5, zero := .agg #[(.int .u8 (0)), (.int .u8 (0)), (.int .u8 (0)), (.int .u8 (0)), (.int .u8 (0))], elem := 1, eb := 1, ez := .int .u8 (0), len := 5, one1 := true, eqd := some (.arr 5 (.int .u8)) } := TFact.array1 (e := 5) (ze := .int .u8 (0)) (z := #[(.int .u8 (0)), (.int .u8 (0)), (.int .u8 (0)), (.int .u8 (0)), (.int .u8 (0))]) (by kernel_rfl) (by kernel_rfl) (by kernel_rfl) (by rfl) (by rfl) (by decide) (o1 := true) (fun _ w => by kernel_rfl) (q := some (.arr 5 (.int .u8))) (eq_arr (e := 5) (by kernel_rfl) (by kernel_rfl) (by kernel_rfl) (fun w => by kernel_rfl) (by kernel_rfl) (by kernel_rfl))
theorem ti23 : TFact Tryd.prog 23 { kd := 3, size := 15, zero := .agg #[(.int .u8 (0)), (.int .u8 (0)), (.int .u8 (0)), (.int .u8 (0)), (.int .u8 (0)), (.int .u8 (0)), (.int .u8 (0)), (.int .u8 (0)), (.int .u8 (0)), (.int .u8 (0)), (.int .u8 (0)), (.int .u8 (0)), (.int .u8 (0)), (.int .u8 (0)), (.int .u8 (0))], elem := 5, eb := 5, ez := .agg #[(.int .u8 (0)), (.int .u8 (0)), (.int .u8 (0)), (.int .u8 (0)), (.int .u8 (0))], len := 3, one1 := false, eqd := none, ag1 := true } := TFact.aggs (e := 22) (TFact.array1 (e := 22) (ze := .agg #[(.int .u8 (0)), (.int .u8 (0)), (.int .u8 (0)), (.int .u8 (0)), (.int .u8 (0))]) (z := #[(.int .u8 (0)), (.int .u8 (0)), (.int .u8 (0)), (.int .u8 (0)), (.int .u8 (0)), (.int .u8 (0)), (.int .u8 (0)), (.int .u8 (0)), (.int .u8 (0)), (.int .u8 (0)), (.int .u8 (0)), (.int .u8 (0)), (.int .u8 (0)), (.int .u8 (0)), (.int .u8 (0))]) (by kernel_rfl) (by kernel_rfl) (by kernel_rfl) (by rfl) (by rfl) (by decide) (o1 := false) (fun h => by cases h) (q := none) (fun t h => by cases h)) (by kernel_rfl) (fun w => by kernel_rfl)
theorem ti24 : TFact Tryd.prog 24 { kd := 2, size := 1, zero := .slice none 0 0, elem := 1, eb := 24, ez := .slice none 0 0 } := TFact.slice1 (e := 27) (ze := .slice none 0 0) (by kernel_rfl) (by kernel_rfl) (by kernel_rfl) (by rfl) (by rfl) (by decide)
theorem ti25 : TFact Tryd.prog 25 { kd := 4, size := 2, zero := .agg #[(.int .i64 (0)), .slice none 0 0], offs := [(0, 1), (1, 1)] } := TFact.struct1 (fs := _) (z := #[(.int .i64 (0)), .slice none 0 0]) (offs := [(0, 1), (1, 1)]) rfl (by kernel_rfl) (by kernel_rfl) (by rfl) (by rfl) (by decide) (by decide)
theorem ti26 : TFact Tryd.prog 26 { kd := 4, size := 2, zero := .agg #[(.int .i64 (0)), .slice none 0 0], offs := [(0, 1), (1, 1)] } := TFact.struct1 (fs := _) (z := #[(.int .i64 (0)), .slice none 0 0]) (offs := [(0, 1), (1, 1)]) rfl (by kernel_rfl) (by kernel_rfl) (by rfl) (by rfl) (by decide) (by decide)
theorem ti27 : TFact Tryd.prog 27 { kd := 2, size := 1, zero := .slice none 0 0, elem := 1, eb := 8, ez := .int .i64 (0) } := TFact.slice1 (e := 3) (ze := .int .i64 (0)) (by kernel_rfl) (by kernel_rfl) (by kernel_rfl) (by rfl) (by rfl) (by decide)
theorem ti28 : TFact Tryd.prog 28 { kd := 1, size := 1, zero := .int .i64 0, ik := some .i64 } := TFact.int1 (by kernel_rfl) (by kernel_rfl)
theorem ti30 : TFact Tryd.prog 30 { kd := 1, size := 1, zero := .nilFunc } := TFact.cell (fun w => by kernel_rfl) (by kernel_rfl) rfl
theorem ti31 : TFact Tryd.prog 31 { kd := 1, size := 1, zero := .nilFunc } := TFact.cell (fun w => by kernel_rfl) (by kernel_rfl) rfl
theorem ti33 : TFact Tryd.prog 33 { kd := 1, size := 1, zero := .nilFunc } := TFact.cell (fun w => by kernel_rfl) (by kernel_rfl) rfl
theorem ti34 : TFact Tryd.prog 34 { kd := 1, size := 1, zero := .nilFunc } := TFact.cell (fun w => by kernel_rfl) (by kernel_rfl) rfl
theorem ti35 : TFact Tryd.prog 35 { kd := 1, size := 1, zero := .nilFunc } := TFact.cell (fun w => by kernel_rfl) (by kernel_rfl) rfl
theorem ti36 : TFact Tryd.prog 36 { kd := 1, size := 1, zero := .nilFunc } := TFact.cell (fun w => by kernel_rfl) (by kernel_rfl) rfl
theorem ti37 : TFact Tryd.prog 37 { kd := 1, size := 1, zero := .nilFunc } := TFact.cell (fun w => by kernel_rfl) (by kernel_rfl) rfl
theorem ti38 : TFact Tryd.prog 38 { kd := 3, size := 8, zero := .agg #[(.int .u8 (0)), (.int .u8 (0)), (.int .u8 (0)), (.int .u8 (0)), (.int .u8 (0)), (.int .u8 (0)), (.int .u8 (0)), (.int .u8 (0))], elem := 1, eb := 1, ez := .int .u8 (0), len := 8, one1 := true, eqd := some (.arr 8 (.int .u8)) } := TFact.array1 (e := 5) (ze := .int .u8 (0)) (z := #[(.int .u8 (0)), (.int .u8 (0)), (.int .u8 (0)), (.int .u8 (0)), (.int .u8 (0)), (.int .u8 (0)), (.int .u8 (0)), (.int .u8 (0))]) (by kernel_rfl) (by kernel_rfl) (by kernel_rfl) (by rfl) (by rfl) (by decide) (o1 := true) (fun _ w => by kernel_rfl) (q := some (.arr 8 (.int .u8))) (eq_arr (e := 5) (by kernel_rfl) (by kernel_rfl) (by kernel_rfl) (fun w => by kernel_rfl) (by kernel_rfl) (by kernel_rfl))
theorem ti39 : TFact Tryd.prog 39 { kd := 3, size := 8, zero := .agg #[(.int .u8 (0)), (.int .u8 (0)), (.int .u8 (0)), (.int .u8 (0)), (.int .u8 (0)), (.int .u8 (0)), (.int .u8 (0)), (.int .u8 (0))], elem := 1, eb := 1, ez := .int .u8 (0), len := 8, one1 := true, eqd := some (.arr 8 (.int .u8)) } := TFact.array1 (e := 5) (ze := .int .u8 (0)) (z := #[(.int .u8 (0)), (.int .u8 (0)), (.int .u8 (0)), (.int .u8 (0)), (.int .u8 (0)), (.int .u8 (0)), (.int .u8 (0)), (.int .u8 (0))]) (by kernel_rfl) (by kernel_rfl) (by kernel_rfl) (by rfl) (by rfl) (by decide) (o1 := true) (fun _ w => by kernel_rfl) (q := some (.arr 8 (.int .u8))) (eq_arr (e := 5) (by kernel_rfl) (by kernel_rfl) (by kernel_rfl) (fun w => by kernel_rfl) (by kernel_rfl) (by kernel_rfl))
theorem ti40 : TFact Tryd.prog 40 { kd := 1, size := 1, zero := .nilFunc } := TFact.cell (fun w => by kernel_rfl) (by kernel_rfl) rfl
theorem ti41 : TFact Tryd.prog 41 { kd := 1, size := 1, zero := .nilFunc } := TFact.cell (fun w => by kernel_rfl) (by kernel_rfl) rfl
theorem ti42 : TFact Tryd.prog 42 { kd := 4, size := 3, zero := .agg #[(.int .i64 (0)), .slice none 0 0, (.bool false)], offs := [(0, 1), (1, 1), (2, 1)] } := TFact.struct1 (fs := _) (z := #[(.int .i64 (0)), .slice none 0 0, (.bool false)]) (offs := [(0, 1), (1, 1), (2, 1)]) rfl (by kernel_rfl) (by kernel_rfl) (by rfl) (by rfl) (by decide) (by decide)
theorem ti43 : TFact Tryd.prog 43 { kd := 4, size := 3, zero := .agg #[(.int .i64 (0)), .slice none 0 0, (.bool false)], offs := [(0, 1), (1, 1), (2, 1)] } := TFact.struct1 (fs := _) (z := #[(.int .i64 (0)), .slice none 0 0, (.bool false)]) (offs := [(0, 1), (1, 1), (2, 1)]) rfl (by kernel_rfl) (by kernel_rfl) (by rfl) (by rfl) (by decide) (by decide)
theorem ti44 : TFact Tryd.prog 44 { kd := 1, size := 1, zero := .nilFunc } := TFact.cell (fun w => by kernel_rfl) (by kernel_rfl) rfl
theorem ti45 : TFact Tryd.prog 45 { kd := 1, size := 1, zero := .nilFunc } := TFact.cell (fun w => by kernel_rfl) (by kernel_rfl) rfl
theorem ti46 : TFact Tryd.prog 46 { kd := 1, size := 1, zero := .nilFunc } := TFact.cell (fun w => by kernel_rfl) (by kernel_rfl) rfl
theorem ti47 : TFact Tryd.prog 47 { kd := 1, size := 1, zero := .nilFunc } := TFact.cell (fun w => by kernel_rfl) (by kernel_rfl) rfl
theorem ti48 : TFact Tryd.prog 48 { kd := 1, size := 1, zero := .nilFunc } := TFact.cell (fun w => by kernel_rfl) (by kernel_rfl) rfl
theorem ti49 : TFact Tryd.prog 49 { kd := 1, size := 1, zero := .nilFunc } := TFact.cell (fun w => by kernel_rfl) (by kernel_rfl) rfl
theorem ti50 : TFact Tryd.prog 50 { kd := 1, size := 1, zero := .nilFunc } := TFact.cell (fun w => by kernel_rfl) (by kernel_rfl) rfl
theorem ti51 : TFact Tryd.prog 51 { kd := 1, size := 1, zero := .nilFunc } := TFact.cell (fun w => by kernel_rfl) (by kernel_rfl) rfl
theorem ti52 : TFact Tryd.prog 52 { kd := 1, size := 1, zero := .nilFunc } := TFact.cell (fun w => by kernel_rfl) (by kernel_rfl) rfl
theorem ti53 : TFact Tryd.prog 53 { kd := 1, size := 1, zero := .nilFunc } := TFact.cell (fun w => by kernel_rfl) (by kernel_rfl) rfl
theorem ti54 : TFact Tryd.prog 54 { kd := 1, size := 1, zero := .nilFunc } := TFact.cell (fun w => by kernel_rfl) (by kernel_rfl) rfl
theorem ti55 : TFact Tryd.prog 55 { kd := 1, size := 1, zero := .nilFunc } := TFact.cell (fun w => by kernel_rfl) (by kernel_rfl) rfl
theorem ti56 : TFact Tryd.prog 56 { kd := 1, size := 1, zero := .nilFunc } := TFact.cell (fun w => by kernel_rfl) (by kernel_rfl) rfl
theorem ti57 : TFact Tryd.prog 57 { kd := 1, size := 1, zero := .nilFunc } := TFact.cell (fun w => by kernel_rfl) (by kernel_rfl) rfl
theorem ti58 : TFact Tryd.prog 58 { kd := 3, size := 2, zero := .agg #[(.int .i64 (0)), (.int .i64 (0))], elem := 1, eb := 8, ez := .int .i64 (0), len := 2, one1 := true, eqd := some (.arr 2 (.int .i64)) } := TFact.array1 (e := 3) (ze := .int .i64 (0)) (z := #[(.int .i64 (0)), (.int .i64 (0))]) (by kernel_rfl) (by kernel_rfl) (by kernel_rfl) (by rfl) (by rfl) (by decide) (o1 := true) (fun _ w => by kernel_rfl) (q := some (.arr 2 (.int .i64))) (eq_arr (e := 3) (by kernel_rfl) (by kernel_rfl) (by kernel_rfl) (fun w => by kernel_rfl) (by kernel_rfl) (by kernel_rfl))
theorem ti60 : TFact Tryd.prog 60 { kd := 1, size := 1, zero := .nilFunc } := TFact.cell (fun w => by kernel_rfl) (by kernel_rfl) rfl
theorem ti61 : TFact Tryd.prog 61 { kd := 1, size := 1, zero := .nilFunc } := TFact.cell (fun w => by kernel_rfl) (by kernel_rfl) rfl
theorem ti62 : TFact Tryd.prog 62 { kd := 2, size := 1, zero := .slice none 0 0, elem := 2, eb := 16, ez := .agg #[(.int .i64 (0)), (.nilFunc)] } := TFact.slice1 (e := 66) (ze := .agg #[(.int .i64 (0)), (.nilFunc)]) (by kernel_rfl) (by kernel_rfl) (by kernel_rfl) (by rfl) (by rfl) (by decide)
theorem ti63 : TFact Tryd.prog 63 { kd := 1, size := 1, zero := .nilFunc } := TFact.cell (fun w => by kernel_rfl) (by kernel_rfl) rfl
theorem ti64 : TFact Tryd.prog 64 { kd := 1, size := 1, zero := .nilFunc } := TFact.cell (fun w => by kernel_rfl) (by kernel_rfl) rfl
theorem ti65 : TFact Tryd.prog 65 { kd := 4, size := 2, zero := .agg #[(.int .i64 (0)), (.nilFunc)], offs := [(0, 1), (1, 1)] } := TFact.struct1 (fs := _) (z := #[(.int .i64 (0)), (.nilFunc)]) (offs := [(0, 1), (1, 1)]) rfl (by kernel_rfl) (by kernel_rfl) (by rfl) (by rfl) (by decide) (by decide)
theorem ti66 : TFact Tryd.prog 66 { kd := 4, size := 2, zero := .agg #[(.int .i64 (0)), (.nilFunc)], offs := [(0, 1), (1, 1)] } := TFact.struct1 (fs := _) (z := #[(.int .i64 (0)), (.nilFunc)]) (offs := [(0, 1), (1, 1)]) rfl (by kernel_rfl) (by kernel_rfl) (by rfl) (by rfl) (by decide) (by decide)
theorem ti67 : TFact Tryd.prog 67 { kd := 1, size := 1, zero := .nilFunc } := TFact.cell (fun w => by kernel_rfl) (by kernel_rfl) rfl
theorem ti68 : TFact Tryd.prog 68 { kd := 1, size := 1, zero := .nilFunc } := TFact.cell (fun w => by kernel_rfl) (by kernel_rfl) rfl
theorem ti70 : TFact Tryd.prog 70 { kd := 1, size := 1, zero := .nilFunc } := TFact.cell (fun w => by kernel_rfl) (by kernel_rfl) rfl
theorem ti71 : TFact Tryd.prog 71 { kd := 1, size := 1, zero := .nilFunc } := TFact.cell (fun w => by kernel_rfl) (by kernel_rfl) rfl
theorem ti73 : TFact Tryd.prog 73 { kd := 1, size := 1, zero := .nilFunc } := TFact.cell (fun w => by kernel_rfl) (by kernel_rfl) rfl
theorem ti74 : TFact Tryd.prog 74 { kd := 1, size := 1, zero := .nilFunc } := TFact.cell (fun w => by kernel_rfl) (by kernel_rfl) rfl
theorem ti75 : TFact Tryd.prog 75 { kd := 1, size := 1, zero := .nilFunc } := TFact.cell (fun w => by kernel_rfl) (by kernel_rfl) rfl
theorem ti77 : TFact Tryd.prog 77 { kd := 1, size := 1, zero := .nilFunc } := TFact.cell (fun w => by kernel_rfl) (by kernel_rfl) rfl
theorem ti78 : TFact Tryd.prog 78 { kd := 1, size := 1, zero := .nilFunc } := TFact.cell (fun w => by kernel_rfl) (by kernel_rfl) rfl
theorem ti79 : TFact Tryd.prog 79 { kd := 1, size := 1, zero := .nilFunc } := TFact.cell (fun w => by kernel_rfl) (by kernel_rfl) rfl
theorem ti80 : TFact Tryd.prog 80 { kd := 4, size := 2, zero := .agg #[(.int .i64 (0)), .slice none 0 0], offs := [(0, 1), (1, 1)] } := TFact.struct1 (fs := _) (z := #[(.int .i64 (0)), .slice none 0 0]) (offs := [(0, 1), (1, 1)]) rfl (by kernel_rfl) (by kernel_rfl) (by rfl) (by rfl) (by decide) (by decide)
theorem ti81 : TFact Tryd.prog 81 { kd := 4, size := 2, zero := .agg #[(.int .i64 (0)), .slice none 0 0], offs := [(0, 1), (1, 1)] } := TFact.struct1 (fs := _) (z := #[(.int .i64 (0)), .slice none 0 0]) (offs := [(0, 1), (1, 1)]) rfl (by kernel_rfl) (by kernel_rfl) (by rfl) (by rfl) (by decide) (by decide)
theorem ti82 : TFact Tryd.prog 82 { kd := 1, size := 1, zero := .int .u64 0, ik := some .u64 } := TFact.int1 (by kernel_rfl) (by kernel_rfl)
theorem ti83 : TFact Tryd.prog 83 { kd := 1, size := 1, zero := .nilFunc } := TFact.cell (fun w => by kernel_rfl) (by kernel_rfl) rfl
theorem ti84 : TFact Tryd.prog 84 { kd := 1, size := 1, zero := .nilFunc } := TFact.cell (fun w => by kernel_rfl) (by kernel_rfl) rfl
theorem ti85 : TFact Tryd.prog 85 { kd := 1, size := 1, zero := .nilFunc } := TFact.cell (fun w => by kernel_rfl) (by kernel_rfl) rfl
theorem ti86 : TFact Tryd.prog 86 { kd := 1, size := 1, zero := .nilFunc } := TFact.cell (fun w => by kernel_rfl) (by kernel_rfl) rfl
theorem ti87 : TFact Tryd.prog 87 { kd := 1, size := 1, zero := .nilFunc } := TFact.cell (fun w => by kernel_rfl) (by kernel_rfl) rfl
theorem ti88 : TFact Tryd.prog 88 { kd := 1, size := 1, zero := .int .u8 0, ik := some .u8 } := TFact.int1 (by kernel_rfl) (by kernel_rfl)
theorem ti90 : TFact Tryd.prog 90 { kd := 1, size := 1, zero := .nilFunc } := TFact.cell (fun w => by kernel_rfl) (by kernel_rfl) rfl
theorem ti92 : TFact Tryd.prog 92 { kd := 1, size := 1, zero := .nilFunc } := TFact.cell (fun w => by kernel_rfl) (by kernel_rfl) rfl
theorem ti93 : TFact Tryd.prog 93 { kd := 1, size := 1, zero := .nilFunc } := TFact.cell (fun w => by kernel_rfl) (by kernel_rfl) rfl
theorem ti94 : TFact Tryd.prog 94 { kd := 1, size := 1, zero := .nilFunc } := TFact.cell (fun w => by kernel_rfl) (by kernel_rfl) rfl
theorem ti95 : TFact Tryd.prog 95 { kd := 1, size := 1, zero := .nilFunc } := TFact.cell (fun w => by kernel_rfl) (by kernel_rfl) rfl
theorem ti96 : TFact Tryd.prog 96 { kd := 1, size := 1, zero := .map none, mp := some (88, 4), mkv := some (.int .u8, .bool) } := TFact.map1 (by kernel_rfl) (by kernel_rfl) (q := some (.int .u8, .bool)) (mkv_of (z := .bool false) (mapKey_int (by kernel_rfl)) (by kernel_rfl) (by rfl) (by rfl))
theorem ti97 : TFact Tryd.prog 97 { kd := 2, size := 1, zero := .slice none 0 0, elem := 1, eb := 1, ez := .int .u8 (0), b8 := true } := TFact.bytes (TFact.slice1 (e := 88) (ze := .int .u8 (0)) (by kernel_rfl) (by kernel_rfl) (by kernel_rfl) (by rfl) (by rfl) (by decide)) ⟨88, by kernel_rfl, by kernel_rfl⟩
theorem ti98 : TFact Tryd.prog 98 { kd := 1, size := 1, zero := .nilFunc } := TFact.cell (fun w => by kernel_rfl) (by kernel_rfl) rfl
theorem ti99 : TFact Tryd.prog 99 { kd := 1, size := 1, zero := .nilIface } := TFact.cell (fun w => by kernel_rfl) (by kernel_rfl) rfl
theorem ti100 : TFact Tryd.prog 100 { kd := 1, size := 1, zero := .nilIface } := TFact.cell (fun w => by kernel_rfl) (by kernel_rfl) rfl
theorem ti101 : TFact Tryd.prog 101 { kd := 1, size := 1, zero := .nilFunc } := TFact.cell (fun w => by kernel_rfl) (by kernel_rfl) rfl
theorem ti102 : TFact Tryd.prog 102 { kd := 1, size := 1, zero := .nilFunc } := TFact.cell (fun w => by kernel_rfl) (by kernel_rfl) rfl
theorem ti103 : TFact Tryd.prog 103 { kd := 1, size := 1, zero := .int .i64 0, ik := some .i64, mth := [("tusche/ink.over", 77)] } := TFact.meth (d := { kd := 1, size := 1, zero := .int .i64 0, ik := some .i64 }) (TFact.int1 (by kernel_rfl) (by kernel_rfl)) [("tusche/ink.over", 77)] (lookup_one (fun n v w => method_of (d := .int .i64) (by kernel_rfl) (by rfl) (by kernel_rfl) n v w))
theorem ti104 : TFact Tryd.prog 104 { kd := 2, size := 1, zero := .slice none 0 0, elem := 1, eb := 8, ez := .int .i64 (0), mth := [("tusche/ink.over", 101)] } := TFact.meth (d := { kd := 2, size := 1, zero := .slice none 0 0, elem := 1, eb := 8, ez := .int .i64 (0) }) (TFact.slice1 (e := 3) (ze := .int .i64 (0)) (by kernel_rfl) (by kernel_rfl) (by kernel_rfl) (by rfl) (by rfl) (by decide)) [("tusche/ink.over", 101)] (lookup_one (fun n v w => method_of (d := .slice 3) (by kernel_rfl) (by rfl) (by kernel_rfl) n v w))
theorem ti105 : TFact Tryd.prog 105 { kd := 1, size := 1, zero := .nilFunc } := TFact.cell (fun w => by kernel_rfl) (by kernel_rfl) rfl
theorem ti106 : TFact Tryd.prog 106 { kd := 3, size := 10, zero := .agg #[(.bool false), (.bool false), (.bool false), (.bool false), (.bool false), (.bool false), (.bool false), (.bool false), (.bool false), (.bool false)], elem := 1, eb := 1, ez := .bool false, len := 10, one1 := true, eqd := none } := TFact.array1 (e := 4) (ze := .bool false) (z := #[(.bool false), (.bool false), (.bool false), (.bool false), (.bool false), (.bool false), (.bool false), (.bool false), (.bool false), (.bool false)]) (by kernel_rfl) (by kernel_rfl) (by kernel_rfl) (by rfl) (by rfl) (by decide) (o1 := true) (fun _ w => by kernel_rfl) (q := none) (fun t h => by cases h)
theorem ti107 : TFact Tryd.prog 107 { kd := 1, size := 1, zero := .nilFunc } := TFact.cell (fun w => by kernel_rfl) (by kernel_rfl) rfl
theorem ti108 : TFact Tryd.prog 108 { kd := 4, size := 4, zero := .agg #[(.pointer none), (.pointer none), (.pointer none), (.string ⟨⟨[]⟩⟩)], offs := [(0, 1), (1, 1), (2, 1), (3, 1)] } := TFact.struct1 (fs := _) (z := #[(.pointer none), (.pointer none), (.pointer none), (.string ⟨⟨[]⟩⟩)]) (offs := [(0, 1), (1, 1), (2, 1), (3, 1)]) rfl (by kernel_rfl) (by kernel_rfl) (by rfl) (by rfl) (by decide) (by decide)
theorem ti109 : TFact Tryd.prog 109 { kd := 4, size := 4, zero := .agg #[(.pointer none), (.pointer none), (.pointer none), (.string ⟨⟨[]⟩⟩)], offs := [(0, 1), (1, 1), (2, 1), (3, 1)] } := TFact.struct1 (fs := _) (z := #[(.pointer none), (.pointer none), (.pointer none), (.string ⟨⟨[]⟩⟩)]) (offs := [(0, 1), (1, 1), (2, 1), (3, 1)]) rfl (by kernel_rfl) (by kernel_rfl) (by rfl) (by rfl) (by decide) (by decide)
theorem ti113 : TFact Tryd.prog 113 { kd := 1, size := 1, zero := .int .u32 0, ik := some .u32 } := TFact.int1 (by kernel_rfl) (by kernel_rfl)
theorem ti114 : TFact Tryd.prog 114 { kd := 1, size := 1, zero := .int .u8 0, ik := some .u8 } := TFact.int1 (by kernel_rfl) (by kernel_rfl)
theorem ti115 : TFact Tryd.prog 115 { kd := 1, size := 1, zero := .int .u8 0, ik := some .u8 } := TFact.int1 (by kernel_rfl) (by kernel_rfl)
theorem ti116 : TFact Tryd.prog 116 { kd := 1, size := 1, zero := .nilFunc } := TFact.cell (fun w => by kernel_rfl) (by kernel_rfl) rfl
theorem ti117 : TFact Tryd.prog 117 { kd := 1, size := 1, zero := .pointer none, pt := true } := TFact.ptr1 (e := 5) (by kernel_rfl) (by kernel_rfl)
theorem ti118 : TFact Tryd.prog 118 { kd := 1, size := 1, zero := .int .i32 0, ik := some .i32 } := TFact.int1 (by kernel_rfl) (by kernel_rfl)
theorem ti119 : TFact Tryd.prog 119 { kd := 1, size := 1, zero := .int .i32 0, ik := some .i32 } := TFact.int1 (by kernel_rfl) (by kernel_rfl)
theorem ti120 : TFact Tryd.prog 120 { kd := 4, size := 11, zero := .agg #[(.int .u64 (0)), (.int .u64 (0)), (.int .u32 (0)), (.int .u8 (0)), (.int .u8 (0)), (.int .u8 (0)), (.int .u8 (0)), (.nilFunc), (.pointer none), (.int .i32 (0)), (.int .i32 (0))], offs := [(0, 1), (1, 1), (2, 1), (3, 1), (4, 1), (5, 1), (6, 1), (7, 1), (8, 1), (9, 1), (10, 1)] } := TFact.struct1 (fs := _) (z := #[(.int .u64 (0)), (.int .u64 (0)), (.int .u32 (0)), (.int .u8 (0)), (.int .u8 (0)), (.int .u8 (0)), (.int .u8 (0)), (.nilFunc), (.pointer none), (.int .i32 (0)), (.int .i32 (0))]) (offs := [(0, 1), (1, 1), (2, 1), (3, 1), (4, 1), (5, 1), (6, 1), (7, 1), (8, 1), (9, 1), (10, 1)]) rfl (by kernel_rfl) (by kernel_rfl) (by rfl) (by rfl) (by decide) (by decide)
theorem ti121 : TFact Tryd.prog 121 { kd := 4, size := 11, zero := .agg #[(.int .u64 (0)), (.int .u64 (0)), (.int .u32 (0)), (.int .u8 (0)), (.int .u8 (0)), (.int .u8 (0)), (.int .u8 (0)), (.nilFunc), (.pointer none), (.int .i32 (0)), (.int .i32 (0))], offs := [(0, 1), (1, 1), (2, 1), (3, 1), (4, 1), (5, 1), (6, 1), (7, 1), (8, 1), (9, 1), (10, 1)] } := TFact.struct1 (fs := _) (z := #[(.int .u64 (0)), (.int .u64 (0)), (.int .u32 (0)), (.int .u8 (0)), (.int .u8 (0)), (.int .u8 (0)), (.int .u8 (0)), (.nilFunc), (.pointer none), (.int .i32 (0)), (.int .i32 (0))]) (offs := [(0, 1), (1, 1), (2, 1), (3, 1), (4, 1), (5, 1), (6, 1), (7, 1), (8, 1), (9, 1), (10, 1)]) rfl (by kernel_rfl) (by kernel_rfl) (by rfl) (by rfl) (by decide) (by decide)
theorem ti122 : TFact Tryd.prog 122 { kd := 1, size := 1, zero := .nilFunc } := TFact.cell (fun w => by kernel_rfl) (by kernel_rfl) rfl
def TI : Nat → TD
 | 1 => { kd := 1, size := 1, zero := .nilFunc }
 | 2 => { kd := 1, size := 1, zero := .int .i64 0, ik := some .i64 }
 | 3 => { kd := 1, size := 1, zero := .int .i64 0, ik := some .i64 }
 | 4 => { kd := 1, size := 1, zero := .bool false, bl := true }
 | 5 => { kd := 1, size := 1, zero := .int .u8 0, ik := some .u8 }
 | 6 => { kd := 1, size := 1, zero := .int .u8 0, ik := some .u8 }
 | 7 => { kd := 4, size := 4, zero := .agg #[(.int .i64 (0)), (.int .i64 (0)), (.bool false), (.int .u8 (0))], offs := [(0, 1), (1, 1), (2, 1), (3, 1)] }
 | 8 => { kd := 4, size := 4, zero := .agg #[(.int .i64 (0)), (.int .i64 (0)), (.bool false), (.int .u8 (0))], offs := [(0, 1), (1, 1), (2, 1), (3, 1)] }
 | 9 => { kd := 1, size := 1, zero := .string ⟨⟨[]⟩⟩, st := true }
 | 10 => { kd := 1, size := 1, zero := .string ⟨⟨[]⟩⟩, st := true }
 | 11 => { kd := 1, size := 1, zero := .string ⟨⟨[]⟩⟩, st := true }
 | 12 => { kd := 1, size := 1, zero := .int .u64 0, ik := some .u64 }
 | 13 => { kd := 4, size := 2, zero := .agg #[(.string ⟨⟨[]⟩⟩), (.int .u64 (0))], offs := [(0, 1), (1, 1)] }
 | 14 => { kd := 4, size := 2, zero := .agg #[(.string ⟨⟨[]⟩⟩), (.int .u64 (0))], offs := [(0, 1), (1, 1)] }
 | 15 => { kd := 1, size := 1, zero := .pointer none, pt := true }
 | 16 => { kd := 1, size := 1, zero := .pointer none, pt := true }
 | 17 => { kd := 1, size := 1, zero := .pointer none, pt := true }
 | 18 => { kd := 4, size := 1, zero := .agg #[(.pointer none)], offs := [(0, 1)] }
 | 19 => { kd := 4, size := 1, zero := .agg #[(.pointer none)], offs := [(0, 1)] }
 | 20 => { kd := 1, size := 1, zero := .nilIface }
 | 21 => { kd := 1, size := 1, zero := .int .i32 0, ik := some .i32 }
 | 22 => { kd := 3, size := 5, zero := .agg #[(.int .u8 (0)), (.int .u8 (0)), (.int .u8 (0)), (.int .u8 (0)), (.int .u8 (0))], elem := 1, eb := 1, ez := .int .u8 (0), len := 5, one1 := true, eqd := some (.arr 5 (.int .u8)) }
 | 23 => { kd := 3, size := 15, zero := .agg #[(.int .u8 (0)), (.int .u8 (0)), (.int .u8 (0)), (.int .u8 (0)), (.int .u8 (0)), (.int .u8 (0)), (.int .u8 (0)), (.int .u8 (0)), (.int .u8 (0)), (.int .u8 (0)), (.int .u8 (0)), (.int .u8 (0)), (.int .u8 (0)), (.int .u8 (0)), (.int .u8 (0))], elem := 5, eb := 5, ez := .agg #[(.int .u8 (0)), (.int .u8 (0)), (.int .u8 (0)), (.int .u8 (0)), (.int .u8 (0))], len := 3, one1 := false, eqd := none, ag1 := true }
 | 24 => { kd := 2, size := 1, zero := .slice none 0 0, elem := 1, eb := 24, ez := .slice none 0 0 }
 | 25 => { kd := 4, size := 2, zero := .agg #[(.int .i64 (0)), .slice none 0 0], offs := [(0, 1), (1, 1)] }
 | 26 => { kd := 4, size := 2, zero := .agg #[(.int .i64 (0)), .slice none 0 0], offs := [(0, 1), (1, 1)] }
 | 27 => { kd := 2, size := 1, zero := .slice none 0 0, elem := 1, eb := 8, ez := .int .i64 (0) }
 | 28 => { kd := 1, size := 1, zero := .int .i64 0, ik := some .i64 }
 | 30 => { kd := 1, size := 1, zero := .nilFunc }
 | 31 => { kd := 1, size := 1, zero := .nilFunc }
 | 33 => { kd := 1, size := 1, zero := .nilFunc }
 | 34 => { kd := 1, size := 1, zero := .nilFunc }
 | 35 => { kd := 1, size := 1, zero := .nilFunc }
 | 36 => { kd := 1, size := 1, zero := .nilFunc }
 | 37 => { kd := 1, size := 1, zero := .nilFunc }
 | 38 => { kd := 3, size := 8, zero := .agg #[(.int .u8 (0)), (.int .u8 (0)), (.int .u8 (0)), (.int .u8 (0)), (.int .u8 (0)), (.int .u8 (0)), (.int .u8 (0)), (.int .u8 (0))], elem := 1, eb := 1, ez := .int .u8 (0), len := 8, one1 := true, eqd := some (.arr 8 (.int .u8)) }
 | 39 => { kd := 3, size := 8, zero := .agg #[(.int .u8 (0)), (.int .u8 (0)), (.int .u8 (0)), (.int .u8 (0)), (.int .u8 (0)), (.int .u8 (0)), (.int .u8 (0)), (.int .u8 (0))], elem := 1, eb := 1, ez := .int .u8 (0), len := 8, one1 := true, eqd := some (.arr 8 (.int .u8)) }
 | 40 => { kd := 1, size := 1, zero := .nilFunc }
 | 41 => { kd := 1, size := 1, zero := .nilFunc }
 | 42 => { kd := 4, size := 3, zero := .agg #[(.int .i64 (0)), .slice none 0 0, (.bool false)], offs := [(0, 1), (1, 1), (2, 1)] }
 | 43 => { kd := 4, size := 3, zero := .agg #[(.int .i64 (0)), .slice none 0 0, (.bool false)], offs := [(0, 1), (1, 1), (2, 1)] }
 | 44 => { kd := 1, size := 1, zero := .nilFunc }
 | 45 => { kd := 1, size := 1, zero := .nilFunc }
 | 46 => { kd := 1, size := 1, zero := .nilFunc }
 | 47 => { kd := 1, size := 1, zero := .nilFunc }
 | 48 => { kd := 1, size := 1, zero := .nilFunc }
 | 49 => { kd := 1, size := 1, zero := .nilFunc }
 | 50 => { kd := 1, size := 1, zero := .nilFunc }
 | 51 => { kd := 1, size := 1, zero := .nilFunc }
 | 52 => { kd := 1, size := 1, zero := .nilFunc }
 | 53 => { kd := 1, size := 1, zero := .nilFunc }
 | 54 => { kd := 1, size := 1, zero := .nilFunc }
 | 55 => { kd := 1, size := 1, zero := .nilFunc }
 | 56 => { kd := 1, size := 1, zero := .nilFunc }
 | 57 => { kd := 1, size := 1, zero := .nilFunc }
 | 58 => { kd := 3, size := 2, zero := .agg #[(.int .i64 (0)), (.int .i64 (0))], elem := 1, eb := 8, ez := .int .i64 (0), len := 2, one1 := true, eqd := some (.arr 2 (.int .i64)) }
 | 60 => { kd := 1, size := 1, zero := .nilFunc }
 | 61 => { kd := 1, size := 1, zero := .nilFunc }
 | 62 => { kd := 2, size := 1, zero := .slice none 0 0, elem := 2, eb := 16, ez := .agg #[(.int .i64 (0)), (.nilFunc)] }
 | 63 => { kd := 1, size := 1, zero := .nilFunc }
 | 64 => { kd := 1, size := 1, zero := .nilFunc }
 | 65 => { kd := 4, size := 2, zero := .agg #[(.int .i64 (0)), (.nilFunc)], offs := [(0, 1), (1, 1)] }
 | 66 => { kd := 4, size := 2, zero := .agg #[(.int .i64 (0)), (.nilFunc)], offs := [(0, 1), (1, 1)] }
 | 67 => { kd := 1, size := 1, zero := .nilFunc }
 | 68 => { kd := 1, size := 1, zero := .nilFunc }
 | 70 => { kd := 1, size := 1, zero := .nilFunc }
 | 71 => { kd := 1, size := 1, zero := .nilFunc }
 | 73 => { kd := 1, size := 1, zero := .nilFunc }
 | 74 => { kd := 1, size := 1, zero := .nilFunc }
 | 75 => { kd := 1, size := 1, zero := .nilFunc }
 | 77 => { kd := 1, size := 1, zero := .nilFunc }
 | 78 => { kd := 1, size := 1, zero := .nilFunc }
 | 79 => { kd := 1, size := 1, zero := .nilFunc }
 | 80 => { kd := 4, size := 2, zero := .agg #[(.int .i64 (0)), .slice none 0 0], offs := [(0, 1), (1, 1)] }
 | 81 => { kd := 4, size := 2, zero := .agg #[(.int .i64 (0)), .slice none 0 0], offs := [(0, 1), (1, 1)] }
 | 82 => { kd := 1, size := 1, zero := .int .u64 0, ik := some .u64 }
 | 83 => { kd := 1, size := 1, zero := .nilFunc }
 | 84 => { kd := 1, size := 1, zero := .nilFunc }
 | 85 => { kd := 1, size := 1, zero := .nilFunc }
 | 86 => { kd := 1, size := 1, zero := .nilFunc }
 | 87 => { kd := 1, size := 1, zero := .nilFunc }
 | 88 => { kd := 1, size := 1, zero := .int .u8 0, ik := some .u8 }
 | 90 => { kd := 1, size := 1, zero := .nilFunc }
 | 92 => { kd := 1, size := 1, zero := .nilFunc }
 | 93 => { kd := 1, size := 1, zero := .nilFunc }
 | 94 => { kd := 1, size := 1, zero := .nilFunc }
 | 95 => { kd := 1, size := 1, zero := .nilFunc }
 | 96 => { kd := 1, size := 1, zero := .map none, mp := some (88, 4), mkv := some (.int .u8, .bool) }
 | 97 => { kd := 2, size := 1, zero := .slice none 0 0, elem := 1, eb := 1, ez := .int .u8 (0), b8 := true }
 | 98 => { kd := 1, size := 1, zero := .nilFunc }
 | 99 => { kd := 1, size := 1, zero := .nilIface }
 | 100 => { kd := 1, size := 1, zero := .nilIface }
 | 101 => { kd := 1, size := 1, zero := .nilFunc }
 | 102 => { kd := 1, size := 1, zero := .nilFunc }
 | 103 => { kd := 1, size := 1, zero := .int .i64 0, ik := some .i64, mth := [("tusche/ink.over", 77)] }
 | 104 => { kd := 2, size := 1, zero := .slice none 0 0, elem := 1, eb := 8, ez := .int .i64 (0), mth := [("tusche/ink.over", 101)] }
 | 105 => { kd := 1, size := 1, zero := .nilFunc }
 | 106 => { kd := 3, size := 10, zero := .agg #[(.bool false), (.bool false), (.bool false), (.bool false), (.bool false), (.bool false), (.bool false), (.bool false), (.bool false), (.bool false)], elem := 1, eb := 1, ez := .bool false, len := 10, one1 := true, eqd := none }
 | 107 => { kd := 1, size := 1, zero := .nilFunc }
 | 108 => { kd := 4, size := 4, zero := .agg #[(.pointer none), (.pointer none), (.pointer none), (.string ⟨⟨[]⟩⟩)], offs := [(0, 1), (1, 1), (2, 1), (3, 1)] }
 | 109 => { kd := 4, size := 4, zero := .agg #[(.pointer none), (.pointer none), (.pointer none), (.string ⟨⟨[]⟩⟩)], offs := [(0, 1), (1, 1), (2, 1), (3, 1)] }
 | 113 => { kd := 1, size := 1, zero := .int .u32 0, ik := some .u32 }
 | 114 => { kd := 1, size := 1, zero := .int .u8 0, ik := some .u8 }
 | 115 => { kd := 1, size := 1, zero := .int .u8 0, ik := some .u8 }
 | 116 => { kd := 1, size := 1, zero := .nilFunc }
 | 117 => { kd := 1, size := 1, zero := .pointer none, pt := true }
 | 118 => { kd := 1, size := 1, zero := .int .i32 0, ik := some .i32 }
 | 119 => { kd := 1, size := 1, zero := .int .i32 0, ik := some .i32 }
 | 120 => { kd := 4, size := 11, zero := .agg #[(.int .u64 (0)), (.int .u64 (0)), (.int .u32 (0)), (.int .u8 (0)), (.int .u8 (0)), (.int .u8 (0)), (.int .u8 (0)), (.nilFunc), (.pointer none), (.int .i32 (0)), (.int .i32 (0))], offs := [(0, 1), (1, 1), (2, 1), (3, 1), (4, 1), (5, 1), (6, 1), (7, 1), (8, 1), (9, 1), (10, 1)] }
 | 121 => { kd := 4, size := 11, zero := .agg #[(.int .u64 (0)), (.int .u64 (0)), (.int .u32 (0)), (.int .u8 (0)), (.int .u8 (0)), (.int .u8 (0)), (.int .u8 (0)), (.nilFunc), (.pointer none), (.int .i32 (0)), (.int .i32 (0))], offs := [(0, 1), (1, 1), (2, 1), (3, 1), (4, 1), (5, 1), (6, 1), (7, 1), (8, 1), (9, 1), (10, 1)] }
 | 122 => { kd := 1, size := 1, zero := .nilFunc }
 | _ => {}
theorem tok : TOK Tryd.prog TI := fun T => by
 unfold TI
 split
 ·exact ti1
 ·exact ti2
 ·exact ti3
 ·exact ti4
 ·exact ti5
 ·exact ti6
 ·exact ti7
 ·exact ti8
 ·exact ti9
 ·exact ti10
 ·exact ti11
 ·exact ti12
 ·exact ti13
 ·exact ti14
 ·exact ti15
 ·exact ti16
 ·exact ti17
 ·exact ti18
 ·exact ti19
 ·exact ti20
 ·exact ti21
 ·exact ti22
 ·exact ti23
 ·exact ti24
 ·exact ti25
 ·exact ti26
 ·exact ti27
 ·exact ti28
 ·exact ti30
 ·exact ti31
 ·exact ti33
 ·exact ti34
 ·exact ti35
 ·exact ti36
 ·exact ti37
 ·exact ti38
 ·exact ti39
 ·exact ti40
 ·exact ti41
 ·exact ti42
 ·exact ti43
 ·exact ti44
 ·exact ti45
 ·exact ti46
 ·exact ti47
 ·exact ti48
 ·exact ti49
 ·exact ti50
 ·exact ti51
 ·exact ti52
 ·exact ti53
 ·exact ti54
 ·exact ti55
 ·exact ti56
 ·exact ti57
 ·exact ti58
 ·exact ti60
 ·exact ti61
 ·exact ti62
 ·exact ti63
 ·exact ti64
 ·exact ti65
 ·exact ti66
 ·exact ti67
 ·exact ti68
 ·exact ti70
 ·exact ti71
 ·exact ti73
 ·exact ti74
 ·exact ti75
 ·exact ti77
 ·exact ti78
 ·exact ti79
 ·exact ti80
 ·exact ti81
 ·exact ti82
 ·exact ti83
 ·exact ti84
 ·exact ti85
 ·exact ti86
 ·exact ti87
 ·exact ti88
 ·exact ti90
 ·exact ti92
 ·exact ti93
 ·exact ti94
 ·exact ti95
 ·exact ti96
 ·exact ti97
 ·exact ti98
 ·exact ti99
 ·exact ti100
 ·exact ti101
 ·exact ti102
 ·exact ti103
 ·exact ti104
 ·exact ti105
 ·exact ti106
 ·exact ti107
 ·exact ti108
 ·exact ti109
 ·exact ti113
 ·exact ti114
 ·exact ti115
 ·exact ti116
 ·exact ti117
 ·exact ti118
 ·exact ti119
 ·exact ti120
 ·exact ti121
 ·exact ti122
 ·exact TFact.nothing
end

section
def TY : Nat → DT
 | 2 => .int .i64
 | 3 => .int .i64
 | 4 => .bool
 | 5 => .int .u8
 | 6 => .int .u8
 | 7 => .pair (.int .i64) (.pair (.int .i64) (.pair (.bool) (.pair (.int .u8) (.unit))))
 | 8 => .pair (.int .i64) (.pair (.int .i64) (.pair (.bool) (.pair (.int .u8) (.unit))))
 | 9 => .str
 | 10 => .str
 | 11 => .str
 | 12 => .int .u64
 | 13 => .pair (.str) (.pair (.int .u64) (.unit))
 | 14 => .pair (.str) (.pair (.int .u64) (.unit))
 | 21 => .int .i32
 | 22 => .arr 5 (.int .u8)
 | 23 => .arr 3 (.arr 5 (.int .u8))
 | 24 => .sl (.sl (.int .i64))
 | 25 => .pair (.int .i64) (.pair (.sl (.sl (.int .i64))) (.unit))
 | 26 => .pair (.int .i64) (.pair (.sl (.sl (.int .i64))) (.unit))
 | 27 => .sl (.int .i64)
 | 28 => .int .i64
 | 38 => .arr 8 (.int .u8)
 | 39 => .arr 8 (.int .u8)
 | 42 => .pair (.int .i64) (.pair (.sl (.int .i64)) (.pair (.bool) (.unit)))
 | 43 => .pair (.int .i64) (.pair (.sl (.int .i64)) (.pair (.bool) (.unit)))
 | 58 => .arr 2 (.int .i64)
 | 80 => .pair (.int .i64) (.pair (.sl (.sl (.int .i64))) (.unit))
 | 81 => .pair (.int .i64) (.pair (.sl (.sl (.int .i64))) (.unit))
 | 82 => .int .u64
 | 88 => .int .u8
 | 97 => .sl (.int .u8)
 | 99 => .ifc 103 (.int .i64) (.ifc 104 (.sl (.int .i64)) (.ifn))
 | 100 => .ifc 103 (.int .i64) (.ifc 104 (.sl (.int .i64)) (.ifn))
 | 103 => .int .i64
 | 104 => .sl (.int .i64)
 | 106 => .arr 10 (.bool)
 | 113 => .int .u32
 | 114 => .int .u8
 | 115 => .int .u8
 | 118 => .int .i32
 | 119 => .int .i32
 | _ => .unit
end

section
def TV.sim : TV → TV → Prop
 | .fn g k n f, .fn g' k' n' f' => g = g' ∧ k = k' ∧ n = n' ∧ ∀ j, j < k + n → (f j).sim (f' j)
 | .tup n f, .tup n' f' => n = n' ∧ ∀ j, j < n → (f j).sim (f' j)
 | .st n f, .st n' f' => n = n' ∧ ∀ j, j < n → (f j).sim (f' j)
 | x, y => x = y
theorem TV.sim_refl : ∀ x : TV, x.sim x := by
 intro x
 induction x with
 | fn g k n f ih => exact ⟨rfl, rfl, rfl, fun j _ => ih j⟩
 | tup n f ih => exact ⟨rfl, fun j _ => ih j⟩
 | st n f ih => exact ⟨rfl, fun j _ => ih j⟩
 | _ => rfl
theorem TV.sim_symm : ∀ {x y : TV}, x.sim y → y.sim x := by
 intro x
 induction x with
 | fn g k n f ih =>
  intro y h
  cases y with
  | fn g' k' n' f' => obtain ⟨rfl, rfl, rfl, h⟩ := h; exact ⟨rfl, rfl, rfl, fun j hj => ih j (h j hj)⟩
  | _ => cases h
 | tup n f ih =>
  intro y h
  cases y with
  | tup n' f' => obtain ⟨rfl, h⟩ := h; exact ⟨rfl, fun j hj => ih j (h j hj)⟩
  | _ => cases h
 | st n f ih =>
  intro y h
  cases y with
  | st n' f' => obtain ⟨rfl, h⟩ := h; exact ⟨rfl, fun j hj => ih j (h j hj)⟩
  | _ => cases h
 | _ => intro y h; simp only [TV.sim] at h; subst h; rfl
theorem TV.sim_size {x y : TV} (h : x.sim y) : x.size = y.size ∧ (∀ o p, x.floc o p = y.floc o p) ∧ ∀ p, x.finb p ↔ y.finb p := by
 cases x with
 | fn g k n f => cases y with
  | fn g' k' n' f' => exact ⟨rfl, fun _ _ => rfl, fun _ => Iff.rfl⟩
  | _ => cases h
 | tup n f => cases y with
  | tup n' f' => exact ⟨rfl, fun _ _ => rfl, fun _ => Iff.rfl⟩
  | _ => cases h
 | st n f => cases y with
  | st n' f' => exact ⟨rfl, fun _ _ => rfl, fun _ => Iff.rfl⟩
  | _ => cases h
 | _ => simp only [TV.sim] at h; subst h; exact ⟨rfl, fun _ _ => rfl, fun _ => Iff.rfl⟩
def TO.sim : TO → TO → Prop
 | .rcd fs, .rcd fs' => fs.length = fs'.length ∧ ∀ (j : Nat) (x : TV), fs[j]? = some x → ∃ y, fs'[j]? = some y ∧ x.sim y
 | o, o' => o = o'
theorem TO.sim_refl (o : TO) : o.sim o := by
 cases o <;> first | rfl | exact ⟨rfl, fun j x hx => ⟨x, hx, TV.sim_refl x⟩⟩
theorem TO.sim_symm {o o' : TO} (h : o.sim o') : o'.sim o := by
 cases o with
 | rcd fs => cases o' with
  | rcd fs' =>
   obtain ⟨h1, h2⟩ := h
   refine ⟨h1.symm, fun j y hy => ?_⟩
   have hj : j < fs.length := by rw [h1]; exact (List.getElem?_eq_some_iff.1 hy).1
   obtain ⟨y', a1, a2⟩ := h2 j fs[j] (by simp [hj])
   rw [hy] at a1; obtain rfl := Option.some.inj a1
   exact ⟨fs[j], by simp [hj], TV.sim_symm a2⟩
  | _ => cases h
 | _ => simp only [TO.sim] at h; subst h; exact TO.sim_refl _
theorem offs_sim : ∀ {fs fs' : List TV}, fs.length = fs'.length → (∀ (j : Nat) (x : TV), fs[j]? = some x → ∃ y, fs'[j]? = some y ∧ x.sim y) → ∀ j, offs fs j = offs fs' j
 | [], [], _, _, j => rfl
 | [], y :: r, hl, _, j => by simp at hl
 | x :: r, [], hl, _, j => by simp at hl
 | x :: r, y :: r', hl, h, 0 => rfl
 | x :: r, y :: r', hl, h, j + 1 => by
  obtain ⟨y', hy, hs⟩ := h 0 x rfl
  simp only [List.getElem?_cons_zero, Option.some.injEq] at hy
  subst hy
  simp only [offs, (TV.sim_size hs).1]
  rw [offs_sim (by simpa using hl) (fun j x hx => h (j + 1) x (by simpa using hx)) j]
theorem TO.sim_loc {o o' : TO} (h : o.sim o') : o.live = o'.live ∧ ∀ i p, o.loc i p = o'.loc i p ∧ (o.okAt i p ↔ o'.okAt i p) := by
 cases o with
 | rcd fs => cases o' with
  | rcd fs' =>
   obtain ⟨h1, h2⟩ := h
   refine ⟨rfl, fun i p => ?_⟩
   cases p with
   | nil => exact ⟨rfl, Iff.rfl⟩
   | cons j p =>
    simp only [TO.loc, TO.okAt, offs_sim h1 h2]
    cases hj : fs[j]? with
    | none =>
     have : fs'[j]? = none := by
      rw [List.getElem?_eq_none_iff] at hj ⊢; omega
     rw [this]; exact ⟨rfl, Iff.rfl⟩
    | some x =>
     obtain ⟨y, hy, hs⟩ := h2 j x hj
     rw [hy]
     obtain ⟨_, e1, e2⟩ := TV.sim_size hs
     exact ⟨e1 _ _, e2 _⟩
  | _ => cases h
 | _ => simp only [TO.sim] at h; subst h; exact ⟨rfl, fun _ _ => ⟨rfl, Iff.rfl⟩⟩
theorem TV.dcell_sim {w : World} {G : Nat → Prop} {x y : TV} {c : Nat} {u : Value} (hs : x.sim y) (h : x.dcell w G c u) : y.dcell w G c u ∧ y.isD = x.isD := by
 cases x with
 | dv t z => simp only [TV.sim] at hs; subst hs; exact ⟨h, rfl⟩
 | fn g k n f => cases y <;> first | exact ⟨trivial, rfl⟩ | cases hs
 | tup n f => cases y <;> first | exact ⟨trivial, rfl⟩ | cases hs
 | st n f => cases y <;> first | exact ⟨trivial, rfl⟩ | cases hs
 | _ => simp only [TV.sim] at hs; subst hs; exact ⟨trivial, rfl⟩
def OSim (O O' : Obs) : Prop := ∀ id o, O id = some o → ∃ o', O' id = some o' ∧ o.sim o'
theorem VR.sim {w : World} {G : Nat → Prop} {π : Nat → Pl} {O O' : Obs} (hO : OSim O O') : ∀ {x y : TV} {v : Value}, x.sim y → VR w G π O x v → VR w G π O' y v := by
 intro x
 induction x with
 | row id =>
  intro y v hs h
  simp only [TV.sim] at hs; subst hs
  simp only [VR] at h ⊢
  cases ho : O id with
  | none => rw [ho] at h; exact h.elim
  | some o =>
   rw [ho] at h
   obtain ⟨o', e1, e2⟩ := hO id o ho
   rw [e1]
   cases o <;> first | (simp only [TO.sim] at e2; subst e2; exact h) | (cases o' <;> first | trivial | cases e2)
 | vrow id a b =>
  intro y v hs h
  simp only [TV.sim] at hs; subst hs
  simp only [VR] at h ⊢
  cases ho : O id with
  | none => rw [ho] at h; exact h.elim
  | some o =>
   rw [ho] at h
   obtain ⟨o', e1, e2⟩ := hO id o ho
   rw [e1]
   cases o <;> first | (simp only [TO.sim] at e2; subst e2; exact h) | (cases o' <;> first | trivial | cases e2)
 | ptr id i p =>
  intro y v hs h
  simp only [TV.sim] at hs; subst hs
  simp only [VR] at h ⊢
  cases ho : O id with
  | none => rw [ho] at h; exact h.elim
  | some o =>
   rw [ho] at h
   obtain ⟨o', e1, e2⟩ := hO id o ho
   rw [e1]
   obtain ⟨l1, l2⟩ := TO.sim_loc e2
   intro hl
   obtain ⟨c, g, a1, a2, a3⟩ := h (l1 ▸ hl)
   exact ⟨c, g, (l2 i p).1 ▸ a1, (l2 i p).2.1 a2, a3⟩
 | view id i p k n a b =>
  intro y v hs h
  simp only [TV.sim] at hs; subst hs
  simp only [VR] at h ⊢
  cases ho : O id with
  | none => rw [ho] at h; exact h.elim
  | some o =>
   rw [ho] at h
   obtain ⟨o', e1, e2⟩ := hO id o ho
   rw [e1]
   obtain ⟨l1, l2⟩ := TO.sim_loc e2
   intro hl
   obtain ⟨c, g, pp, a1, a2, a3⟩ := h (l1 ▸ hl)
   exact ⟨c, g, pp, (l2 i p).1 ▸ a1, (l2 i p).2.1 a2, a3⟩
 | fn g k n f ih =>
  intro y v hs h
  cases y with
  | fn g' k' n' f' =>
   obtain ⟨rfl, rfl, rfl, hs⟩ := hs
   obtain ⟨fs, cs, h1, h2, h3, h4, h5⟩ := h
   exact ⟨fs, cs, h1, h2, h3, fun j hj => let ⟨u, a, b⟩ := h4 j hj; ⟨u, a, ih j (hs j (by omega)) b⟩, fun j hj => let ⟨u, a, b⟩ := h5 j hj; ⟨u, a, ih _ (hs _ (by omega)) b⟩⟩
  | _ => cases hs
 | tup n f ih =>
  intro y v hs h
  cases y with
  | tup n' f' =>
   obtain ⟨rfl, hs⟩ := hs
   obtain ⟨cs, h1, h2, h3⟩ := h
   exact ⟨cs, h1, h2, fun j hj => let ⟨u, a, b⟩ := h3 j hj; ⟨u, a, ih j (hs j hj) b⟩⟩
  | _ => cases hs
 | st n f ih =>
  intro y v hs h
  cases y with
  | st n' f' =>
   obtain ⟨rfl, hs⟩ := hs
   obtain ⟨cs, h1, h2, h3⟩ := h
   have he : ∀ k, offs ((List.range n).map f') k = offs ((List.range n).map f) k := fun k => (offs_sim (by simp) (fun j x hx => by
    have hj : j < n := by have := (List.getElem?_eq_some_iff.1 hx).1; simpa using this
    rw [List.getElem?_map, List.getElem?_range hj] at hx
    obtain rfl := Option.some.inj hx
    exact ⟨f' j, by rw [List.getElem?_map, List.getElem?_range hj]; rfl, hs j hj⟩) k).symm
   refine ⟨cs, h1, by rw [he]; exact h2, fun j hj c hc => ?_⟩
   rw [← (TV.sim_size (hs j hj)).1] at hc
   obtain ⟨u, a, b, d, e⟩ := h3 j hj c hc
   obtain ⟨d1, d2⟩ := TV.dcell_sim (hs j hj) d
   exact ⟨u, by rw [he]; exact a, b, d1, fun hd => ih j (hs j hj) (e (d2 ▸ hd))⟩
  | _ => cases hs
 | any => intro y v hs h; simp only [TV.sim] at hs; subst hs; trivial
 | dv t x => intro y v hs h; simp only [TV.sim] at hs; subst hs; exact h
 | nl => intro y v hs h; simp only [TV.sim] at hs; subst hs; exact h
 | cst u => intro y v hs h; simp only [TV.sim] at hs; subst hs; exact h
 | el t x p => intro y v hs h; simp only [TV.sim] at hs; subst hs; exact h
theorem TV.fcell_sim {w : World} {G : Nat → Prop} {π : Nat → Pl} {O O' : Obs} (hO : OSim O O') {x y : TV} {c : Nat} {u : Value} (hs : x.sim y) (h : x.fcell w G π O c u) : y.fcell w G π O' c u := by
 cases x with
 | dv t z => simp only [TV.sim] at hs; subst hs; exact h
 | _ => cases y <;> first | exact VR.sim hO hs h | (simp only [TV.sim] at hs; cases hs)
theorem tag_sim {fs fs' : List TV} (hl : fs.length = fs'.length) (h : ∀ (j : Nat) (x : TV), fs[j]? = some x → ∃ y, fs'[j]? = some y ∧ x.sim y) : tagOf fs' = tagOf fs := by
 unfold tagOf
 rw [List.getLast?_eq_getElem?, List.getLast?_eq_getElem?, ← hl]
 cases hx : fs[fs.length - 1]? with
 | none => rw [List.getElem?_eq_none (by rw [← hl]; exact List.getElem?_eq_none_iff.1 hx)]
 | some x =>
  obtain ⟨y, h1, h2⟩ := h _ x hx
  rw [h1]
  simp only [Option.bind_some]
  cases x with
  | fn g k n f => cases y <;> first | rfl | cases h2
  | tup n f => cases y <;> first | rfl | cases h2
  | st n f => cases y <;> first | rfl | cases h2
  | _ => simp only [TV.sim] at h2; subst h2; rfl
theorem OR.sim {w : World} {G : Nat → Prop} {π : Nat → Pl} {O O' : Obs} (hO : OSim O O') {id : Nat} {o o' : TO} (hs : o.sim o') (h : OR w G π O id o) : OR w G π O' id o' := by
 cases o with
 | rcd fs => cases o' with
  | rcd fs' =>
   obtain ⟨h1, h2⟩ := TO.sim_symm hs
   obtain ⟨h3, h4⟩ := hs
   obtain ⟨g, cur, e, k1, k2, k3⟩ := h
   refine ⟨g, cur, e, k1, ⟨k2.1, k2.2.on (tag_sim h3 h4) rfl (by rw [← offs_sim h3 h4, h3])⟩, fun j y hy c hc => ?_⟩
   obtain ⟨x, hx, hxy⟩ := h2 j y hy
   have hyx := TV.sim_symm hxy
   rw [← (TV.sim_size hyx).1] at hc
   obtain ⟨u, a1, a2, a3⟩ := k3 j x hx c hc
   exact ⟨u, by rw [← offs_sim h3 h4]; exact a1, a2, TV.fcell_sim hO hyx a3⟩
  | _ => cases hs
 | mat t ls out =>
  simp only [TO.sim] at hs; subst hs
  rcases h with h | ⟨g, cur, e, h1, h2, h3, h4, h5, h6⟩
  ·exact .inl h
  ·refine .inr ⟨g, cur, e, h1, h2, h3, h4, h5, ⟨fun i hi => ?_, fun i r hr => ?_, h6.apart⟩⟩
   ·obtain ⟨u, a1, a2, a3, a4⟩ := h6.cell i hi
    refine ⟨u, a1, a2, a3, fun r hr => ?_⟩
    obtain ⟨o, b1, b2⟩ := a4 r hr
    obtain ⟨o', c1, c2⟩ := hO r o b1
    refine ⟨o', c1, fun t' l' he => ?_⟩
    subst he
    cases o with
    | rcd fs => cases c2
    | _ => simp only [TO.sim] at c2; exact b2 t' l' c2
   ·obtain ⟨q1, o, q2, q3⟩ := h6.ofOut i r hr
    obtain ⟨o', c1, c2⟩ := hO r o q2
    refine ⟨q1, o', c1, ?_⟩
    cases o with
    | rcd fs => cases o' with
     | rcd fs' => rfl
     | _ => cases c2
    | _ => simp only [TO.sim] at c2; subst c2; exact q3
 | _ => simp only [TO.sim] at hs; subst hs; exact h
theorem Own.sim {π : Nat → Pl} {O O' : Obs} (hO : OSim O O') {id g : Nat} (h : Own π O id g) : Own π O' id g := by
 obtain ⟨o, h2, h1⟩ := h
 obtain ⟨o', e1, e2⟩ := hO id o h2
 refine ⟨o', e1, ?_⟩
 cases o with
 | rcd fs => cases o' with
  | rcd fs' => exact .of (h1.g rfl) rfl
  | _ => cases e2
 | _ => simp only [TO.sim] at e2; subst e2; exact h1
theorem HSpec.sim {P : Program} {f : FuncId} {args args' : List TV} {O O' : List (Nat × TO)} {Q : TV → List (Nat × TO) → Prop} (h : HSpec P f args O Q) (hl : args'.length = args.length) (ha : ∀ (i : Nat) (x : TV), args[i]? = some x → ∃ y, args'[i]? = some y ∧ x.sim y)
  (h1 : OSim (tlook O) (tlook O')) (h2 : OSim (tlook O') (tlook O)) : HSpec P f args' O' Q := by
 have hG : ∀ F w π, Gz F w π (tlook O') = Gz F w π (tlook O) := fun F w π => by
  funext b
  exact propext ⟨fun ⟨a, b, c⟩ => ⟨a, b, fun id hid => c id (hid.sim h1)⟩, fun ⟨a, b, c⟩ => ⟨a, b, fun id hid => c id (hid.sim h2)⟩⟩
 refine ⟨h.enters, fun w F π vs hl' hF hfr hv hgl => ?_⟩
 have hfr' : Frame F w π O := ⟨fun id o ho => by
  obtain ⟨o', e1, e2⟩ := h1 id o ho
  have := hfr.obj id o' e1
  rw [hG] at this
  exact this.sim h2 (TO.sim_symm e2), fun i j g hi hj => hfr.inj i j g (hi.sim h1) (hj.sim h1), fun id g hg => hfr.new id g (hg.sim h1)⟩
 refine (h.calls w F π vs (hl'.trans hl) hF hfr' (fun i x v hx hv' => ?_) (by rw [hG] at hgl; exact hgl)).mono fun e w' ⟨r, v, O2, π', a1, a2, a3, a4, a5, a6, a7⟩ => ⟨r, v, O2, π', a1, a2, a3, a4, fun id o ho => ?_, fun id g hg => ?_, ?_⟩
 ·obtain ⟨y, e1, e2⟩ := ha i x hx
  have := hv i y v e1 hv'
  rw [hG] at this
  exact VR.sim h2 (TV.sim_symm e2) this
 ·obtain ⟨o1, e1, e2⟩ := h2 id o ho
  obtain ⟨o', b1, b2⟩ := a5 id o1 e1
  refine ⟨o', b1, fun hl => ?_⟩
  obtain ⟨c1, c2⟩ := b2 hl
  refine ⟨c1, ?_⟩
  cases o with
  | rcd fs => cases o1 with
   | rcd fs1 => cases o' with
    | rcd fs2 =>
     obtain ⟨d1, d2⟩ := e2
     obtain ⟨d3, d4⟩ := c2
     refine ⟨d3.trans d1.symm, fun j x hx => ?_⟩
     obtain ⟨y, q1, q2⟩ := d2 j x hx
     obtain ⟨z, q3, q4, q5⟩ := d4 j y q1
     obtain ⟨q6, q7, q8⟩ := TV.sim_size q2
     exact ⟨z, q3, q4.trans q6.symm, fun o p c k1 k2 => q5 o p c (q7 o p ▸ k1) ((q8 p).1 k2)⟩
    | _ => exact c2.elim
   | _ => cases e2
  | _ => simp only [TO.sim] at e2; subst e2; exact c2
 ·rcases a6 id g hg with ⟨j, hj⟩ | hj
  ·exact .inl ⟨j, hj.sim h1⟩
  ·exact .inr hj
 ·obtain ⟨k1, k2, k3, k4, k5, k6⟩ := a7
  exact ⟨k1, k2, k3, k4, fun b hb hn => k5 b (hb.elim (fun hb => .inl ⟨fun id hid => hb.1 id (hid.sim h1), hb.2⟩) .inr) hn, k6⟩
theorem OSim.of {O O' : List (Nat × TO)} (h : O.map (·.1) = O'.map (·.1)) (hs : ∀ (i : Nat) (p q : Nat × TO), O[i]? = some p → O'[i]? = some q → p.2.sim q.2) : OSim (tlook O) (tlook O') := by
 induction O generalizing O' with
 | nil => intro id o h; cases h
 | cons p r ih => cases O' with
  | nil => simp at h
  | cons q r' =>
   simp only [List.map_cons, List.cons.injEq] at h
   obtain ⟨e, h⟩ := h
   have ih' := ih h fun i p q hp hq => hs (i + 1) p q (by simpa using hp) (by simpa using hq)
   have h0 := hs 0 p q rfl rfl
   obtain ⟨i, o⟩ := p
   obtain ⟨j, o'⟩ := q
   simp only at e h0
   subst e
   intro id o1 ho
   simp only [tlook] at ho ⊢
   split
   ·rename_i e; rw [if_pos e] at ho; obtain rfl := Option.some.inj ho; exact ⟨o', rfl, h0⟩
   ·rename_i e; rw [if_neg e] at ho; exact ih' id o1 ho
theorem HSpec.eta {P : Program} {f : FuncId} {args args' : List TV} {O O' : List (Nat × TO)} {Q : TV → List (Nat × TO) → Prop} (h : HSpec P f args O Q) (hl : args.length = args'.length) (ha : ∀ (i : Nat) (x y : TV), args[i]? = some x → args'[i]? = some y → x.sim y)
  (hk : O.map (·.1) = O'.map (·.1)) (ho : ∀ (i : Nat) (p q : Nat × TO), O[i]? = some p → O'[i]? = some q → p.2.sim q.2) : HSpec P f args' O' Q :=
 h.sim hl.symm (fun i x hx => by
  have hi : i < args'.length := by rw [← hl]; exact (List.getElem?_eq_some_iff.1 hx).1
  exact ⟨args'[i], by simp [hi], ha i x _ hx (by simp [hi])⟩) (OSim.of hk ho) (OSim.of hk.symm fun i p q hp hq => TO.sim_symm (ho i q p hq hp))
end

section
abbrev tI : DT := .int .i64
abbrev tIs : DT := .sl (.int .i64)
abbrev w64 (n : Int) : Int := IntKind.wrap .i64 n
abbrev bAnd (k : IntKind) (a b : Int) : Int := k.wrap ((BitVec.ofInt k.bits a &&& BitVec.ofInt k.bits b).toNat : Int)
abbrev bOr (k : IntKind) (a b : Int) : Int := k.wrap ((BitVec.ofInt k.bits a ||| BitVec.ofInt k.bits b).toNat : Int)
theorem hmix : Tryd.prog.follows .mixedOrders = true := by kernel_rfl
noncomputable def bodyOf (f : Func) : Code := match f.body with | some c => c | none => .skip
noncomputable def resOf (f : Func) : List ResultVar := f.results.toList
theorem body_of {f : Func} (h : f.body.isSome = true) : f.body = some (bodyOf f) := by
 unfold bodyOf; cases e : f.body with
 | none => rw [e] at h; cases h
 | some c => rfl
theorem res_of (f : Func) : f.results = (resOf f).toArray := by simp [resOf]
def slots (n : Nat) (l : List (Nat × TV)) : List TV := (List.range n).map fun i => match l.find? (fun p => p.1 == i) with
 | some p => p.2
 | none => .any
def norms (l : List (Nat × Norm)) (i : Nat) : Option Norm := (l.find? fun p => p.1 == i).map (·.2)
def nrc : Nat → Option (List (Option DT)) := fun _ => none
def nfz : Nat → Bool := fun _ => false
theorem lifted {f : Nat} {fn : Func} {L : List (Nat × FnC)} {lv : Nat → Option Norm} {rc : Nat → Option (List (Option DT))} {fz : Nat → Bool} {N nt : Nat} {en : End} {args : List TV} {O : List (Nat × TO)} {ρ : Type} [Jn ρ] {dec : List TV → List (Nat × TO) → Option ρ} {r : ρ} {rv : TV} {O' : List (Nat × TO)}
  (hf : Tryd.prog.funcs[f]? = some fn) (hb : fn.body.isSome = true) (hname : (fn.name == "runtime.NumGoroutine") = false) (hn : fn.ntmps = args.length + nt) (hO : pinAll O = true) (hL : ∀ p ∈ L, FnOk Tryd.prog p.1 p.2)
  (h : callF (mkE TI TY L rc fz) lv N en (bodyOf fn) (resOf fn) nt args O dec = some r) (hd : ∀ l o, dec l o = some r → tupOf l = rv ∧ o = O') : HSpec Tryd.prog f args O fun x o => x = rv ∧ o = O' :=
 (callF_ok hmix tok (envOk_of hL) (seqsOk_none _) hf (body_of hb) (res_of fn) hname hn hO h).mono fun x o ⟨l, e1, e2⟩ => by
  obtain ⟨a, b⟩ := hd l o e2
  exact ⟨e1.trans a, b⟩
def TV.caps : TV → List (List TV)
 | .fn _ k n f => [(List.range (k + n)).map f]
 | .st n f => [(List.range n).map f]
 | _ => []
def TO.caps : TO → List (List TV)
 | .rcd fs => fs.flatMap TV.caps
 | _ => []
def capsOf (l : List TV) (o : List (Nat × TO)) : List (List TV) := l.flatMap TV.caps ++ o.flatMap fun p => p.2.caps
theorem TV.sim_fn {g k n : Nat} {f : Nat → TV} {l : List TV} (h : (List.range (k + n)).map f = l) : (TV.fn g k n fun i => l.getD i .any).sim (.fn g k n f) :=
 ⟨rfl, rfl, rfl, fun j hj => by
  subst h
  have : ((List.range (k + n)).map f).getD j .any = f j := by simp [List.getD, hj]
  show (((List.range (k + n)).map f).getD j .any).sim (f j)
  rw [this]; exact TV.sim_refl _⟩
def TV.simL : List TV → List TV → Prop
 | [], [] => True
 | x :: r, y :: r' => x.sim y ∧ TV.simL r r'
 | _, _ => False
def TO.simL : List (Nat × TO) → List (Nat × TO) → Prop
 | [], [] => True
 | x :: r, y :: r' => x.1 = y.1 ∧ x.2.sim y.2 ∧ TO.simL r r'
 | _, _ => False
theorem TV.simL_at : ∀ {l l' : List TV}, TV.simL l l' → l.length = l'.length ∧ ∀ (i : Nat) (x y : TV), l[i]? = some x → l'[i]? = some y → x.sim y
 | [], [], _ => ⟨rfl, fun i x y h => by simp at h⟩
 | x :: r, y :: r', h => by
  obtain ⟨h1, h2⟩ := h
  obtain ⟨a, b⟩ := TV.simL_at h2
  refine ⟨by simp [a], fun i u v hu hv => ?_⟩
  cases i with
  | zero => obtain rfl := Option.some.inj hu; obtain rfl := Option.some.inj hv; exact h1
  | succ i => exact b i u v (by simpa using hu) (by simpa using hv)
 | [], _ :: _, h => h.elim
 | _ :: _, [], h => h.elim
theorem TO.simL_at : ∀ {l l' : List (Nat × TO)}, TO.simL l l' → l.map (·.1) = l'.map (·.1) ∧ ∀ (i : Nat) (x y : Nat × TO), l[i]? = some x → l'[i]? = some y → x.2.sim y.2
 | [], [], _ => ⟨rfl, fun i x y h => by simp at h⟩
 | x :: r, y :: r', h => by
  obtain ⟨h1, h2, h3⟩ := h
  obtain ⟨a, b⟩ := TO.simL_at h3
  refine ⟨by simp [a, h1], fun i u v hu hv => ?_⟩
  cases i with
  | zero => obtain rfl := Option.some.inj hu; obtain rfl := Option.some.inj hv; exact h2
  | succ i => exact b i u v (by simpa using hu) (by simpa using hv)
 | [], _ :: _, h => h.elim
 | _ :: _, [], h => h.elim
theorem HSpec.etaL {P : Program} {f : FuncId} {args args' : List TV} {O O' : List (Nat × TO)} {Q : TV → List (Nat × TO) → Prop} (ha : TV.simL args args') (ho : TO.simL O O') (h : HSpec P f args O Q) : HSpec P f args' O' Q :=
 h.eta (TV.simL_at ha).1 (TV.simL_at ha).2 (TO.simL_at ho).1 (TO.simL_at ho).2
end

end Go.Proofs.YtfopcfnggdonkaaDoor
