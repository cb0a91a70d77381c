/-
 Lifting Go functions to plain Lean functions, parts T U TI TY W V.
-/
import Derived.Test.YtfopcfnggdonkaaGreatDoorYE
import Derived.ChangeKeysEq
import Derived.Test.YtfopcfnggdonkaaGreatDoorRows
namespace Go.Proofs.YtfopcfnggdonkaaGreatDoor
open Go.Proofs.Tryz
open Go.RowKit
set_option linter.unusedVariables false
section
section
variable {P : Program} {E : Env} {c : Cx} {F : Nat -> Prop} {s : TS} {α : Type}
def KE (k : Exit -> TS -> Option α) (r : α) : Exit -> TS -> Prop := fun e s => k e s = some r
theorem UT {pp : List Nat} (fA : ∀ id p, c.pin id = some p -> vU pp id = true) {nm : Norm} {s' : TS} (h : s.qR pp nm = some s') {a : Act} {w : World} (hr : Rel c F s a w) : Rel c F s' a w := by
 obtain ⟨π, hm⟩ := hr
 exact aiA fA h hm
theorem ayO {pp : List Nat} (fA : ∀ id p, c.pin id = some p -> vU pp id = true) {x : Code} {body : TS -> dD α -> Option α} (hbody : ∀ {s k r}, body s k = some r -> lD P c F x (KE k r) s) {nm : Norm} {N : Nat} {s1 : TS} {k : dD α} {r : α} (hs : s.qR pp nm = some s1) (h : dW body (TS.qR pp nm) k N s1 = some r) :
  lD P c F (.loop x) (KE k r) s := by
 refine aCY (fun n s' => ∃ s1, s'.qR pp nm = some s1 /\ dW body (TS.qR pp nm) k n s1 = some r) N ⟨s1, hs, h⟩ fun n s' ⟨s1, hs1, h2⟩ => ?_
 cases n with
 | zero => cases h2
 | succ n =>
  simp only [dW] at h2
  refine fun nn a w ⟨Ds, hD, hr⟩ => ((hbody h2).mono fun e s2 q3 => ?_) nn a w ⟨Ds, hD, UT (c := c.add Ds) fA hs1 hr⟩
  cases e with
  | normal =>
   simp only [KE, sD] at q3
   split at q3
   ·rename_i s3 hs3; exact ⟨n, Nat.lt_succ_self n, s3, hs3, q3⟩
   ·cases q3
  | exit i => exact q3
  | ret => exact q3
  | goto i => exact q3
  | panic c => cases q3
  | outgrown => cases q3
theorem ah6 {O : List (Nat × TO)} (h : Yb O = true) : OD O := fun id o ho => by
 have := List.all_eq_true.1 h (id, o) (vZ ho)
 simpa using this
theorem Em {O O' : List (Nat × TO)} (h : Ej O O' = true) : FY O O' := fun id o ho o' ho' => by
 have := List.all_eq_true.1 h (id, o) (vZ ho)
 simp only [ho', Bool.or_eq_true] at this
 rcases this with q | q
 ·exact .inl q
 ·cases o' <;> first | exact .inr rfl | cases q
theorem ai1 {O : List (Nat × TO)} {c : Cx} (h : ∀ id q, c.pin id = some q -> ∃ o, aA O id = some o) : ∀ id p, c.pin id = some p -> vU (O.map (·.1)) id = true := fun id p hp => by
 obtain ⟨o, ho⟩ := h id p hp
 have : (O.map (·.1)).contains id = true := List.contains_iff_mem.2 (List.mem_map.2 ⟨_, vZ ho, rfl⟩)
 rw [vU, this, Bool.or_true]
theorem O6 {P : Program} {b : Go.Frame} {a : Act} {k : List Item} {cs : List Go.Frame} {w : World} {x : Code} : step P (lone (b.atR a (.code (.scope x) :: k)) cs w) = .next (lone (b.atR a (.code x :: .inScope x :: k)) cs w) :=
 step_lone_go (by simp [stepG, stepG.exec, Frame.atR])
theorem aD0 {P : Program} {b : Go.Frame} {a : Act} {k : List Item} {cs : List Go.Frame} {w : World} {x : Code} : step P (lone (b.atR a (.inScope x :: k)) cs w) = .next (lone (b.atR a k) cs w) :=
 step_lone_go (by simp [stepG, stepG.exec, Frame.atR])
theorem aJ4 {P : Program} {F : Fence} {n : Nat} {Q : Exit -> Act -> World -> Prop} {a : Act} {w : World} {x : Code} (h : x.wpIn F n P (Exit.noGoto Q) a w) : (Code.scope x).wpIn F n P Q a w := by
 intro b k cs hro hb hr
 have h0 : (lone (b.atR a (.code (.scope x) :: k)) cs w).fenced P F := fenced_calm hb hr rfl
 obtain ⟨e, a₁, w₁, hq, harr⟩ := h b (.inScope x :: k) cs hro hb hr
 cases e with
 | normal => exact ⟨.normal, a₁, w₁, hq, .head h0 O6 (StepsIn.trans harr (.one (fenced_calm hb hr rfl) aD0))⟩
 | exit id' =>
  have hx : exitTo id' (.inScope x :: k) = exitTo id' k := by simp [exitTo]
  exact ⟨.exit id', a₁, w₁, hq, fun k' hk => .head h0 O6 (harr.1 k' (by rw [hx]; exact hk)),
   fun hr' hk => let ⟨k₁, h1, h2⟩ := harr.2 hr' (by rw [hx]; exact hk); ⟨k₁, h1, .head h0 O6 h2⟩⟩
 | goto l => exact hq.elim
 | ret => exact ⟨_, a₁, w₁, hq, .of_steps (.one h0 O6) harr⟩
 | panic ch => exact ⟨_, a₁, w₁, hq, .of_steps (.one h0 O6) harr⟩
 | outgrown => exact ⟨_, a₁, w₁, hq, .of_steps (.one h0 O6) harr⟩
theorem asV [Jn α] (wL : P.follows .mixedOrders = true) (hT : dI P E.TI) (hE : oW P E) (hQ : IM P E.seq) {lv : Nat -> Option Norm} (N : Nat) : ∀ (x : Code) {pp : List Nat} {c : Cx} {F : Nat -> Prop}, (∀ id p, c.pin id = some p -> vU pp id = true) -> E8 c -> ∀ {s : TS} {k : dD α} {r : α}, pM E lv N x pp s k = some r -> lD P c F x (KE k r) s := by
 intro x
 induction x with
 | skip => intro pp c F fA hcx s k r h; exact aC4 h
 | region id ops dr =>
  intro pp c F fA hcx s0 k r h0
  simp only [pM] at h0
  split at h0
  rotate_left
  ·cases h0
  rename_i s hpre
  refine ai5 (s' := s) (fun Ds a w ⟨π, hm⟩ => ?_) ?_
  ·unfold ai3 at hpre
   split at hpre
   ·split at hpre
    ·exact ⟨π, acR (c := c.add Ds) fA hpre hm⟩
    ·exact UT (c := c.add Ds) fA hpre ⟨π, hm⟩
   ·split at hpre
    ·exact UT (c := c.add Ds) fA hpre ⟨π, hm⟩
    ·obtain rfl := aC hpre; exact ⟨π, hm⟩
  have h := h0
  clear h0
  cases dr with
  | true =>
   have h0 : (if SS ops then prun E ops 0 ops.toList [] s fun s' => k .normal s' else none) = some r := h
   clear h
   split at h0
   ·rename_i hd
    exact (aCU wL hT hE hd h0).mono fun e p ⟨e1, q⟩ => by subst e1; exact q
   ·cases h0
  | false =>
   have h' : zM E ops ops.toList s (fun s' => k .normal s') = some r := h
   have := aC1 (P := P) (c := c) (F := F) (s := s) (id := id) (Q := KE k r) (l := ops.toList) (fun Ds => by
    have h2 := OW (P := P) (c := c.add Ds) (F := but F Ds) hT hE ops.toList h'
    rw [Array.toArray_toList]
    exact h2)
   rw [Array.toArray_toList] at this
   exact this
 | seq a b iha ihb =>
  intro pp c F fA hcx s k r h
  refine aC3 ((iha fA hcx h).mono fun e s' q => ?_)
  cases e with
  | normal => exact ihb fA hcx q
  | exit i => exact q
  | ret => exact q
  | goto i => exact q
  | panic c => cases q
  | outgrown => cases q
 | cond q a b iha ihb =>
  intro pp c F fA hcx s k r h
  simp only [pM] at h
  split at h
  ·rename_i t ht
   refine aCT ht (fun e => ?_) (fun e => ?_)
   ·subst e
    simp only [cond_true] at h
    rw [TS.agI ht] at h
    exact iha fA hcx h
   ·subst e
    simp only [cond_false] at h
    rw [TS.agI ht] at h
    exact ihb fA hcx h
  ·cases h
 | block id a iha =>
  intro pp c F fA hcx s k r h
  refine aCS ((iha fA hcx h).mono fun e s' q => ?_)
  cases e with
  | exit i =>
   simp only [KE, Us, afS] at q
   simp only [Nv]
   split
   ·rename_i hi; rw [if_pos hi] at q; exact q
   ·rename_i hi; rw [if_neg hi] at q; exact q
  | normal => exact q
  | ret => exact q
  | goto i => exact q
  | panic c => exact q
  | outgrown => exact q
 | scope a iha =>
  intro pp c F fA hcx s k r h n a' w' hr
  refine aJ4 (wpIn_mono (iha fA hcx h n a' w' hr) fun e a2 w2 ⟨s2, h1, h2⟩ => ?_)
  cases e with
  | goto l => cases h1
  | _ => exact ⟨s2, h1, h2⟩
 | label l => intro pp c F fA hcx s k r h n a' w' hr; exact wpIn_label ⟨s, h, hr⟩
 | loop a iha =>
  intro pp c F fA hcx s k r h
  simp only [pM] at h
  split at h
  ·split at h
   ·rename_i hs; exact ayO fA (fun hh => iha fA hcx hh) hs h
   ·cases h
  ·cases h
 | rangeFunc g ps as_ b iha ihb =>
  intro pp c F fA hcx s k r h
  simp only [pM] at h
  split at h
  rotate_left
  ·cases h
  rename_i nm p hnm hps
  have awZ : ps = #[p] := by apply Array.ext'; simpa using hps
  subst awZ
  split at h
  rotate_left
  ·cases h
  rename_i s1 hs1
  split at h
  rotate_left
  ·cases h
  rename_i bb t xs hseq
  obtain ⟨hbb, h⟩ := IY h
  subst hbb
  obtain ⟨gf, nn, f, e1, e2, e3⟩ := hQ _ _ _ hseq
  refine ai5 (s' := s1) (fun Ds a w hr => UT (c := c.add Ds) fA hs1 hr) ?_
  refine aC0 (nn := nn) (fv := f) (xs := xs) e1 e2 e3 hcx (fun s s' => s.qR pp nm = some s') (fun c2 F2 s s' a w hp hw hr => UT (c := c2) (F := F2) (fun id q hq => fA id q (by rw [<- hp]; exact hq)) hw hr)
   (fun j s => OZ (fun x s1 K => U3 (pM E lv N as_) (pM E lv N b) p (.dv t x) s1 K) (TS.qR pp nm) k (xs.drop j) s = some r) (fun j s2 hj hI => ?_) (by rw [List.drop_zero]; exact h) (fun j x s2 hI hx c2 F2 hp2 Tj => ?_) (fun s2 hI => ?_)
  ·rw [List.drop_eq_getElem_cons hj] at hI
   simp only [OZ, U3] at hI
   split at hI
   ·rename_i hn; exact ah6 hn
   ·cases hI
  ·have hd : xs.drop j = x :: xs.drop (j + 1) := by
    obtain ⟨hj, rfl⟩ := List.getElem?_eq_some_iff.1 hx
    exact List.drop_eq_getElem_cons hj
   rw [hd] at hI
   simp only [OZ, U3] at hI
   split at hI
   rotate_left
   ·cases hI
   refine (iha (ai1 hp2) Tj hI).mono fun e s3 hq => ?_
   cases e with
   | normal =>
    simp only [KE] at hq
    split at hq
    ·rename_i hk2
     simp only [bC] at hk2
     refine ⟨rfl, ⟨Em hk2.1, ah6 hk2.2⟩, fun c3 F3 hp3 Tm => (ihb (ai1 hp3) Tm hq).mono fun e s4 hq4 => ?_⟩
     simp only [KE] at hq4
     split at hq4
     ·rename_i hk3
      cases e with
      | normal =>
       simp only at hq4
       split at hq4
       ·rename_i s5 hs5; exact ⟨Em hk3, s5, hs5, hq4⟩
       ·cases hq4
      | ret => exact ⟨Em hk3, hq4⟩
      | exit i => exact ⟨Em hk3, hq4⟩
      | goto i => cases hq4
      | panic ch => cases hq4
      | outgrown => cases hq4
     ·cases hq4
    ·cases hq
   | exit i => cases hq
   | ret => cases hq
   | goto i => cases hq
   | panic ch => cases hq
   | outgrown => cases hq
  ·rw [List.drop_length] at hI
   exact hI
 | exit id => intro pp c F fA hcx s k r h; exact aCX h
 | goto l => intro pp c F fA hcx s k r h n a' w' hr; exact wpIn_goto ⟨s, h, hr⟩
 | ret => intro pp c F fA hcx s k r h; exact aC2 h
 | _ => intro pp c F fA hcx s k r h; cases h
theorem aI.aeR {π : Nat -> Pl} {w : World} : ∀ {l : List TV} {vs : List Value} {s : TS} {a : Act}, aI c F π s a w -> vs.length = l.length -> (∀ (i : Nat) (x : TV) (v : Value), l[i]? = some x -> vs[i]? = some v -> VR w (Gz F w π (aA s.ob)) π (aA s.ob) x v) ->
  aI c F π ⟨s.sl ++ l, s.ob⟩ { a with tmps := (a.tmps.toList ++ vs).toArray } w
 | [], vs, s, a, hm, hl, _ => by
  have : vs = [] := List.eq_nil_of_length_eq_zero (by simpa using hl)
  subst this
  simpa using hm
 | x :: l, [], s, a, hm, hl, _ => by simp at hl
 | x :: l, v :: vs, s, a, hm, hl, h => by
  have h1 := hm.ext (x := x) (v := v) (h 0 x v rfl rfl)
  have h2 := aI.aeR (l := l) (vs := vs) h1 (by simpa using hl) fun i y u hy hu => h (i + 1) y u (by simpa using hy) (by simpa using hu)
  simpa using h2
theorem akZ {P : Program} {w : World} {f : ResultVar -> Sem Value} : ∀ {rs : List ResultVar} {vs : List Value}, vs.length = rs.length -> (∀ (i : Nat) (r : ResultVar) (v : Value), rs[i]? = some r -> vs[i]? = some v -> (f r).run P w = .ok v w) -> (rs.mapM f).run P w = .ok vs w
 | [], vs, h, _ => by
  have : vs = [] := List.eq_nil_of_length_eq_zero (by simpa using h)
  subst this; rfl
 | r :: rs, [], h, _ => by simp at h
 | r :: rs, v :: vs, h, hv => by
  have h1 := hv 0 r v rfl rfl
  have h2 := akZ (P := P) (w := w) (f := f) (rs := rs) (vs := vs) (by simpa using h) fun i q u hq hu => hv (i + 1) q u (by simpa using hq) (by simpa using hu)
  simp only [List.mapM_cons, Sem.run_bind, h1, Result.andThen_ok, h2, Sem.run_pure]
theorem aDA {fn : Func} {rs : List ResultVar} (hrs : fn.results = rs.toArray) {tmps : Array Value} {w : World} {vs : List Value} (hl : vs.length = rs.length) (hv : ∀ (i : Nat) (r : ResultVar) (v : Value), rs[i]? = some r -> vs[i]? = some v -> rdV P tmps w r v) :
  (results fn tmps).run P w = .ok (if h : vs.toArray.size = 1 then vs.toArray[0] else .tuple vs.toArray) w := by
 unfold results
 rw [hrs]
 simp only [List.mapM_toArray, Sem.run_bind]
 have : ∀ f : ResultVar -> Sem Value, (∀ (i : Nat) (r : ResultVar) (v : Value), rs[i]? = some r -> vs[i]? = some v -> (f r).run P w = .ok v w) -> (List.toArray <$> rs.mapM f).run P w = .ok vs.toArray w := fun f hf => by
  have e : (List.toArray <$> rs.mapM f : Sem (Array Value)) = (do pure (<- rs.mapM f).toArray) := by simp
  rw [e, Sem.run_bind, akZ hl hf]
  rfl
 rw [this _ fun i r v hr hv' => by
  have := hv i r v hr hv'
  cases r with
  | tmp t => have e : v = _ := this; subst e; rfl
  | cell t T => exact this]
 rfl
def XJ (TI : Nat -> TD) (en : End) (rs : List ResultVar) (s : TS) (l : List TV) (O' : List (Nat × TO)) : Prop :=
 ∃ l0 s0 s1, GX TI s rs = some l0 /\ VA en.nY ⟨s.sl ++ l0, s.ob⟩ = some (s0, true) /\ s0.norm en.nm = some s1 /\ l = s1.sl.drop s.sl.length /\ O' = s1.ob
theorem auW {TI : Nat -> TD} {en : End} {rs : List ResultVar} {dec : List TV -> List (Nat × TO) -> Option α} {r : α} (h : TA TI en rs dec s = some r) : ∃ l O', XJ TI en rs s l O' /\ dec l O' = some r := by
 unfold TA at h
 split at h
 ·rename_i l hl
  split at h
  ·rename_i s0 b h0
   obtain ⟨hb, h⟩ := IY h
   subst hb
   split at h
   ·rename_i s1 h1; exact ⟨_, _, ⟨l, s0, s1, hl, h0, h1, rfl, rfl⟩, h⟩
   ·cases h
  ·cases h
 ·cases h
theorem ak0 : ∀ {nY : List (Nat × DT)} {s s' : TS} {b : Bool}, GY nY s = some (s', b) -> s'.sl.length = s.sl.length
 | [], s, s', b, h => by
  simp only [GY, aS, bJ] at h
  rw [<- h.1]
 | (i, t) :: r, s, s', b, h => by
  simp only [GY] at h
  split at h
  ·split at h
   ·split at h
    ·rename_i hr
     simp only [aS, bJ] at h
     obtain ⟨rfl, _⟩ := h
     rw [ak0 hr]; simp
    ·cases h
   ·cases h
  ·cases h
theorem ac6 (i : Nat) (s : TS) : (cutAt i s).sl.length = s.sl.length := by
 unfold cutAt
 split
 ·split <;> simp
 ·rfl
theorem asM (i : Nat) (t : DT) (s : TS) : (MZ i t s).sl.length = s.sl.length := by
 unfold MZ
 split
 ·split
  ·split
   ·split <;> simp
   ·rfl
  ·rfl
 ·rfl
theorem Pg : ∀ {nY : List (Nat × DT)} {s : TS}, (SK nY s).sl.length = s.sl.length
 | [], s => rfl
 | (i, t) :: r, s => by
  cases t <;> first | exact (Pg (nY := r) (s := MZ i _ (cutAt i s))).trans ((asM i _ _).trans (ac6 i s)) | exact (Pg (nY := r) (s := cutAt i s)).trans (ac6 i s)
theorem Yz (s : TS) : s.settle.sl.length = s.sl.length := by
 unfold TS.settle
 split <;> rfl
theorem alS {nY : List (Nat × DT)} {s s' : TS} {b : Bool} (h : VA nY s = some (s', b)) : s'.sl.length = s.sl.length :=
 (ak0 h).trans (Pg.trans (Yz s))
theorem ah8 {pp : List Nat} {nm : Norm} {s s' : TS} (h : s.OG pp nm = some s') : s'.sl.length = s.sl.length := by
 unfold TS.OG at h
 split at h
 ·split at h
  ·split at h
   ·obtain rfl := aC h; exact Yd _ _ _ _
   ·cases h
  ·cases h
 ·cases h
theorem aAG {nm : Norm} {s s' : TS} (h : s.norm nm = some s') : s'.sl.length = s.sl.length := by
 unfold TS.norm TS.qR TS.Yc at h
 split at h
 ·exact (ah8 h).trans (Yz s)
 ·split at h
  ·rename_i s0 h0; exact (ah8 h).trans ((alS h0).trans (Yz s))
  ·cases h
theorem aG0 {w : World} {G : Nat -> Prop} {π : Nat -> Pl} {O : bF} {l : List TV} {vs : List Value} (hl : vs.length = l.length) (h : ∀ (i : Nat) (x : TV) (v : Value), l[i]? = some x -> vs[i]? = some v -> VR w G π O x v) :
  VR w G π O (sJ l) (if h : vs.toArray.size = 1 then vs.toArray[0] else .tuple vs.toArray) := by
 have gen : ∀ {l : List TV} {vs : List Value}, vs.length = l.length -> (∀ (i : Nat) (x : TV) (v : Value), l[i]? = some x -> vs[i]? = some v -> VR w G π O x v) -> VR w G π O (.dM l.length fun i => l.getD i .any) (.tuple vs.toArray) := fun {l vs} hl h => by
  refine ⟨vs.toArray, rfl, by simpa using hl, fun j hj => ?_⟩
  have hj' : j < vs.length := by omega
  refine ⟨vs[j], by simp [hj'], ?_⟩
  have := h j l[j] vs[j] (by simp [hj]) (by simp [hj'])
  simpa [List.getD, hj] using this
 match l, vs, hl with
 | [], [], _ => exact gen rfl h
 | [x], [v], _ => exact h 0 x v rfl rfl
 | x :: y :: r, v :: u :: vs, hl =>
  have := gen hl h
  simpa [sJ] using this
theorem auV (hT : dI P E.TI) (fA : ∀ id p, c.pin id = some p -> Jm id = true) {fn : Func} {en : End} {rs : List ResultVar} (hrs : fn.results = rs.toArray) {l : List TV} {O' : List (Nat × TO)} (h : XJ E.TI en rs s l O') {π : Nat -> Pl} {a : Act} {w : World} (hm : aI c F π s a w) :
  ∃ v aJ s1 a1, (results fn a.tmps).run P w = .ok v w /\ aI c F aJ s1 a1 w /\ s1.ob = O' /\ VR w (Gz F w aJ (aA O')) aJ (aA O') (sJ l) v := by
 obtain ⟨l0, s0, s1, h1, h2, h3, rfl, rfl⟩ := h
 obtain ⟨vs, a1, a2, a3, a4⟩ := Yt (P := P) hT hm h1
 have hx := aI.aeR hm a1 a4
 obtain ⟨iY, hd⟩ := alT h2 rfl hx
 obtain ⟨aJ, hn⟩ := aiA (pp := []) (fun id p hp => by rw [vU, fA id p hp, Bool.true_or]) h3 hd
 refine ⟨_, aJ, s1, _, aDA hrs a2 a3, hn, rfl, ?_⟩
 have hlen : s1.sl.length = s.sl.length + l0.length := by rw [aAG h3, alS h2]; simp
 refine aG0 (by simp [hlen]; omega) fun i x v hx' hv => ?_
 have hsz := hm.size
 have hi : i < vs.length := (List.getElem?_eq_some_iff.1 hv).1
 have := hn.slot (s.sl.length + i) x (by rw [<- hx']; simp)
 have e : ((a.tmps.toList ++ vs).toArray).getD (s.sl.length + i) undef = v := by
  have : (a.tmps.toList ++ vs)[s.sl.length + i]? = some v := by
   rw [List.getElem?_append_right (by simp [hsz])]
   rw [<- hv]; congr 1; simp [hsz]
  simp [Array.getD_eq_getD_getElem?, this]
 rw [e] at this
 exact this
def wY (O : List (Nat × TO)) : Bool := O.all fun p => Jm p.1 && (p.2.live && !p.2.rZ)
theorem MV [Jn α] (wL : P.follows .mixedOrders = true) (hT : dI P E.TI) (hE : oW P E) (hQ : IM P E.seq) {f : FuncId} {fn : Func} {x : Code} {rs : List ResultVar} {args : List TV} {O : List (Nat × TO)} {lv : Nat -> Option Norm} {N nt : Nat} {en : End} {dec : List TV -> List (Nat × TO) -> Option α} {r : α}
  (hf : P.funcs[f]? = some fn) (hb : fn.body = some x) (hrs : fn.results = rs.toArray) (hname : (fn.name == "runtime.NumGoroutine") = false) (hn : fn.ntmps = args.length + nt) (hO : wY O = true)
  (h : bK E lv N en x rs nt args O dec = some r) : iQ P f args O fun rv O' => ∃ l, rv = sJ l /\ dec l O' = some r := by
 simp only [wY, List.all_eq_true, bC] at hO
 have afL : ∀ (c : Cx), (∀ id p, c.pin id = some p -> ∃ o, aA O id = some o) -> ∀ id p, c.pin id = some p -> Jm id = true := fun c hc id p hp => by
  obtain ⟨o, ho⟩ := hc id p hp
  exact (hO (id, o) (vZ ho)).1
 refine iQ.of (R := fun s l O' => XJ E.TI en rs s l O') hf hb (fun s l O' hR c hc F π a w hm => auV hT (afL c hc) hrs hR hm) hname hn (fun id o ho => by have := (hO (id, o) (vZ ho)).2; simpa using this) fun c F aw1 hno hc => ?_
 have fA := afL c hc
 refine fun nn a w hr => wpIn_mono (asV (pp := []) (c := c) (F := F) wL hT hE hQ N x (fun id p hp => by rw [vU, fA id p hp, Bool.true_or]) ⟨hno, fun l e => by rw [aw1] at e; cases e⟩ h nn a w hr) fun e a' w' ⟨s', h1, h2⟩ => ?_
 have key : TA E.TI en rs dec s' = some r -> ∃ l O', XJ E.TI en rs s' l O' /\ ∃ l', sJ l = sJ l' /\ dec l' O' = some r := fun h => by
  obtain ⟨l, O', q1, q2⟩ := auW h
  exact ⟨l, O', q1, l, rfl, q2⟩
 cases e with
 | normal => exact ⟨s', ⟨.inl rfl, key h1⟩, h2⟩
 | ret => exact ⟨s', ⟨.inr rfl, key h1⟩, h2⟩
 | exit i => cases h1
 | goto i => cases h1
 | panic c => cases h1
 | outgrown => cases h1
def aF (P : Program) (f : Nat) (c : bT) : Prop := ∀ args Of x, c.ans args Of = some x -> iQ P f args Of fun r O' => r = c.enc args Of x /\ O' = c.cZ args Of x
theorem aeJ {TI : Nat -> TD} {TY : Nat -> DT} {L : List (Nat × bT)} {rc : Nat -> Option (List (Option DT))} {fz : Nat -> Bool} {tw : Nat -> Option Nat} (h : ∀ p ∈ L, aF P p.1 p.2) : oW P (Iq TI TY L rc fz tw) := by
 intro g args Of α k res hres
 simp only [Iq, dF] at hres ⊢
 induction L with
 | nil => cases hres
 | cons p r ih =>
  obtain ⟨i, c⟩ := p
  have ih' := ih fun p hp => h p (by simp [hp])
  simp only [Jl] at hres ⊢
  by_cases e : g = i
  ·simp only [if_pos e] at hres ⊢
   cases hx : c.ans args Of with
   | none => simp only [hx] at hres ⊢; exact ih' hres
   | some x =>
    simp only [hx] at hres ⊢
    subst e
    exact ⟨c.enc args Of x, c.cZ args Of x, hres, fun β k' => rfl, h (g, c) (by simp) args Of x hx⟩
  ·simp only [if_neg e] at hres ⊢; exact ih' hres
theorem SY {TI : Nat -> TD} {TY : Nat -> DT} {L : List (Nat × bT)} {rc : Nat -> Option (List (Option DT))} {fz : Nat -> Bool} (h : ∀ p ∈ L, aF P p.1 p.2) : oW P (dF TI TY L rc fz) :=
 aeJ (tw := fun _ => none) h
end
end
section
section
variable {P : Program} {T : TypeId}
theorem EE {z : Value} {n : Nat} (h : (P.info? T).map (fun i => (i.zero, i.size)) = some (some z, n)) : ∃ i, P.info? T = some i /\ i.size = n /\ i.zero = some z := by
 obtain ⟨i, hi, hzz⟩ := Option.map_eq_some_iff.1 h
 simp only [bJ] at hzz
 exact ⟨i, hi, hzz.2, hzz.1⟩
theorem Rk {z : Value} (h : z.cells.toList.all (fun c => c.oneCell') = true) : Flat z := fun c hc => by
 exact List.all_eq_true.1 h c (by simpa using hc)
theorem NI {z : Value} (h : z.oneCell' = true) : Flat z := fun c hc => by
 rw [cells_one h] at hc; simp at hc; rw [hc]; exact h
theorem aQ.nothing : aQ P T {} where
 info := fun h => absurd rfl h
 zc := fun h => absurd rfl h
 one := fun h => by rcases h with h | h <;> cases h
 many := fun h => by rcases h with h | h <;> cases h
 sl := fun h => by cases h
 arr := fun h => by cases h
 str := fun h => by cases h
 uU := fun h => by cases h
 int := fun k h => by cases h
 bool := fun h => by cases h
 string := fun h => by cases h
 map := fun k v h => by cases h
 oM := fun _ _ h => by cases h
 one1 := fun h => by cases h
 eq := fun t h => by cases h
theorem aQ.FX {k : IntKind} (hu : P.underlying T = some (.int k)) (hi : (P.info? T).map (fun i => (i.zero, i.size)) = some (some (.int k 0), 1)) : aQ P T { kd := 1, size := 1, zero := .int k 0, ik := some k } where
 info := fun _ => EE hi
 zc := fun _ => ⟨rfl, NI rfl, (fun cs h => by cases h), Nat.one_pos⟩
 one := fun _ => ⟨rfl, fun w => by simp [isAgg, run_underlying hu]⟩
 many := fun h => by rcases h with h | h <;> cases h
 sl := fun h => by cases h
 arr := fun h => by cases h
 str := fun h => by cases h
 uU := fun h => by cases h
 int := fun k' h => by cases h; exact hu
 bool := fun h => by cases h
 string := fun h => by cases h
 map := fun k v h => by cases h
 oM := fun _ _ h => by cases h
 one1 := fun h => by cases h
 eq := fun t h => by cases h
theorem aQ.arI (hu : P.underlying T = some .bool) (hi : (P.info? T).map (fun i => (i.zero, i.size)) = some (some (.bool false), 1)) : aQ P T { kd := 1, size := 1, zero := .bool false, bl := true } where
 info := fun _ => EE hi
 zc := fun _ => ⟨rfl, NI rfl, (fun cs h => by cases h), Nat.one_pos⟩
 one := fun _ => ⟨rfl, fun w => by simp [isAgg, run_underlying hu]⟩
 many := fun h => by rcases h with h | h <;> cases h
 sl := fun h => by cases h
 arr := fun h => by cases h
 str := fun h => by cases h
 uU := fun h => by cases h
 int := fun k' h => by cases h
 bool := fun _ => hu
 string := fun h => by cases h
 map := fun k v h => by cases h
 oM := fun _ _ h => by cases h
 one1 := fun h => by cases h
 eq := fun t h => by cases h
theorem aQ.aD4 (hu : P.underlying T = some .string) (hi : (P.info? T).map (fun i => (i.zero, i.size)) = some (some (.string ⟨⟨[]⟩⟩), 1)) : aQ P T { kd := 1, size := 1, zero := .string ⟨⟨[]⟩⟩, st := true } where
 info := fun _ => EE hi
 zc := fun _ => ⟨rfl, NI rfl, (fun cs h => by cases h), Nat.one_pos⟩
 one := fun _ => ⟨rfl, fun w => by simp [isAgg, run_underlying hu]⟩
 many := fun h => by rcases h with h | h <;> cases h
 sl := fun h => by cases h
 arr := fun h => by cases h
 str := fun h => by cases h
 uU := fun h => by cases h
 int := fun k' h => by cases h
 bool := fun h => by cases h
 string := fun _ => hu
 map := fun k v h => by cases h
 oM := fun _ _ h => by cases h
 one1 := fun h => by cases h
 eq := fun t h => by cases h
theorem agL {k : TypeId} {j : IntKind} (hu : P.underlying k = some (.int j)) : IE P k (.int j) where
 plain := rfl
 check := fun x w G v b hv => by
  have hv' : v = .int j x := (DT.val_one (t := .int j) rfl).1 hv
  subst hv'
  unfold Instr.checkKey
  simp only [Sem.run_bind, run_underlying hu, Result.andThen_ok]
  rfl
 under := ⟨_, hu, .inl fun x y w G a b ha hb => by
  have ha' : a = .int j x := (DT.val_one (t := .int j) rfl).1 ha
  have hb' : b = .int j y := (DT.val_one (t := .int j) rfl).1 hb
  subst ha'; subst hb'
  simp only [Instr.sameNow, if_true, DT.beq]
  rfl⟩
 same := fun x y w G a b ha hb h => by
  have ha' : a = .int j x := (DT.val_one (t := .int j) rfl).1 ha
  have hb' : b = .int j y := (DT.val_one (t := .int j) rfl).1 hb
  subst ha'; subst hb'
  simp only [DT.beq, fH] at h
  simp [Instr.sameBits, h]
theorem akW {w : World} {f : Nat -> PUnit -> Sem (ForInStep PUnit)} : ∀ (l : List Nat), (∀ i ∈ l, (f i PUnit.unit).run P w = .ok (.yield PUnit.unit) w) -> (forIn l PUnit.unit f : Sem PUnit).run P w = .ok PUnit.unit w
 | [], _ => rfl
 | i :: l, h => by
  simp only [List.forIn_cons, Sem.run_bind, h i (by simp), Result.andThen_ok]
  exact akW l fun j hj => h j (by simp [hj])
theorem azR {k e : TypeId} {n : Nat} {j : IntKind} (hu : P.underlying k = some (.array n e)) (hk : P.underlying e = some (.int j)) (hi : (P.info? e).map (·.size) = some 1) (hag : ∀ w : World, (isAgg e).run P w = .ok false w)
  (he : ∀ t, some (DT.arr n (.int j)) = some t -> t.agg = true /\ ∀ (x y : t.den) (u v : Value) (w : World) (G : Nat -> Prop) (op : BinOp) (ox oy : Operand), t.val x w G u -> t.val y w G v -> (eqGuard op k ox oy u v).run P w = .ok () w /\ (Op.equal k u v).run P w = .ok (t.beq x y) w) : IE P k (.arr n (.int j)) where
 plain := rfl
 check := fun x w G v b hv => by
  obtain ⟨xs, rfl, x1, x2⟩ := (DT.oG (t := .arr n (.int j)) rfl).1 hv
  obtain ⟨ie, hie, hsz⟩ := Option.map_eq_some_iff.1 hi
  unfold Instr.checkKey
  simp only [Sem.run_bind, run_underlying hu, Result.andThen_ok]
  simp only [Std.Legacy.Range.forIn_eq_forIn_range', Std.Legacy.Range.size, Nat.sub_zero, Nat.add_one_sub_one, Nat.div_one]
  rw [akW]
  ·rfl
  intro i hi
  have hin : i < n := by
   have := List.mem_range'.1 hi
   omega
  obtain ⟨a, a1, _, a3⟩ := x2 i (by simpa [DT.size] using hin)
  have a3' : a = .int j (x.getD i (0 : Int)) := by
   have : (DT.int j).cell (x.getD (i / 1) (0 : Int)) (i % 1) w G a := a3
   rw [Nat.div_one] at this; exact this
  have h1 : (sizeOf e).run P w = .ok 1 w := by simp [sizeOf, typeInfo, hie, hsz]
  have h2 : (part e xs i).run P w = .ok a w := by simp [part, hag, a1]
  subst a3'
  have h3 : (Instr.checkKey b 9999 e (.int j (x.getD i (0 : Int)))).run P w = .ok () w := by
   unfold Instr.checkKey
   simp only [Sem.run_bind, run_underlying hk, Result.andThen_ok]
   rfl
  simp only [Sem.run_bind, h1, Result.andThen_ok, Nat.mul_one, h2, h3]
  rfl
 under := ⟨_, hu, .inr ⟨fun x y w G a b ha hb => by
  obtain ⟨xs, rfl, x1, x2⟩ := (DT.oG (t := .arr n (.int j)) rfl).1 ha
  rfl, fun x y w G a b ha hb => ((he _ rfl).2 x y a b w G .eql (.tmp 0) (.tmp 0) ha hb).2⟩⟩
 same := fun x y w G a b ha hb h => by
  obtain ⟨xs, rfl, x1, x2⟩ := (DT.oG (t := .arr n (.int j)) rfl).1 ha
  obtain ⟨ys, rfl, y1, y2⟩ := (DT.oG (t := .arr n (.int j)) rfl).1 hb
  have hs : ys.size = xs.size := y1.trans x1.symm
  simp only [Instr.sameBits, bC, beq_iff_eq]
  refine ⟨hs, List.all_eq_true.2 fun p hp => ?_⟩
  obtain ⟨i, hi, rfl⟩ := List.getElem_of_mem hp
  simp only [List.length_zip, Array.length_toList] at hi
  have hin : i < n := by
   have : xs.size = n := by rw [x1]; simp [DT.size]
   omega
  obtain ⟨p, p1, _, p3⟩ := x2 i (by simpa [DT.size] using hin)
  obtain ⟨q, q1, _, q3⟩ := y2 i (by simpa [DT.size] using hin)
  have p3' : p = .int j (x.getD i (0 : Int)) := by
   have : (DT.int j).cell (x.getD (i / 1) (0 : Int)) (i % 1) w G p := p3
   rw [Nat.div_one] at this; exact this
  have q3' : q = .int j (y.getD i (0 : Int)) := by
   have : (DT.int j).cell (y.getD (i / 1) (0 : Int)) (i % 1) w G q := q3
   rw [Nat.div_one] at this; exact this
  simp only [DT.beq, List.all_eq_true, List.mem_range, DT.dflt] at h
  have hxy : x.getD i (0 : Int) = y.getD i (0 : Int) := of_decide_eq_true (h i hin)
  have e1 : ys.toList[i]'(by simp; omega) = q := by
   have : i < ys.size := by omega
   rw [Array.getElem?_eq_getElem this] at q1
   simpa using aC q1
  have e2 : xs.toList[i]'(by simp; omega) = p := by
   have : i < xs.size := by omega
   rw [Array.getElem?_eq_getElem this] at p1
   simpa using aC p1
  simp only [List.getElem_zip, e1, e2, p3', q3', Instr.sameBits, bC, beq_iff_eq, true_and]
  exact hxy.symm
theorem aQ.Xb {k v : TypeId} (hu : P.underlying T = some (.map k v)) (hi : (P.info? T).map (fun i => (i.zero, i.size)) = some (some (.map none), 1)) {q : Option (DT × DT)} (hq : ∀ kt vt, q = some (kt, vt) -> IE P k kt /\ ∃ i z, P.info? v = some i /\ i.zero = some z /\ Uk z vt /\ vt.plain = true) : aQ P T { kd := 1, size := 1, zero := .map none, mp := some (k, v), qM := q } where
 info := fun _ => EE hi
 zc := fun _ => ⟨rfl, NI rfl, (fun cs h => by cases h), Nat.one_pos⟩
 one := fun _ => ⟨rfl, fun w => by simp [isAgg, run_underlying hu]⟩
 many := fun h => by rcases h with h | h <;> cases h
 sl := fun h => by cases h
 arr := fun h => by cases h
 str := fun h => by cases h
 uU := fun h => by cases h
 int := fun k h => by cases h
 bool := fun h => by cases h
 string := fun h => by cases h
 map := fun k' v' h => by cases h; exact hu
 oM := fun kt vt h => by
  obtain ⟨h1, i, z, h2, h3, h4, h5⟩ := hq kt vt h
  exact ⟨k, v, i, z, hu, h1, h2, h3, h4, h5⟩
 one1 := fun h => by cases h
 eq := fun t h => by cases h
theorem Xg {k v : TypeId} {kt0 Zn : DT} {z : Value} (hk : IE P k kt0) (hz : (P.info? v).map (·.zero) = some (some z)) (hz0 : isZero z Zn = true) (hp : Zn.plain = true) : ∀ kt vt, some (kt0, Zn) = some (kt, vt) -> IE P k kt /\ ∃ i z, P.info? v = some i /\ i.zero = some z /\ Uk z vt /\ vt.plain = true := fun kt vt h => by
 simp only [aS, bJ] at h
 obtain ⟨rfl, rfl⟩ := h
 obtain ⟨i, h1, h2⟩ := Option.map_eq_some_iff.1 hz
 exact ⟨hk, i, z, h1, h2, fun w G => BU hp hz0, hp⟩
theorem aQ.cell {z : Value} (ha : ∀ w : World, (isAgg T).run P w = .ok false w) (hi : (P.info? T).map (fun i => (i.zero, i.size)) = some (some z, 1)) (hz : z.oneCell' = true) : aQ P T { kd := 1, size := 1, zero := z } where
 info := fun _ => EE hi
 zc := fun _ => ⟨by rw [cells_one hz]; rfl, fun c hc => by rw [cells_one hz] at hc; simp at hc; rw [hc]; exact hz, (fun cs h => by rw [show z = .agg cs from h] at hz; cases hz), Nat.one_pos⟩
 one := fun _ => ⟨rfl, ha⟩
 many := fun h => by rcases h with h | h <;> cases h
 sl := fun h => by cases h
 arr := fun h => by cases h
 str := fun h => by cases h
 uU := fun h => by cases h
 int := fun k' h => by cases h
 bool := fun h => by cases h
 string := fun h => by cases h
 map := fun k v h => by cases h
 oM := fun _ _ h => by cases h
 one1 := fun h => by cases h
 eq := fun t h => by cases h
theorem aQ.Jo {e : TypeId} (hu : P.underlying T = some (.pointer e)) (hi : (P.info? T).map (fun i => (i.zero, i.size)) = some (some (.pointer none), 1)) : aQ P T { kd := 1, size := 1, zero := .pointer none, pt := true } where
 info := fun _ => EE hi
 zc := fun _ => ⟨rfl, NI rfl, (fun cs h => by cases h), Nat.one_pos⟩
 one := fun _ => ⟨rfl, fun w => by simp [isAgg, run_underlying hu]⟩
 many := fun h => by rcases h with h | h <;> cases h
 sl := fun h => by cases h
 arr := fun h => by cases h
 str := fun h => by cases h
 uU := fun h => by cases h
 int := fun k' h => by cases h
 bool := fun h => by cases h
 string := fun h => by cases h
 map := fun k v h => by cases h
 oM := fun _ _ h => by cases h
 one1 := fun h => by cases h
 eq := fun t h => by cases h
 ptr := fun _ => ⟨e, hu⟩
theorem aQ.meth {d : TD} (h : aQ P T d) (l : List (String × Nat)) (hl : ∀ name g, l.lookup name = some g -> ∀ (n : Nat) (v : Value) (w : World), (Go.method (n + 1) T v name).run P w = .ok (g, v) w) : aQ P T { d with zH := l } :=
 ⟨h.info, h.zc, h.one, h.many, h.sl, h.arr, h.str, h.uU, h.int, h.bool, h.string, h.map, h.oM, h.one1, h.eq, hl, h.ptr, h.by8, h.yX⟩
def aiB : TypeDesc -> Bool
 | .pointer _ => false
 | _ => true
theorem agT {d : TypeDesc} {name : String} {g : Nat} (hu : P.underlying T = some d) (hd : aiB d = true) (hm : ((P.info? T).bind fun i => (i.methods.find? (·.name == name)).map fun m => (m.path.toList.isEmpty, m.func)) = some (true, some (g, false))) (n : Nat) (v : Value) (w : World) : (Go.method (n + 1) T v name).run P w = .ok (g, v) w := by
 obtain ⟨i, h1, h2⟩ := Option.bind_eq_some_iff.1 hm
 obtain ⟨m, h3, h4⟩ := Option.map_eq_some_iff.1 h2
 simp only [bJ, List.isEmpty_iff] at h4
 obtain ⟨h4, h5⟩ := h4
 have hr : ∀ wr, (receiverAt T (.val v) false wr).run P w = .ok v w := fun wr => by
  unfold receiverAt
  simp only [Sem.run_bind, run_underlying hu, Result.andThen_ok]
  cases d <;> first | (simp [aiB] at hd; done) | rfl
 simp [Go.method, typeInfo, h1, h3, h4, follow, h5, hr]
theorem agK {a : String} {b : Nat} {Q : String -> Nat -> Prop} (h : Q a b) : ∀ name g, [(a, b)].lookup name = some g -> Q name g := fun name g h' => by
 simp only [List.lookup] at h'
 split at h'
 ·rename_i e
  obtain rfl := aC h'
  rw [beq_iff_eq] at e
  rw [e]; exact h
 ·cases h'
theorem aQ.ES {e : TypeId} {ze : Value} {k b : Nat} (hu : P.underlying T = some (.slice e)) (hi : (P.info? T).map (fun i => (i.zero, i.size)) = some (some (.slice none 0 0), 1)) (he : (P.info? e).map (fun i => (i.zero, i.size, i.bytes)) = some (some ze, k, b))
  (hc : ze.cells.size = k) (hf : ze.cells.toList.all (fun c => c.oneCell') = true) (hk : 0 < k) : aQ P T { kd := 2, size := 1, zero := .slice none 0 0, elem := k, eb := b, ez := ze } where
 info := fun _ => EE hi
 zc := fun _ => ⟨rfl, NI rfl, (fun cs h => by cases h), Nat.one_pos⟩
 one := fun _ => ⟨rfl, fun w => by simp [isAgg, run_underlying hu]⟩
 many := fun h => by rcases h with h | h <;> cases h
 sl := fun _ => by
  obtain ⟨i, h1, h2, h3, h4⟩ := info_parts he
  exact ⟨e, i, hu, h1, h3, h4, h2, hc, Rk hf, hk⟩
 arr := fun h => by cases h
 str := fun h => by cases h
 uU := fun h => by cases h
 int := fun k' h => by cases h
 bool := fun h => by cases h
 string := fun h => by cases h
 map := fun k v h => by cases h
 oM := fun _ _ h => by cases h
 one1 := fun h => by cases h
 eq := fun t h => by cases h
theorem aeL {op : BinOp} {ox oy : Operand} {xs ys : Array Value} {w : World} (h : P.eqGuardType P.depth T = false) : (eqGuard op T ox oy (.agg xs) (.agg ys)).run P w = .ok () w := by
 unfold eqGuard
 cases op <;> simp [run_program, h]
theorem aeM {e : TypeId} {k : IntKind} (hk : P.underlying e = some (.int k)) (hag : ∀ w : World, (isAgg e).run P w = .ok false w) {w : World} {xs ys : Array Value} {x y : List Int} (d : Nat) : ∀ is : List Nat, (∀ i ∈ is, xs[i]? = some (.int k (x.getD i 0)) /\ ys[i]? = some (.int k (y.getD i 0))) ->
  (Op.eqItems (d + 1) e 1 xs ys is).run P w = .ok (is.all fun i => decide (x.getD i 0 = y.getD i 0)) w
 | [], _ => rfl
 | i :: is, h => by
  obtain ⟨h1, h2⟩ := h i (by simp)
  have ih := aeM hk hag (w := w) d is fun j hj => h j (by simp [hj])
  simp only [Op.eqItems, Sem.run_bind, part, hag, Result.andThen_ok, Nat.mul_one]
  simp only [h1, h2]
  simp only [List.all_cons]
  generalize x.getD i 0 = p
  generalize y.getD i 0 = q
  by_cases hxy : p = q
  ·simp [run_equalIn_int, hk, hxy, ih]
  ·simp [run_equalIn_int, hk, hxy]
theorem DZ {e : TypeId} {n : Nat} {k : IntKind} (hu : P.underlying T = some (.array n e)) (hk : P.underlying e = some (.int k)) (hi : (P.info? e).isSome = true) (hag : ∀ w : World, (isAgg e).run P w = .ok false w) (hc : P.cellsOf e = 1) (hg : P.eqGuardType P.depth T = false) :
  ∀ t, some (DT.arr n (.int k)) = some t -> t.agg = true /\ ∀ (x y : t.den) (u v : Value) (w : World) (G : Nat -> Prop) (op : BinOp) (ox oy : Operand), t.val x w G u -> t.val y w G v -> (eqGuard op T ox oy u v).run P w = .ok () w /\ (Op.equal T u v).run P w = .ok (t.beq x y) w := fun t ht => by
 obtain rfl := aC ht
 refine ⟨rfl, fun x y u v w G op ox oy hu' hv => ?_⟩
 obtain ⟨xs, rfl, x1, x2⟩ := (DT.oG (t := .arr n (.int k)) rfl).1 hu'
 obtain ⟨ys, rfl, y1, y2⟩ := (DT.oG (t := .arr n (.int k)) rfl).1 hv
 refine ⟨aeL hg, ?_⟩
 obtain ⟨i, hi'⟩ := Option.isSome_iff_exists.1 hi
 show (Op.equalIn (9999 + 1) T _ _).run P w = _
 rw [run_equalIn_array w 9999 xs ys hu hi', hc]
 refine aeM hk hag 9998 (List.range n) fun j hj => ?_
 have hj' : j < n * 1 := by simpa using hj
 obtain ⟨a, a1, _, a3⟩ := x2 j hj'
 obtain ⟨b, b1, _, b3⟩ := y2 j hj'
 simp only [DT.cell, DT.size, Nat.div_one] at a3 b3
 exact ⟨by rw [a1, a3]; rfl, by rw [b1, b3]; rfl⟩
def qP : List IntKind -> DT
 | [] => .unit
 | k :: r => .pair (.int k) (qP r)
def Dy (P : Program) : List Field -> List IntKind -> Nat -> Bool
 | [], [], _ => true
 | f :: fs, k :: ks, o => (f.name != "_") && (f.offset == o) && (match P.underlying f.type with | some (.int k') => decide (k' = k) | _ => false) && Dy P fs ks (o + 1)
 | _, _, _ => false
theorem Ot : ∀ ks : List IntKind, (qP ks).size = ks.length
 | [] => rfl
 | k :: r => by show 1 + (qP r).size = _; rw [Ot r, List.length_cons]; omega
theorem aeK {w : World} {G : Nat -> Prop} {xs ys : Array Value} (d : Nat) : ∀ (fs : List Field) (ks : List IntKind) (o : Nat), Dy P fs ks o = true -> ∀ (x y : (qP ks).den), (∀ j, j < ks.length -> ∃ u, xs[o + j]? = some u /\ (qP ks).cell x j w G u) -> (∀ j, j < ks.length -> ∃ u, ys[o + j]? = some u /\ (qP ks).cell y j w G u) ->
  (Op.eqFields (d + 1) xs ys fs).run P w = .ok ((qP ks).beq x y) w
 | [], [], _, _, x, y, _, _ => rfl
 | [], k :: ks, _, h, _, _, _, _ => by cases h
 | f :: fs, [], _, h, _, _, _, _ => by cases h
 | f :: fs, k :: ks, o, h, x, y, hx, hy => by
  simp only [Dy, bC, bne_iff_ne, beq_iff_eq] at h
  obtain ⟨⟨⟨h1, h2⟩, h3⟩, h4⟩ := h
  have hu : P.underlying f.type = some (.int k) := by
   split at h3
   ·rename_i k' e; rw [e]; simp only [fH] at h3; rw [h3]
   ·cases h3
  have hag : ∀ w : World, (isAgg f.type).run P w = .ok false w := fun w => by simp [isAgg, run_underlying hu]
  have ih := aeK d fs ks (o + 1) h4 x.2 y.2 (fun j hj => by
   obtain ⟨u, a, b⟩ := hx (j + 1) (by simp; omega)
   refine ⟨u, by rw [<- a]; congr 1; omega, ?_⟩
   have b' : (if j + 1 < (DT.int k).size then (DT.int k).cell x.1 (j + 1) w G u else (qP ks).cell x.2 (j + 1 - (DT.int k).size) w G u) := by
    have : (qP (k :: ks)).cell x (j + 1) w G u := b
    simp only [qP, DT.cell] at this
    split at this
    ·rename_i q; exact absurd q (by show ¬ j + 1 < 1; omega)
    ·rename_i q; rw [if_neg q]; exact this
   rw [if_neg (by show ¬ j + 1 < 1; omega)] at b'
   exact b') (fun j hj => by
   obtain ⟨u, a, b⟩ := hy (j + 1) (by simp; omega)
   refine ⟨u, by rw [<- a]; congr 1; omega, ?_⟩
   have this : (qP (k :: ks)).cell y (j + 1) w G u := b
   simp only [qP, DT.cell] at this
   split at this
   ·rename_i q; exact absurd q (by show ¬ j + 1 < 1; omega)
   ·exact this)
  obtain ⟨u, a1, a2⟩ := hx 0 (by simp)
  obtain ⟨v, b1, b2⟩ := hy 0 (by simp)
  have a3 : u = .int k x.1 := by
   have this : (qP (k :: ks)).cell x 0 w G u := a2
   simp only [qP, DT.cell] at this
   split at this
   ·exact this
   ·rename_i q; exact absurd (show 0 < 1 by omega) q
  have b3 : v = .int k y.1 := by
   have this : (qP (k :: ks)).cell y 0 w G v := b2
   simp only [qP, DT.cell] at this
   split at this
   ·exact this
   ·rename_i q; exact absurd (show 0 < 1 by omega) q
  rw [Nat.add_zero] at a1 b1
  subst a3; subst b3
  simp only [Op.eqFields, if_pos h1, Sem.run_bind, part, hag, Result.andThen_ok, h2]
  simp only [a1, b1]
  have key : ∀ p q : Int, ∀ r : Bool, (Op.eqFields (d + 1) xs ys fs).run P w = .ok r w -> ((Op.equalIn (d + 1) f.type (.int k p) (.int k q)).run P w).andThen (fun b w' => Sem.run P (if (!b) = true then pure false else Op.eqFields (d + 1) xs ys fs) w') = .ok (decide (p = q) && r) w := fun p q r hr => by
   rw [run_equalIn_int w d f.type k k p q hu]
   by_cases e : p = q
   ·subst e; simp [hr]
   ·simp [e]
  exact key x.1 y.1 _ ih
theorem aeO {ks : List IntKind} (hne : ks ≠ []) (hu : P.underlying T = some (.struct (P.fieldsOf T))) (hp : P.stoodInHeld T = false) (hk : Dy P (P.fieldsOf T).toList ks 0 = true) (hg : P.eqGuardType P.depth T = false) :
  ∀ t, some (qP ks) = some t -> t.agg = true /\ ∀ (x y : t.den) (u v : Value) (w : World) (G : Nat -> Prop) (op : BinOp) (ox oy : Operand), t.val x w G u -> t.val y w G v -> (eqGuard op T ox oy u v).run P w = .ok () w /\ (Op.equal T u v).run P w = .ok (t.beq x y) w := fun t ht => by
 obtain rfl := aC ht
 have hagg : (qP ks).agg = true := by cases ks <;> first | rfl | exact absurd rfl hne
 refine ⟨hagg, fun x y u v w G op ox oy hu' hv => ?_⟩
 obtain ⟨xs, rfl, x1, x2⟩ := (DT.oG hagg).1 hu'
 obtain ⟨ys, rfl, y1, y2⟩ := (DT.oG hagg).1 hv
 refine ⟨aeL hg, ?_⟩
 show (Op.equalIn (9999 + 1) T _ _).run P w = _
 rw [run_equalIn_struct w 9999 T xs ys hu hp]
 refine aeK (G := G) 9998 _ ks 0 hk x y (fun j hj => ?_) (fun j hj => ?_)
 ·obtain ⟨a, a1, _, a3⟩ := x2 j (by rw [Ot]; exact hj)
  exact ⟨a, by rw [Nat.zero_add]; exact a1, a3⟩
 ·obtain ⟨a, a1, _, a3⟩ := y2 j (by rw [Ot]; exact hj)
  exact ⟨a, by rw [Nat.zero_add]; exact a1, a3⟩
theorem aQ.bytes {d : TD} (h : aQ P T d) (hb : ∃ e, P.underlying T = some (.slice e) /\ P.underlying e = some (.int .u8)) : aQ P T { d with b8 := true } :=
 ⟨h.info, h.zc, h.one, h.many, h.sl, h.arr, h.str, h.uU, h.int, h.bool, h.string, h.map, h.oM, h.one1, h.eq, h.zH, h.ptr, fun _ => hb, h.yX⟩
theorem aQ.Nz {d : TD} {e : TypeId} (h : aQ P T d) (hu : P.underlying T = some (.array d.len e)) (ha : ∀ w : World, (isAgg e).run P w = .ok true w) : aQ P T { d with yX := true } :=
 ⟨h.info, h.zc, h.one, h.many, h.sl, h.arr, h.str, h.uU, h.int, h.bool, h.string, h.map, h.oM, h.one1, h.eq, h.zH, h.ptr, h.by8, fun _ e' he' w => by
  rw [hu] at he'
  simp only [aS, TypeDesc.array.injEq] at he'
  rw [<- he'.2]; exact ha w⟩
theorem aQ.amC {d : TD} (h : aQ P T d) (q : Option DT) (hq : ∀ t, q = some t -> t.agg = true /\ ∀ (x y : t.den) (u v : Value) (w : World) (G : Nat -> Prop) (op : BinOp) (ox oy : Operand), t.val x w G u -> t.val y w G v -> (eqGuard op T ox oy u v).run P w = .ok () w /\ (Op.equal T u v).run P w = .ok (t.beq x y) w) : aQ P T { d with eqd := q } :=
 { h with eq := hq }
theorem aQ.wI {e : TypeId} {ze : Value} {k b n m : Nat} {z : Array Value} (hu : P.underlying T = some (.array n e)) (hi : (P.info? T).map (fun i => (i.zero, i.size)) = some (some (.agg z), m)) (he : (P.info? e).map (fun i => (i.zero, i.size, i.bytes)) = some (some ze, k, b))
  (hc : z.size = m) (hf : z.toList.all (fun c => c.oneCell') = true) (hm : 0 < m) {o1 : Bool} (ho : o1 = true -> ∀ w : World, (isAgg e).run P w = .ok false w) {q : Option DT} (hq : ∀ t, q = some t -> t.agg = true /\ ∀ (x y : t.den) (u v : Value) (w : World) (G : Nat -> Prop) (op : BinOp) (ox oy : Operand), t.val x w G u -> t.val y w G v -> (eqGuard op T ox oy u v).run P w = .ok () w /\ (Op.equal T u v).run P w = .ok (t.beq x y) w) :
  aQ P T { kd := 3, size := m, zero := .agg z, elem := k, eb := b, ez := ze, len := n, one1 := o1, eqd := q } where
 info := fun _ => EE hi
 zc := fun _ => ⟨hc, Rk hf, (fun cs h => by show 2 < 3; omega), hm⟩
 one := fun h => by rcases h with h | h <;> cases h
 many := fun _ => ⟨⟨z, rfl⟩, fun w => by simp [isAgg, run_underlying hu]⟩
 sl := fun h => by cases h
 arr := fun _ => by
  obtain ⟨i, h1, h2, h3, h4⟩ := info_parts he
  exact ⟨e, i, hu, h1, h3⟩
 str := fun h => by cases h
 uU := fun h => by cases h
 int := fun k' h => by cases h
 bool := fun h => by cases h
 string := fun h => by cases h
 map := fun k v h => by cases h
 oM := fun _ _ h => by cases h
 one1 := fun h e' he' w => by
  rw [hu] at he'
  simp only [aS, TypeDesc.array.injEq] at he'
  rw [<- he'.2]; exact ho h w
 eq := hq
theorem agM {P : Program} : ∀ {fs : List Field} {places : List (Nat × Nat)}, fs.mapM (fun f => (P.info? f.type).map fun i => (f.offset, i.size)) = some places -> fs.length = places.length /\ ∀ (i : Nat) (p : Nat × Nat), places[i]? = some p -> ∃ f fi, fs[i]? = some f /\ f.offset = p.1 /\ P.info? f.type = some fi /\ fi.size = p.2
 | [], places, h => by simp at h; subst h; exact ⟨rfl, fun i p hp => by simp at hp⟩
 | f :: fs, places, h => by
  simp only [List.mapM_cons, Option.bind_eq_bind, Option.pure_def] at h
  cases hi : P.info? f.type with
  | none => simp [hi] at h
  | some i =>
   cases hr : fs.mapM (fun f => (P.info? f.type).map fun i => (f.offset, i.size)) with
   | none => simp [hi, hr] at h
   | some rest =>
    simp [hi, hr] at h
    subst h
    obtain ⟨h1, h2⟩ := agM hr
    refine ⟨by simp [h1], fun j p hp => ?_⟩
    cases j with
    | zero => simp at hp; subst hp; exact ⟨f, i, rfl, rfl, hi, rfl⟩
    | succ j => simpa using h2 j p (by simpa using hp)
theorem aQ.yJ {fs : Array Field} {m : Nat} {z : Array Value} {aP : List (Nat × Nat)} (hu : P.underlying T = some (.struct fs)) (hi : (P.info? T).map (fun i => (i.zero, i.size)) = some (some (.agg z), m)) (hp : fs.toList.mapM (fun f => (P.info? f.type).map fun i => (f.offset, i.size)) = some aP)
  (hc : z.size = m) (hf : z.toList.all (fun c => c.oneCell') = true) (hm : 0 < m) (ho : aP.all (fun p => decide (0 < p.2)) = true) : aQ P T { kd := 4, size := m, zero := .agg z, aP := aP } where
 info := fun _ => EE hi
 zc := fun _ => ⟨hc, Rk hf, (fun cs h => by show 2 < 4; omega), hm⟩
 one := fun h => by rcases h with h | h <;> cases h
 many := fun _ => ⟨⟨z, rfl⟩, fun w => by simp [isAgg, run_underlying hu]⟩
 sl := fun h => by cases h
 arr := fun h => by cases h
 str := fun _ => by
  obtain ⟨h1, h2⟩ := agM hp
  refine ⟨fs, hu, by simpa using h1, fun i p NM => ?_⟩
  obtain ⟨f, fi, a1, a2, a3, a4⟩ := h2 i p NM
  have := List.all_eq_true.1 ho p (List.mem_of_getElem? NM)
  exact ⟨f, fi, by simpa using a1, a2, a3, a4, by simpa using this⟩
 uU := fun _ => ⟨fs, hu, hp⟩
 int := fun k' h => by cases h
 bool := fun h => by cases h
 string := fun h => by cases h
 map := fun k v h => by cases h
 oM := fun _ _ h => by cases h
 one1 := fun h => by cases h
 eq := fun t h => by cases h
end
end
section
set_option maxRecDepth 100000
def La : Array Value := (List.replicate 13 [(.int .i64 (0)), (.int .i64 (0)), (.bool false), (.bool false), (.int .i64 (0))]).flatten.toArray
def zl1 : Array Value := (List.replicate 169 [(.int .i64 (0)), (.int .i64 (0)), (.bool false), (.bool false), (.int .i64 (0))]).flatten.toArray
def zl2 : Array Value := (List.replicate 256 (.bool false)).toArray
def zl3 : Array Value := #[(.int .i64 (0)), (.int .i64 (0)), (.int .i64 (0)), (.int .i64 (0)), (.int .i64 (0)), (.int .i64 (0)), (.int .i64 (0)), (.int .i64 (0)), (.int .i64 (0)), (.int .i64 (0)), (.int .i64 (0)), (.int .i64 (0)), (.int .i64 (0)), (.int .i64 (0)), (.int .i64 (0)), (.int .i64 (0)), (.int .i64 (0)), (.int .i64 (0)), (.int .i64 (0)), (.int .i64 (0)), (.int .i64 (0)), (.map none)]
def TI : Nat -> TD
 | 1 => { kd := 1, size := 1, zero := .nilFunc }
 | 2 => { kd := 1, size := 1, zero := .int .i64 0, ik := some .i64 }
 | 3 => { kd := 1, size := 1, zero := .int .i64 0, ik := some .i64 }
 | 4 => { kd := 1, size := 1, zero := .bool false, bl := true }
 | 5 => { kd := 1, size := 1, zero := .int .u8 0, ik := some .u8 }
 | 9 => { kd := 1, size := 1, zero := .string ⟨⟨[]⟩⟩, st := true }
 | 20 => { kd := 1, size := 1, zero := .nilIface }
 | 21 => { kd := 1, size := 1, zero := .int .i32 0, ik := some .i32 }
 | 24 => { kd := 2, size := 1, zero := .slice none 0 0, elem := 1, eb := 24, ez := .slice none 0 0 }
 | 26 => { kd := 4, size := 2, zero := .agg #[(.int .i64 (0)), .slice none 0 0], aP := [(0, 1), (1, 1)] }
 | 28 => { kd := 2, size := 1, zero := .slice none 0 0, elem := 2, eb := 16, ez := .agg #[(.int .i64 (0)), (.int .i64 (0))] }
 | 30 => { kd := 4, size := 2, zero := .agg #[(.int .i64 (0)), .slice none 0 0], aP := [(0, 1), (1, 1)] }
 | 31 => { kd := 2, size := 1, zero := .slice none 0 0, elem := 1, eb := 8, ez := .int .i64 (0) }
 | 32 => { kd := 3, size := 2, zero := .agg #[(.int .i64 (0)), (.int .i64 (0))], elem := 1, eb := 8, ez := .int .i64 (0), len := 2, one1 := true, eqd := some (.arr 2 (.int .i64)) }
 | 35 => { kd := 1, size := 1, zero := .int .i64 0, ik := some .i64 }
 | 47 => { kd := 2, size := 1, zero := .slice none 0 0, elem := 1, eb := 16, ez := .string ⟨⟨[]⟩⟩ }
 | 50 => { kd := 2, size := 1, zero := .slice none 0 0, elem := 4, eb := 4, ez := .agg #[(.int .u8 (0)), (.int .u8 (0)), (.int .u8 (0)), (.int .u8 (0))] }
 | 51 => { kd := 2, size := 1, zero := .slice none 0 0, elem := 2, eb := 48, ez := .agg #[.slice none 0 0, .slice none 0 0] }
 | 52 => { kd := 3, size := 4, zero := .agg #[(.int .u8 (0)), (.int .u8 (0)), (.int .u8 (0)), (.int .u8 (0))], elem := 1, eb := 1, ez := .int .u8 (0), len := 4, one1 := true, eqd := some (.arr 4 (.int .u8)) }
 | 54 => { kd := 4, size := 2, zero := .agg #[.slice none 0 0, .slice none 0 0], aP := [(0, 1), (1, 1)] }
 | 56 => { kd := 4, size := 2, zero := .agg #[(.int .i64 (0)), .slice none 0 0], aP := [(0, 1), (1, 1)] }
 | 68 => { kd := 1, size := 1, zero := .int .u64 0, ik := some .u64 }
 | 70 => { kd := 3, size := 6, zero := .agg #[(.int .u64 (0)), (.int .u64 (0)), (.int .u64 (0)), (.int .u64 (0)), (.int .u64 (0)), (.int .u64 (0))], elem := 1, eb := 8, ez := .int .u64 (0), len := 6, one1 := true, eqd := some (.arr 6 (.int .u64)) }
 | 79 => { kd := 1, size := 1, zero := .nilIface }
 | 82 => { kd := 1, size := 1, zero := .int .u8 0, ik := some .u8 }
 | 94 => { kd := 1, size := 1, zero := .nilFunc }
 | 95 => { kd := 1, size := 1, zero := .nilFunc }
 | 97 => { kd := 1, size := 1, zero := .nilFunc }
 | 101 => { kd := 1, size := 1, zero := .nilFunc }
 | 109 => { kd := 4, size := 2, zero := .agg #[(.pointer none), .slice none 0 0], aP := [(0, 1), (1, 1)] }
 | 113 => { kd := 1, size := 1, zero := .nilIface }
 | 119 => { kd := 1, size := 1, zero := .int .i64 0, ik := some .i64, zH := [("tusche/ink.over", 91)] }
 | 120 => { kd := 2, size := 1, zero := .slice none 0 0, elem := 1, eb := 8, ez := .int .i64 (0), zH := [("tusche/ink.over", 195)] }
 | 122 => { kd := 3, size := 14, zero := .agg #[(.int .u64 (0)), (.int .u64 (0)), (.int .u64 (0)), (.int .u64 (0)), (.int .u64 (0)), (.int .u64 (0)), (.int .u64 (0)), (.int .u64 (0)), (.int .u64 (0)), (.int .u64 (0)), (.int .u64 (0)), (.int .u64 (0)), (.int .u64 (0)), (.int .u64 (0))], elem := 1, eb := 8, ez := .int .u64 (0), len := 14, one1 := true, eqd := some (.arr 14 (.int .u64)) }
 | 124 => { kd := 1, size := 1, zero := .map none, mp := some (68, 3), qM := some (.int .u64, .int .i64) }
 | 129 => { kd := 1, size := 1, zero := .nilFunc }
 | 132 => { kd := 3, size := 8, zero := .agg #[(.int .u8 (0)), (.int .u8 (0)), (.int .u8 (0)), (.int .u8 (0)), (.int .u8 (0)), (.int .u8 (0)), (.int .u8 (0)), (.int .u8 (0))], elem := 1, eb := 1, ez := .int .u8 (0), len := 8, one1 := true, eqd := some (.arr 8 (.int .u8)) }
 | 137 => { kd := 1, size := 1, zero := .nilFunc }
 | 138 => { kd := 3, size := 3, zero := .agg #[(.int .i64 (0)), (.int .i64 (0)), (.int .i64 (0))], elem := 1, eb := 8, ez := .int .i64 (0), len := 3, one1 := true, eqd := some (.arr 3 (.int .i64)) }
 | 149 => { kd := 1, size := 1, zero := .nilFunc }
 | 150 => { kd := 1, size := 1, zero := .nilFunc }
 | 154 => { kd := 4, size := 3, zero := .agg #[(.int .i64 (0)), (.int .i64 (0)), (.int .i64 (0))], aP := [(0, 1), (1, 1), (2, 1)], eqd := some (.pair (.int .i64) (.pair (.int .i64) (.pair (.int .i64) (.unit)))) }
 | 155 => { kd := 2, size := 1, zero := .slice none 0 0, elem := 3, eb := 24, ez := .agg #[(.int .i64 (0)), (.int .i64 (0)), (.int .i64 (0))] }
 | 167 => { kd := 4, size := 2, zero := .agg #[(.bool false), (.int .i64 (0))], aP := [(0, 1), (1, 1)] }
 | 169 => { kd := 4, size := 5, zero := .agg #[(.int .i64 (0)), (.int .i64 (0)), (.bool false), (.bool false), (.int .i64 (0))], aP := [(0, 1), (1, 1), (2, 1), (3, 2)] }
 | 170 => { kd := 3, size := 65, zero := .agg La, elem := 5, eb := 40, ez := .agg #[(.int .i64 (0)), (.int .i64 (0)), (.bool false), (.bool false), (.int .i64 (0))], len := 13, one1 := false, eqd := none, yX := true }
 | 171 => { kd := 1, size := 1, zero := .pointer none, pt := true }
 | 175 => { kd := 4, size := 2, zero := .agg #[.slice none 0 0, (.string ⟨⟨[]⟩⟩)], aP := [(0, 1), (1, 1)] }
 | 177 => { kd := 1, size := 1, zero := .nilFunc }
 | 190 => { kd := 3, size := 845, zero := .agg zl1, elem := 65, eb := 520, ez := .agg La, len := 13, one1 := false, eqd := none, yX := true }
 | 191 => { kd := 1, size := 1, zero := .pointer none, pt := true }
 | 194 => { kd := 1, size := 1, zero := .nilFunc }
 | 199 => { kd := 1, size := 1, zero := .nilFunc }
 | 201 => { kd := 1, size := 1, zero := .map none, mp := some (82, 4), qM := some (.int .u8, .bool) }
 | 202 => { kd := 2, size := 1, zero := .slice none 0 0, elem := 1, eb := 1, ez := .int .u8 (0), b8 := true }
 | 204 => { kd := 1, size := 1, zero := .nilFunc }
 | 208 => { kd := 1, size := 1, zero := .pointer none, pt := true }
 | 210 => { kd := 3, size := 7, zero := .agg #[(.int .i64 (0)), (.int .i64 (0)), (.int .i64 (0)), (.int .i64 (0)), (.int .i64 (0)), (.int .i64 (0)), (.int .i64 (0))], elem := 1, eb := 8, ez := .int .i64 (0), len := 7, one1 := true, eqd := some (.arr 7 (.int .i64)) }
 | 211 => { kd := 3, size := 7, zero := .agg #[(.int .i64 (0)), (.int .i64 (0)), (.int .i64 (0)), (.int .i64 (0)), (.int .i64 (0)), (.int .i64 (0)), (.int .i64 (0))], elem := 1, eb := 8, ez := .int .i64 (0), len := 7, one1 := true, eqd := some (.arr 7 (.int .i64)) }
 | 215 => { kd := 4, size := 3, zero := .agg #[(.int .i64 (0)), .slice none 0 0, (.bool false)], aP := [(0, 1), (1, 1), (2, 1)] }
 | 221 => { kd := 3, size := 256, zero := .agg zl2, elem := 1, eb := 1, ez := .bool false, len := 256, one1 := true, eqd := none }
 | 225 => { kd := 1, size := 1, zero := .pointer none, pt := true }
 | 226 => { kd := 1, size := 1, zero := .map none, mp := some (32, 31), qM := some (.arr 2 (.int .i64), .sl (.int .i64)) }
 | 228 => { kd := 4, size := 2, zero := .agg #[(.int .i64 (0)), (.int .i64 (0))], aP := [(0, 1), (1, 1)], eqd := some (.pair (.int .i64) (.pair (.int .i64) (.unit))) }
 | 229 => { kd := 3, size := 14, zero := .agg #[(.int .i64 (0)), (.int .i64 (0)), (.int .i64 (0)), (.int .i64 (0)), (.int .i64 (0)), (.int .i64 (0)), (.int .i64 (0)), (.int .i64 (0)), (.int .i64 (0)), (.int .i64 (0)), (.int .i64 (0)), (.int .i64 (0)), (.int .i64 (0)), (.int .i64 (0))], elem := 2, eb := 16, ez := .agg #[(.int .i64 (0)), (.int .i64 (0))], len := 7, one1 := false, eqd := none, yX := true }
 | 231 => { kd := 4, size := 22, zero := .agg zl3, aP := [(0, 14), (14, 7), (21, 1)] }
 | 234 => { kd := 1, size := 1, zero := .nilFunc }
 | 236 => { kd := 3, size := 10, zero := .agg #[(.bool false), (.bool false), (.bool false), (.bool false), (.bool false), (.bool false), (.bool false), (.bool false), (.bool false), (.bool false)], elem := 1, eb := 1, ez := .bool false, len := 10, one1 := true, eqd := none }
 | _ => {}
theorem ti1 : aQ prog 1 (TI 1) := aQ.cell (fun w => by kernel_rfl) (by kernel_rfl) rfl
theorem ti2 : aQ prog 2 (TI 2) := aQ.FX (by kernel_rfl) (by kernel_rfl)
theorem ti3 : aQ prog 3 (TI 3) := aQ.FX (by kernel_rfl) (by kernel_rfl)
theorem ti4 : aQ prog 4 (TI 4) := aQ.arI (by kernel_rfl) (by kernel_rfl)
theorem ti5 : aQ prog 5 (TI 5) := aQ.FX (by kernel_rfl) (by kernel_rfl)
theorem ti9 : aQ prog 9 (TI 9) := aQ.aD4 (by kernel_rfl) (by kernel_rfl)
theorem aFC : aQ prog 20 (TI 20) := aQ.cell (fun w => by kernel_rfl) (by kernel_rfl) rfl
theorem aFH : aQ prog 21 (TI 21) := aQ.FX (by kernel_rfl) (by kernel_rfl)
theorem aFT : aQ prog 24 (TI 24) := aQ.ES (e := 31) (ze := .slice none 0 0) (by kernel_rfl) (by kernel_rfl) (by kernel_rfl) (by rfl) (by rfl) (by decide)
theorem aFU : aQ prog 26 (TI 26) := aQ.yJ (fs := _) (z := #[(.int .i64 (0)), .slice none 0 0]) (aP := [(0, 1), (1, 1)]) rfl (by kernel_rfl) (by kernel_rfl) (by rfl) (by rfl) (by decide) (by decide)
theorem aFV : aQ prog 28 (TI 28) := aQ.ES (e := 32) (ze := .agg #[(.int .i64 (0)), (.int .i64 (0))]) (by kernel_rfl) (by kernel_rfl) (by kernel_rfl) (by rfl) (by rfl) (by decide)
theorem aFW : aQ prog 30 (TI 30) := aQ.yJ (fs := _) (z := #[(.int .i64 (0)), .slice none 0 0]) (aP := [(0, 1), (1, 1)]) rfl (by kernel_rfl) (by kernel_rfl) (by rfl) (by rfl) (by decide) (by decide)
theorem aFX : aQ prog 31 (TI 31) := aQ.ES (e := 3) (ze := .int .i64 (0)) (by kernel_rfl) (by kernel_rfl) (by kernel_rfl) (by rfl) (by rfl) (by decide)
theorem aFY : aQ prog 32 (TI 32) := aQ.wI (e := 3) (ze := .int .i64 (0)) (z := #[(.int .i64 (0)), (.int .i64 (0))]) (by kernel_rfl) (by kernel_rfl) (by kernel_rfl) (by rfl) (by rfl) (by decide) (o1 := true) (fun _ w => by kernel_rfl) (q := some (.arr 2 (.int .i64))) (DZ (e := 3) (by kernel_rfl) (by kernel_rfl) (by kernel_rfl) (fun w => by kernel_rfl) (by kernel_rfl) (by kernel_rfl))
theorem aFZ : aQ prog 35 (TI 35) := aQ.FX (by kernel_rfl) (by kernel_rfl)
theorem aF0 : aQ prog 47 (TI 47) := aQ.ES (e := 9) (ze := .string ⟨⟨[]⟩⟩) (by kernel_rfl) (by kernel_rfl) (by kernel_rfl) (by rfl) (by rfl) (by decide)
theorem aF1 : aQ prog 50 (TI 50) := aQ.ES (e := 52) (ze := .agg #[(.int .u8 (0)), (.int .u8 (0)), (.int .u8 (0)), (.int .u8 (0))]) (by kernel_rfl) (by kernel_rfl) (by kernel_rfl) (by rfl) (by rfl) (by decide)
theorem aF2 : aQ prog 51 (TI 51) := aQ.ES (e := 54) (ze := .agg #[.slice none 0 0, .slice none 0 0]) (by kernel_rfl) (by kernel_rfl) (by kernel_rfl) (by rfl) (by rfl) (by decide)
theorem aF3 : aQ prog 52 (TI 52) := aQ.wI (e := 5) (ze := .int .u8 (0)) (z := #[(.int .u8 (0)), (.int .u8 (0)), (.int .u8 (0)), (.int .u8 (0))]) (by kernel_rfl) (by kernel_rfl) (by kernel_rfl) (by rfl) (by rfl) (by decide) (o1 := true) (fun _ w => by kernel_rfl) (q := some (.arr 4 (.int .u8))) (DZ (e := 5) (by kernel_rfl) (by kernel_rfl) (by kernel_rfl) (fun w => by kernel_rfl) (by kernel_rfl) (by kernel_rfl))
theorem aF4 : aQ prog 54 (TI 54) := aQ.yJ (fs := _) (z := #[.slice none 0 0, .slice none 0 0]) (aP := [(0, 1), (1, 1)]) rfl (by kernel_rfl) (by kernel_rfl) (by rfl) (by rfl) (by decide) (by decide)
theorem aF5 : aQ prog 56 (TI 56) := aQ.yJ (fs := _) (z := #[(.int .i64 (0)), .slice none 0 0]) (aP := [(0, 1), (1, 1)]) rfl (by kernel_rfl) (by kernel_rfl) (by rfl) (by rfl) (by decide) (by decide)
theorem aF6 : aQ prog 68 (TI 68) := aQ.FX (by kernel_rfl) (by kernel_rfl)
theorem aF7 : aQ prog 70 (TI 70) := aQ.wI (e := 68) (ze := .int .u64 (0)) (z := #[(.int .u64 (0)), (.int .u64 (0)), (.int .u64 (0)), (.int .u64 (0)), (.int .u64 (0)), (.int .u64 (0))]) (by kernel_rfl) (by kernel_rfl) (by kernel_rfl) (by rfl) (by rfl) (by decide) (o1 := true) (fun _ w => by kernel_rfl) (q := some (.arr 6 (.int .u64))) (DZ (e := 68) (by kernel_rfl) (by kernel_rfl) (by kernel_rfl) (fun w => by kernel_rfl) (by kernel_rfl) (by kernel_rfl))
theorem aF8 : aQ prog 79 (TI 79) := aQ.cell (fun w => by kernel_rfl) (by kernel_rfl) rfl
theorem aF9 : aQ prog 82 (TI 82) := aQ.FX (by kernel_rfl) (by kernel_rfl)
theorem aF' : aQ prog 94 (TI 94) := aQ.cell (fun w => by kernel_rfl) (by kernel_rfl) rfl
theorem aGA : aQ prog 95 (TI 95) := aQ.cell (fun w => by kernel_rfl) (by kernel_rfl) rfl
theorem aGB : aQ prog 97 (TI 97) := aQ.cell (fun w => by kernel_rfl) (by kernel_rfl) rfl
theorem aEO : aQ prog 101 (TI 101) := aQ.cell (fun w => by kernel_rfl) (by kernel_rfl) rfl
theorem aEP : aQ prog 109 (TI 109) := aQ.yJ (fs := _) (z := #[(.pointer none), .slice none 0 0]) (aP := [(0, 1), (1, 1)]) rfl (by kernel_rfl) (by kernel_rfl) (by rfl) (by rfl) (by decide) (by decide)
theorem aEQ : aQ prog 113 (TI 113) := aQ.cell (fun w => by kernel_rfl) (by kernel_rfl) rfl
theorem aER : aQ prog 119 (TI 119) := aQ.meth (d := { kd := 1, size := 1, zero := .int .i64 0, ik := some .i64 }) (aQ.FX (by kernel_rfl) (by kernel_rfl)) [("tusche/ink.over", 91)] (agK (fun n v w => agT (d := .int .i64) (by kernel_rfl) (by rfl) (by kernel_rfl) n v w))
theorem aES : aQ prog 120 (TI 120) := aQ.meth (d := { kd := 2, size := 1, zero := .slice none 0 0, elem := 1, eb := 8, ez := .int .i64 (0) }) (aQ.ES (e := 3) (ze := .int .i64 (0)) (by kernel_rfl) (by kernel_rfl) (by kernel_rfl) (by rfl) (by rfl) (by decide)) [("tusche/ink.over", 195)] (agK (fun n v w => agT (d := .slice 3) (by kernel_rfl) (by rfl) (by kernel_rfl) n v w))
theorem aET : aQ prog 122 (TI 122) := aQ.wI (e := 68) (ze := .int .u64 (0)) (z := #[(.int .u64 (0)), (.int .u64 (0)), (.int .u64 (0)), (.int .u64 (0)), (.int .u64 (0)), (.int .u64 (0)), (.int .u64 (0)), (.int .u64 (0)), (.int .u64 (0)), (.int .u64 (0)), (.int .u64 (0)), (.int .u64 (0)), (.int .u64 (0)), (.int .u64 (0))]) (by kernel_rfl) (by kernel_rfl) (by kernel_rfl) (by rfl) (by rfl) (by decide) (o1 := true) (fun _ w => by kernel_rfl) (q := some (.arr 14 (.int .u64))) (DZ (e := 68) (by kernel_rfl) (by kernel_rfl) (by kernel_rfl) (fun w => by kernel_rfl) (by kernel_rfl) (by kernel_rfl))
theorem aEU : aQ prog 124 (TI 124) := aQ.Xb (by kernel_rfl) (by kernel_rfl) (q := some (.int .u64, .int .i64)) (Xg (z := .int .i64 (0)) (agL (by kernel_rfl)) (by kernel_rfl) (by rfl) (by rfl))
theorem aEV : aQ prog 129 (TI 129) := aQ.cell (fun w => by kernel_rfl) (by kernel_rfl) rfl
theorem aEW : aQ prog 132 (TI 132) := aQ.wI (e := 5) (ze := .int .u8 (0)) (z := #[(.int .u8 (0)), (.int .u8 (0)), (.int .u8 (0)), (.int .u8 (0)), (.int .u8 (0)), (.int .u8 (0)), (.int .u8 (0)), (.int .u8 (0))]) (by kernel_rfl) (by kernel_rfl) (by kernel_rfl) (by rfl) (by rfl) (by decide) (o1 := true) (fun _ w => by kernel_rfl) (q := some (.arr 8 (.int .u8))) (DZ (e := 5) (by kernel_rfl) (by kernel_rfl) (by kernel_rfl) (fun w => by kernel_rfl) (by kernel_rfl) (by kernel_rfl))
theorem aEX : aQ prog 137 (TI 137) := aQ.cell (fun w => by kernel_rfl) (by kernel_rfl) rfl
theorem aEY : aQ prog 138 (TI 138) := aQ.wI (e := 3) (ze := .int .i64 (0)) (z := #[(.int .i64 (0)), (.int .i64 (0)), (.int .i64 (0))]) (by kernel_rfl) (by kernel_rfl) (by kernel_rfl) (by rfl) (by rfl) (by decide) (o1 := true) (fun _ w => by kernel_rfl) (q := some (.arr 3 (.int .i64))) (DZ (e := 3) (by kernel_rfl) (by kernel_rfl) (by kernel_rfl) (fun w => by kernel_rfl) (by kernel_rfl) (by kernel_rfl))
theorem aEZ : aQ prog 149 (TI 149) := aQ.cell (fun w => by kernel_rfl) (by kernel_rfl) rfl
theorem aE0 : aQ prog 150 (TI 150) := aQ.cell (fun w => by kernel_rfl) (by kernel_rfl) rfl
theorem aE1 : aQ prog 154 (TI 154) := aQ.amC (aQ.yJ (fs := _) (z := #[(.int .i64 (0)), (.int .i64 (0)), (.int .i64 (0))]) (aP := [(0, 1), (1, 1), (2, 1)]) rfl (by kernel_rfl) (by kernel_rfl) (by rfl) (by rfl) (by decide) (by decide)) (some (.pair (.int .i64) (.pair (.int .i64) (.pair (.int .i64) (.unit))))) (aeO (ks := [.i64, .i64, .i64]) (by simp) (by kernel_rfl) (by kernel_rfl) (by kernel_rfl) (by kernel_rfl))
theorem aE2 : aQ prog 155 (TI 155) := aQ.ES (e := 154) (ze := .agg #[(.int .i64 (0)), (.int .i64 (0)), (.int .i64 (0))]) (by kernel_rfl) (by kernel_rfl) (by kernel_rfl) (by rfl) (by rfl) (by decide)
theorem aE3 : aQ prog 167 (TI 167) := aQ.yJ (fs := _) (z := #[(.bool false), (.int .i64 (0))]) (aP := [(0, 1), (1, 1)]) rfl (by kernel_rfl) (by kernel_rfl) (by rfl) (by rfl) (by decide) (by decide)
theorem aE4 : aQ prog 169 (TI 169) := aQ.yJ (fs := _) (z := #[(.int .i64 (0)), (.int .i64 (0)), (.bool false), (.bool false), (.int .i64 (0))]) (aP := [(0, 1), (1, 1), (2, 1), (3, 2)]) rfl (by kernel_rfl) (by kernel_rfl) (by rfl) (by rfl) (by decide) (by decide)
theorem aE5 : aQ prog 170 (TI 170) := aQ.Nz (e := 169) (aQ.wI (e := 169) (ze := .agg #[(.int .i64 (0)), (.int .i64 (0)), (.bool false), (.bool false), (.int .i64 (0))]) (z := La) (by kernel_rfl) (by kernel_rfl) (by kernel_rfl) (by rfl) (by rfl) (by decide) (o1 := false) (fun h => by cases h) (q := none) (fun t h => by cases h)) (by kernel_rfl) (fun w => by kernel_rfl)
theorem aE6 : aQ prog 171 (TI 171) := aQ.Jo (e := 190) (by kernel_rfl) (by kernel_rfl)
theorem aE7 : aQ prog 175 (TI 175) := aQ.yJ (fs := _) (z := #[.slice none 0 0, (.string ⟨⟨[]⟩⟩)]) (aP := [(0, 1), (1, 1)]) rfl (by kernel_rfl) (by kernel_rfl) (by rfl) (by rfl) (by decide) (by decide)
theorem aE8 : aQ prog 177 (TI 177) := aQ.cell (fun w => by kernel_rfl) (by kernel_rfl) rfl
theorem aE9 : aQ prog 190 (TI 190) := aQ.Nz (e := 170) (aQ.wI (e := 170) (ze := .agg La) (z := zl1) (by kernel_rfl) (by kernel_rfl) (by kernel_rfl) (by rfl) (by rfl) (by decide) (o1 := false) (fun h => by cases h) (q := none) (fun t h => by cases h)) (by kernel_rfl) (fun w => by kernel_rfl)
theorem aE' : aQ prog 191 (TI 191) := aQ.Jo (e := 169) (by kernel_rfl) (by kernel_rfl)
theorem aFA : aQ prog 194 (TI 194) := aQ.cell (fun w => by kernel_rfl) (by kernel_rfl) rfl
theorem aFB : aQ prog 199 (TI 199) := aQ.cell (fun w => by kernel_rfl) (by kernel_rfl) rfl
theorem aFD : aQ prog 201 (TI 201) := aQ.Xb (by kernel_rfl) (by kernel_rfl) (q := some (.int .u8, .bool)) (Xg (z := .bool false) (agL (by kernel_rfl)) (by kernel_rfl) (by rfl) (by rfl))
theorem aFE : aQ prog 202 (TI 202) := aQ.bytes (aQ.ES (e := 82) (ze := .int .u8 (0)) (by kernel_rfl) (by kernel_rfl) (by kernel_rfl) (by rfl) (by rfl) (by decide)) ⟨82, by kernel_rfl, by kernel_rfl⟩
theorem aFF : aQ prog 204 (TI 204) := aQ.cell (fun w => by kernel_rfl) (by kernel_rfl) rfl
theorem aFG : aQ prog 208 (TI 208) := aQ.Jo (e := 231) (by kernel_rfl) (by kernel_rfl)
theorem aFI : aQ prog 210 (TI 210) := aQ.wI (e := 3) (ze := .int .i64 (0)) (z := #[(.int .i64 (0)), (.int .i64 (0)), (.int .i64 (0)), (.int .i64 (0)), (.int .i64 (0)), (.int .i64 (0)), (.int .i64 (0))]) (by kernel_rfl) (by kernel_rfl) (by kernel_rfl) (by rfl) (by rfl) (by decide) (o1 := true) (fun _ w => by kernel_rfl) (q := some (.arr 7 (.int .i64))) (DZ (e := 3) (by kernel_rfl) (by kernel_rfl) (by kernel_rfl) (fun w => by kernel_rfl) (by kernel_rfl) (by kernel_rfl))
theorem aFJ : aQ prog 211 (TI 211) := aQ.wI (e := 3) (ze := .int .i64 (0)) (z := #[(.int .i64 (0)), (.int .i64 (0)), (.int .i64 (0)), (.int .i64 (0)), (.int .i64 (0)), (.int .i64 (0)), (.int .i64 (0))]) (by kernel_rfl) (by kernel_rfl) (by kernel_rfl) (by rfl) (by rfl) (by decide) (o1 := true) (fun _ w => by kernel_rfl) (q := some (.arr 7 (.int .i64))) (DZ (e := 3) (by kernel_rfl) (by kernel_rfl) (by kernel_rfl) (fun w => by kernel_rfl) (by kernel_rfl) (by kernel_rfl))
theorem aFK : aQ prog 215 (TI 215) := aQ.yJ (fs := _) (z := #[(.int .i64 (0)), .slice none 0 0, (.bool false)]) (aP := [(0, 1), (1, 1), (2, 1)]) rfl (by kernel_rfl) (by kernel_rfl) (by rfl) (by rfl) (by decide) (by decide)
theorem aFL : aQ prog 221 (TI 221) := aQ.wI (e := 4) (ze := .bool false) (z := zl2) (by kernel_rfl) (by kernel_rfl) (by kernel_rfl) (by rfl) (by rfl) (by decide) (o1 := true) (fun _ w => by kernel_rfl) (q := none) (fun t h => by cases h)
theorem aFM : aQ prog 225 (TI 225) := aQ.Jo (e := 221) (by kernel_rfl) (by kernel_rfl)
theorem aFN : aQ prog 226 (TI 226) := aQ.Xb (by kernel_rfl) (by kernel_rfl) (q := some (.arr 2 (.int .i64), .sl (.int .i64))) (Xg (z := .slice none 0 0) (azR (e := 3) (by kernel_rfl) (by kernel_rfl) (by kernel_rfl) (fun w => by kernel_rfl) (DZ (e := 3) (by kernel_rfl) (by kernel_rfl) (by kernel_rfl) (fun w => by kernel_rfl) (by kernel_rfl) (by kernel_rfl))) (by kernel_rfl) (by rfl) (by rfl))
theorem aFO : aQ prog 228 (TI 228) := aQ.amC (aQ.yJ (fs := _) (z := #[(.int .i64 (0)), (.int .i64 (0))]) (aP := [(0, 1), (1, 1)]) rfl (by kernel_rfl) (by kernel_rfl) (by rfl) (by rfl) (by decide) (by decide)) (some (.pair (.int .i64) (.pair (.int .i64) (.unit)))) (aeO (ks := [.i64, .i64]) (by simp) (by kernel_rfl) (by kernel_rfl) (by kernel_rfl) (by kernel_rfl))
theorem aFP : aQ prog 229 (TI 229) := aQ.Nz (e := 228) (aQ.wI (e := 228) (ze := .agg #[(.int .i64 (0)), (.int .i64 (0))]) (z := #[(.int .i64 (0)), (.int .i64 (0)), (.int .i64 (0)), (.int .i64 (0)), (.int .i64 (0)), (.int .i64 (0)), (.int .i64 (0)), (.int .i64 (0)), (.int .i64 (0)), (.int .i64 (0)), (.int .i64 (0)), (.int .i64 (0)), (.int .i64 (0)), (.int .i64 (0))]) (by kernel_rfl) (by kernel_rfl) (by kernel_rfl) (by rfl) (by rfl) (by decide) (o1 := false) (fun h => by cases h) (q := none) (fun t h => by cases h)) (by kernel_rfl) (fun w => by kernel_rfl)
theorem aFQ : aQ prog 231 (TI 231) := aQ.yJ (fs := _) (z := zl3) (aP := [(0, 14), (14, 7), (21, 1)]) rfl (by kernel_rfl) (by kernel_rfl) (by rfl) (by rfl) (by decide) (by decide)
theorem aFR : aQ prog 234 (TI 234) := aQ.cell (fun w => by kernel_rfl) (by kernel_rfl) rfl
theorem aFS : aQ prog 236 (TI 236) := aQ.wI (e := 4) (ze := .bool false) (z := #[(.bool false), (.bool false), (.bool false), (.bool false), (.bool false), (.bool false), (.bool false), (.bool false), (.bool false), (.bool false)]) (by kernel_rfl) (by kernel_rfl) (by kernel_rfl) (by rfl) (by rfl) (by decide) (o1 := true) (fun _ w => by kernel_rfl) (q := none) (fun t h => by cases h)
theorem tok : dI prog TI := fun T => by
 unfold TI
 split
 ·exact ti1
 ·exact ti2
 ·exact ti3
 ·exact ti4
 ·exact ti5
 ·exact ti9
 ·exact aFC
 ·exact aFH
 ·exact aFT
 ·exact aFU
 ·exact aFV
 ·exact aFW
 ·exact aFX
 ·exact aFY
 ·exact aFZ
 ·exact aF0
 ·exact aF1
 ·exact aF2
 ·exact aF3
 ·exact aF4
 ·exact aF5
 ·exact aF6
 ·exact aF7
 ·exact aF8
 ·exact aF9
 ·exact aF'
 ·exact aGA
 ·exact aGB
 ·exact aEO
 ·exact aEP
 ·exact aEQ
 ·exact aER
 ·exact aES
 ·exact aET
 ·exact aEU
 ·exact aEV
 ·exact aEW
 ·exact aEX
 ·exact aEY
 ·exact aEZ
 ·exact aE0
 ·exact aE1
 ·exact aE2
 ·exact aE3
 ·exact aE4
 ·exact aE5
 ·exact aE6
 ·exact aE7
 ·exact aE8
 ·exact aE9
 ·exact aE'
 ·exact aFA
 ·exact aFB
 ·exact aFD
 ·exact aFE
 ·exact aFF
 ·exact aFG
 ·exact aFI
 ·exact aFJ
 ·exact aFK
 ·exact aFL
 ·exact aFM
 ·exact aFN
 ·exact aFO
 ·exact aFP
 ·exact aFQ
 ·exact aFR
 ·exact aFS
 ·exact aQ.nothing
end
section
def TY : Nat -> DT
 | 2 => .int .i64
 | 3 => .int .i64
 | 4 => .bool
 | 5 => .int .u8
 | 9 => .str
 | 21 => .int .i32
 | 24 => .sl (.sl (.int .i64))
 | 26 => .pair (.int .i64) (.pair (.sl (.sl (.int .i64))) (.unit))
 | 28 => .sl (.arr 2 (.int .i64))
 | 30 => .pair (.int .i64) (.pair (.sl (.arr 2 (.int .i64))) (.unit))
 | 31 => .sl (.int .i64)
 | 32 => .arr 2 (.int .i64)
 | 35 => .int .i64
 | 47 => .sl (.str)
 | 50 => .sl (.arr 4 (.int .u8))
 | 51 => .sl (.pair (.sl (.int .i64)) (.pair (.sl (.int .i64)) (.unit)))
 | 52 => .arr 4 (.int .u8)
 | 54 => .pair (.sl (.int .i64)) (.pair (.sl (.int .i64)) (.unit))
 | 56 => .pair (.int .i64) (.pair (.sl (.sl (.int .i64))) (.unit))
 | 68 => .int .u64
 | 70 => .arr 6 (.int .u64)
 | 79 => .iT 119 (.int .i64) (.iT 120 (.sl (.int .i64)) (.rY))
 | 82 => .int .u8
 | 119 => .int .i64
 | 120 => .sl (.int .i64)
 | 122 => .arr 14 (.int .u64)
 | 132 => .arr 8 (.int .u8)
 | 138 => .arr 3 (.int .i64)
 | 154 => .pair (.int .i64) (.pair (.int .i64) (.pair (.int .i64) (.unit)))
 | 155 => .sl (.pair (.int .i64) (.pair (.int .i64) (.pair (.int .i64) (.unit))))
 | 167 => .pair (.bool) (.pair (.int .i64) (.unit))
 | 169 => .pair (.int .i64) (.pair (.int .i64) (.pair (.bool) (.pair (.pair (.bool) (.pair (.int .i64) (.unit))) (.unit))))
 | 170 => .arr 13 (.pair (.int .i64) (.pair (.int .i64) (.pair (.bool) (.pair (.pair (.bool) (.pair (.int .i64) (.unit))) (.unit)))))
 | 175 => .pair (.sl (.int .i64)) (.pair (.str) (.unit))
 | 190 => .arr 13 (.arr 13 (.pair (.int .i64) (.pair (.int .i64) (.pair (.bool) (.pair (.pair (.bool) (.pair (.int .i64) (.unit))) (.unit))))))
 | 202 => .sl (.int .u8)
 | 210 => .arr 7 (.int .i64)
 | 211 => .arr 7 (.int .i64)
 | 215 => .pair (.int .i64) (.pair (.sl (.int .i64)) (.pair (.bool) (.unit)))
 | 221 => .arr 256 (.bool)
 | 228 => .pair (.int .i64) (.pair (.int .i64) (.unit))
 | 229 => .arr 7 (.pair (.int .i64) (.pair (.int .i64) (.unit)))
 | 236 => .arr 10 (.bool)
 | _ => .unit
end
section
def TV.cO : TV -> TV -> Prop
 | .fn g k n f, .fn g' k' n' f' => g = g' /\ k = k' /\ n = n' /\ ∀ j, j < k + n -> (f j).cO (f' j)
 | .dM n f, .dM n' f' => n = n' /\ ∀ j, j < n -> (f j).cO (f' j)
 | .st n f, .st n' f' => n = n' /\ ∀ j, j < n -> (f j).cO (f' j)
 | x, y => x = y
theorem TV.nP : ∀ x : TV, x.cO x := by
 intro x
 induction x with
 | fn g k n f ih => exact ⟨rfl, rfl, rfl, fun j _ => ih j⟩
 | dM n f ih => exact ⟨rfl, fun j _ => ih j⟩
 | st n f ih => exact ⟨rfl, fun j _ => ih j⟩
 | _ => rfl
theorem TV.zO : ∀ {x y : TV}, x.cO y -> y.cO x := by
 intro x
 induction x with
 | fn g k n f ih =>
  intro y h
  cases y with
  | fn g' k' n' f' => obtain ⟨rfl, rfl, rfl, h⟩ := h; exact ⟨rfl, rfl, rfl, fun j hj => ih j (h j hj)⟩
  | _ => cases h
 | dM n f ih =>
  intro y h
  cases y with
  | dM n' f' => obtain ⟨rfl, h⟩ := h; exact ⟨rfl, fun j hj => ih j (h j hj)⟩
  | _ => cases h
 | st n f ih =>
  intro y h
  cases y with
  | st n' f' => obtain ⟨rfl, h⟩ := h; exact ⟨rfl, fun j hj => ih j (h j hj)⟩
  | _ => cases h
 | _ => intro y h; simp only [TV.cO] at h; subst h; rfl
theorem TV.O4 {x y : TV} (h : x.cO y) : x.size = y.size /\ (∀ o p, x.iF o p = y.iF o p) /\ ∀ p, x.nU p ↔ y.nU p := by
 cases x with
 | fn g k n f => cases y with
  | fn g' k' n' f' => exact ⟨rfl, fun _ _ => rfl, fun _ => Iff.rfl⟩
  | _ => cases h
 | dM n f => cases y with
  | dM n' f' => exact ⟨rfl, fun _ _ => rfl, fun _ => Iff.rfl⟩
  | _ => cases h
 | st n f => cases y with
  | st n' f' => exact ⟨rfl, fun _ _ => rfl, fun _ => Iff.rfl⟩
  | _ => cases h
 | _ => simp only [TV.cO] at h; subst h; exact ⟨rfl, fun _ _ => rfl, fun _ => Iff.rfl⟩
def TO.cO : TO -> TO -> Prop
 | .aV fs, .aV fs' => fs.length = fs'.length /\ ∀ (j : Nat) (x : TV), fs[j]? = some x -> ∃ y, fs'[j]? = some y /\ x.cO y
 | o, o' => o = o'
theorem TO.nP (o : TO) : o.cO o := by
 cases o <;> first | rfl | exact ⟨rfl, fun j x hx => ⟨x, hx, TV.nP x⟩⟩
theorem TO.zO {o o' : TO} (h : o.cO o') : o'.cO o := by
 cases o with
 | aV fs => cases o' with
  | aV fs' =>
   obtain ⟨h1, h2⟩ := h
   refine ⟨h1.symm, fun j y hy => ?_⟩
   have hj : j < fs.length := by rw [h1]; exact (List.getElem?_eq_some_iff.1 hy).1
   obtain ⟨y', a1, a2⟩ := h2 j fs[j] (by simp [hj])
   rw [hy] at a1; obtain rfl := aC a1
   exact ⟨fs[j], by simp [hj], TV.zO a2⟩
  | _ => cases h
 | _ => simp only [TO.cO] at h; subst h; exact TO.nP _
theorem UY : ∀ {fs fs' : List TV}, fs.length = fs'.length -> (∀ (j : Nat) (x : TV), fs[j]? = some x -> ∃ y, fs'[j]? = some y /\ x.cO y) -> ∀ j, aP fs j = aP fs' j
 | [], [], _, _, j => rfl
 | [], y :: r, hl, _, j => by simp at hl
 | x :: r, [], hl, _, j => by simp at hl
 | x :: r, y :: r', hl, h, 0 => rfl
 | x :: r, y :: r', hl, h, j + 1 => by
  obtain ⟨y', hy, hs⟩ := h 0 x rfl
  simp only [List.getElem?_cons_zero, aS] at hy
  subst hy
  simp only [aP, (TV.O4 hs).1]
  rw [UY (by simpa using hl) (fun j x hx => h (j + 1) x (by simpa using hx)) j]
theorem TO.Zc {o o' : TO} (h : o.cO o') : o.live = o'.live /\ ∀ i p, o.loc i p = o'.loc i p /\ (o.oO i p ↔ o'.oO i p) := by
 cases o with
 | aV fs => cases o' with
  | aV fs' =>
   obtain ⟨h1, h2⟩ := h
   refine ⟨rfl, fun i p => ?_⟩
   cases p with
   | nil => exact ⟨rfl, Iff.rfl⟩
   | cons j p =>
    simp only [TO.loc, TO.oO, UY h1 h2]
    cases hj : fs[j]? with
    | none =>
     have : fs'[j]? = none := by
      rw [List.getElem?_eq_none_iff] at hj ⊢; omega
     rw [this]; exact ⟨rfl, Iff.rfl⟩
    | some x =>
     obtain ⟨y, hy, hs⟩ := h2 j x hj
     rw [hy]
     obtain ⟨_, e1, e2⟩ := TV.O4 hs
     exact ⟨e1 _ _, e2 _⟩
  | _ => cases h
 | _ => simp only [TO.cO] at h; subst h; exact ⟨rfl, fun _ _ => ⟨rfl, Iff.rfl⟩⟩
theorem TV.asT {w : World} {G : Nat -> Prop} {x y : TV} {c : Nat} {u : Value} (hs : x.cO y) (h : x.DY w G c u) : y.DY w G c u /\ y.JF = x.JF := by
 cases x with
 | dv t z => simp only [TV.cO] at hs; subst hs; exact ⟨h, rfl⟩
 | fn g k n f => cases y <;> first | exact ⟨trivial, rfl⟩ | cases hs
 | dM n f => cases y <;> first | exact ⟨trivial, rfl⟩ | cases hs
 | st n f => cases y <;> first | exact ⟨trivial, rfl⟩ | cases hs
 | _ => simp only [TV.cO] at hs; subst hs; exact ⟨trivial, rfl⟩
def uY (O O' : bF) : Prop := ∀ id o, O id = some o -> ∃ o', O' id = some o' /\ o.cO o'
theorem VR.cO {w : World} {G : Nat -> Prop} {π : Nat -> Pl} {O O' : bF} (hO : uY O O') : ∀ {x y : TV} {v : Value}, x.cO y -> VR w G π O x v -> VR w G π O' y v := by
 intro x
 induction x with
 | row id =>
  intro y v hs h
  simp only [TV.cO] at hs; subst hs
  simp only [VR] at h ⊢
  cases ho : O id with
  | none => rw [ho] at h; exact h.elim
  | some o =>
   rw [ho] at h
   obtain ⟨o', e1, e2⟩ := hO id o ho
   rw [e1]
   cases o <;> first | (simp only [TO.cO] at e2; subst e2; exact h) | (cases o' <;> first | trivial | cases e2)
 | iP id a b =>
  intro y v hs h
  simp only [TV.cO] at hs; subst hs
  simp only [VR] at h ⊢
  cases ho : O id with
  | none => rw [ho] at h; exact h.elim
  | some o =>
   rw [ho] at h
   obtain ⟨o', e1, e2⟩ := hO id o ho
   rw [e1]
   cases o <;> first | (simp only [TO.cO] at e2; subst e2; exact h) | (cases o' <;> first | trivial | cases e2)
 | ptr id i p =>
  intro y v hs h
  simp only [TV.cO] at hs; subst hs
  simp only [VR] at h ⊢
  cases ho : O id with
  | none => rw [ho] at h; exact h.elim
  | some o =>
   rw [ho] at h
   obtain ⟨o', e1, e2⟩ := hO id o ho
   rw [e1]
   obtain ⟨l1, l2⟩ := TO.Zc e2
   intro hl
   obtain ⟨c, g, a1, a2, a3⟩ := h (l1 ▸ hl)
   exact ⟨c, g, (l2 i p).1 ▸ a1, (l2 i p).2.1 a2, a3⟩
 | view id i p k n a b =>
  intro y v hs h
  simp only [TV.cO] at hs; subst hs
  simp only [VR] at h ⊢
  cases ho : O id with
  | none => rw [ho] at h; exact h.elim
  | some o =>
   rw [ho] at h
   obtain ⟨o', e1, e2⟩ := hO id o ho
   rw [e1]
   obtain ⟨l1, l2⟩ := TO.Zc e2
   intro hl
   obtain ⟨c, g, pp, a1, a2, a3⟩ := h (l1 ▸ hl)
   exact ⟨c, g, pp, (l2 i p).1 ▸ a1, (l2 i p).2.1 a2, a3⟩
 | fn g k n f ih =>
  intro y v hs h
  cases y with
  | fn g' k' n' f' =>
   obtain ⟨rfl, rfl, rfl, hs⟩ := hs
   obtain ⟨fs, cs, h1, h2, h3, h4, h5⟩ := h
   exact ⟨fs, cs, h1, h2, h3, fun j hj => let ⟨u, a, b⟩ := h4 j hj; ⟨u, a, ih j (hs j (by omega)) b⟩, fun j hj => let ⟨u, a, b⟩ := h5 j hj; ⟨u, a, ih _ (hs _ (by omega)) b⟩⟩
  | _ => cases hs
 | dM n f ih =>
  intro y v hs h
  cases y with
  | dM n' f' =>
   obtain ⟨rfl, hs⟩ := hs
   obtain ⟨cs, h1, h2, h3⟩ := h
   exact ⟨cs, h1, h2, fun j hj => let ⟨u, a, b⟩ := h3 j hj; ⟨u, a, ih j (hs j hj) b⟩⟩
  | _ => cases hs
 | st n f ih =>
  intro y v hs h
  cases y with
  | st n' f' =>
   obtain ⟨rfl, hs⟩ := hs
   obtain ⟨cs, h1, h2, h3⟩ := h
   have he : ∀ k, aP ((List.range n).map f') k = aP ((List.range n).map f) k := fun k => (UY (by simp) (fun j x hx => by
    have hj : j < n := by have := (List.getElem?_eq_some_iff.1 hx).1; simpa using this
    rw [List.getElem?_map, List.getElem?_range hj] at hx
    obtain rfl := aC hx
    exact ⟨f' j, by rw [List.getElem?_map, List.getElem?_range hj]; rfl, hs j hj⟩) k).symm
   refine ⟨cs, h1, by rw [he]; exact h2, fun j hj c hc => ?_⟩
   rw [<- (TV.O4 (hs j hj)).1] at hc
   obtain ⟨u, a, b, d, e⟩ := h3 j hj c hc
   obtain ⟨d1, d2⟩ := TV.asT (hs j hj) d
   exact ⟨u, by rw [he]; exact a, b, d1, fun hd => ih j (hs j hj) (e (d2 ▸ hd))⟩
  | _ => cases hs
 | any => intro y v hs h; simp only [TV.cO] at hs; subst hs; trivial
 | dv t x => intro y v hs h; simp only [TV.cO] at hs; subst hs; exact h
 | nl => intro y v hs h; simp only [TV.cO] at hs; subst hs; exact h
 | cst u => intro y v hs h; simp only [TV.cO] at hs; subst hs; exact h
 | el t x p => intro y v hs h; simp only [TV.cO] at hs; subst hs; exact h
theorem TV.auU {w : World} {G : Nat -> Prop} {π : Nat -> Pl} {O O' : bF} (hO : uY O O') {x y : TV} {c : Nat} {u : Value} (hs : x.cO y) (h : x.mG w G π O c u) : y.mG w G π O' c u := by
 cases x with
 | dv t z => simp only [TV.cO] at hs; subst hs; exact h
 | _ => cases y <;> first | exact VR.cO hO hs h | (simp only [TV.cO] at hs; cases hs)
theorem aD' {fs fs' : List TV} (hl : fs.length = fs'.length) (h : ∀ (j : Nat) (x : TV), fs[j]? = some x -> ∃ y, fs'[j]? = some y /\ x.cO y) : mW fs' = mW fs := by
 unfold mW
 rw [List.getLast?_eq_getElem?, List.getLast?_eq_getElem?, <- hl]
 cases hx : fs[fs.length - 1]? with
 | none => rw [List.getElem?_eq_none (by rw [<- hl]; exact List.getElem?_eq_none_iff.1 hx)]
 | some x =>
  obtain ⟨y, h1, h2⟩ := h _ x hx
  rw [h1]
  simp only [Option.bind_some]
  cases x with
  | fn g k n f => cases y <;> first | rfl | cases h2
  | dM n f => cases y <;> first | rfl | cases h2
  | st n f => cases y <;> first | rfl | cases h2
  | _ => simp only [TV.cO] at h2; subst h2; rfl
theorem OR.cO {w : World} {G : Nat -> Prop} {π : Nat -> Pl} {O O' : bF} (hO : uY O O') {id : Nat} {o o' : TO} (hs : o.cO o') (h : OR w G π O id o) : OR w G π O' id o' := by
 cases o with
 | aV fs => cases o' with
  | aV fs' =>
   obtain ⟨h1, h2⟩ := TO.zO hs
   obtain ⟨h3, h4⟩ := hs
   obtain ⟨g, cur, e, k1, k2, k3⟩ := h
   refine ⟨g, cur, e, k1, ⟨k2.1, k2.2.on (aD' h3 h4) rfl (by rw [<- UY h3 h4, h3])⟩, fun j y hy c hc => ?_⟩
   obtain ⟨x, hx, hxy⟩ := h2 j y hy
   have hyx := TV.zO hxy
   rw [<- (TV.O4 hyx).1] at hc
   obtain ⟨u, a1, a2, a3⟩ := k3 j x hx c hc
   exact ⟨u, by rw [<- UY h3 h4]; exact a1, a2, TV.auU hO hyx a3⟩
  | _ => cases hs
 | bD t ls out =>
  simp only [TO.cO] at hs; subst hs
  rcases h with h | ⟨g, cur, e, h1, h2, h3, h4, h5, h6⟩
  ·exact .inl h
  ·refine .inr ⟨g, cur, e, h1, h2, h3, h4, h5, ⟨fun i hi => ?_, fun i r hr => ?_, h6.apart⟩⟩
   ·obtain ⟨u, a1, a2, a3, a4⟩ := h6.cell i hi
    refine ⟨u, a1, a2, a3, fun r hr => ?_⟩
    obtain ⟨o, b1, b2⟩ := a4 r hr
    obtain ⟨o', c1, c2⟩ := hO r o b1
    refine ⟨o', c1, fun t' l' he => ?_⟩
    subst he
    cases o with
    | aV fs => cases c2
    | _ => simp only [TO.cO] at c2; exact b2 t' l' c2
   ·obtain ⟨q1, o, q2, q3⟩ := h6.OI i r hr
    obtain ⟨o', c1, c2⟩ := hO r o q2
    refine ⟨q1, o', c1, ?_⟩
    cases o with
    | aV fs => cases o' with
     | aV fs' => rfl
     | _ => cases c2
    | _ => simp only [TO.cO] at c2; subst c2; exact q3
 | _ => simp only [TO.cO] at hs; subst hs; exact h
theorem Own.cO {π : Nat -> Pl} {O O' : bF} (hO : uY O O') {id g : Nat} (h : Own π O id g) : Own π O' id g := by
 obtain ⟨o, h2, h1⟩ := h
 obtain ⟨o', e1, e2⟩ := hO id o h2
 refine ⟨o', e1, ?_⟩
 cases o with
 | aV fs => cases o' with
  | aV fs' => exact .of (h1.g rfl) rfl
  | _ => cases e2
 | _ => simp only [TO.cO] at e2; subst e2; exact h1
theorem iQ.cO {P : Program} {f : FuncId} {args args' : List TV} {O O' : List (Nat × TO)} {Q : TV -> List (Nat × TO) -> Prop} (h : iQ P f args O Q) (hl : args'.length = args.length) (ha : ∀ (i : Nat) (x : TV), args[i]? = some x -> ∃ y, args'[i]? = some y /\ x.cO y)
  (h1 : uY (aA O) (aA O')) (h2 : uY (aA O') (aA O)) : iQ P f args' O' Q := by
 have hG : ∀ F w π, Gz F w π (aA O') = Gz F w π (aA O) := fun F w π => by
  funext b
  exact propext ⟨fun ⟨a, b, c⟩ => ⟨a, b, fun id hid => c id (hid.cO h1)⟩, fun ⟨a, b, c⟩ => ⟨a, b, fun id hid => c id (hid.cO h2)⟩⟩
 refine ⟨h.enters, fun w F π vs hl' hF hfr hv hgl => ?_⟩
 have TU : Frame F w π O := ⟨fun id o ho => by
  obtain ⟨o', e1, e2⟩ := h1 id o ho
  have := hfr.obj id o' e1
  rw [hG] at this
  exact this.cO h2 (TO.zO e2), fun i j g hi hj => hfr.inj i j g (hi.cO h1) (hj.cO h1), fun id g hg => hfr.new id g (hg.cO h1)⟩
 refine (h.calls w F π vs (hl'.trans hl) hF TU (fun i x v hx hv' => ?_) (by rw [hG] at hgl; exact hgl)).mono fun e w' ⟨r, v, O2, aJ, a1, a2, a3, a4, a5, a6, a7⟩ => ⟨r, v, O2, aJ, a1, a2, a3, a4, fun id o ho => ?_, fun id g hg => ?_, ?_⟩
 ·obtain ⟨y, e1, e2⟩ := ha i x hx
  have := hv i y v e1 hv'
  rw [hG] at this
  exact VR.cO h2 (TV.zO e2) this
 ·obtain ⟨o1, e1, e2⟩ := h2 id o ho
  obtain ⟨o', b1, b2⟩ := a5 id o1 e1
  refine ⟨o', b1, fun hl => ?_⟩
  obtain ⟨c1, c2⟩ := b2 hl
  refine ⟨c1, ?_⟩
  cases o with
  | aV fs => cases o1 with
   | aV fs1 => cases o' with
    | aV fs2 =>
     obtain ⟨d1, d2⟩ := e2
     obtain ⟨d3, d4⟩ := c2
     refine ⟨d3.trans d1.symm, fun j x hx => ?_⟩
     obtain ⟨y, q1, q2⟩ := d2 j x hx
     obtain ⟨z, q3, q4, q5⟩ := d4 j y q1
     obtain ⟨q6, q7, q8⟩ := TV.O4 q2
     exact ⟨z, q3, q4.trans q6.symm, fun o p c k1 k2 => q5 o p c (q7 o p ▸ k1) ((q8 p).1 k2)⟩
    | _ => exact c2.elim
   | _ => cases e2
  | _ => simp only [TO.cO] at e2; subst e2; exact c2
 ·rcases a6 id g hg with ⟨j, hj⟩ | hj
  ·exact .inl ⟨j, hj.cO h1⟩
  ·exact .inr hj
 ·obtain ⟨k1, k2, k3, k4, k5, k6⟩ := a7
  exact ⟨k1, k2, k3, k4, fun b hb hn => k5 b (hb.elim (fun hb => .inl ⟨fun id hid => hb.1 id (hid.cO h1), hb.2⟩) .inr) hn, k6⟩
theorem uY.of {O O' : List (Nat × TO)} (h : O.map (·.1) = O'.map (·.1)) (hs : ∀ (i : Nat) (p q : Nat × TO), O[i]? = some p -> O'[i]? = some q -> p.2.cO q.2) : uY (aA O) (aA O') := by
 induction O generalizing O' with
 | nil => intro id o h; cases h
 | cons p r ih => cases O' with
  | nil => simp at h
  | cons q r' =>
   simp only [List.map_cons, List.cons.injEq] at h
   obtain ⟨e, h⟩ := h
   have ih' := ih h fun i p q hp hq => hs (i + 1) p q (by simpa using hp) (by simpa using hq)
   have h0 := hs 0 p q rfl rfl
   obtain ⟨i, o⟩ := p
   obtain ⟨j, o'⟩ := q
   simp only at e h0
   subst e
   intro id o1 ho
   simp only [aA] at ho ⊢
   split
   ·rename_i e; rw [if_pos e] at ho; obtain rfl := aC ho; exact ⟨o', rfl, h0⟩
   ·rename_i e; rw [if_neg e] at ho; exact ih' id o1 ho
theorem iQ.eta {P : Program} {f : FuncId} {args args' : List TV} {O O' : List (Nat × TO)} {Q : TV -> List (Nat × TO) -> Prop} (h : iQ P f args O Q) (hl : args.length = args'.length) (ha : ∀ (i : Nat) (x y : TV), args[i]? = some x -> args'[i]? = some y -> x.cO y)
  (hk : O.map (·.1) = O'.map (·.1)) (ho : ∀ (i : Nat) (p q : Nat × TO), O[i]? = some p -> O'[i]? = some q -> p.2.cO q.2) : iQ P f args' O' Q :=
 h.cO hl.symm (fun i x hx => by
  have hi : i < args'.length := by rw [<- hl]; exact (List.getElem?_eq_some_iff.1 hx).1
  exact ⟨args'[i], by simp [hi], ha i x _ hx (by simp [hi])⟩) (uY.of hk ho) (uY.of hk.symm fun i p q hp hq => TO.zO (ho i q p hq hp))
end
section
abbrev tI : DT := .int .i64
abbrev U6 : DT := .sl (.int .i64)
abbrev aB (n : Int) : Int := IntKind.wrap .i64 n
abbrev IW (k : IntKind) (a b : Int) : Int := k.wrap ((BitVec.ofInt k.bits a &&& BitVec.ofInt k.bits b).toNat : Int)
abbrev y5 (k : IntKind) (a b : Int) : Int := k.wrap ((BitVec.ofInt k.bits a ||| BitVec.ofInt k.bits b).toNat : Int)
abbrev xO (k : IntKind) (a b : Int) : Int := k.wrap ((BitVec.ofInt k.bits a &&& ~~~BitVec.ofInt k.bits b).toNat : Int)
theorem wL : prog.follows .mixedOrders = true := by kernel_rfl
noncomputable def dE (f : Func) : Code := match f.body with | some c => c | none => .skip
noncomputable def aY (f : Func) : List ResultVar := f.results.toList
theorem MP {f : Func} (h : f.body.isSome = true) : f.body = some (dE f) := by
 unfold dE; cases e : f.body with
 | none => rw [e] at h; cases h
 | some c => rfl
theorem OV (f : Func) : f.results = (aY f).toArray := by simp [aY]
def slots (n : Nat) (l : List (Nat × TV)) : List TV := (List.range n).map fun i => match l.find? (fun p => p.1 == i) with
 | some p => p.2
 | none => .any
def dN (l : List (Nat × Norm)) (i : Nat) : Option Norm := (l.find? fun p => p.1 == i).map (·.2)
def aX : Nat -> Option (List (Option DT)) := fun _ => none
def aU : Nat -> Bool := fun _ => false
theorem lifted {f : Nat} {fn : Func} {L : List (Nat × bT)} {lv : Nat -> Option Norm} {rc : Nat -> Option (List (Option DT))} {fz : Nat -> Bool} {N nt : Nat} {en : End} {args : List TV} {O : List (Nat × TO)} {ρ : Type} [Jn ρ] {dec : List TV -> List (Nat × TO) -> Option ρ} {r : ρ} {rv : TV} {O' : List (Nat × TO)}
  (hf : prog.funcs[f]? = some fn) (hb : fn.body.isSome = true) (hname : (fn.name == "runtime.NumGoroutine") = false) (hn : fn.ntmps = args.length + nt) (hO : wY O = true) (hL : ∀ p ∈ L, aF prog p.1 p.2)
  (h : bK (dF TI TY L rc fz) lv N en (dE fn) (aY fn) nt args O dec = some r) (hd : ∀ l o, dec l o = some r -> sJ l = rv /\ o = O') : iQ prog f args O fun x o => x = rv /\ o = O' :=
 (MV wL tok (SY hL) (Jy _) hf (MP hb) (OV fn) hname hn hO h).mono fun x o ⟨l, e1, e2⟩ => by
  obtain ⟨a, b⟩ := hd l o e2
  exact ⟨e1.trans a, b⟩
theorem ayN {f : Nat} {fn : Func} {L : List (Nat × bT)} {lv : Nat -> Option Norm} {rc : Nat -> Option (List (Option DT))} {fz : Nat -> Bool} {tw : Nat -> Option Nat} {N nt : Nat} {en : End} {args : List TV} {O : List (Nat × TO)} {ρ : Type} [Jn ρ] {dec : List TV -> List (Nat × TO) -> Option ρ} {r : ρ} {rv : TV} {O' : List (Nat × TO)}
  (hf : prog.funcs[f]? = some fn) (hb : fn.body.isSome = true) (hname : (fn.name == "runtime.NumGoroutine") = false) (hn : fn.ntmps = args.length + nt) (hO : wY O = true) (hL : ∀ p ∈ L, aF prog p.1 p.2)
  (h : bK (Iq TI TY L rc fz tw) lv N en (dE fn) (aY fn) nt args O dec = some r) (hd : ∀ l o, dec l o = some r -> sJ l = rv /\ o = O') : iQ prog f args O fun x o => x = rv /\ o = O' :=
 (MV wL tok (aeJ hL) (Jy _) hf (MP hb) (OV fn) hname hn hO h).mono fun x o ⟨l, e1, e2⟩ => by
  obtain ⟨a, b⟩ := hd l o e2
  exact ⟨e1.trans a, b⟩
def mkEq (TI : Nat -> TD) (TY : Nat -> DT) (L : List (Nat × bT)) (rc : Nat -> Option (List (Option DT))) (fz : Nat -> Bool) (sq : TV -> Option (Bool × ((t : DT) × List t.den))) : Env := { dF TI TY L rc fz with seq := sq }
theorem ayM {f : Nat} {fn : Func} {L : List (Nat × bT)} {lv : Nat -> Option Norm} {rc : Nat -> Option (List (Option DT))} {fz : Nat -> Bool} {sq : TV -> Option (Bool × ((t : DT) × List t.den))} {N nt : Nat} {en : End} {args : List TV} {O : List (Nat × TO)} {ρ : Type} [Jn ρ] {dec : List TV -> List (Nat × TO) -> Option ρ} {r : ρ} {rv : TV} {O' : List (Nat × TO)}
  (hf : prog.funcs[f]? = some fn) (hb : fn.body.isSome = true) (hname : (fn.name == "runtime.NumGoroutine") = false) (hn : fn.ntmps = args.length + nt) (hO : wY O = true) (hL : ∀ p ∈ L, aF prog p.1 p.2) (hQ : IM prog sq)
  (h : bK (mkEq TI TY L rc fz sq) lv N en (dE fn) (aY fn) nt args O dec = some r) (hd : ∀ l o, dec l o = some r -> sJ l = rv /\ o = O') : iQ prog f args O fun x o => x = rv /\ o = O' :=
 (MV (E := mkEq TI TY L rc fz sq) wL tok (show oW _ (dF TI TY L rc fz) from SY hL) hQ hf (MP hb) (OV fn) hname hn hO h).mono fun x o ⟨l, e1, e2⟩ => by
  obtain ⟨a, b⟩ := hd l o e2
  exact ⟨e1.trans a, b⟩
def TV.caps : TV -> List (List TV)
 | .fn _ k n f => [(List.range (k + n)).map f]
 | .st n f => [(List.range n).map f]
 | _ => []
def TO.caps : TO -> List (List TV)
 | .aV fs => fs.flatMap TV.caps
 | _ => []
def y8 (l : List TV) (o : List (Nat × TO)) : List (List TV) := l.flatMap TV.caps ++ o.flatMap fun p => p.2.caps
theorem TV.zN {g k n : Nat} {f : Nat -> TV} {l : List TV} (h : (List.range (k + n)).map f = l) : (TV.fn g k n fun i => l.getD i .any).cO (.fn g k n f) :=
 ⟨rfl, rfl, rfl, fun j hj => by
  subst h
  have : ((List.range (k + n)).map f).getD j .any = f j := by simp [List.getD, hj]
  show (((List.range (k + n)).map f).getD j .any).cO (f j)
  rw [this]; exact TV.nP _⟩
def TV.C9 : List TV -> List TV -> Prop
 | [], [] => True
 | x :: r, y :: r' => x.cO y /\ TV.C9 r r'
 | _, _ => False
def TO.C9 : List (Nat × TO) -> List (Nat × TO) -> Prop
 | [], [] => True
 | x :: r, y :: r' => x.1 = y.1 /\ x.2.cO y.2 /\ TO.C9 r r'
 | _, _ => False
theorem TV.ER : ∀ {l l' : List TV}, TV.C9 l l' -> l.length = l'.length /\ ∀ (i : Nat) (x y : TV), l[i]? = some x -> l'[i]? = some y -> x.cO y
 | [], [], _ => ⟨rfl, fun i x y h => by simp at h⟩
 | x :: r, y :: r', h => by
  obtain ⟨h1, h2⟩ := h
  obtain ⟨a, b⟩ := TV.ER h2
  refine ⟨by simp [a], fun i u v hu hv => ?_⟩
  cases i with
  | zero => obtain rfl := aC hu; obtain rfl := aC hv; exact h1
  | succ i => exact b i u v (by simpa using hu) (by simpa using hv)
 | [], _ :: _, h => h.elim
 | _ :: _, [], h => h.elim
theorem TO.ER : ∀ {l l' : List (Nat × TO)}, TO.C9 l l' -> l.map (·.1) = l'.map (·.1) /\ ∀ (i : Nat) (x y : Nat × TO), l[i]? = some x -> l'[i]? = some y -> x.2.cO y.2
 | [], [], _ => ⟨rfl, fun i x y h => by simp at h⟩
 | x :: r, y :: r', h => by
  obtain ⟨h1, h2, h3⟩ := h
  obtain ⟨a, b⟩ := TO.ER h3
  refine ⟨by simp [a, h1], fun i u v hu hv => ?_⟩
  cases i with
  | zero => obtain rfl := aC hu; obtain rfl := aC hv; exact h2
  | succ i => exact b i u v (by simpa using hu) (by simpa using hv)
 | [], _ :: _, h => h.elim
 | _ :: _, [], h => h.elim
theorem TO.ak8 {l l' : List TV} (h : TV.C9 l l') : (TO.aV l).cO (.aV l') := by
 obtain ⟨a, b⟩ := TV.ER h
 refine ⟨a, fun j x hx => ?_⟩
 have hj : j < l'.length := by rw [<- a]; exact (List.getElem?_eq_some_iff.1 hx).1
 exact ⟨l'[j], by simp [hj], b j x _ hx (by simp [hj])⟩
theorem iQ.D5 {P : Program} {f : FuncId} {args args' : List TV} {O O' : List (Nat × TO)} {Q : TV -> List (Nat × TO) -> Prop} (ha : TV.C9 args args') (ho : TO.C9 O O') (h : iQ P f args O Q) : iQ P f args' O' Q :=
 h.eta (TV.ER ha).1 (TV.ER ha).2 (TO.ER ho).1 (TO.ER ho).2
theorem iQ.aDP {P : Program} {f : FuncId} {args : List TV} {O : List (Nat × TO)} {rv : TV} {O1 : List (Nat × TO)} (h : iQ P f args O fun r O' => r.cO rv /\ TO.C9 O' O1) : iQ P f args O fun r O' => r = rv /\ O' = O1 := by
 refine ⟨h.enters, fun w F π vs hl hF hfr hv hgl => (h.calls w F π vs hl hF hfr hv hgl).mono fun e w' ⟨r, v, O', aJ, a1, ⟨a2, a2'⟩, a3, a4, a5, a6, a7⟩ => ⟨rv, v, O1, aJ, a1, ⟨rfl, rfl⟩, ?_, ?_, fun id o ho => ?_, fun id g hg => ?_, a7⟩⟩
 all_goals
  obtain ⟨k1, k2⟩ := TO.ER a2'
  have h1 : uY (aA O') (aA O1) := uY.of k1 k2
  have h2 : uY (aA O1) (aA O') := uY.of k1.symm fun i p q hp hq => TO.zO (k2 i q p hq hp)
  have hG : ∀ F w π, Gz F w π (aA O') = Gz F w π (aA O1) := fun F w π => by
   funext b
   exact propext ⟨fun ⟨a, b, c⟩ => ⟨a, b, fun id hid => c id (hid.cO h2)⟩, fun ⟨a, b, c⟩ => ⟨a, b, fun id hid => c id (hid.cO h1)⟩⟩
 ·refine ⟨fun id o ho => ?_, fun i j g hi hj => a3.inj i j g (hi.cO h2) (hj.cO h2), fun id g hg => a3.new id g (hg.cO h2)⟩
  obtain ⟨o', e1, e2⟩ := h2 id o ho
  have := a3.obj id o' e1
  rw [hG] at this
  exact this.cO h1 (TO.zO e2)
 ·rw [hG] at a4
  exact VR.cO h1 a2 a4
 ·obtain ⟨o', b1, b2⟩ := a5 id o ho
  obtain ⟨o1, e1, e2⟩ := h1 id o' b1
  refine ⟨o1, e1, fun hl => ?_⟩
  obtain ⟨c1, c2⟩ := b2 (by rw [(TO.Zc e2).1]; exact hl)
  refine ⟨c1, ?_⟩
  cases o' with
  | aV fs' => cases o1 with
   | aV fs1 => cases o with
    | aV fs =>
     obtain ⟨d1, d2⟩ := e2
     obtain ⟨d3, d4⟩ := c2
     refine ⟨d1.symm.trans d3, fun j x hx => ?_⟩
     obtain ⟨y, q1, q2, q3⟩ := d4 j x hx
     obtain ⟨z, q4, q5⟩ := d2 j y q1
     obtain ⟨q6, q7, q8⟩ := TV.O4 q5
     exact ⟨z, q4, q6.symm.trans q2, fun o p c k1 k2 => by
      obtain ⟨m1, m2⟩ := q3 o p c k1 k2
      exact ⟨q7 o p ▸ m1, (q8 p).1 m2⟩⟩
    | _ => exact c2.elim
   | _ => cases e2
  | _ => simp only [TO.cO] at e2; subst e2; exact c2
 ·exact a6 id g (hg.cO h2)
theorem agH {f : Nat} {fn : Func} {L : List (Nat × bT)} {lv : Nat -> Option Norm} {rc : Nat -> Option (List (Option DT))} {fz : Nat -> Bool} {N nt : Nat} {en : End} {args : List TV} {O : List (Nat × TO)} {ρ : Type} [Jn ρ] {dec : List TV -> List (Nat × TO) -> Option ρ} {r : ρ} {rv : TV} {O' : List (Nat × TO)}
  (hf : prog.funcs[f]? = some fn) (hb : fn.body.isSome = true) (hname : (fn.name == "runtime.NumGoroutine") = false) (hn : fn.ntmps = args.length + nt) (hO : wY O = true) (hL : ∀ p ∈ L, aF prog p.1 p.2)
  (h : bK (dF TI TY L rc fz) lv N en (dE fn) (aY fn) nt args O dec = some r) (hd : ∀ l o, dec l o = some r -> (sJ l).cO rv /\ TO.C9 o O') : iQ prog f args O fun x o => x = rv /\ o = O' :=
 iQ.aDP ((MV wL tok (SY hL) (Jy _) hf (MP hb) (OV fn) hname hn hO h).mono fun x o ⟨l, e1, e2⟩ => by
  obtain ⟨a, b⟩ := hd l o e2
  exact ⟨e1 ▸ a, b⟩)
end
theorem bZ {a b : Bool} (h : (a && !b) = true) : a = true /\ b = false := by cases a <;> cases b <;> first | exact ⟨rfl, rfl⟩ | cases h
theorem dZ {f : Nat} {fn : Func} {L : List (Nat × bT)} {lv : Nat -> Option Norm} {rc : Nat -> Option (List (Option DT))} {fz : Nat -> Bool} {N nt : Nat} {en : End} {args : List TV} {O : List (Nat × TO)} {ρ : Type} [Jn ρ] {dec : List TV -> List (Nat × TO) -> Option ρ} {r : ρ} {rv : TV} {O' : List (Nat × TO)} (hf : prog.funcs[f]? = some fn) (hb : (fn.body.isSome && !(fn.name == "runtime.NumGoroutine")) = true) (hn : fn.ntmps = args.length + nt) (hO : wY O = true) (hL : ∀ p ∈ L, aF prog p.1 p.2) (h : bK (dF TI TY L rc fz) lv N en (dE fn) (aY fn) nt args O dec = some r) (hd : ∀ l o, dec l o = some r -> sJ l = rv /\ o = O') : iQ prog f args O fun x o => x = rv /\ o = O' := lifted hf (bZ hb).1 (bZ hb).2 hn hO hL h hd
end Go.Proofs.YtfopcfnggdonkaaGreatDoor
