/-
  Words for the lifted functions of a seat.
-/
import Derived.Test.YtbjfbbfglkmadaaDoorQTY
import Derived.Test.YtbjfbbfglkmadaaDoorQW
namespace Go.Proofs.YtbjfbbfglkmadaaDoor
open Go.RowKit
set_option linter.unusedVariables false

abbrev tI : DT := .int .i64
abbrev tIs : DT := .sl (.int .i64)
abbrev di (n : Int) : TV := .dv (.int .i64) n
abbrev db (b : Bool) : TV := .dv .bool b
abbrev dl (l : List Int) : TV := .dv (.sl (.int .i64)) l
abbrev w64 (n : Int) : Int := IntKind.wrap .i64 n

abbrev bAnd (k : IntKind) (a b : Int) : Int := k.wrap ((BitVec.ofInt k.bits a &&& BitVec.ofInt k.bits b).toNat : Int)
abbrev bOr (k : IntKind) (a b : Int) : Int := k.wrap ((BitVec.ofInt k.bits a ||| BitVec.ofInt k.bits b).toNat : Int)
abbrev bXor (k : IntKind) (a b : Int) : Int := k.wrap ((BitVec.ofInt k.bits a ^^^ BitVec.ofInt k.bits b).toNat : Int)
abbrev bAndNot (k : IntKind) (a b : Int) : Int := k.wrap ((BitVec.ofInt k.bits a &&& ~~~BitVec.ofInt k.bits b).toNat : Int)

theorem hmix : Tryd.prog.follows .mixedOrders = true := by kernel_rfl

noncomputable def bodyOf (f : Func) : Code := match f.body with | some c => c | none => .skip
noncomputable def resOf (f : Func) : List ResultVar := f.results.toList

theorem body_of {f : Func} (h : f.body.isSome = true) : f.body = some (bodyOf f) := by
  unfold bodyOf; cases e : f.body with
  | none => rw [e] at h; cases h
  | some c => rfl

theorem res_of (f : Func) : f.results = (resOf f).toArray := by simp [resOf]

def slots (n : Nat) (l : List (Nat × TV)) : List TV := (List.range n).map fun i => match l.find? (fun p => p.1 == i) with
  | some p => p.2
  | none => .any

/-- Norms for the loops of a function, by the number of the region at the loop's head. -/
def norms (l : List (Nat × Norm)) (i : Nat) : Option Norm := (l.find? fun p => p.1 == i).map (·.2)

def nrc : Nat → Option (List (Option DT)) := fun _ => none
def nfz : Nat → Bool := fun _ => false
def noEnd : End := ⟨[], ⟨[], [], [], []⟩⟩

/-- From the reckoning to what is told. -/
theorem lifted {f : Nat} {fn : Func} {L : List (Nat × FnC)} {lv : Nat → Option Norm} {rc : Nat → Option (List (Option DT))} {fz : Nat → Bool} {N nt : Nat} {en : End} {args : List TV} {O : List (Nat × TO)} {ρ : Type} [Jn ρ] {dec : List TV → List (Nat × TO) → Option ρ} {r : ρ} {rv : TV} {O' : List (Nat × TO)}
    (hf : Tryd.prog.funcs[f]? = some fn) (hb : fn.body.isSome = true) (hname : (fn.name == "runtime.NumGoroutine") = false) (hn : fn.ntmps = args.length + nt) (hO : pinAll O = true) (hL : ∀ p ∈ L, FnOk Tryd.prog p.1 p.2)
    (h : callF (mkE TI TY L rc fz) lv N en (bodyOf fn) (resOf fn) nt args O dec = some r) (hd : ∀ l o, dec l o = some r → tupOf l = rv ∧ o = O') : HSpec Tryd.prog f args O fun x o => x = rv ∧ o = O' :=
  (callF_ok hmix tok (envOk_of hL) (seqsOk_none _) hf (body_of hb) (res_of fn) hname hn hO h).mono fun x o ⟨l, e1, e2⟩ => by
    obtain ⟨a, b⟩ := hd l o e2
    exact ⟨e1.trans a, b⟩

/-- The same, where both ways of an append are told. -/
theorem liftedW {f : Nat} {fn : Func} {L : List (Nat × FnC)} {lv : Nat → Option Norm} {rc : Nat → Option (List (Option DT))} {fz : Nat → Bool} {tw : Nat → Option Nat} {N nt : Nat} {en : End} {args : List TV} {O : List (Nat × TO)} {ρ : Type} [Jn ρ] {dec : List TV → List (Nat × TO) → Option ρ} {r : ρ} {rv : TV} {O' : List (Nat × TO)}
    (hf : Tryd.prog.funcs[f]? = some fn) (hb : fn.body.isSome = true) (hname : (fn.name == "runtime.NumGoroutine") = false) (hn : fn.ntmps = args.length + nt) (hO : pinAll O = true) (hL : ∀ p ∈ L, FnOk Tryd.prog p.1 p.2)
    (h : callF (mkEw TI TY L rc fz tw) lv N en (bodyOf fn) (resOf fn) nt args O dec = some r) (hd : ∀ l o, dec l o = some r → tupOf l = rv ∧ o = O') : HSpec Tryd.prog f args O fun x o => x = rv ∧ o = O' :=
  (callF_ok hmix tok (envOk_ofw hL) (seqsOk_none _) hf (body_of hb) (res_of fn) hname hn hO h).mono fun x o ⟨l, e1, e2⟩ => by
    obtain ⟨a, b⟩ := hd l o e2
    exact ⟨e1.trans a, b⟩

/-- Iterators, too. -/
def mkEq (TI : Nat → TD) (TY : Nat → DT) (L : List (Nat × FnC)) (rc : Nat → Option (List (Option DT))) (fz : Nat → Bool) (sq : TV → Option (Bool × ((t : DT) × List t.den))) : Env := { mkE TI TY L rc fz with seq := sq }

/-- The same, where the function loops over what others yield. -/
theorem liftedQ {f : Nat} {fn : Func} {L : List (Nat × FnC)} {lv : Nat → Option Norm} {rc : Nat → Option (List (Option DT))} {fz : Nat → Bool} {sq : TV → Option (Bool × ((t : DT) × List t.den))} {N nt : Nat} {en : End} {args : List TV} {O : List (Nat × TO)} {ρ : Type} [Jn ρ] {dec : List TV → List (Nat × TO) → Option ρ} {r : ρ} {rv : TV} {O' : List (Nat × TO)}
    (hf : Tryd.prog.funcs[f]? = some fn) (hb : fn.body.isSome = true) (hname : (fn.name == "runtime.NumGoroutine") = false) (hn : fn.ntmps = args.length + nt) (hO : pinAll O = true) (hL : ∀ p ∈ L, FnOk Tryd.prog p.1 p.2) (hQ : SeqsOk Tryd.prog sq)
    (h : callF (mkEq TI TY L rc fz sq) lv N en (bodyOf fn) (resOf fn) nt args O dec = some r) (hd : ∀ l o, dec l o = some r → tupOf l = rv ∧ o = O') : HSpec Tryd.prog f args O fun x o => x = rv ∧ o = O' :=
  (callF_ok (E := mkEq TI TY L rc fz sq) hmix tok (show EnvOk _ (mkE TI TY L rc fz) from envOk_of hL) hQ hf (body_of hb) (res_of fn) hname hn hO h).mono fun x o ⟨l, e1, e2⟩ => by
    obtain ⟨a, b⟩ := hd l o e2
    exact ⟨e1.trans a, b⟩

/-- What functions among the arguments and in objects have captured. -/
def TV.caps : TV → List (List TV)
  | .fn _ k n f => [(List.range (k + n)).map f]
  | _ => []

def TO.caps : TO → List (List TV)
  | .rcd fs => fs.flatMap TV.caps
  | _ => []

def capsOf (l : List TV) (o : List (Nat × TO)) : List (List TV) := l.flatMap TV.caps ++ o.flatMap fun p => p.2.caps

theorem TV.sim_fn {g k n : Nat} {f : Nat → TV} {l : List TV} (h : (List.range (k + n)).map f = l) : (TV.fn g k n fun i => l.getD i .any).sim (.fn g k n f) :=
  ⟨rfl, rfl, rfl, fun j hj => by
    subst h
    have : ((List.range (k + n)).map f).getD j .any = f j := by simp [List.getD, hj]
    show (((List.range (k + n)).map f).getD j .any).sim (f j)
    rw [this]; exact TV.sim_refl _⟩

def TV.simL : List TV → List TV → Prop
  | [], [] => True
  | x :: r, y :: r' => x.sim y ∧ TV.simL r r'
  | _, _ => False

def TO.simL : List (Nat × TO) → List (Nat × TO) → Prop
  | [], [] => True
  | x :: r, y :: r' => x.1 = y.1 ∧ x.2.sim y.2 ∧ TO.simL r r'
  | _, _ => False

theorem TV.simL_at : ∀ {l l' : List TV}, TV.simL l l' → l.length = l'.length ∧ ∀ (i : Nat) (x y : TV), l[i]? = some x → l'[i]? = some y → x.sim y
  | [], [], _ => ⟨rfl, fun i x y h => by simp at h⟩
  | x :: r, y :: r', h => by
    obtain ⟨h1, h2⟩ := h
    obtain ⟨a, b⟩ := TV.simL_at h2
    refine ⟨by simp [a], fun i u v hu hv => ?_⟩
    cases i with
    | zero => obtain rfl := Option.some.inj hu; obtain rfl := Option.some.inj hv; exact h1
    | succ i => exact b i u v (by simpa using hu) (by simpa using hv)
  | [], _ :: _, h => h.elim
  | _ :: _, [], h => h.elim

theorem TO.simL_at : ∀ {l l' : List (Nat × TO)}, TO.simL l l' → l.map (·.1) = l'.map (·.1) ∧ ∀ (i : Nat) (x y : Nat × TO), l[i]? = some x → l'[i]? = some y → x.2.sim y.2
  | [], [], _ => ⟨rfl, fun i x y h => by simp at h⟩
  | x :: r, y :: r', h => by
    obtain ⟨h1, h2, h3⟩ := h
    obtain ⟨a, b⟩ := TO.simL_at h3
    refine ⟨by simp [a, h1], fun i u v hu hv => ?_⟩
    cases i with
    | zero => obtain rfl := Option.some.inj hu; obtain rfl := Option.some.inj hv; exact h2
    | succ i => exact b i u v (by simpa using hu) (by simpa using hv)
  | [], _ :: _, h => h.elim
  | _ :: _, [], h => h.elim

theorem TO.sim_rcd {l l' : List TV} (h : TV.simL l l') : (TO.rcd l).sim (.rcd l') := by
  obtain ⟨a, b⟩ := TV.simL_at h
  refine ⟨a, fun j x hx => ?_⟩
  have hj : j < l'.length := by rw [← a]; exact (List.getElem?_eq_some_iff.1 hx).1
  exact ⟨l'[j], by simp [hj], b j x _ hx (by simp [hj])⟩

theorem HSpec.etaL {P : Program} {f : FuncId} {args args' : List TV} {O O' : List (Nat × TO)} {Q : TV → List (Nat × TO) → Prop} (ha : TV.simL args args') (ho : TO.simL O O') (h : HSpec P f args O Q) : HSpec P f args' O' Q :=
  h.eta (TV.simL_at ha).1 (TV.simL_at ha).2 (TO.simL_at ho).1 (TO.simL_at ho).2

theorem TO.simL_refl : ∀ l : List (Nat × TO), TO.simL l l
  | [] => trivial
  | _ :: r => ⟨rfl, TO.sim_refl _, TO.simL_refl r⟩

/-- Objects at the end, told in another way. -/
theorem HSpec.simQ {P : Program} {f : FuncId} {args : List TV} {O : List (Nat × TO)} {rv : TV} {O1 : List (Nat × TO)} (h : HSpec P f args O fun r O' => r.sim rv ∧ TO.simL O' O1) : HSpec P f args O fun r O' => r = rv ∧ O' = O1 := by
  refine ⟨h.enters, fun w F π vs hl hF hfr hv hgl => (h.calls w F π vs hl hF hfr hv hgl).mono fun e w' ⟨r, v, O', π', a1, ⟨a2, a2'⟩, a3, a4, a5, a6, a7⟩ => ⟨rv, v, O1, π', a1, ⟨rfl, rfl⟩, ?_, ?_, fun id o ho => ?_, fun id g hg => ?_, a7⟩⟩
  all_goals
    obtain ⟨k1, k2⟩ := TO.simL_at a2'
    have h1 : OSim (tlook O') (tlook O1) := OSim.of k1 k2
    have h2 : OSim (tlook O1) (tlook O') := OSim.of k1.symm fun i p q hp hq => TO.sim_symm (k2 i q p hq hp)
    have hG : ∀ F w π, Gz F w π (tlook O') = Gz F w π (tlook O1) := fun F w π => by
      funext b
      exact propext ⟨fun ⟨a, b, c⟩ => ⟨a, b, fun id hid => c id (hid.sim h2)⟩, fun ⟨a, b, c⟩ => ⟨a, b, fun id hid => c id (hid.sim h1)⟩⟩
  · refine ⟨fun id o ho => ?_, fun i j g hi hj => a3.inj i j g (hi.sim h2) (hj.sim h2), fun id g hg => a3.new id g (hg.sim h2)⟩
    obtain ⟨o', e1, e2⟩ := h2 id o ho
    have := a3.obj id o' e1
    rw [hG] at this
    exact this.sim h1 (TO.sim_symm e2)
  · rw [hG] at a4
    exact VR.sim h1 a2 a4
  · obtain ⟨o', b1, b2⟩ := a5 id o ho
    obtain ⟨o1, e1, e2⟩ := h1 id o' b1
    refine ⟨o1, e1, fun hl => ?_⟩
    obtain ⟨c1, c2⟩ := b2 (by rw [(TO.sim_loc e2).1]; exact hl)
    refine ⟨c1, ?_⟩
    cases o' with
    | rcd fs' => cases o1 with
      | rcd fs1 => cases o with
        | rcd fs =>
          obtain ⟨d1, d2⟩ := e2
          obtain ⟨d3, d4⟩ := c2
          refine ⟨d1.symm.trans d3, fun j x hx => ?_⟩
          obtain ⟨y, q1, q2, q3⟩ := d4 j x hx
          obtain ⟨z, q4, q5⟩ := d2 j y q1
          obtain ⟨q6, q7, q8⟩ := TV.sim_size q5
          exact ⟨z, q4, q6.symm.trans q2, fun o p c k1 k2 => by
            obtain ⟨m1, m2⟩ := q3 o p c k1 k2
            exact ⟨q7 o p ▸ m1, (q8 p).1 m2⟩⟩
        | _ => exact c2.elim
      | _ => cases e2
    | _ => simp only [TO.sim] at e2; subst e2; exact c2
  · exact a6 id g (hg.sim h2)

/-- From the reckoning to what is told, where objects hold functions. -/
theorem liftedS {f : Nat} {fn : Func} {L : List (Nat × FnC)} {lv : Nat → Option Norm} {rc : Nat → Option (List (Option DT))} {fz : Nat → Bool} {N nt : Nat} {en : End} {args : List TV} {O : List (Nat × TO)} {ρ : Type} [Jn ρ] {dec : List TV → List (Nat × TO) → Option ρ} {r : ρ} {rv : TV} {O' : List (Nat × TO)}
    (hf : Tryd.prog.funcs[f]? = some fn) (hb : fn.body.isSome = true) (hname : (fn.name == "runtime.NumGoroutine") = false) (hn : fn.ntmps = args.length + nt) (hO : pinAll O = true) (hL : ∀ p ∈ L, FnOk Tryd.prog p.1 p.2)
    (h : callF (mkE TI TY L rc fz) lv N en (bodyOf fn) (resOf fn) nt args O dec = some r) (hd : ∀ l o, dec l o = some r → (tupOf l).sim rv ∧ TO.simL o O') : HSpec Tryd.prog f args O fun x o => x = rv ∧ o = O' :=
  HSpec.simQ ((callF_ok hmix tok (envOk_of hL) (seqsOk_none _) hf (body_of hb) (res_of fn) hname hn hO h).mono fun x o ⟨l, e1, e2⟩ => by
    obtain ⟨a, b⟩ := hd l o e2
    exact ⟨e1 ▸ a, b⟩)

end Go.Proofs.YtbjfbbfglkmadaaDoor
