/-
 Functions that are only run on examples: what is told of them is their reckoning itself.
-/
import Derived.Test.YtfopcfnggdonkaaGreatDoorYD
namespace Go.Proofs.YtfopcfnggdonkaaGreatDoor
open Go.Proofs.Tryz
open Go.RowKit
set_option linter.unusedVariables false
section
variable {β : Type}
def fN (n : Nat) (k : Nat -> β) : β := match n with
 | 0 => k 0
 | m + 1 => k (m + 1)
theorem PK (n : Nat) (k : Nat -> β) : fN n k = k n := by cases n <;> rfl
def fZ (z : Int) (k : Int -> β) : β := match z with
 | .ofNat n => fN n fun n => k (.ofNat n)
 | .negSucc n => fN n fun n => k (.negSucc n)
theorem as3 (z : Int) (k : Int -> β) : fZ z k = k z := by
 cases z with
 | ofNat n => exact PK n fun n => k (.ofNat n)
 | negSucc n => exact PK n fun n => k (.negSucc n)
def fB (b : Bool) (k : Bool -> β) : β := match b with
 | true => k true
 | false => k false
theorem as1 (b : Bool) (k : Bool -> β) : fB b k = k b := by cases b <;> rfl
def fL {α : Type} (f : α -> (α -> β) -> β) : List α -> (List α -> β) -> β
 | [], k => k []
 | x :: r, k => f x fun x => fL f r fun r => k (x :: r)
theorem sZ {α : Type} {f : α -> (α -> β) -> β} (h : ∀ x k, f x k = k x) : ∀ (l : List α) (k : List α -> β), fL f l k = k l
 | [], k => rfl
 | x :: r, k => by rw [fL, h, sZ h r]
def fD : (t : DT) -> t.den -> (t.den -> β) -> β
 | .int _, z, k => fZ z k
 | .bool, b, k => fB b k
 | .sl t, l, k => fL (fD t) l k
 | .jQ t, l, k => fL (fD t) l k
 | .arr _ t, l, k => fL (fD t) l k
 | .gB t, o, k => match o with
  | none => k none
  | some l => fL (fD t) l fun l => k (some l)
 | .pair a b, p, k => fD a p.1 fun x => fD b p.2 fun y => k (x, y)
 | _, y, k => k y
theorem acW : ∀ (t : DT) (y : t.den) (k : t.den -> β), fD t y k = k y := by
 intro t
 induction t with
 | int _ => exact fun y k => as3 y k
 | bool => exact fun y k => as1 y k
 | sl t ih => exact fun y k => sZ ih y k
 | jQ t ih => exact fun y k => sZ ih y k
 | arr n t ih => exact fun y k => sZ ih y k
 | gB t ih =>
  intro y k
  cases y with
  | none => rfl
  | some l => exact sZ ih l _
 | pair a b iha ihb =>
  intro y k
  show fD a y.1 _ = _
  rw [iha, ihb]
 | _ => exact fun y k => rfl
def fT (x : TV) (k : TV -> β) : β := match x with
 | .dv t y => fD t y fun y => k (.dv t y)
 | .row id => fN id fun id => k (.row id)
 | .el t y p => fD t y fun y => fL fN p fun p => k (.el t y p)
 | .ptr id i p => fN id fun id => fN i fun i => fL fN p fun p => k (.ptr id i p)
 | x => k x
theorem ZR (x : TV) (k : TV -> β) : fT x k = k x := by
 cases x <;> simp only [fT, acW, PK, sZ PK]
def fO (o : TO) (k : TO -> β) : β := match o with
 | .row t l => fL (fD t) l fun l => k (.row t l)
 | .aP fs => fL fT fs fun fs => k (.aP fs)
 | o => k o
theorem as2 (o : TO) (k : TO -> β) : fO o k = k o := by
 cases o with
 | row t l => exact sZ (acW t) l _
 | aP fs => exact sZ ZR fs _
 | _ => rfl
def fP (p : Nat × TO) (k : Nat × TO -> β) : β := fN p.1 fun i => fO p.2 fun o => k (i, o)
theorem Mc (p : Nat × TO) (k : Nat × TO -> β) : fP p k = k p := by rw [fP, PK, as2]
end
def KD (l : List TV) (o : List (Nat × TO)) : Option (List TV × List (Nat × TO)) := fL fT l fun l => fL fP o fun o => some (l, o)
theorem acG (l : List TV) (o : List (Nat × TO)) : KD l o = some (l, o) := by rw [KD, sZ ZR, sZ Mc]
noncomputable def gn (fn : Func) (L : List (Nat × bJ)) (rc : Nat -> Option (List (Option DT))) (fz : Nat -> Bool) (lv : List (Nat × Norm)) (en : End) (nt : Nat) (sg : List TV -> Option (List Md)) : bJ where
 ρ := List TV × List (Nat × TO)
 sig := sg
 ans := fun l o => fL fT l fun l => fL fP o fun o => cond (l.length + nt == fn.ntmps && x9 o) (bK (dD TI TY L rc fz) (dH lv) 60 en (dB fn) (bC fn) nt l o KD) none
 enc := fun _ _ r => sK r.1
 bQ := fun _ _ r => r.2
def JA : List (Nat × bJ) -> Prop
 | [] => True
 | p :: r => aC prog p.1 p.2 /\ JA r
theorem JA.at : ∀ {L : List (Nat × bJ)}, JA L -> ∀ p ∈ L, aC prog p.1 p.2
 | _ :: _, h, p, hp => by
  rcases List.mem_cons.1 hp with rfl | hp
  ·exact h.1
  ·exact h.2.at p hp
theorem at1 {f : Nat} {fn : Func} {L : List (Nat × bJ)} {rc : Nat -> Option (List (Option DT))} {fz : Nat -> Bool} {lv : List (Nat × Norm)} {en : End} {nt : Nat} {sg : List TV -> Option (List Md)}
  (hf : prog.funcs[f]? = some fn) (hb : fn.body.isSome = true) (hname : (fn.name == "runtime.NumGoroutine") = false) (hL : JA L) : aC prog f (gn fn L rc fz lv en nt sg) := by
 intro args Of x hx
 have h0 : (fL fT args fun l => fL fP Of fun o => cond (l.length + nt == fn.ntmps && x9 o) (bK (dD TI TY L rc fz) (dH lv) 60 en (dB fn) (bC fn) nt l o KD) none) = some x := hx
 rw [sZ ZR, sZ Mc] at h0
 cases hc : (args.length + nt == fn.ntmps && x9 Of) with
 | false => rw [hc] at h0; cases h0
 | true =>
  rw [hc, cond_true] at h0
  simp only [Bool.and_eq_true, beq_iff_eq] at hc
  refine (YO xU tok (Lp hL.at) (Va _) hf (X6 hb) (Gi fn) hname hc.1.symm hc.2 h0).mono fun rv o ⟨l, e1, e2⟩ => ?_
  rw [acG] at e2; obtain rfl := Option.some.inj e2
  exact ⟨e1, rfl⟩
noncomputable def gq (sq : TV -> Option (Bool × ((t : DT) × List t.den))) (fn : Func) (L : List (Nat × bJ)) (rc : Nat -> Option (List (Option DT))) (fz : Nat -> Bool) (lv : List (Nat × Norm)) (en : End) (nt : Nat) (sg : List TV -> Option (List Md)) : bJ where
 ρ := List TV × List (Nat × TO)
 sig := sg
 ans := fun l o => fL fT l fun l => fL fP o fun o => cond (l.length + nt == fn.ntmps && x9 o) (bK (mkEq TI TY L rc fz sq) (dH lv) 60 en (dB fn) (bC fn) nt l o KD) none
 enc := fun _ _ r => sK r.1
 bQ := fun _ _ r => r.2
theorem at6 {sq : TV -> Option (Bool × ((t : DT) × List t.den))} (hQ : OG prog sq) {f : Nat} {fn : Func} {L : List (Nat × bJ)} {rc : Nat -> Option (List (Option DT))} {fz : Nat -> Bool} {lv : List (Nat × Norm)} {en : End} {nt : Nat} {sg : List TV -> Option (List Md)}
   (hf : prog.funcs[f]? = some fn) (hb : fn.body.isSome = true) (hname : (fn.name == "runtime.NumGoroutine") = false) (hL : JA L) : aC prog f (gq sq fn L rc fz lv en nt sg) := by
 intro args Of x hx
 have h0 : (fL fT args fun l => fL fP Of fun o => cond (l.length + nt == fn.ntmps && x9 o) (bK (mkEq TI TY L rc fz sq) (dH lv) 60 en (dB fn) (bC fn) nt l o KD) none) = some x := hx
 rw [sZ ZR, sZ Mc] at h0
 cases hc : (args.length + nt == fn.ntmps && x9 Of) with
 | false => rw [hc] at h0; cases h0
 | true =>
   rw [hc, cond_true] at h0
   simp only [Bool.and_eq_true, beq_iff_eq] at hc
   refine (YO (E := mkEq TI TY L rc fz sq) xU tok (show mW _ (dD TI TY L rc fz) from Lp hL.at) hQ hf (X6 hb) (Gi fn) hname hc.1.symm hc.2 h0).mono fun rv o ⟨l, e1, e2⟩ => ?_
   rw [acG] at e2; obtain rfl := Option.some.inj e2
   exact ⟨e1, rfl⟩
def gz : bJ := { ρ := Unit, sig := fun _ => none, ans := fun _ _ => none, enc := fun _ _ _ => .any, bQ := fun _ _ _ => [] }
theorem Nu (f : Nat) : aC prog f gz := fun _ _ _ h => by cases h
theorem dA {f : Nat} {fn : Func} {L : List (Nat × bJ)} {rc : Nat -> Option (List (Option DT))} {fz : Nat -> Bool} {lv : List (Nat × Norm)} {en : End} {nt : Nat} {sg : List TV -> Option (List Md)} (hf : prog.funcs[f]? = some fn) (hb : (fn.body.isSome && !(fn.name == "runtime.NumGoroutine")) = true) (hL : JA L) : aC prog f (gn fn L rc fz lv en nt sg) := at1 hf (bZ hb).1 (bZ hb).2 hL
end Go.Proofs.YtfopcfnggdonkaaGreatDoor
