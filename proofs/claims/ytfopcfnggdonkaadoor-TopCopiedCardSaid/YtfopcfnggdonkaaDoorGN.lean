/-
 Functions that are only run on examples: what is told of them is their reckoning itself.
-/
import Derived.Test.YtfopcfnggdonkaaDoorYD
namespace Go.Proofs.YtfopcfnggdonkaaDoor
open Go.RowKit
set_option linter.unusedVariables false

section
variable {β : Type}
def fN (n : Nat) (k : Nat → β) : β := match n with
 | 0 => k 0
 | m + 1 => k (m + 1)
theorem fN_eq (n : Nat) (k : Nat → β) : fN n k = k n := by cases n <;> rfl
def fZ (z : Int) (k : Int → β) : β := match z with
 | .ofNat n => fN n fun n => k (.ofNat n)
 | .negSucc n => fN n fun n => k (.negSucc n)
theorem fZ_eq (z : Int) (k : Int → β) : fZ z k = k z := by
 cases z with
 | ofNat n => exact fN_eq n fun n => k (.ofNat n)
 | negSucc n => exact fN_eq n fun n => k (.negSucc n)
def fB (b : Bool) (k : Bool → β) : β := match b with
 | true => k true
 | false => k false
theorem fB_eq (b : Bool) (k : Bool → β) : fB b k = k b := by cases b <;> rfl
def fL {α : Type} (f : α → (α → β) → β) : List α → (List α → β) → β
 | [], k => k []
 | x :: r, k => f x fun x => fL f r fun r => k (x :: r)
theorem fL_eq {α : Type} {f : α → (α → β) → β} (h : ∀ x k, f x k = k x) : ∀ (l : List α) (k : List α → β), fL f l k = k l
 | [], k => rfl
 | x :: r, k => by rw [fL, h, fL_eq h r]
def fD : (t : DT) → t.den → (t.den → β) → β
 | .int _, z, k => fZ z k
 | .bool, b, k => fB b k
 | .sl t, l, k => fL (fD t) l k
 | .csl t, l, k => fL (fD t) l k
 | .arr _ t, l, k => fL (fD t) l k
 | .nsl t, o, k => match o with
  | none => k none
  | some l => fL (fD t) l fun l => k (some l)
 | .pair a b, p, k => fD a p.1 fun x => fD b p.2 fun y => k (x, y)
 | _, y, k => k y
theorem fD_eq : ∀ (t : DT) (y : t.den) (k : t.den → β), fD t y k = k y := by
 intro t
 induction t with
 | int _ => exact fun y k => fZ_eq y k
 | bool => exact fun y k => fB_eq y k
 | sl t ih => exact fun y k => fL_eq ih y k
 | csl t ih => exact fun y k => fL_eq ih y k
 | arr n t ih => exact fun y k => fL_eq ih y k
 | nsl t ih =>
  intro y k
  cases y with
  | none => rfl
  | some l => exact fL_eq ih l _
 | pair a b iha ihb =>
  intro y k
  show fD a y.1 _ = _
  rw [iha, ihb]
 | _ => exact fun y k => rfl
def fT (x : TV) (k : TV → β) : β := match x with
 | .dv t y => fD t y fun y => k (.dv t y)
 | .row id => fN id fun id => k (.row id)
 | .el t y p => fD t y fun y => fL fN p fun p => k (.el t y p)
 | .ptr id i p => fN id fun id => fN i fun i => fL fN p fun p => k (.ptr id i p)
 | x => k x
theorem fT_eq (x : TV) (k : TV → β) : fT x k = k x := by
 cases x <;> simp only [fT, fD_eq, fN_eq, fL_eq fN_eq]
def fO (o : TO) (k : TO → β) : β := match o with
 | .row t l => fL (fD t) l fun l => k (.row t l)
 | .rcd fs => fL fT fs fun fs => k (.rcd fs)
 | o => k o
theorem fO_eq (o : TO) (k : TO → β) : fO o k = k o := by
 cases o with
 | row t l => exact fL_eq (fD_eq t) l _
 | rcd fs => exact fL_eq fT_eq fs _
 | _ => rfl
def fP (p : Nat × TO) (k : Nat × TO → β) : β := fN p.1 fun i => fO p.2 fun o => k (i, o)
theorem fP_eq (p : Nat × TO) (k : Nat × TO → β) : fP p k = k p := by rw [fP, fN_eq, fO_eq]
end
def decG (l : List TV) (o : List (Nat × TO)) : Option (List TV × List (Nat × TO)) := fL fT l fun l => fL fP o fun o => some (l, o)
theorem decG_eq (l : List TV) (o : List (Nat × TO)) : decG l o = some (l, o) := by rw [decG, fL_eq fT_eq, fL_eq fP_eq]
noncomputable def gn (fn : Func) (L : List (Nat × FnC)) (rc : Nat → Option (List (Option DT))) (fz : Nat → Bool) (lv : List (Nat × Norm)) (en : End) (nt : Nat) (sg : List TV → Option (List Md)) : FnC where
 ρ := List TV × List (Nat × TO)
 sig := sg
 ans := fun l o => fL fT l fun l => fL fP o fun o => cond (l.length + nt == fn.ntmps && pinAll o) (callF (mkE TI TY L rc fz) (norms lv) 60 en (bodyOf fn) (resOf fn) nt l o decG) none
 enc := fun _ _ r => tupOf r.1
 obs := fun _ _ r => r.2
def AllOk : List (Nat × FnC) → Prop
 | [] => True
 | p :: r => FnOk Tryd.prog p.1 p.2 ∧ AllOk r
theorem AllOk.at : ∀ {L : List (Nat × FnC)}, AllOk L → ∀ p ∈ L, FnOk Tryd.prog p.1 p.2
 | _ :: _, h, p, hp => by
  rcases List.mem_cons.1 hp with rfl | hp
  ·exact h.1
  ·exact h.2.at p hp
theorem gn_ok {f : Nat} {fn : Func} {L : List (Nat × FnC)} {rc : Nat → Option (List (Option DT))} {fz : Nat → Bool} {lv : List (Nat × Norm)} {en : End} {nt : Nat} {sg : List TV → Option (List Md)}
  (hf : Tryd.prog.funcs[f]? = some fn) (hb : fn.body.isSome = true) (hname : (fn.name == "runtime.NumGoroutine") = false) (hL : AllOk L) : FnOk Tryd.prog f (gn fn L rc fz lv en nt sg) := by
 intro args Of x hx
 have h0 : (fL fT args fun l => fL fP Of fun o => cond (l.length + nt == fn.ntmps && pinAll o) (callF (mkE TI TY L rc fz) (norms lv) 60 en (bodyOf fn) (resOf fn) nt l o decG) none) = some x := hx
 rw [fL_eq fT_eq, fL_eq fP_eq] at h0
 cases hc : (args.length + nt == fn.ntmps && pinAll Of) with
 | false => rw [hc] at h0; cases h0
 | true =>
  rw [hc, cond_true] at h0
  simp only [Bool.and_eq_true, beq_iff_eq] at hc
  refine (callF_ok hmix tok (envOk_of hL.at) (seqsOk_none _) hf (body_of hb) (res_of fn) hname hc.1.symm hc.2 h0).mono fun rv o ⟨l, e1, e2⟩ => ?_
  rw [decG_eq] at e2; obtain rfl := Option.some.inj e2
  exact ⟨e1, rfl⟩
end Go.Proofs.YtfopcfnggdonkaaDoor
