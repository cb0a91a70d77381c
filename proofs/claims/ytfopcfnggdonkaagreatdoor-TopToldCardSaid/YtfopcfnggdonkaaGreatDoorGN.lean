/-
 Functions that are only run on examples: what is told of them is their reckoning itself.
-/
import Derived.Test.YtfopcfnggdonkaaGreatDoorYD
namespace Go.Proofs.YtfopcfnggdonkaaGreatDoor
open Go.Proofs.Tryz
open Go.RowKit
set_option linter.unusedVariables false
section
variable {β : Type}
def fN (n : Nat) (k : Nat -> β) : β := match n with
 | 0 => k 0
 | m + 1 => k (m + 1)
theorem S9 (n : Nat) (k : Nat -> β) : fN n k = k n := by cases n <;> rfl
def fZ (z : Int) (k : Int -> β) : β := match z with
 | .ofNat n => fN n fun n => k (.ofNat n)
 | .negSucc n => fN n fun n => k (.negSucc n)
theorem auQ (z : Int) (k : Int -> β) : fZ z k = k z := by
 cases z with
 | ofNat n => exact S9 n fun n => k (.ofNat n)
 | negSucc n => exact S9 n fun n => k (.negSucc n)
def fB (b : Bool) (k : Bool -> β) : β := match b with
 | true => k true
 | false => k false
theorem auO (b : Bool) (k : Bool -> β) : fB b k = k b := by cases b <;> rfl
def fL {α : Type} (f : α -> (α -> β) -> β) : List α -> (List α -> β) -> β
 | [], k => k []
 | x :: r, k => f x fun x => fL f r fun r => k (x :: r)
theorem vJ {α : Type} {f : α -> (α -> β) -> β} (h : ∀ x k, f x k = k x) : ∀ (l : List α) (k : List α -> β), fL f l k = k l
 | [], k => rfl
 | x :: r, k => by rw [fL, h, vJ h r]
def fD : (t : DT) -> t.den -> (t.den -> β) -> β
 | .int _, z, k => fZ z k
 | .bool, b, k => fB b k
 | .sl t, l, k => fL (fD t) l k
 | .jT t, l, k => fL (fD t) l k
 | .arr _ t, l, k => fL (fD t) l k
 | .fJ t, o, k => match o with
  | none => k none
  | some l => fL (fD t) l fun l => k (some l)
 | .pair a b, p, k => fD a p.1 fun x => fD b p.2 fun y => k (x, y)
 | _, y, k => k y
theorem aeS : ∀ (t : DT) (y : t.den) (k : t.den -> β), fD t y k = k y := by
 intro t
 induction t with
 | int _ => exact fun y k => auQ y k
 | bool => exact fun y k => auO y k
 | sl t ih => exact fun y k => vJ ih y k
 | jT t ih => exact fun y k => vJ ih y k
 | arr n t ih => exact fun y k => vJ ih y k
 | fJ t ih =>
  intro y k
  cases y with
  | none => rfl
  | some l => exact vJ ih l _
 | pair a b iha ihb =>
  intro y k
  show fD a y.1 _ = _
  rw [iha, ihb]
 | _ => exact fun y k => rfl
def fT (x : TV) (k : TV -> β) : β := match x with
 | .dv t y => fD t y fun y => k (.dv t y)
 | .row id => fN id fun id => k (.row id)
 | .el t y p => fD t y fun y => fL fN p fun p => k (.el t y p)
 | .ptr id i p => fN id fun id => fN i fun i => fL fN p fun p => k (.ptr id i p)
 | x => k x
theorem Dv (x : TV) (k : TV -> β) : fT x k = k x := by
 cases x <;> simp only [fT, aeS, S9, vJ S9]
def fO (o : TO) (k : TO -> β) : β := match o with
 | .row t l => fL (fD t) l fun l => k (.row t l)
 | .aV fs => fL fT fs fun fs => k (.aV fs)
 | o => k o
theorem auP (o : TO) (k : TO -> β) : fO o k = k o := by
 cases o with
 | row t l => exact vJ (aeS t) l _
 | aV fs => exact vJ Dv fs _
 | _ => rfl
def fP (p : Nat × TO) (k : Nat × TO -> β) : β := fN p.1 fun i => fO p.2 fun o => k (i, o)
theorem Qz (p : Nat × TO) (k : Nat × TO -> β) : fP p k = k p := by rw [fP, S9, auP]
end
def ND (l : List TV) (o : List (Nat × TO)) : Option (List TV × List (Nat × TO)) := fL fT l fun l => fL fP o fun o => some (l, o)
theorem aeD (l : List TV) (o : List (Nat × TO)) : ND l o = some (l, o) := by rw [ND, vJ Dv, vJ Qz]
noncomputable def gn (fn : Func) (L : List (Nat × bT)) (rc : Nat -> Option (List (Option DT))) (fz : Nat -> Bool) (lv : List (Nat × Norm)) (en : End) (nt : Nat) (sg : List TV -> Option (List Md)) : bT where
 ρ := List TV × List (Nat × TO)
 sig := sg
 ans := fun l o => fL fT l fun l => fL fP o fun o => cond (l.length + nt == fn.ntmps && wY o) (bK (dF TI TY L rc fz) (dN lv) 60 en (dE fn) (aY fn) nt l o ND) none
 enc := fun _ _ r => sJ r.1
 cZ := fun _ _ r => r.2
def KP : List (Nat × bT) -> Prop
 | [] => True
 | p :: r => aF prog p.1 p.2 /\ KP r
theorem KP.at : ∀ {L : List (Nat × bT)}, KP L -> ∀ p ∈ L, aF prog p.1 p.2
 | _ :: _, h, p, hp => by
  rcases List.mem_cons.1 hp with rfl | hp
  ·exact h.1
  ·exact h.2.at p hp
theorem avD {f : Nat} {fn : Func} {L : List (Nat × bT)} {rc : Nat -> Option (List (Option DT))} {fz : Nat -> Bool} {lv : List (Nat × Norm)} {en : End} {nt : Nat} {sg : List TV -> Option (List Md)}
  (hf : prog.funcs[f]? = some fn) (hb : fn.body.isSome = true) (hname : (fn.name == "runtime.NumGoroutine") = false) (hL : KP L) : aF prog f (gn fn L rc fz lv en nt sg) := by
 intro args Of x hx
 have h0 : (fL fT args fun l => fL fP Of fun o => cond (l.length + nt == fn.ntmps && wY o) (bK (dF TI TY L rc fz) (dN lv) 60 en (dE fn) (aY fn) nt l o ND) none) = some x := hx
 rw [vJ Dv, vJ Qz] at h0
 cases hc : (args.length + nt == fn.ntmps && wY Of) with
 | false => rw [hc] at h0; cases h0
 | true =>
  rw [hc, cond_true] at h0
  simp only [Bool.and_eq_true, beq_iff_eq] at hc
  refine (MV wL tok (SY hL.at) (Jy _) hf (MP hb) (OV fn) hname hc.1.symm hc.2 h0).mono fun rv o ⟨l, e1, e2⟩ => ?_
  rw [aeD] at e2; obtain rfl := Option.some.inj e2
  exact ⟨e1, rfl⟩
noncomputable def gq (sq : TV -> Option (Bool × ((t : DT) × List t.den))) (fn : Func) (L : List (Nat × bT)) (rc : Nat -> Option (List (Option DT))) (fz : Nat -> Bool) (lv : List (Nat × Norm)) (en : End) (nt : Nat) (sg : List TV -> Option (List Md)) : bT where
 ρ := List TV × List (Nat × TO)
 sig := sg
 ans := fun l o => fL fT l fun l => fL fP o fun o => cond (l.length + nt == fn.ntmps && wY o) (bK (mkEq TI TY L rc fz sq) (dN lv) 60 en (dE fn) (aY fn) nt l o ND) none
 enc := fun _ _ r => sJ r.1
 cZ := fun _ _ r => r.2
theorem avE {sq : TV -> Option (Bool × ((t : DT) × List t.den))} (hQ : IM prog sq) {f : Nat} {fn : Func} {L : List (Nat × bT)} {rc : Nat -> Option (List (Option DT))} {fz : Nat -> Bool} {lv : List (Nat × Norm)} {en : End} {nt : Nat} {sg : List TV -> Option (List Md)}
   (hf : prog.funcs[f]? = some fn) (hb : fn.body.isSome = true) (hname : (fn.name == "runtime.NumGoroutine") = false) (hL : KP L) : aF prog f (gq sq fn L rc fz lv en nt sg) := by
 intro args Of x hx
 have h0 : (fL fT args fun l => fL fP Of fun o => cond (l.length + nt == fn.ntmps && wY o) (bK (mkEq TI TY L rc fz sq) (dN lv) 60 en (dE fn) (aY fn) nt l o ND) none) = some x := hx
 rw [vJ Dv, vJ Qz] at h0
 cases hc : (args.length + nt == fn.ntmps && wY Of) with
 | false => rw [hc] at h0; cases h0
 | true =>
   rw [hc, cond_true] at h0
   simp only [Bool.and_eq_true, beq_iff_eq] at hc
   refine (MV (E := mkEq TI TY L rc fz sq) wL tok (show oW _ (dF TI TY L rc fz) from SY hL.at) hQ hf (MP hb) (OV fn) hname hc.1.symm hc.2 h0).mono fun rv o ⟨l, e1, e2⟩ => ?_
   rw [aeD] at e2; obtain rfl := Option.some.inj e2
   exact ⟨e1, rfl⟩
def gz : bT := { ρ := Unit, sig := fun _ => none, ans := fun _ _ => none, enc := fun _ _ _ => .any, cZ := fun _ _ _ => [] }
theorem Ry (f : Nat) : aF prog f gz := fun _ _ _ h => by cases h
theorem dL {f : Nat} {fn : Func} {L : List (Nat × bT)} {rc : Nat -> Option (List (Option DT))} {fz : Nat -> Bool} {lv : List (Nat × Norm)} {en : End} {nt : Nat} {sg : List TV -> Option (List Md)} (hf : prog.funcs[f]? = some fn) (hb : (fn.body.isSome && !(fn.name == "runtime.NumGoroutine")) = true) (hL : KP L) : aF prog f (gn fn L rc fz lv en nt sg) := avD hf (bZ hb).1 (bZ hb).2 hL
end Go.Proofs.YtfopcfnggdonkaaGreatDoor
