/-
 The functions that the law reaches, told as plain functions.
-/
import Derived.Test.YtfopcfnggdonkaaGreatDoorQFK
import Derived.Test.YtfopcfnggdonkaaGreatDoorWCM
namespace Go.Proofs.YtfopcfnggdonkaaGreatDoor
open Go.Proofs.Tryz
open Go.RowKit
set_option linter.unusedVariables false
noncomputable section
abbrev fF := List Int × List Int × Unit
abbrev rJ : DT := .pair (.sl (.int .i64)) (.pair (.sl (.int .i64)) (.unit))
abbrev A7 := (List Int) -> Int -> Option (Bool)
abbrev lL := Int -> Int -> Int -> Option (Bool)
abbrev kR := Int -> LL -> Option (Int)
abbrev xN := TS -> Option (Int)
abbrev lF := Int -> (List (List Int × List Int × Unit)) -> Option (Int)
abbrev lG := (List (List Int × List Int × Unit)) -> Int -> Int -> Option (List Int)
abbrev nG := Int -> Option (List Int)
abbrev nH := (List Int) -> (List Int) -> Option (Bool)
abbrev A8 := Int -> Option (Bool)
abbrev BA := (List Int) -> Option (Bool)
def E32 : Env := dF TI TY [] aX aU
def c32 : Code := dE Tryz.f32
def ay6 : Nat -> Option Norm := dN []
def atP : End := ⟨[], ⟨[15], [], [], []⟩⟩
def adS (l : List TV) (o : List (Nat × TO)) : Option (Bool) := match l, o with | [.dv (.bool) x0], [] => some (x0) | _, _ => none
def m32 (N : Nat) (dR : Int) (n1 : Int) (hi2 : Int) : Option (Bool) :=
   cond (decide (dR <= n1)) (some (decide (n1 <= hi2)))
   (some false)
theorem k32 (N : Nat) (dR : Int) (n1 : Int) (hi2 : Int) : bK (E32) ay6 N atP c32 (aY Tryz.f32) 12 [.dv (.int .i64) dR, .dv (.int .i64) n1, .dv (.int .i64) hi2] [] adS = m32 N dR n1 hi2 := by kernel_rfl
theorem ok32 (a : Int -> Int -> Int -> Option (Bool)) (h : ∀ dR n1 hi2 r, a dR n1 hi2 = some r -> (∃ N, m32 N dR n1 hi2 = some r)) : aF prog 32 (yN a) := by
 intro args Of x hx
 simp only [yN] at hx
 split at hx
 ·rename_i dR n1 hi2
  obtain ⟨N, hN⟩ := h _ _ _ _ hx
  refine dZ func32 (by kernel_rfl) (by kernel_rfl) rfl dY ((k32 N _ _ _).trans hN) fun l o hd => ?_
  simp only [adS] at hd
  split at hd
  ·obtain rfl := aC hd; exact ⟨rfl, rfl⟩
  ·cases hd
 ·cases hx
def WW (J : A7) : Env := dF TI TY [(41, yO J)] aX aU
def Ad : Code := dE Tryz.f67
def ahV : Norm := ⟨[0, 5, 8, 9, 10], [], [], []⟩
def Gt : Nat -> Option Norm := dN [(3, ahV)]
def Ql : End := ⟨[], ⟨[21], [], [], []⟩⟩
def Bz (l : List TV) (o : List (Nat × TO)) : Option (Int) := match l, o with | [.dv (.int .i64) x0], [] => some (x0) | _, _ => none
def SA (lS : Int) (kC : LL) (gY : Int) (bY : Int) : TS := ⟨slots 21 [(0, .dv (.int .i64) lS), (5, .dv (.int .i64) gY), (8, .dv (.sl (.sl (.int .i64))) kC), (9, .dv (.int .i64) (kC.length : Int)), (10, .dv (.int .i64) bY)], []⟩
def apN (J : A7) (N : Nat) : dD (Int) := eH (WW J) Gt N Ad [1, 1, 0, 1, 0] (fin TI Ql (aY Tryz.f67) Bz)
def Q5 (J : A7) (N : Nat) (m : Nat) : TS -> Option (Int) := dW (den (WW J) Gt N (sub Ad [1, 1, 0, 1, 0, 0])) (TS.norm ahV) (apN J N) m
def F7 (J : A7) (N : Nat) (lS : Int) (kC : LL) : Nat -> Int -> Int -> Option (Int)
 | 0, _, _ => none
 | n + 1, gY, bY => cond (decide (bY < (kC.length : Int))) (chk (decide (0 <= bY /\ bY < (kC.length : Int))) ((J (kC.getD bY.toNat ([] : List Int)) lS).bind fun r1 =>
   cond (r1) ((F7 J N lS kC n (aB (gY + 1)) (aB (bY + 1))))
   ((F7 J N lS kC n gY (aB (bY + 1))))))
   (some gY)
theorem aIT (J : A7) (N : Nat) (lS : Int) (kC : LL) (m : Nat) (gY : Int) (bY : Int) : Q5 J N (m + 1) (SA lS kC gY bY) = cond (decide (bY < (kC.length : Int))) (chk (decide (0 <= bY /\ bY < (kC.length : Int))) ((J (kC.getD bY.toNat ([] : List Int)) lS).bind fun r1 =>
   cond (r1) ((Q5 J N m (SA lS kC (aB (gY + 1)) (aB (bY + 1)))))
   ((Q5 J N m (SA lS kC gY (aB (bY + 1)))))))
   (some gY) := by kernel_rfl
theorem akC (J : A7) (N : Nat) (lS : Int) (kC : LL) : ∀ (m : Nat) (gY : Int) (bY : Int), Q5 J N m (SA lS kC gY bY) = F7 J N lS kC m gY bY
        | 0, _, _ => rfl
        | m + 1, gY, bY => by rw [aIT]; simp only [F7, akC J N lS kC m]
def Ie (J : A7) (N : Nat) (lS : Int) (kC : LL) : Option (Int) :=
   (F7 J N lS kC N (0 : Int) (0 : Int))
theorem aJO (J : A7) (N : Nat) (lS : Int) (kC : LL) : bK (WW J) Gt N Ql Ad (aY Tryz.f67) 19 [.dv (.int .i64) lS, .dv (.sl (.sl (.int .i64))) kC] [] Bz = (Q5 J N N (SA lS kC (0 : Int) (0 : Int))) := by kernel_rfl
theorem k67 (J : A7) (N : Nat) (lS : Int) (kC : LL) : bK (WW J) Gt N Ql Ad (aY Tryz.f67) 19 [.dv (.int .i64) lS, .dv (.sl (.sl (.int .i64))) kC] [] Bz = Ie J N lS kC := by rw [aJO]; simp only [Ie, akC]
theorem aBU (J : A7) (Sj : aF prog 41 (yO J)) (a : Int -> LL -> Option (Int)) (h : ∀ lS kC r, a lS kC = some r -> (∃ N, Ie J N lS kC = some r)) : aF prog 67 (H9 a) := by
 intro args Of x hx
 simp only [H9] at hx
 split at hx
 ·rename_i lS kC
  obtain ⟨N, hN⟩ := h _ _ _ hx
  refine dZ func67 (by kernel_rfl) (by kernel_rfl) rfl (dK Sj dY) ((k67 J N _ _).trans hN) fun l o hd => ?_
  simp only [Bz] at hd
  split at hd
  ·obtain rfl := aC hd; exact ⟨rfl, rfl⟩
  ·cases hd
 ·cases hx
def FB (D : lL) (A : kR) : Env := dF TI TY [(32, yN D), (67, H9 A)] aX aU
def c31 : Code := dE Tryz.f31
def Xv : Norm := ⟨[0, 20, 21, 22], [], [], []⟩
def Xw : Norm := ⟨[0, 6, 20, 21, 22, 49, 50, 51], [6, 49], [], []⟩
def ahJ : Norm := ⟨[0, 6, 7, 9, 20, 21, 22, 49, 50, 51, 56, 57, 58], [6, 49], [], []⟩
def GI : Nat -> Option Norm := dN [(6, Xv), (13, Xw), (17, ahJ)]
def Qe : End := ⟨[], ⟨[89], [], [], []⟩⟩
def Bi (l : List TV) (o : List (Nat × TO)) : Option (Int) := match l, o with | [.dv (.int .i64) x0], [] => some (x0) | _, _ => none
def RV (aH : Int) (aK : List fF) (bI : Int) (fC : Int) (CE : Int) (lU : Int) : TS := ⟨slots 89 [(0, .dv (.int .i64) aH), (6, .ptr 6 0 []), (7, .dv (.int .i64) fC), (9, .dv (.int .i64) CE), (20, .dv (.sl rJ) aK), (21, .dv (.int .i64) (aK.length : Int)), (22, .dv (.int .i64) bI), (49, .row 49), (50, .dv (.int .i64) (2 : Int)), (51, .dv (.int .i64) fC), (56, .dv (.sl (.int .i64)) (([(aK.getD bI.toNat (([] : List Int), (([] : List Int), ()))).1, ((aK.getD bI.toNat (([] : List Int), (([] : List Int), ()))).2).1] : LL).getD fC.toNat ([] : List Int))), (57, .dv (.int .i64) ((([(aK.getD bI.toNat (([] : List Int), (([] : List Int), ()))).1, ((aK.getD bI.toNat (([] : List Int), (([] : List Int), ()))).2).1] : LL).getD fC.toNat ([] : List Int)).length : Int)), (58, .dv (.int .i64) lU)], [(6, .row rJ ([aK.getD bI.toNat (([] : List Int), (([] : List Int), ()))] : List fF)), (49, .row (.sl (.int .i64)) ([(aK.getD bI.toNat (([] : List Int), (([] : List Int), ()))).1, ((aK.getD bI.toNat (([] : List Int), (([] : List Int), ()))).2).1] : LL))]⟩
def RU (aH : Int) (aK : List fF) (bI : Int) (fC : Int) : TS := ⟨slots 89 [(0, .dv (.int .i64) aH), (6, .ptr 6 0 []), (20, .dv (.sl rJ) aK), (21, .dv (.int .i64) (aK.length : Int)), (22, .dv (.int .i64) bI), (49, .row 49), (50, .dv (.int .i64) (2 : Int)), (51, .dv (.int .i64) fC)], [(6, .row rJ ([aK.getD bI.toNat (([] : List Int), (([] : List Int), ()))] : List fF)), (49, .row (.sl (.int .i64)) ([(aK.getD bI.toNat (([] : List Int), (([] : List Int), ()))).1, ((aK.getD bI.toNat (([] : List Int), (([] : List Int), ()))).2).1] : LL))]⟩
def RS (aH : Int) (aK : List fF) (bI : Int) : TS := ⟨slots 89 [(0, .dv (.int .i64) aH), (20, .dv (.sl rJ) aK), (21, .dv (.int .i64) (aK.length : Int)), (22, .dv (.int .i64) bI)], []⟩
def abS (D : lL) (A : kR) (N : Nat) : dD (Int) := eH (FB D A) GI N c31 [1, 1, 0, 1, 0] (fin TI Qe (aY Tryz.f31) Bi)
def YB (D : lL) (A : kR) (N : Nat) (m : Nat) : TS -> Option (Int) := dW (den (FB D A) GI N (sub c31 [1, 1, 0, 1, 0, 0])) (TS.norm Xv) (abS D A N) m
def abT (D : lL) (A : kR) (N : Nat) (oJ : xN) : dD (Int) := eH (FB D A) GI N (sub c31 [1, 1, 0, 1, 0, 0]) [1, 1, 0, 0, 1, 1, 1, 0] (sD (TS.norm Xv) (abS D A N) oJ)
def YC (D : lL) (A : kR) (N : Nat) (oJ : xN) (m : Nat) : TS -> Option (Int) := dW (den (FB D A) GI N (sub c31 [1, 1, 0, 1, 0, 0, 1, 1, 0, 0, 1, 1, 1, 0, 0])) (TS.norm Xw) (abT D A N oJ) m
def apA (D : lL) (A : kR) (N : Nat) (oJ : xN) (xM : xN) : dD (Int) := eH (FB D A) GI N (sub c31 [1, 1, 0, 1, 0, 0, 1, 1, 0, 0, 1, 1, 1, 0, 0]) [1, 1, 0, 0, 1, 1, 1, 0] (sD (TS.norm Xw) (abT D A N oJ) xM)
def QY (D : lL) (A : kR) (N : Nat) (oJ : xN) (xM : xN) (m : Nat) : TS -> Option (Int) := dW (den (FB D A) GI N (sub c31 [1, 1, 0, 1, 0, 0, 1, 1, 0, 0, 1, 1, 1, 0, 0, 1, 1, 0, 0, 1, 1, 1, 0, 0])) (TS.norm ahJ) (apA D A N oJ xM) m
def wQ (D : lL) (A : kR) (N : Nat) (aH : Int) (aK : List fF) (bI : Int) (fC : Int) (Uy : Int -> Option (Int)) : Nat -> Int -> Int -> Option (Int)
 | 0, _, _ => none
 | n + 1, CE, lU => cond (decide (lU < ((([(aK.getD bI.toNat (([] : List Int), (([] : List Int), ()))).1, ((aK.getD bI.toNat (([] : List Int), (([] : List Int), ()))).2).1] : LL).getD fC.toNat ([] : List Int)).length : Int))) (chk (decide (0 <= lU /\ lU < ((([(aK.getD bI.toNat (([] : List Int), (([] : List Int), ()))).1, ((aK.getD bI.toNat (([] : List Int), (([] : List Int), ()))).2).1] : LL).getD fC.toNat ([] : List Int)).length : Int))) ((D (0 : Int) ((([(aK.getD bI.toNat (([] : List Int), (([] : List Int), ()))).1, ((aK.getD bI.toNat (([] : List Int), (([] : List Int), ()))).2).1] : LL).getD fC.toNat ([] : List Int)).getD lU.toNat 0) (aB (aH - (1 : Int)))).bind fun r2 =>
   cond (!r2) (some (5 : Int))
   (cond (decide (((([(aK.getD bI.toNat (([] : List Int), (([] : List Int), ()))).1, ((aK.getD bI.toNat (([] : List Int), (([] : List Int), ()))).2).1] : LL).getD fC.toNat ([] : List Int)).getD lU.toNat 0) <= CE)) (some (7 : Int))
   (cond (fC == (1 : Int)) ((A ((([(aK.getD bI.toNat (([] : List Int), (([] : List Int), ()))).1, ((aK.getD bI.toNat (([] : List Int), (([] : List Int), ()))).2).1] : LL).getD fC.toNat ([] : List Int)).getD lU.toNat 0) ([(aK.getD bI.toNat (([] : List Int), (([] : List Int), ()))).1, ((aK.getD bI.toNat (([] : List Int), (([] : List Int), ()))).2).1] : LL)).bind fun r3 =>
   cond (r3 == (2 : Int)) (some (6 : Int))
   ((wQ D A N aH aK bI fC Uy n ((([(aK.getD bI.toNat (([] : List Int), (([] : List Int), ()))).1, ((aK.getD bI.toNat (([] : List Int), (([] : List Int), ()))).2).1] : LL).getD fC.toNat ([] : List Int)).getD lU.toNat 0) (aB (lU + 1)))))
   ((wQ D A N aH aK bI fC Uy n ((([(aK.getD bI.toNat (([] : List Int), (([] : List Int), ()))).1, ((aK.getD bI.toNat (([] : List Int), (([] : List Int), ()))).2).1] : LL).getD fC.toNat ([] : List Int)).getD lU.toNat 0) (aB (lU + 1))))))))
   ((Uy (aB (fC + 1))))
theorem aIF (D : lL) (A : kR) (N : Nat) (aH : Int) (aK : List fF) (bI : Int) (fC : Int) (oJ : xN) (xM : xN) (m : Nat) (CE : Int) (lU : Int) : QY D A N oJ xM (m + 1) (RV aH aK bI fC CE lU) = cond (decide (lU < ((([(aK.getD bI.toNat (([] : List Int), (([] : List Int), ()))).1, ((aK.getD bI.toNat (([] : List Int), (([] : List Int), ()))).2).1] : LL).getD fC.toNat ([] : List Int)).length : Int))) (chk (decide (0 <= lU /\ lU < ((([(aK.getD bI.toNat (([] : List Int), (([] : List Int), ()))).1, ((aK.getD bI.toNat (([] : List Int), (([] : List Int), ()))).2).1] : LL).getD fC.toNat ([] : List Int)).length : Int))) ((D (0 : Int) ((([(aK.getD bI.toNat (([] : List Int), (([] : List Int), ()))).1, ((aK.getD bI.toNat (([] : List Int), (([] : List Int), ()))).2).1] : LL).getD fC.toNat ([] : List Int)).getD lU.toNat 0) (aB (aH - (1 : Int)))).bind fun r2 =>
   cond (!r2) (some (5 : Int))
   (cond (decide (((([(aK.getD bI.toNat (([] : List Int), (([] : List Int), ()))).1, ((aK.getD bI.toNat (([] : List Int), (([] : List Int), ()))).2).1] : LL).getD fC.toNat ([] : List Int)).getD lU.toNat 0) <= CE)) (some (7 : Int))
   (cond (fC == (1 : Int)) ((A ((([(aK.getD bI.toNat (([] : List Int), (([] : List Int), ()))).1, ((aK.getD bI.toNat (([] : List Int), (([] : List Int), ()))).2).1] : LL).getD fC.toNat ([] : List Int)).getD lU.toNat 0) ([(aK.getD bI.toNat (([] : List Int), (([] : List Int), ()))).1, ((aK.getD bI.toNat (([] : List Int), (([] : List Int), ()))).2).1] : LL)).bind fun r3 =>
   cond (r3 == (2 : Int)) (some (6 : Int))
   ((QY D A N oJ xM m (RV aH aK bI fC ((([(aK.getD bI.toNat (([] : List Int), (([] : List Int), ()))).1, ((aK.getD bI.toNat (([] : List Int), (([] : List Int), ()))).2).1] : LL).getD fC.toNat ([] : List Int)).getD lU.toNat 0) (aB (lU + 1))))))
   ((QY D A N oJ xM m (RV aH aK bI fC ((([(aK.getD bI.toNat (([] : List Int), (([] : List Int), ()))).1, ((aK.getD bI.toNat (([] : List Int), (([] : List Int), ()))).2).1] : LL).getD fC.toNat ([] : List Int)).getD lU.toNat 0) (aB (lU + 1)))))))))
   ((xM (RU aH aK bI (aB (fC + 1))))) := by kernel_rfl
theorem ajX (D : lL) (A : kR) (N : Nat) (aH : Int) (aK : List fF) (bI : Int) (fC : Int) (oJ : xN) (xM : xN) : ∀ (m : Nat) (CE : Int) (lU : Int), QY D A N oJ xM m (RV aH aK bI fC CE lU) = wQ D A N aH aK bI fC (fun y0 => xM (RU aH aK bI y0)) m CE lU
        | 0, _, _ => rfl
        | m + 1, CE, lU => by rw [aIF]; simp only [wQ, ajX D A N aH aK bI fC oJ xM m]
def l31b (D : lL) (A : kR) (N : Nat) (aH : Int) (aK : List fF) (bI : Int) (af9 : Int -> Option (Int)) : Nat -> Int -> Option (Int)
 | 0, _ => none
 | n + 1, fC => cond (decide (fC < (2 : Int))) (chk (decide (0 <= fC /\ fC < (2 : Int))) ((wQ D A N aH aK bI fC (fun y0 => (l31b D A N aH aK bI af9 n y0)) N (-1 : Int) (0 : Int))))
   ((af9 (aB (bI + 1))))
theorem aIE (D : lL) (A : kR) (N : Nat) (aH : Int) (aK : List fF) (bI : Int) (oJ : xN) (m : Nat) (fC : Int) : YC D A N oJ (m + 1) (RU aH aK bI fC) = cond (decide (fC < (2 : Int))) (chk (decide (0 <= fC /\ fC < (2 : Int))) ((QY D A N oJ (YC D A N oJ m) N (RV aH aK bI fC (-1 : Int) (0 : Int)))))
   ((oJ (RS aH aK (aB (bI + 1))))) := by kernel_rfl
theorem ajW (D : lL) (A : kR) (N : Nat) (aH : Int) (aK : List fF) (bI : Int) (oJ : xN) : ∀ (m : Nat) (fC : Int), YC D A N oJ m (RU aH aK bI fC) = l31b D A N aH aK bI (fun y0 => oJ (RS aH aK y0)) m fC
        | 0, _ => rfl
        | m + 1, fC => by rw [aIE]; simp only [l31b, ajX, ajW D A N aH aK bI oJ m]
def l31a (D : lL) (A : kR) (N : Nat) (aH : Int) (aK : List fF) : Nat -> Int -> Option (Int)
 | 0, _ => none
 | n + 1, bI => cond (decide (bI < (aK.length : Int))) (chk (decide (0 <= bI /\ bI < (aK.length : Int))) (cond ((((aK.getD bI.toNat (([] : List Int), (([] : List Int), ()))).1).length : Int) == (0 : Int)) (some (1 : Int))
   (cond (((((aK.getD bI.toNat (([] : List Int), (([] : List Int), ()))).2).1).length : Int) == (0 : Int)) (some (1 : Int))
   (cond ((((aK.getD bI.toNat (([] : List Int), (([] : List Int), ()))).1).length : Int) != ((((aK.getD bI.toNat (([] : List Int), (([] : List Int), ()))).2).1).length : Int)) (some (9 : Int))
   ((l31b D A N aH aK bI (fun y0 => (l31a D A N aH aK n y0)) N (0 : Int)))))))
   (some (0 : Int))
theorem aID (D : lL) (A : kR) (N : Nat) (aH : Int) (aK : List fF) (m : Nat) (bI : Int) : YB D A N (m + 1) (RS aH aK bI) = cond (decide (bI < (aK.length : Int))) (chk (decide (0 <= bI /\ bI < (aK.length : Int))) (cond ((((aK.getD bI.toNat (([] : List Int), (([] : List Int), ()))).1).length : Int) == (0 : Int)) (some (1 : Int))
   (cond (((((aK.getD bI.toNat (([] : List Int), (([] : List Int), ()))).2).1).length : Int) == (0 : Int)) (some (1 : Int))
   (cond ((((aK.getD bI.toNat (([] : List Int), (([] : List Int), ()))).1).length : Int) != ((((aK.getD bI.toNat (([] : List Int), (([] : List Int), ()))).2).1).length : Int)) (some (9 : Int))
   ((YC D A N (YB D A N m) N (RU aH aK bI (0 : Int))))))))
   (some (0 : Int)) := by kernel_rfl
theorem ajV (D : lL) (A : kR) (N : Nat) (aH : Int) (aK : List fF) : ∀ (m : Nat) (bI : Int), YB D A N m (RS aH aK bI) = l31a D A N aH aK m bI
        | 0, _ => rfl
        | m + 1, bI => by rw [aID]; simp only [l31a, ajW, ajV D A N aH aK m]
def Ht (D : lL) (A : kR) (N : Nat) (aH : Int) (aK : List fF) : Option (Int) :=
   (D (1 : Int) aH (13 : Int)).bind fun r1 =>
   cond (!r1) (some (3 : Int))
   (cond (decide ((aK.length : Int) > (3 : Int))) (some (2 : Int))
   ((l31a D A N aH aK N (0 : Int))))
theorem aJH (D : lL) (A : kR) (N : Nat) (aH : Int) (aK : List fF) : bK (FB D A) GI N Qe c31 (aY Tryz.f31) 87 [.dv (.int .i64) aH, .dv (.sl rJ) aK] [] Bi = (D (1 : Int) aH (13 : Int)).bind fun r1 =>
   cond (!r1) (some (3 : Int))
   (cond (decide ((aK.length : Int) > (3 : Int))) (some (2 : Int))
   ((YB D A N N (RS aH aK (0 : Int))))) := by kernel_rfl
theorem k31 (D : lL) (A : kR) (N : Nat) (aH : Int) (aK : List fF) : bK (FB D A) GI N Qe c31 (aY Tryz.f31) 87 [.dv (.int .i64) aH, .dv (.sl rJ) aK] [] Bi = Ht D A N aH aK := by rw [aJH]; simp only [Ht, ajV]
theorem aBC (D : lL) (A : kR) (h32 : aF prog 32 (yN D)) (Sm : aF prog 67 (H9 A)) (a : Int -> (List fF) -> Option (Int)) (h : ∀ aH aK r, a aH aK = some r -> (∃ N, Ht D A N aH aK = some r)) : aF prog 31 (DN a) := by
 intro args Of x hx
 simp only [DN] at hx
 split at hx
 ·rename_i aH aK
  obtain ⟨N, hN⟩ := h _ _ _ hx
  refine dZ func31 (by kernel_rfl) (by kernel_rfl) rfl (dK h32 (dK Sm dY)) ((k31 D A N _ _).trans hN) fun l o hd => ?_
  simp only [Bi] at hd
  split at hd
  ·obtain rfl := aC hd; exact ⟨rfl, rfl⟩
  ·cases hd
 ·cases hx
def WR (A : kR) : Env := dF TI TY [(67, H9 A)] aX aU
def Z8 : Code := dE Tryz.f33
def ahK : Norm := ⟨[1, 2, 7, 13, 14, 15], [12], [], []⟩
def Gm : Nat -> Option Norm := dN [(3, ahK)]
def Qg : End := ⟨[(38, .sl (.int .i64))], ⟨[38], [], [], []⟩⟩
def Bj (l : List TV) (o : List (Nat × TO)) : Option (List Int) := match l, o with | [.dv (.sl (.int .i64)) x0], [] => some (x0) | _, _ => none
def Y3 (iJ : List fF) (lN : Int) (mY : Int) (mV : Int) (vT : List Int) : TS := ⟨slots 38 [(1, .dv (.int .i64) lN), (2, .dv (.int .i64) mY), (7, .row 12), (13, .dv (.sl rJ) iJ), (14, .dv (.int .i64) (iJ.length : Int)), (15, .dv (.int .i64) mV)], [(12, .row (.int .i64) vT)]⟩
def apB (A : kR) (N : Nat) : dD (List Int) := eH (WR A) Gm N Z8 [1, 1, 0, 1, 0] (fin TI Qg (aY Tryz.f33) Bj)
def YD (A : kR) (N : Nat) (m : Nat) : TS -> Option (List Int) := dW (den (WR A) Gm N (sub Z8 [1, 1, 0, 1, 0, 0])) (TS.norm ahK) (apB A N) m
def l33a (A : kR) (N : Nat) (iJ : List fF) (lN : Int) (mY : Int) : Nat -> Int -> (List Int) -> Option (List Int)
 | 0, _, _ => none
 | n + 1, mV, vT => cond (decide (mV < (iJ.length : Int))) (chk (decide (0 <= mV /\ mV < (iJ.length : Int))) ((A lN ([((iJ.getD mV.toNat (([] : List Int), (([] : List Int), ()))).2).1] : LL)).bind fun r1 =>
   (A lN ([(iJ.getD mV.toNat (([] : List Int), (([] : List Int), ()))).1] : LL)).bind fun r2 =>
   chk (decide (0 <= mV /\ mV < (vT.length : Int))) ((l33a A N iJ lN mY n (aB (mV + 1)) (vT.set mV.toNat (aB (mY * (aB (r1 - r2)))))))))
   (some vT)
theorem aIG (A : kR) (N : Nat) (iJ : List fF) (lN : Int) (mY : Int) (m : Nat) (mV : Int) (vT : List Int) : YD A N (m + 1) (Y3 iJ lN mY mV vT) = cond (decide (mV < (iJ.length : Int))) (chk (decide (0 <= mV /\ mV < (iJ.length : Int))) ((A lN ([((iJ.getD mV.toNat (([] : List Int), (([] : List Int), ()))).2).1] : LL)).bind fun r1 =>
   (A lN ([(iJ.getD mV.toNat (([] : List Int), (([] : List Int), ()))).1] : LL)).bind fun r2 =>
   chk (decide (0 <= mV /\ mV < (vT.length : Int))) ((YD A N m (Y3 iJ lN mY (aB (mV + 1)) (vT.set mV.toNat (aB (mY * (aB (r1 - r2))))))))))
   (some vT) := by kernel_rfl
theorem ajY (A : kR) (N : Nat) (iJ : List fF) (lN : Int) (mY : Int) : ∀ (m : Nat) (mV : Int) (vT : List Int), YD A N m (Y3 iJ lN mY mV vT) = l33a A N iJ lN mY m mV vT
        | 0, _, _ => rfl
        | m + 1, mV, vT => by rw [aIG]; simp only [l33a, ajY A N iJ lN mY m]
def Hu (A : kR) (N : Nat) (iJ : List fF) (lN : Int) (mY : Int) : Option (List Int) :=
   chk (wU (iJ.length : Int) (iJ.length : Int) 8) ((l33a A N iJ lN mY N (0 : Int) (List.replicate ((iJ.length : Int).toNat) (0 : Int))))
theorem aJI (A : kR) (N : Nat) (iJ : List fF) (lN : Int) (mY : Int) : bK (WR A) Gm N Qg Z8 (aY Tryz.f33) 35 [.dv (.sl rJ) iJ, .dv (.int .i64) lN, .dv (.int .i64) mY] [] Bj = chk (wU (iJ.length : Int) (iJ.length : Int) 8) ((YD A N N (Y3 iJ lN mY (0 : Int) (List.replicate ((iJ.length : Int).toNat) (0 : Int))))) := by kernel_rfl
theorem k33 (A : kR) (N : Nat) (iJ : List fF) (lN : Int) (mY : Int) : bK (WR A) Gm N Qg Z8 (aY Tryz.f33) 35 [.dv (.sl rJ) iJ, .dv (.int .i64) lN, .dv (.int .i64) mY] [] Bj = Hu A N iJ lN mY := by rw [aJI]; simp only [Hu, ajY]
theorem aBD (A : kR) (Sm : aF prog 67 (H9 A)) (a : (List fF) -> Int -> Int -> Option (List Int)) (h : ∀ iJ lN mY r, a iJ lN mY = some r -> (∃ N, Hu A N iJ lN mY = some r)) : aF prog 33 (DR a) := by
 intro args Of x hx
 simp only [DR] at hx
 split at hx
 ·rename_i iJ lN mY
  obtain ⟨N, hN⟩ := h _ _ _ _ hx
  refine dZ func33 (by kernel_rfl) (by kernel_rfl) rfl (dK Sm dY) ((k33 A N _ _ _).trans hN) fun l o hd => ?_
  simp only [Bj] at hd
  split at hd
  ·obtain rfl := aC hd; exact ⟨rfl, rfl⟩
  ·cases hd
 ·cases hx
def E14 (C : lF) (D : lL) (B : lG) : Env := dF TI TY [(31, DN C), (32, yN D), (33, DR B)] aX aU
def c14 : Code := dE Tryz.f14
def ay0 : Nat -> Option Norm := dN []
def atJ : End := ⟨[(32, .sl (.int .i64))], ⟨[32, 33], [], [], []⟩⟩
def adM (l : List TV) (o : List (Nat × TO)) : Option (List Int × Int) := match l, o with | [.dv (.sl (.int .i64)) x0, .dv (.int .i64) x1], [] => some (x0, x1) | _, _ => none
def m14 (C : lF) (D : lL) (B : lG) (N : Nat) (aH : Int) (aK : List fF) (zJ : Int) (zW : Int) : Option (List Int × Int) :=
   (C aH aK).bind fun r1 =>
   cond (r1 != (0 : Int)) (some (([] : List Int), r1))
   ((D (0 : Int) zJ (aB (aH - (1 : Int)))).bind fun r2 =>
   cond (!r2) (some (([] : List Int), (5 : Int)))
   ((D (-1 : Int) zW (1 : Int)).bind fun r3 =>
   cond (!r3) (some (([] : List Int), (3 : Int)))
   ((B aK zJ zW).bind fun r4 =>
   some (r4, (0 : Int)))))
theorem k14 (C : lF) (D : lL) (B : lG) (N : Nat) (aH : Int) (aK : List fF) (zJ : Int) (zW : Int) : bK (E14 C D B) ay0 N atJ c14 (aY Tryz.f14) 28 [.dv (.int .i64) aH, .dv (.sl rJ) aK, .dv (.int .i64) zJ, .dv (.int .i64) zW] [] adM = m14 C D B N aH aK zJ zW := by kernel_rfl
theorem aAY (C : lF) (D : lL) (B : lG) (h31 : aF prog 31 (DN C)) (h32 : aF prog 32 (yN D)) (TJ : aF prog 33 (DR B)) (a : Int -> (List fF) -> Int -> Int -> Option (List Int × Int)) (h : ∀ aH aK zJ zW r, a aH aK zJ zW = some r -> (∃ N, m14 C D B N aH aK zJ zW = some r)) : aF prog 14 (P5 a) := by
 intro args Of x hx
 simp only [P5] at hx
 split at hx
 ·rename_i aH aK zJ zW
  obtain ⟨N, hN⟩ := h _ _ _ _ _ hx
  refine dZ func14 (by kernel_rfl) (by kernel_rfl) rfl (dK h31 (dK h32 (dK TJ dY))) ((k14 C D B N _ _ _ _).trans hN) fun l o hd => ?_
  simp only [adM] at hd
  split at hd
  ·obtain rfl := aC hd; exact ⟨rfl, rfl⟩
  ·cases hd
 ·cases hx
def E37 : Env := dF TI TY [] aX aU
def c37 : Code := dE Tryz.f37
def ay8 : Nat -> Option Norm := dN []
def atS : End := ⟨[(15, .arr 2 (.int .i64))], ⟨[15], [], [], []⟩⟩
def adU (l : List TV) (o : List (Nat × TO)) : Option (List Int) := match l, o with | [.dv (.arr 2 (.int .i64)) x0], [] => some (x0) | _, _ => none
def Vy (N : Nat) (n0 : Int) : Option (List Int) :=
   cond (n0 == (0 : Int)) (some ([(0 : Int), (0 : Int)] : List Int))
   (some ([aB (Int.tdiv (aB (n0 - (1 : Int))) (2 : Int)), aB ((1 : Int) - (aB ((Int.tmod (aB (n0 - (1 : Int))) (2 : Int)) * (2 : Int))))] : List Int))
theorem k37 (N : Nat) (n0 : Int) : bK (E37) ay8 N atS c37 (aY Tryz.f37) 14 [.dv (.int .i64) n0] [] adU = Vy N n0 := by kernel_rfl
theorem aBH (a : Int -> Option (List Int)) (h : ∀ n0 r, a n0 = some r -> (∃ N, Vy N n0 = some r)) : aF prog 37 (H6 a) := by
 intro args Of x hx
 simp only [H6] at hx
 split at hx
 ·rename_i n0
  obtain ⟨N, hN⟩ := h _ _ hx
  refine dZ func37 (by kernel_rfl) (by kernel_rfl) rfl dY ((k37 N _).trans hN) fun l o hd => ?_
  simp only [adU] at hd
  split at hd
  ·obtain rfl := aC hd; exact ⟨rfl, rfl⟩
  ·cases hd
 ·cases hx
def WU : Env := dF TI TY [] aX aU
def Aa : Code := dE Tryz.f38
def ahN : Norm := ⟨[0, 1, 12, 13], [], [], []⟩
def Gq : Nat -> Option Norm := dN [(4, ahN)]
def Qj : End := ⟨[], ⟨[26], [], [], []⟩⟩
def Bq (l : List TV) (o : List (Nat × TO)) : Option (Bool) := match l, o with | [.dv (.bool) x0], [] => some (x0) | _, _ => none
def Y5 (s10 : List Int) (kY : List Int) (nZ : Int) : TS := ⟨slots 26 [(0, .dv (.sl (.int .i64)) s10), (1, .dv (.sl (.int .i64)) kY), (12, .dv (.int .i64) (s10.length : Int)), (13, .dv (.int .i64) nZ)], []⟩
def apE (N : Nat) : dD (Bool) := eH (WU) Gq N Aa [1, 1, 0, 1, 0] (fin TI Qj (aY Tryz.f38) Bq)
def YF (N : Nat) (m : Nat) : TS -> Option (Bool) := dW (den (WU) Gq N (sub Aa [1, 1, 0, 1, 0, 0])) (TS.norm ahN) (apE N) m
def l38a (N : Nat) (s10 : List Int) (kY : List Int) : Nat -> Int -> Option (Bool)
 | 0, _ => none
 | n + 1, nZ => cond (decide (nZ < (s10.length : Int))) (chk (decide (0 <= nZ /\ nZ < (s10.length : Int))) (chk (decide (0 <= nZ /\ nZ < (kY.length : Int))) (cond ((s10.getD nZ.toNat 0) != (kY.getD nZ.toNat 0)) (some false)
   ((l38a N s10 kY n (aB (nZ + 1)))))))
   (some true)
theorem aIJ (N : Nat) (s10 : List Int) (kY : List Int) (m : Nat) (nZ : Int) : YF N (m + 1) (Y5 s10 kY nZ) = cond (decide (nZ < (s10.length : Int))) (chk (decide (0 <= nZ /\ nZ < (s10.length : Int))) (chk (decide (0 <= nZ /\ nZ < (kY.length : Int))) (cond ((s10.getD nZ.toNat 0) != (kY.getD nZ.toNat 0)) (some false)
   ((YF N m (Y5 s10 kY (aB (nZ + 1))))))))
   (some true) := by kernel_rfl
theorem aj1 (N : Nat) (s10 : List Int) (kY : List Int) : ∀ (m : Nat) (nZ : Int), YF N m (Y5 s10 kY nZ) = l38a N s10 kY m nZ
        | 0, _ => rfl
        | m + 1, nZ => by rw [aIJ]; simp only [l38a, aj1 N s10 kY m]
def Hz (N : Nat) (s10 : List Int) (kY : List Int) : Option (Bool) :=
   cond ((s10.length : Int) != (kY.length : Int)) (some false)
   ((l38a N s10 kY N (0 : Int)))
theorem aJL (N : Nat) (s10 : List Int) (kY : List Int) : bK (WU) Gq N Qj Aa (aY Tryz.f38) 24 [.dv (.sl (.int .i64)) s10, .dv (.sl (.int .i64)) kY] [] Bq = cond ((s10.length : Int) != (kY.length : Int)) (some false)
   ((YF N N (Y5 s10 kY (0 : Int)))) := by kernel_rfl
theorem k38 (N : Nat) (s10 : List Int) (kY : List Int) : bK (WU) Gq N Qj Aa (aY Tryz.f38) 24 [.dv (.sl (.int .i64)) s10, .dv (.sl (.int .i64)) kY] [] Bq = Hz N s10 kY := by rw [aJL]; simp only [Hz, aj1]
theorem aBI (a : (List Int) -> (List Int) -> Option (Bool)) (h : ∀ s10 kY r, a s10 kY = some r -> (∃ N, Hz N s10 kY = some r)) : aF prog 38 (H7 a) := by
 intro args Of x hx
 simp only [H7] at hx
 split at hx
 ·rename_i s10 kY
  obtain ⟨N, hN⟩ := h _ _ _ hx
  refine dZ func38 (by kernel_rfl) (by kernel_rfl) rfl dY ((k38 N _ _).trans hN) fun l o hd => ?_
  simp only [Bq] at hd
  split at hd
  ·obtain rfl := aC hd; exact ⟨rfl, rfl⟩
  ·cases hd
 ·cases hx
def LD (C : lF) (B : lG) (G : nG) (H : nH) : Env := dF TI TY [(31, DN C), (33, DR B), (37, H6 G), (38, H7 H)] aX aU
def c16 : Code := dE Tryz.f16
def Xo : Norm := ⟨[0, 1, 4, 5, 22, 23], [4, 5], [], []⟩
def ahA : Norm := ⟨[0, 1, 4, 5, 8, 22, 23, 28, 29], [4, 5], [], []⟩
def NY : Nat -> Option Norm := dN [(5, Xo), (8, ahA)]
def Py : End := ⟨[(60, .arr 2 (.int .i64)), (61, .arr 2 (.int .i64))], ⟨[60, 61, 62], [], [], []⟩⟩
def Bc (l : List TV) (o : List (Nat × TO)) : Option (List Int × List Int × Int) := match l, o with | [.dv (.arr 2 (.int .i64)) x0, .dv (.arr 2 (.int .i64)) x1, .dv (.int .i64) x2], [] => some (x0, x1, x2) | _, _ => none
def RG (aH : Int) (aK : List fF) (kJ : Int) (rE : Int) : TS := ⟨slots 60 [(0, .dv (.int .i64) aH), (1, .dv (.sl rJ) aK), (4, .ptr 4 0 []), (5, .ptr 5 0 []), (8, .dv (.int .i64) kJ), (22, .dv (.int .i64) (aB ((aB ((2 : Int) * aH)) + 1))), (23, .dv (.int .i64) kJ), (28, .dv (.int .i64) (aB ((aB ((2 : Int) * aH)) + 1))), (29, .dv (.int .i64) rE)], [(4, .row (.arr 2 (.int .i64)) ([([(0 : Int), (0 : Int)] : List Int)] : LL)), (5, .row (.arr 2 (.int .i64)) ([([(0 : Int), (0 : Int)] : List Int)] : LL))]⟩
def RF (aH : Int) (aK : List fF) (kJ : Int) : TS := ⟨slots 60 [(0, .dv (.int .i64) aH), (1, .dv (.sl rJ) aK), (4, .ptr 4 0 []), (5, .ptr 5 0 []), (22, .dv (.int .i64) (aB ((aB ((2 : Int) * aH)) + 1))), (23, .dv (.int .i64) kJ)], [(4, .row (.arr 2 (.int .i64)) ([([(0 : Int), (0 : Int)] : List Int)] : LL)), (5, .row (.arr 2 (.int .i64)) ([([(0 : Int), (0 : Int)] : List Int)] : LL))]⟩
def abM (C : lF) (B : lG) (G : nG) (H : nH) (N : Nat) : dD (List Int × List Int × Int) := eH (LD C B G H) NY N c16 [1, 1, 0, 1, 0] (fin TI Py (aY Tryz.f16) Bc)
def X3 (C : lF) (B : lG) (G : nG) (H : nH) (N : Nat) (m : Nat) : TS -> Option (List Int × List Int × Int) := dW (den (LD C B G H) NY N (sub c16 [1, 1, 0, 1, 0, 0])) (TS.norm Xo) (abM C B G H N) m
def aoX (C : lF) (B : lG) (G : nG) (H : nH) (N : Nat) (xJ : TS -> Option (List Int × List Int × Int)) : dD (List Int × List Int × Int) := eH (LD C B G H) NY N (sub c16 [1, 1, 0, 1, 0, 0]) [1, 1, 0, 0, 1, 1, 0] (sD (TS.norm Xo) (abM C B G H N) xJ)
def QV (C : lF) (B : lG) (G : nG) (H : nH) (N : Nat) (xJ : TS -> Option (List Int × List Int × Int)) (m : Nat) : TS -> Option (List Int × List Int × Int) := dW (den (LD C B G H) NY N (sub c16 [1, 1, 0, 1, 0, 0, 1, 1, 0, 0, 1, 1, 0, 0])) (TS.norm ahA) (aoX C B G H N xJ) m
def BV (C : lF) (B : lG) (G : nG) (H : nH) (N : Nat) (aH : Int) (aK : List fF) (kJ : Int) (Uw : Int -> Option (List Int × List Int × Int)) : Nat -> Int -> Option (List Int × List Int × Int)
 | 0, _ => none
 | n + 1, rE => cond (decide (rE < (aB ((aB ((2 : Int) * aH)) + 1)))) ((G kJ).bind fun r2 =>
   (G rE).bind fun r3 =>
   cond (decide (rE > kJ)) ((B aK (r2.getD 0 (0 : Int)) (r2.getD 1 (0 : Int))).bind fun r4 =>
   (B aK (r3.getD 0 (0 : Int)) (r3.getD 1 (0 : Int))).bind fun r5 =>
   (H r4 r5).bind fun r6 =>
   cond (r6) (some (r2, r3, (0 : Int)))
   ((BV C B G H N aH aK kJ Uw n (aB (rE + 1)))))
   ((BV C B G H N aH aK kJ Uw n (aB (rE + 1)))))
   ((Uw (aB (kJ + 1))))
theorem aHZ (C : lF) (B : lG) (G : nG) (H : nH) (N : Nat) (aH : Int) (aK : List fF) (kJ : Int) (xJ : TS -> Option (List Int × List Int × Int)) (m : Nat) (rE : Int) : QV C B G H N xJ (m + 1) (RG aH aK kJ rE) = cond (decide (rE < (aB ((aB ((2 : Int) * aH)) + 1)))) ((G kJ).bind fun r2 =>
   (G rE).bind fun r3 =>
   cond (decide (rE > kJ)) ((B aK (r2.getD 0 (0 : Int)) (r2.getD 1 (0 : Int))).bind fun r4 =>
   (B aK (r3.getD 0 (0 : Int)) (r3.getD 1 (0 : Int))).bind fun r5 =>
   (H r4 r5).bind fun r6 =>
   cond (r6) (some (r2, r3, (0 : Int)))
   ((QV C B G H N xJ m (RG aH aK kJ (aB (rE + 1))))))
   ((QV C B G H N xJ m (RG aH aK kJ (aB (rE + 1))))))
   ((xJ (RF aH aK (aB (kJ + 1))))) := by kernel_rfl
theorem ajH (C : lF) (B : lG) (G : nG) (H : nH) (N : Nat) (aH : Int) (aK : List fF) (kJ : Int) (xJ : TS -> Option (List Int × List Int × Int)) : ∀ (m : Nat) (rE : Int), QV C B G H N xJ m (RG aH aK kJ rE) = BV C B G H N aH aK kJ (fun y0 => xJ (RF aH aK y0)) m rE
        | 0, _ => rfl
        | m + 1, rE => by rw [aHZ]; simp only [BV, ajH C B G H N aH aK kJ xJ m]
def JK (C : lF) (B : lG) (G : nG) (H : nH) (N : Nat) (aH : Int) (aK : List fF) : Nat -> Int -> Option (List Int × List Int × Int)
 | 0, _ => none
 | n + 1, kJ => cond (decide (kJ < (aB ((aB ((2 : Int) * aH)) + 1)))) ((BV C B G H N aH aK kJ (fun y0 => (JK C B G H N aH aK n y0)) N (0 : Int)))
   (some (([(0 : Int), (0 : Int)] : List Int), ([(0 : Int), (0 : Int)] : List Int), (14 : Int)))
theorem aHY (C : lF) (B : lG) (G : nG) (H : nH) (N : Nat) (aH : Int) (aK : List fF) (m : Nat) (kJ : Int) : X3 C B G H N (m + 1) (RF aH aK kJ) = cond (decide (kJ < (aB ((aB ((2 : Int) * aH)) + 1)))) ((QV C B G H N (X3 C B G H N m) N (RG aH aK kJ (0 : Int))))
   (some (([(0 : Int), (0 : Int)] : List Int), ([(0 : Int), (0 : Int)] : List Int), (14 : Int))) := by kernel_rfl
theorem ajG (C : lF) (B : lG) (G : nG) (H : nH) (N : Nat) (aH : Int) (aK : List fF) : ∀ (m : Nat) (kJ : Int), X3 C B G H N m (RF aH aK kJ) = JK C B G H N aH aK m kJ
        | 0, _ => rfl
        | m + 1, kJ => by rw [aHY]; simp only [JK, ajH, ajG C B G H N aH aK m]
def m16 (C : lF) (B : lG) (G : nG) (H : nH) (N : Nat) (aH : Int) (aK : List fF) : Option (List Int × List Int × Int) :=
   (C aH aK).bind fun r1 =>
   cond (r1 != (0 : Int)) (some (([(0 : Int), (0 : Int)] : List Int), ([(0 : Int), (0 : Int)] : List Int), r1))
   ((JK C B G H N aH aK N (0 : Int)))
theorem aI' (C : lF) (B : lG) (G : nG) (H : nH) (N : Nat) (aH : Int) (aK : List fF) : bK (LD C B G H) NY N Py c16 (aY Tryz.f16) 58 [.dv (.int .i64) aH, .dv (.sl rJ) aK] [] Bc = (C aH aK).bind fun r1 =>
   cond (r1 != (0 : Int)) (some (([(0 : Int), (0 : Int)] : List Int), ([(0 : Int), (0 : Int)] : List Int), r1))
   ((X3 C B G H N N (RF aH aK (0 : Int)))) := by kernel_rfl
theorem k16 (C : lF) (B : lG) (G : nG) (H : nH) (N : Nat) (aH : Int) (aK : List fF) : bK (LD C B G H) NY N Py c16 (aY Tryz.f16) 58 [.dv (.int .i64) aH, .dv (.sl rJ) aK] [] Bc = m16 C B G H N aH aK := by rw [aI']; simp only [m16, ajG]
theorem ok16 (C : lF) (B : lG) (G : nG) (H : nH) (h31 : aF prog 31 (DN C)) (TJ : aF prog 33 (DR B)) (h37 : aF prog 37 (H6 G)) (h38 : aF prog 38 (H7 H)) (a : Int -> (List fF) -> Option (List Int × List Int × Int)) (h : ∀ aH aK r, a aH aK = some r -> (∃ N, m16 C B G H N aH aK = some r)) : aF prog 16 (P7 a) := by
 intro args Of x hx
 simp only [P7] at hx
 split at hx
 ·rename_i aH aK
  obtain ⟨N, hN⟩ := h _ _ _ hx
  refine dZ func16 (by kernel_rfl) (by kernel_rfl) rfl (dK h31 (dK TJ (dK h37 (dK h38 dY)))) ((k16 C B G H N _ _).trans hN) fun l o hd => ?_
  simp only [Bc] at hd
  split at hd
  ·obtain rfl := aC hd; exact ⟨rfl, rfl⟩
  ·cases hd
 ·cases hx
def E46 (D : lL) : Env := dF TI TY [(32, yN D)] aX aU
def c46 : Code := dE Tryz.f46
def azG : Nat -> Option Norm := dN []
def at6 : End := ⟨[], ⟨[6], [], [], []⟩⟩
def ad4 (l : List TV) (o : List (Nat × TO)) : Option (Bool) := match l, o with | [.dv (.bool) x0], [] => some (x0) | _, _ => none
def Wl (D : lL) (N : Nat) (n0 : Int) : Option (Bool) :=
   (D (-1 : Int) n0 (1 : Int)).bind fun r1 =>
   some (!r1)
theorem k46 (D : lL) (N : Nat) (n0 : Int) : bK (E46 D) azG N at6 c46 (aY Tryz.f46) 5 [.dv (.int .i64) n0] [] ad4 = Wl D N n0 := by kernel_rfl
theorem aBP (D : lL) (h32 : aF prog 32 (yN D)) (a : Int -> Option (Bool)) (h : ∀ n0 r, a n0 = some r -> (∃ N, Wl D N n0 = some r)) : aF prog 46 (LW a) := by
 intro args Of x hx
 simp only [LW] at hx
 split at hx
 ·rename_i n0
  obtain ⟨N, hN⟩ := h _ _ hx
  refine dZ func46 (by kernel_rfl) (by kernel_rfl) rfl (dK h32 dY) ((k46 D N _).trans hN) fun l o hd => ?_
  simp only [ad4] at hd
  split at hd
  ·obtain rfl := aC hd; exact ⟨rfl, rfl⟩
  ·cases hd
 ·cases hx
def W9 (M : A8) : Env := dF TI TY [(46, LW M)] aX aU
def Ag : Code := dE Tryz.f78
def ah1 : Norm := ⟨[0, 1, 7, 8], [], [], []⟩
def Gx : Nat -> Option Norm := dN [(2, ah1)]
def Qr : End := ⟨[], ⟨[19], [], [], []⟩⟩
def Cj (l : List TV) (o : List (Nat × TO)) : Option (Int) := match l, o with | [.dv (.int .i64) x0], [] => some (x0) | _, _ => none
def ZG (s0 : List Int) (bG : Int) : TS := ⟨slots 19 [(0, .dv (.sl (.int .i64)) s0), (1, .fn 46 0 0 fun i => ([] : List TV).getD i .any), (7, .dv (.int .i64) (s0.length : Int)), (8, .dv (.int .i64) bG)], []⟩
def apT (M : A8) (N : Nat) : dD (Int) := eH (W9 M) Gx N Ag [1, 0, 1, 0] (fin TI Qr (aY Tryz.f78) Cj)
def YR (M : A8) (N : Nat) (m : Nat) : TS -> Option (Int) := dW (den (W9 M) Gx N (sub Ag [1, 0, 1, 0, 0])) (TS.norm ah1) (apT M N) m
def JR (M : A8) (N : Nat) (s0 : List Int) : Nat -> Int -> Option (Int)
 | 0, _ => none
 | n + 1, bG => cond (decide (bG < (s0.length : Int))) (chk (decide (0 <= bG /\ bG < (s0.length : Int))) ((M (s0.getD bG.toNat 0)).bind fun r1 =>
   cond (r1) (some bG)
   ((JR M N s0 n (aB (bG + 1))))))
   (some (-1 : Int))
theorem aI1 (M : A8) (N : Nat) (s0 : List Int) (m : Nat) (bG : Int) : YR M N (m + 1) (ZG s0 bG) = cond (decide (bG < (s0.length : Int))) (chk (decide (0 <= bG /\ bG < (s0.length : Int))) ((M (s0.getD bG.toNat 0)).bind fun r1 =>
   cond (r1) (some bG)
   ((YR M N m (ZG s0 (aB (bG + 1)))))))
   (some (-1 : Int)) := by kernel_rfl
theorem akK (M : A8) (N : Nat) (s0 : List Int) : ∀ (m : Nat) (bG : Int), YR M N m (ZG s0 bG) = JR M N s0 m bG
        | 0, _ => rfl
        | m + 1, bG => by rw [aI1]; simp only [JR, akK M N s0 m]
def Ik (M : A8) (N : Nat) (s0 : List Int) : Option (Int) :=
   (JR M N s0 N (0 : Int))
theorem aJU (M : A8) (N : Nat) (s0 : List Int) : bK (W9 M) Gx N Qr Ag (aY Tryz.f78) 17 [.dv (.sl (.int .i64)) s0, .fn 46 0 0 fun i => ([] : List TV).getD i .any] [] Cj = (YR M N N (ZG s0 (0 : Int))) := by kernel_rfl
theorem ax5 (M : A8) (N : Nat) (s0 : List Int) : bK (W9 M) Gx N Qr Ag (aY Tryz.f78) 17 [.dv (.sl (.int .i64)) s0, .fn 46 0 0 fun i => ([] : List TV).getD i .any] [] Cj = Ik M N s0 := by rw [aJU]; simp only [Ik, akK]
theorem aB3 (M : A8) (h46 : aF prog 46 (LW M)) (a : (List Int) -> Option (Int)) (h : ∀ s0 r, a s0 = some r -> (∃ N, Ik M N s0 = some r)) : aF prog 78 (L9 a) := by
 intro args Of x hx
 simp only [L9] at hx
 split at hx
 ·rename_i s0 FP rX
  have hc0 := congrArg (fun c : List (List TV) => c.getD 0 []) rX
  obtain ⟨N, hN⟩ := h _ _ hx
  refine iQ.D5 (args := [.dv (.sl (.int .i64)) s0, .fn 46 0 0 fun i => ([] : List TV).getD i .any]) (O := []) ⟨TV.nP _, TV.zN hc0, trivial⟩ trivial (lifted (L := [(46, LW M)]) (rc := aX) (fz := aU) (fn := Tryz.f78) (by kernel_rfl) (by kernel_rfl) (by kernel_rfl) (by kernel_rfl) rfl ?_ ((ax5 M N _).trans hN) ?_)
  ·intro p hp; simp only [List.mem_cons, List.not_mem_nil, or_false] at hp; rcases hp with rfl; exact h46
  ·intro l o hd
   simp only [Cj] at hd
   split at hd
   ·obtain rfl := aC hd; exact ⟨rfl, rfl⟩
   ·cases hd
 ·cases hx
def am0 (P : (List Int) -> Option (Int)) : Env := dF TI TY [(78, L9 P)] aX aU
def ar2 : Code := dE Tryz.f45
def azF : Nat -> Option Norm := dN []
def at1 : End := ⟨[], ⟨[9], [], [], []⟩⟩
def ad3 (l : List TV) (o : List (Nat × TO)) : Option (Bool) := match l, o with | [.dv (.bool) x0], [] => some (x0) | _, _ => none
def Wj (P : (List Int) -> Option (Int)) (N : Nat) (s0 : List Int) : Option (Bool) :=
   (P s0).bind fun r1 =>
   some (decide (r1 >= (0 : Int)))
theorem ax1 (P : (List Int) -> Option (Int)) (N : Nat) (s0 : List Int) : bK (am0 P) azF N at1 ar2 (aY Tryz.f45) 7 [.dv (.sl (.int .i64)) s0, .fn 46 0 0 fun i => ([] : List TV).getD i .any] [] ad3 = Wj P N s0 := by kernel_rfl
theorem aBO (P : (List Int) -> Option (Int)) (av8 : aF prog 78 (L9 P)) (a : (List Int) -> Option (Bool)) (h : ∀ s0 r, a s0 = some r -> (∃ N, Wj P N s0 = some r)) : aF prog 45 (QH a) := by
 intro args Of x hx
 simp only [QH] at hx
 split at hx
 ·rename_i s0 FP rX
  have hc0 := congrArg (fun c : List (List TV) => c.getD 0 []) rX
  obtain ⟨N, hN⟩ := h _ _ hx
  refine iQ.D5 (args := [.dv (.sl (.int .i64)) s0, .fn 46 0 0 fun i => ([] : List TV).getD i .any]) (O := []) ⟨TV.nP _, TV.zN hc0, trivial⟩ trivial (lifted (L := [(78, L9 P)]) (rc := aX) (fz := aU) (fn := Tryz.f45) (by kernel_rfl) (by kernel_rfl) (by kernel_rfl) (by kernel_rfl) rfl ?_ ((ax1 P N _).trans hN) ?_)
  ·intro p hp; simp only [List.mem_cons, List.not_mem_nil, or_false] at hp; rcases hp with rfl; exact av8
  ·intro l o hd
   simp only [ad3] at hd
   split at hd
   ·obtain rfl := aC hd; exact ⟨rfl, rfl⟩
   ·cases hd
 ·cases hx
def WQ (C : lF) (B : lG) (G : nG) (H : nH) (K : BA) : Env := dF TI TY [(31, DN C), (33, DR B), (37, H6 G), (38, H7 H), (45, QH K)] aX aU
def c19 : Code := dE Tryz.f19
def ahD : Norm := ⟨[1, 2, 31, 32], [], [(.slot 9, 1009, .arr 2 (.int .i64))], []⟩
def Gl : Nat -> Option Norm := dN [(8, ahD)]
def Qd : End := ⟨[(51, .sl (.arr 2 (.int .i64)))], ⟨[51, 52], [], [], []⟩⟩
def Bh (l : List TV) (o : List (Nat × TO)) : Option (LL × Int) := match l, o with | [.dv (.sl (.arr 2 (.int .i64))) x0, .dv (.int .i64) x1], [] => some (x0, x1) | _, _ => none
def RH (aH : Int) (aK : List fF) (kH : List Int) (uI : Int) (uD : LL) : TS := ⟨slots 51 [(1, .dv (.sl rJ) aK), (2, .dv (.sl (.int .i64)) kH), (9, .row 1009), (31, .dv (.int .i64) (aB ((aB ((2 : Int) * aH)) + 1))), (32, .dv (.int .i64) uI)], [(1009, .row (.arr 2 (.int .i64)) uD)]⟩
def ao3 (C : lF) (B : lG) (G : nG) (H : nH) (K : BA) (N : Nat) : dD (LL × Int) := eH (WQ C B G H K) Gl N c19 [1, 1, 1, 1, 0, 1, 0] (fin TI Qd (aY Tryz.f19) Bh)
def QW (C : lF) (B : lG) (G : nG) (H : nH) (K : BA) (N : Nat) (m : Nat) : TS -> Option (LL × Int) := dW (den (WQ C B G H K) Gl N (sub c19 [1, 1, 1, 1, 0, 1, 0, 0])) (TS.norm ahD) (ao3 C B G H K N) m
def F5 (C : lF) (B : lG) (G : nG) (H : nH) (K : BA) (N : Nat) (aH : Int) (aK : List fF) (kH : List Int) : Nat -> Int -> LL -> Option (LL × Int)
 | 0, _, _ => none
 | n + 1, uI, uD => cond (decide (uI < (aB ((aB ((2 : Int) * aH)) + 1)))) ((G uI).bind fun r3 =>
   (B aK (r3.getD 0 (0 : Int)) (r3.getD 1 (0 : Int))).bind fun r4 =>
   (H r4 kH).bind fun r5 =>
   cond (r5) (chk (small (uD.length + 1) 16) ((F5 C B G H K N aH aK kH n (aB (uI + 1)) (uD ++ ([r3] : LL)))))
   ((F5 C B G H K N aH aK kH n (aB (uI + 1)) uD)))
   (some (uD, (0 : Int)))
theorem aH4 (C : lF) (B : lG) (G : nG) (H : nH) (K : BA) (N : Nat) (aH : Int) (aK : List fF) (kH : List Int) (m : Nat) (uI : Int) (uD : LL) : QW C B G H K N (m + 1) (RH aH aK kH uI uD) = cond (decide (uI < (aB ((aB ((2 : Int) * aH)) + 1)))) ((G uI).bind fun r3 =>
   (B aK (r3.getD 0 (0 : Int)) (r3.getD 1 (0 : Int))).bind fun r4 =>
   (H r4 kH).bind fun r5 =>
   cond (r5) (chk (small (uD.length + 1) 16) ((QW C B G H K N m (RH aH aK kH (aB (uI + 1)) (uD ++ ([r3] : LL))))))
   ((QW C B G H K N m (RH aH aK kH (aB (uI + 1)) uD))))
   (some (uD, (0 : Int))) := by kernel_rfl
theorem ajL (C : lF) (B : lG) (G : nG) (H : nH) (K : BA) (N : Nat) (aH : Int) (aK : List fF) (kH : List Int) : ∀ (m : Nat) (uI : Int) (uD : LL), QW C B G H K N m (RH aH aK kH uI uD) = F5 C B G H K N aH aK kH m uI uD
        | 0, _, _ => rfl
        | m + 1, uI, uD => by rw [aH4]; simp only [F5, ajL C B G H K N aH aK kH m]
def m19 (C : lF) (B : lG) (G : nG) (H : nH) (K : BA) (N : Nat) (aH : Int) (aK : List fF) (kH : List Int) : Option (LL × Int) :=
   (C aH aK).bind fun r1 =>
   cond (r1 != (0 : Int)) (some (([] : LL), r1))
   (cond ((kH.length : Int) != (aK.length : Int)) (some (([] : LL), (9 : Int)))
   ((K kH).bind fun r2 =>
   cond (r2) (some (([] : LL), (9 : Int)))
   ((F5 C B G H K N aH aK kH N (0 : Int) ([] : LL)))))
theorem aJE (C : lF) (B : lG) (G : nG) (H : nH) (K : BA) (N : Nat) (aH : Int) (aK : List fF) (kH : List Int) : bK (WQ C B G H K) Gl N Qd c19 (aY Tryz.f19) 48 [.dv (.int .i64) aH, .dv (.sl rJ) aK, .dv (.sl (.int .i64)) kH] [] Bh = (C aH aK).bind fun r1 =>
   cond (r1 != (0 : Int)) (some (([] : LL), r1))
   (cond ((kH.length : Int) != (aK.length : Int)) (some (([] : LL), (9 : Int)))
   ((K kH).bind fun r2 =>
   cond (r2) (some (([] : LL), (9 : Int)))
   ((QW C B G H K N N (RH aH aK kH (0 : Int) ([] : LL)))))) := by kernel_rfl
theorem k19 (C : lF) (B : lG) (G : nG) (H : nH) (K : BA) (N : Nat) (aH : Int) (aK : List fF) (kH : List Int) : bK (WQ C B G H K) Gl N Qd c19 (aY Tryz.f19) 48 [.dv (.int .i64) aH, .dv (.sl rJ) aK, .dv (.sl (.int .i64)) kH] [] Bh = m19 C B G H K N aH aK kH := by rw [aJE]; simp only [m19, ajL]
theorem aA9 (C : lF) (B : lG) (G : nG) (H : nH) (K : BA) (h31 : aF prog 31 (DN C)) (TJ : aF prog 33 (DR B)) (h37 : aF prog 37 (H6 G)) (h38 : aF prog 38 (H7 H)) (av4 : aF prog 45 (QH K)) (a : Int -> (List fF) -> (List Int) -> Option (LL × Int)) (h : ∀ aH aK kH r, a aH aK kH = some r -> (∃ N, m19 C B G H K N aH aK kH = some r)) : aF prog 19 (QE a) := by
 intro args Of x hx
 simp only [QE] at hx
 split at hx
 ·rename_i aH aK kH
  obtain ⟨N, hN⟩ := h _ _ _ _ hx
  refine dZ func19 (by kernel_rfl) (by kernel_rfl) rfl (dK h31 (dK TJ (dK h37 (dK h38 (dK av4 dY))))) ((k19 C B G H K N _ _ _).trans hN) fun l o hd => ?_
  simp only [Bh] at hd
  split at hd
  ·obtain rfl := aC hd; exact ⟨rfl, rfl⟩
  ·cases hd
 ·cases hx
end
end Go.Proofs.YtfopcfnggdonkaaGreatDoor
