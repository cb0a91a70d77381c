/-
 The functions that the law reaches, told as plain functions.
-/
import Derived.Test.YtfopcfnggdonkaaGreatDoorCoal
import Derived.Test.YtfopcfnggdonkaaGreatDoorWCM
import Derived.Test.YtfopcfnggdonkaaGreatDoorTWM
import Derived.Test.YtfopcfnggdonkaaGreatDoorTMM
namespace Go.Proofs.YtfopcfnggdonkaaGreatDoor
open Go.Proofs.Tryz
open Go.RowKit
set_option linter.unusedVariables false
noncomputable section
abbrev kE : List Int := [(0 : Int), (0 : Int), (0 : Int), (0 : Int), (0 : Int), (0 : Int), (0 : Int), (0 : Int)]
abbrev uK := LL
abbrev FD := TS -> Option (List Int)
abbrev qK := LL -> Option (List Int)
abbrev ZK := (aN) -> (List Int) -> Option (List Int)
abbrev ZL := (List Int) -> (List Int) -> Option (List Int)
abbrev sQ := (aN) -> Option (Int)
abbrev sS := Int -> Int -> Int -> Option (Bool)
abbrev sU := (aN) -> Int -> Option (Int × aN)
abbrev sV := (List Int) -> Int -> Option (Bool)
abbrev sW := (aN) -> (List Int) -> (List Int) -> Option (Bool)
abbrev sO := (Option (List Int)) -> Option (Option (List Int))
def E40 : Env := dF TI TY [] aX aU
def c40 : Code := dE Tryz.f40
def ay' : Nat -> Option Norm := dN [(1000001, ⟨[], [2, 3], [], []⟩)]
def atU : End := ⟨[], ⟨[6], [], [], []⟩⟩
def adW (l : List TV) (o : List (Nat × TO)) : Option (Int × aN) := match l, o, y8 l o with | [.fn 71 0 2 _], [], [[.el (.int .i64) x0 [], .el (.pair (.int .i64) (.pair (.sl (.sl (.int .i64))) (.unit))) x1 []]] => some (x0, x1) | _, _, _ => none
def m40 (N : Nat) (aG : aN) (mP : Int) : Option (Int × aN) :=
   some (mP, aG)
theorem k40 (N : Nat) (aG : aN) (mP : Int) : bK (E40) ay' N atU c40 (aY Tryz.f40) 4 [.dv (.pair (.int .i64) (.pair (.sl (.sl (.int .i64))) (.unit))) aG, .dv (.int .i64) mP] [] adW = m40 N aG mP := by kernel_rfl
theorem aBK (a : (aN) -> Int -> Option (Int × aN)) (h : ∀ aG mP r, a aG mP = some r -> (∃ N, m40 N aG mP = some r)) : aF prog 40 (LU a) := by
 intro args Of x hx
 simp only [LU] at hx
 split at hx
 ·rename_i aG mP
  obtain ⟨N, hN⟩ := h _ _ _ hx
  refine agH (L := []) (rc := aX) (fz := aU) (fn := Tryz.f40) (by kernel_rfl) (by kernel_rfl) (by kernel_rfl) (by kernel_rfl) rfl ?_ ((k40 N _ _).trans hN) ?_
  ·intro p hp; cases hp
  ·intro l o hd
   simp only [adW] at hd
   split at hd
   ·rename_i Tn
    have hd0 := congrArg (fun c : List (List TV) => c.getD 0 []) Tn
    obtain rfl := aC hd; exact ⟨TV.zO (TV.zN hd0), trivial⟩
   ·cases hd
 ·cases hx
def LJ : Env := dF TI TY [] aX aU
def MS : Code := dE Tryz.f77
def Ya : Norm := ⟨[2, 3, 8, 9, 10], [2, 3], [], []⟩
def ahZ : Norm := ⟨[2, 3, 8, 9, 10, 14, 15, 16], [2, 3], [], []⟩
def N8 : Nat -> Option Norm := dN [(3, Ya), (6, ahZ)]
def Qp : End := ⟨[(31, .arr 8 (.int .u8))], ⟨[31], [], [], []⟩⟩
def Cf (l : List TV) (o : List (Nat × TO)) : Option (List Int) := match l, o with | [.dv (.arr 8 (.int .u8)) x0], [] => some (x0) | _, _ => none
def ZE (eF : LL) (bY : Int) (jW : Int) (qW : uK) : TS := ⟨slots 31 [(2, .ptr 2 0 []), (3, .ptr 3 0 []), (8, .dv (.sl (.sl (.int .i64))) eF), (9, .dv (.int .i64) (eF.length : Int)), (10, .dv (.int .i64) bY), (14, .dv (.sl (.int .i64)) (eF.getD bY.toNat ([] : List Int))), (15, .dv (.int .i64) ((eF.getD bY.toNat ([] : List Int)).length : Int)), (16, .dv (.int .i64) jW)], [(2, .row (.arr 8 (.int .u8)) ([kE] : LL)), (3, .row (.arr 8 (.int .u8)) qW)]⟩
def SC (eF : LL) (bY : Int) (yB : uK) : TS := ⟨slots 31 [(2, .ptr 2 0 []), (3, .ptr 3 0 []), (8, .dv (.sl (.sl (.int .i64))) eF), (9, .dv (.int .i64) (eF.length : Int)), (10, .dv (.int .i64) bY)], [(2, .row (.arr 8 (.int .u8)) ([kE] : LL)), (3, .row (.arr 8 (.int .u8)) yB)]⟩
def abX (N : Nat) : dD (List Int) := eH (LJ) N8 N MS [1, 1, 0, 1, 0] (fin TI Qp (aY Tryz.f77) Cf)
def YO (N : Nat) (m : Nat) : TS -> Option (List Int) := dW (den (LJ) N8 N (sub MS [1, 1, 0, 1, 0, 0])) (TS.norm Ya) (abX N) m
def apR (N : Nat) (yV : FD) : dD (List Int) := eH (LJ) N8 N (sub MS [1, 1, 0, 1, 0, 0]) [1, 1, 0, 0, 1, 1, 0] (sD (TS.norm Ya) (abX N) yV)
def YP (N : Nat) (yV : FD) (m : Nat) : TS -> Option (List Int) := dW (den (LJ) N8 N (sub MS [1, 1, 0, 1, 0, 0, 1, 1, 0, 0, 1, 1, 0, 0])) (TS.norm ahZ) (apR N yV) m
def JP (N : Nat) (eF : LL) (bY : Int) (agB : Int -> LL -> Option (List Int)) : Nat -> Int -> LL -> Option (List Int)
 | 0, _, _ => none
 | n + 1, jW, qW => cond (decide (jW < ((eF.getD bY.toNat ([] : List Int)).length : Int))) (chk (decide (0 <= jW /\ jW < ((eF.getD bY.toNat ([] : List Int)).length : Int))) (chk (decide (0 <= jW /\ jW < (8 : Int))) (chk (decide (0 <= (eF.getD bY.toNat ([] : List Int)).getD jW.toNat 0)) (chk (decide (0 <= jW /\ jW < (8 : Int))) (chk ((decide (jW.toNat < (qW.getD 0 kE).length)) && (true)) ((JP N eF bY agB n (aB (jW + 1)) (qW.set 0 ((qW.getD 0 kE).set jW.toNat (y5 .u8 ((qW.getD 0 kE).getD jW.toNat 0) (IntKind.wrap .u8 ((1 : Int) * 2 ^ min (Int.toNat ((eF.getD bY.toNat ([] : List Int)).getD jW.toNat 0)) 8))))))))))))
   ((agB (aB (bY + 1)) qW))
theorem aIZ (N : Nat) (eF : LL) (bY : Int) (yV : FD) (m : Nat) (jW : Int) (qW : uK) : YP N yV (m + 1) (ZE eF bY jW qW) = cond (decide (jW < ((eF.getD bY.toNat ([] : List Int)).length : Int))) (chk (decide (0 <= jW /\ jW < ((eF.getD bY.toNat ([] : List Int)).length : Int))) (chk (decide (0 <= jW /\ jW < (8 : Int))) (chk (decide (0 <= (eF.getD bY.toNat ([] : List Int)).getD jW.toNat 0)) (chk (decide (0 <= jW /\ jW < (8 : Int))) (chk ((decide (jW.toNat < (qW.getD 0 kE).length)) && (true)) ((YP N yV m (ZE eF bY (aB (jW + 1)) (qW.set 0 ((qW.getD 0 kE).set jW.toNat (y5 .u8 ((qW.getD 0 kE).getD jW.toNat 0) (IntKind.wrap .u8 ((1 : Int) * 2 ^ min (Int.toNat ((eF.getD bY.toNat ([] : List Int)).getD jW.toNat 0)) 8)))))))))))))
   ((yV (SC eF (aB (bY + 1)) qW))) := by kernel_rfl
theorem akI (N : Nat) (eF : LL) (bY : Int) (yV : FD) : ∀ (m : Nat) (jW : Int) (qW : uK), YP N yV m (ZE eF bY jW qW) = JP N eF bY (fun y0 y1 => yV (SC eF y0 y1)) m jW qW
        | 0, _, _ => rfl
        | m + 1, jW, qW => by rw [aIZ]; simp only [JP, akI N eF bY yV m]
def F9 (N : Nat) (eF : LL) : Nat -> Int -> LL -> Option (List Int)
 | 0, _, _ => none
 | n + 1, bY, yB => cond (decide (bY < (eF.length : Int))) (chk (decide (0 <= bY /\ bY < (eF.length : Int))) ((JP N eF bY (fun y0 y1 => (F9 N eF n y0 y1)) N (0 : Int) yB)))
   (some (yB.getD 0 kE))
theorem aIY (N : Nat) (eF : LL) (m : Nat) (bY : Int) (yB : uK) : YO N (m + 1) (SC eF bY yB) = cond (decide (bY < (eF.length : Int))) (chk (decide (0 <= bY /\ bY < (eF.length : Int))) ((YP N (YO N m) N (ZE eF bY (0 : Int) yB))))
   (some (yB.getD 0 kE)) := by kernel_rfl
theorem akH (N : Nat) (eF : LL) : ∀ (m : Nat) (bY : Int) (yB : uK), YO N m (SC eF bY yB) = F9 N eF m bY yB
        | 0, _, _ => rfl
        | m + 1, bY, yB => by rw [aIY]; simp only [F9, akI, akH N eF m]
def Ii (N : Nat) (eF : LL) : Option (List Int) :=
   (F9 N eF N (0 : Int) ([kE] : LL))
theorem aJS (N : Nat) (eF : LL) : bK (LJ) N8 N Qp MS (aY Tryz.f77) 30 [.dv (.sl (.sl (.int .i64))) eF] [] Cf = (YO N N (SC eF (0 : Int) ([kE] : LL))) := by kernel_rfl
theorem k77 (N : Nat) (eF : LL) : bK (LJ) N8 N Qp MS (aY Tryz.f77) 30 [.dv (.sl (.sl (.int .i64))) eF] [] Cf = Ii N eF := by rw [aJS]; simp only [Ii, akH]
theorem aB1 (a : LL -> Option (List Int)) (h : ∀ eF r, a eF = some r -> (∃ N, Ii N eF = some r)) : aF prog 77 (IB a) := by
 intro args Of x hx
 simp only [IB] at hx
 split at hx
 ·rename_i eF
  obtain ⟨N, hN⟩ := h _ _ hx
  refine dZ func77 (by kernel_rfl) (by kernel_rfl) rfl dY ((k77 N _).trans hN) fun l o hd => ?_
  simp only [Cf] at hd
  split at hd
  ·obtain rfl := aC hd; exact ⟨rfl, rfl⟩
  ·cases hd
 ·cases hx
def LH (A : qK) : Env := dF TI TY [(77, IB A)] aX aU
def c75 : Code := dE Tryz.f75
def Xz : Norm := ⟨[2, 4, 5, 10, 11, 12], [2, 4, 5], [], []⟩
def ahX : Norm := ⟨[2, 4, 5, 10, 11, 12, 22, 23], [2, 4, 5], [], []⟩
def N7 : Nat -> Option Norm := dN [(3, Xz), (6, ahX)]
def Qn : End := ⟨[(36, .arr 8 (.int .u8))], ⟨[36], [], [], []⟩⟩
def Cc (l : List TV) (o : List (Nat × TO)) : Option (List Int) := match l, o with | [.dv (.arr 8 (.int .u8)) x0], [] => some (x0) | _, _ => none
def ZB (aG : aN) (dU : List Int) (jM : Int) (r1 : List Int) (kK : Int) (qY : uK) : TS := ⟨slots 36 [(2, .ptr 2 0 []), (4, .ptr 4 0 []), (5, .ptr 5 0 []), (10, .dv (.sl (.int .i64)) dU), (11, .dv (.int .i64) (dU.length : Int)), (12, .dv (.int .i64) jM), (22, .dv (.arr 8 (.int .u8)) r1), (23, .dv (.int .i64) kK)], [(2, .row (.pair (.int .i64) (.pair (.sl (.sl (.int .i64))) (.unit))) ([aG] : List (aN))), (4, .row (.arr 8 (.int .u8)) ([kE] : LL)), (5, .row (.arr 8 (.int .u8)) qY)]⟩
def SB (aG : aN) (dU : List Int) (jM : Int) (yD : uK) : TS := ⟨slots 36 [(2, .ptr 2 0 []), (4, .ptr 4 0 []), (5, .ptr 5 0 []), (10, .dv (.sl (.int .i64)) dU), (11, .dv (.int .i64) (dU.length : Int)), (12, .dv (.int .i64) jM)], [(2, .row (.pair (.int .i64) (.pair (.sl (.sl (.int .i64))) (.unit))) ([aG] : List (aN))), (4, .row (.arr 8 (.int .u8)) ([kE] : LL)), (5, .row (.arr 8 (.int .u8)) yD)]⟩
def abW (A : qK) (N : Nat) : dD (List Int) := eH (LH A) N7 N c75 [1, 1, 0, 1, 0] (fin TI Qn (aY Tryz.f75) Cc)
def YL (A : qK) (N : Nat) (m : Nat) : TS -> Option (List Int) := dW (den (LH A) N7 N (sub c75 [1, 1, 0, 1, 0, 0])) (TS.norm Xz) (abW A N) m
def apP (A : qK) (N : Nat) (yU : FD) : dD (List Int) := eH (LH A) N7 N (sub c75 [1, 1, 0, 1, 0, 0]) [1, 1, 0, 0, 1, 1, 0] (sD (TS.norm Xz) (abW A N) yU)
def YM (A : qK) (N : Nat) (yU : FD) (m : Nat) : TS -> Option (List Int) := dW (den (LH A) N7 N (sub c75 [1, 1, 0, 1, 0, 0, 1, 1, 0, 0, 1, 1, 0, 0])) (TS.norm ahX) (apP A N yU) m
def JM (A : qK) (N : Nat) (aG : aN) (dU : List Int) (jM : Int) (r1 : List Int) (agA : Int -> LL -> Option (List Int)) : Nat -> Int -> LL -> Option (List Int)
 | 0, _, _ => none
 | n + 1, kK, qY => cond (decide (kK < (8 : Int))) (chk (decide (0 <= kK /\ kK < (8 : Int))) (chk (decide (0 <= kK /\ kK < (8 : Int))) (chk (decide (0 <= kK /\ kK < (8 : Int))) (chk ((decide (kK.toNat < (qY.getD 0 kE).length)) && (true)) ((JM A N aG dU jM r1 agA n (aB (kK + 1)) (qY.set 0 ((qY.getD 0 kE).set kK.toNat (y5 .u8 ((qY.getD 0 kE).getD kK.toNat 0) (r1.getD kK.toNat 0))))))))))
   ((agA (aB (jM + 1)) qY))
theorem aIW (A : qK) (N : Nat) (aG : aN) (dU : List Int) (jM : Int) (r1 : List Int) (yU : FD) (m : Nat) (kK : Int) (qY : uK) : YM A N yU (m + 1) (ZB aG dU jM r1 kK qY) = cond (decide (kK < (8 : Int))) (chk (decide (0 <= kK /\ kK < (8 : Int))) (chk (decide (0 <= kK /\ kK < (8 : Int))) (chk (decide (0 <= kK /\ kK < (8 : Int))) (chk ((decide (kK.toNat < (qY.getD 0 kE).length)) && (true)) ((YM A N yU m (ZB aG dU jM r1 (aB (kK + 1)) (qY.set 0 ((qY.getD 0 kE).set kK.toNat (y5 .u8 ((qY.getD 0 kE).getD kK.toNat 0) (r1.getD kK.toNat 0)))))))))))
   ((yU (SB aG dU (aB (jM + 1)) qY))) := by kernel_rfl
theorem akF (A : qK) (N : Nat) (aG : aN) (dU : List Int) (jM : Int) (r1 : List Int) (yU : FD) : ∀ (m : Nat) (kK : Int) (qY : uK), YM A N yU m (ZB aG dU jM r1 kK qY) = JM A N aG dU jM r1 (fun y0 y1 => yU (SB aG dU y0 y1)) m kK qY
        | 0, _, _ => rfl
        | m + 1, kK, qY => by rw [aIW]; simp only [JM, akF A N aG dU jM r1 yU m]
def F8 (A : qK) (N : Nat) (aG : aN) (dU : List Int) : Nat -> Int -> LL -> Option (List Int)
 | 0, _, _ => none
 | n + 1, jM, yD => cond (decide (jM < (dU.length : Int))) (chk (decide (0 <= jM /\ jM < (dU.length : Int))) (chk (decide (0 <= dU.getD jM.toNat 0 /\ dU.getD jM.toNat 0 < (aG.2.1.length : Int))) ((A ([aG.2.1.getD ((dU.getD jM.toNat 0).toNat) ([] : List Int)] : LL)).bind fun r1 =>
   (JM A N aG dU jM r1 (fun y0 y1 => (F8 A N aG dU n y0 y1)) N (0 : Int) yD))))
   (some (yD.getD 0 kE))
theorem aIV (A : qK) (N : Nat) (aG : aN) (dU : List Int) (m : Nat) (jM : Int) (yD : uK) : YL A N (m + 1) (SB aG dU jM yD) = cond (decide (jM < (dU.length : Int))) (chk (decide (0 <= jM /\ jM < (dU.length : Int))) (chk (decide (0 <= dU.getD jM.toNat 0 /\ dU.getD jM.toNat 0 < (aG.2.1.length : Int))) ((A ([aG.2.1.getD ((dU.getD jM.toNat 0).toNat) ([] : List Int)] : LL)).bind fun r1 =>
   (YM A N (YL A N m) N (ZB aG dU jM r1 (0 : Int) yD)))))
   (some (yD.getD 0 kE)) := by kernel_rfl
theorem akE (A : qK) (N : Nat) (aG : aN) (dU : List Int) : ∀ (m : Nat) (jM : Int) (yD : uK), YL A N m (SB aG dU jM yD) = F8 A N aG dU m jM yD
        | 0, _, _ => rfl
        | m + 1, jM, yD => by rw [aIV]; simp only [F8, akF, akE A N aG dU m]
def Ig (A : qK) (N : Nat) (aG : aN) (dU : List Int) : Option (List Int) :=
   (F8 A N aG dU N (0 : Int) ([kE] : LL))
theorem aJQ (A : qK) (N : Nat) (aG : aN) (dU : List Int) : bK (LH A) N7 N Qn c75 (aY Tryz.f75) 34 [.dv (.pair (.int .i64) (.pair (.sl (.sl (.int .i64))) (.unit))) aG, .dv (.sl (.int .i64)) dU] [] Cc = (YL A N N (SB aG dU (0 : Int) ([kE] : LL))) := by kernel_rfl
theorem k75 (A : qK) (N : Nat) (aG : aN) (dU : List Int) : bK (LH A) N7 N Qn c75 (aY Tryz.f75) 34 [.dv (.pair (.int .i64) (.pair (.sl (.sl (.int .i64))) (.unit))) aG, .dv (.sl (.int .i64)) dU] [] Cc = Ig A N aG dU := by rw [aJQ]; simp only [Ig, akE]
theorem aBZ (A : qK) (Su : aF prog 77 (IB A)) (a : (aN) -> (List Int) -> Option (List Int)) (h : ∀ aG dU r, a aG dU = some r -> (∃ N, Ig A N aG dU = some r)) : aF prog 75 (QL a) := by
 intro args Of x hx
 simp only [QL] at hx
 split at hx
 ·rename_i aG dU
  obtain ⟨N, hN⟩ := h _ _ _ hx
  refine dZ func75 (by kernel_rfl) (by kernel_rfl) rfl (dK Su dY) ((k75 A N _ _).trans hN) fun l o hd => ?_
  simp only [Cc] at hd
  split at hd
  ·obtain rfl := aC hd; exact ⟨rfl, rfl⟩
  ·cases hd
 ·cases hx
def WY : Env := dF TI TY [] aX aU
def c76 : Code := dE Tryz.f76
def ahY : Norm := ⟨[2, 3, 4, 6], [2, 3, 4], [], []⟩
def Gv : Nat -> Option Norm := dN [(2, ahY)]
def Qo : End := ⟨[(19, .arr 8 (.int .u8))], ⟨[19], [], [], []⟩⟩
def Ce (l : List TV) (o : List (Nat × TO)) : Option (List Int) := match l, o with | [.dv (.arr 8 (.int .u8)) x0], [] => some (x0) | _, _ => none
def ZC (b1 : List Int) (kN : Int) (qV : uK) : TS := ⟨slots 19 [(2, .ptr 2 0 []), (3, .ptr 3 0 []), (4, .ptr 4 0 []), (6, .dv (.int .i64) kN)], [(2, .row (.arr 8 (.int .u8)) qV), (3, .row (.arr 8 (.int .u8)) ([b1] : LL)), (4, .row (.arr 8 (.int .u8)) ([kE] : LL))]⟩
def apQ (N : Nat) : dD (List Int) := eH (WY) Gv N c76 [1, 0, 1, 0] (fin TI Qo (aY Tryz.f76) Ce)
def YN (N : Nat) (m : Nat) : TS -> Option (List Int) := dW (den (WY) Gv N (sub c76 [1, 0, 1, 0, 0])) (TS.norm ahY) (apQ N) m
def JO (N : Nat) (b1 : List Int) : Nat -> Int -> LL -> Option (List Int)
 | 0, _, _ => none
 | n + 1, kN, qV => cond (decide (kN < (8 : Int))) (chk (decide (0 <= kN /\ kN < (8 : Int))) (chk (decide (0 <= kN /\ kN < (8 : Int))) (chk (decide (0 <= kN /\ kN < (8 : Int))) (chk ((decide (kN.toNat < (qV.getD 0 kE).length)) && (true)) ((JO N b1 n (aB (kN + 1)) (qV.set 0 ((qV.getD 0 kE).set kN.toNat (IW .u8 ((qV.getD 0 kE).getD kN.toNat 0) (b1.getD kN.toNat 0))))))))))
   (some (qV.getD 0 kE))
theorem aIX (N : Nat) (b1 : List Int) (m : Nat) (kN : Int) (qV : uK) : YN N (m + 1) (ZC b1 kN qV) = cond (decide (kN < (8 : Int))) (chk (decide (0 <= kN /\ kN < (8 : Int))) (chk (decide (0 <= kN /\ kN < (8 : Int))) (chk (decide (0 <= kN /\ kN < (8 : Int))) (chk ((decide (kN.toNat < (qV.getD 0 kE).length)) && (true)) ((YN N m (ZC b1 (aB (kN + 1)) (qV.set 0 ((qV.getD 0 kE).set kN.toNat (IW .u8 ((qV.getD 0 kE).getD kN.toNat 0) (b1.getD kN.toNat 0)))))))))))
   (some (qV.getD 0 kE)) := by kernel_rfl
theorem akG (N : Nat) (b1 : List Int) : ∀ (m : Nat) (kN : Int) (qV : uK), YN N m (ZC b1 kN qV) = JO N b1 m kN qV
        | 0, _, _ => rfl
        | m + 1, kN, qV => by rw [aIX]; simp only [JO, akG N b1 m]
def Ih (N : Nat) (fM : List Int) (b1 : List Int) : Option (List Int) :=
   (JO N b1 N (0 : Int) ([fM] : LL))
theorem aJR (N : Nat) (fM : List Int) (b1 : List Int) : bK (WY) Gv N Qo c76 (aY Tryz.f76) 17 [.dv (.arr 8 (.int .u8)) fM, .dv (.arr 8 (.int .u8)) b1] [] Ce = (YN N N (ZC b1 (0 : Int) ([fM] : LL))) := by kernel_rfl
theorem k76 (N : Nat) (fM : List Int) (b1 : List Int) : bK (WY) Gv N Qo c76 (aY Tryz.f76) 17 [.dv (.arr 8 (.int .u8)) fM, .dv (.arr 8 (.int .u8)) b1] [] Ce = Ih N fM b1 := by rw [aJR]; simp only [Ih, akG]
theorem aB0 (a : (List Int) -> (List Int) -> Option (List Int)) (h : ∀ fM b1 r, a fM b1 = some r -> (∃ N, Ih N fM b1 = some r)) : aF prog 76 (QM a) := by
 intro args Of x hx
 simp only [QM] at hx
 split at hx
 ·rename_i fM b1
  obtain ⟨N, hN⟩ := h _ _ _ hx
  refine dZ func76 (by kernel_rfl) (by kernel_rfl) rfl dY ((k76 N _ _).trans hN) fun l o hd => ?_
  simp only [Ce] at hd
  split at hd
  ·obtain rfl := aC hd; exact ⟨rfl, rfl⟩
  ·cases hd
 ·cases hx
def E42 (M : ZK) (P : ZL) (A : qK) : Env := dF TI TY [(75, QL M), (76, QM P), (77, IB A)] aX aU
def c42 : Code := dE Tryz.f42
def azB : Nat -> Option Norm := dN []
def atW : End := ⟨[], ⟨[18], [], [], []⟩⟩
def adY (l : List TV) (o : List (Nat × TO)) : Option (Bool) := match l, o with | [.dv (.bool) x0], [] => some (x0) | _, _ => none
def We (M : ZK) (P : ZL) (A : qK) (N : Nat) (aG : aN) (dU : List Int) (zY : List Int) : Option (Bool) :=
   (M aG dU).bind fun r1 =>
   (A ([zY] : LL)).bind fun r2 =>
   (P r1 r2).bind fun r3 =>
   (A ([zY] : LL)).bind fun r4 =>
   some (DT.beq (.arr 8 (.int .u8)) r3 r4)
theorem k42 (M : ZK) (P : ZL) (A : qK) (N : Nat) (aG : aN) (dU : List Int) (zY : List Int) : bK (E42 M P A) azB N atW c42 (aY Tryz.f42) 15 [.dv (.pair (.int .i64) (.pair (.sl (.sl (.int .i64))) (.unit))) aG, .dv (.sl (.int .i64)) dU, .dv (.sl (.int .i64)) zY] [] adY = We M P A N aG dU zY := by kernel_rfl
theorem aBL (M : ZK) (P : ZL) (A : qK) (h75 : aF prog 75 (QL M)) (h76 : aF prog 76 (QM P)) (Su : aF prog 77 (IB A)) (a : (aN) -> (List Int) -> (List Int) -> Option (Bool)) (h : ∀ aG dU zY r, a aG dU zY = some r -> (∃ N, We M P A N aG dU zY = some r)) : aF prog 42 (LV a) := by
 intro args Of x hx
 simp only [LV] at hx
 split at hx
 ·rename_i aG dU zY
  obtain ⟨N, hN⟩ := h _ _ _ _ hx
  refine dZ func42 (by kernel_rfl) (by kernel_rfl) rfl (dK h75 (dK h76 (dK Su dY))) ((k42 M P A N _ _ _).trans hN) fun l o hd => ?_
  simp only [adY] at hd
  split at hd
  ·obtain rfl := aC hd; exact ⟨rfl, rfl⟩
  ·cases hd
 ·cases hx
def G8 (B : sQ) (C : sS) (D : sU) (G : sV) (H : sW) (J : sO) : Env := mkEq TI TY [(34, AQ B), (39, AU C), (40, LU D), (41, yO G), (42, LV H), (43, yP J)] (fun i => ([(4, [some (.fJ (.int .i64))])] : List (Nat × List (Option DT))).lookup i) aU Oy
def c17 : Code := dE Tryz.f17
def Xp : Norm := ⟨[2, 4, 5, 6, 22], [2, 4, 5], [], []⟩
def ahB : Norm := ⟨[2, 4, 5, 7, 34, 35, 36], [2, 4, 5], [], []⟩
def JV : Nat -> Option Norm := dN [(8, Xp), (10, ahB)]
def Qb : End := ⟨[(59, .sl (.int .i64))], ⟨[59, 60, 61], [], [], []⟩⟩
def Bf (l : List TV) (o : List (Nat × TO)) : Option (List Int × Int × Int) := match l, o with | [.dv (.sl (.int .i64)) x0, .dv (.int .i64) x1, .dv (.int .i64) x2], [] => some (x0, x1, x2) | _, _ => none
def MK (aG : aN) (eU : Option (List Int)) (fU : Int) (kW : List Int) (gU : Int) : TS := ⟨slots 59 [(2, .ptr 2 0 []), (4, .ptr 4 0 [0]), (5, .ptr 5 0 [0]), (7, .dv (.sl (.int .i64)) kW), (34, .dv (.sl (.sl (.int .i64))) aG.2.1), (35, .dv (.int .i64) (aG.2.1.length : Int)), (36, .dv (.int .i64) gU)], [(2, .row (.pair (.int .i64) (.pair (.sl (.sl (.int .i64))) (.unit))) ([aG] : List (aN))), (4, .aV [.dv (.fJ (.int .i64)) eU]), (5, .aV [.dv (.int .i64) fU])]⟩
def AX (aG : aN) (r1 : Int) (r3 : Int × aN) (eU : Option (List Int)) (fU : Int) : TS := ⟨slots 59 [(2, .ptr 2 0 []), (4, .ptr 4 0 [0]), (5, .ptr 5 0 [0]), (6, .dv (.int .i64) r1), (22, .fn 71 0 2 fun i => ([.el (.int .i64) r3.1 [], .el (.pair (.int .i64) (.pair (.sl (.sl (.int .i64))) (.unit))) r3.2 []] : List TV).getD i .any)], [(2, .row (.pair (.int .i64) (.pair (.sl (.sl (.int .i64))) (.unit))) ([aG] : List (aN))), (4, .aV [.dv (.fJ (.int .i64)) eU]), (5, .aV [.dv (.int .i64) fU])]⟩
def abN (B : sQ) (C : sS) (D : sU) (G : sV) (H : sW) (J : sO) (N : Nat) : dD (List Int × Int × Int) := eH (G8 B C D G H J) JV N c17 [1, 1, 1, 0, 1, 0] (fin TI Qb (aY Tryz.f17) Bf)
def IG (B : sQ) (C : sS) (D : sU) (G : sV) (H : sW) (J : sO) (N : Nat) (xs : LL) : TS -> Option (List Int × Int × Int) := OZ (β := List Int) (fun x s1 K => U3 (pM (G8 B C D G H J) JV N (sub c17 [1, 1, 1, 0, 1, 0, 0])) (pM (G8 B C D G H J) JV N (sub c17 [1, 1, 1, 0, 1, 0, 1])) 23 (.dv (.sl (.int .i64)) x) s1 K) (TS.norm Xp) (abN B C D G H J N) xs
def ao1 (B : sQ) (C : sS) (D : sU) (G : sV) (H : sW) (J : sO) (N : Nat) (aG : aN) (r1 : Int) (r3 : Int × aN) (eU : Option (List Int)) (fU : Int) (wG : TS -> Option (List Int × Int × Int)) : dD (List Int × Int × Int) := FZ (G8 B C D G H J) JV N [2, 4, 5] (sub c17 [1, 1, 1, 0, 1, 0, 1]) [0, 1, 1, 0] (ax9 (AX aG r1 r3 eU fU).sl (AX aG r1 r3 eU fU).ob (TS.norm Xp) (abN B C D G H J N) wG)
def MF (B : sQ) (C : sS) (D : sU) (G : sV) (H : sW) (J : sO) (N : Nat) (aG : aN) (r1 : Int) (r3 : Int × aN) (eU : Option (List Int)) (fU : Int) (wG : TS -> Option (List Int × Int × Int)) (m : Nat) : TS -> Option (List Int × Int × Int) := dW (pM (G8 B C D G H J) JV N (sub c17 [1, 1, 1, 0, 1, 0, 1, 0, 1, 1, 0, 0]) [2, 4, 5]) (TS.qR [2, 4, 5] ahB) (ao1 B C D G H J N aG r1 r3 eU fU wG) m
def BX (B : sQ) (C : sS) (D : sU) (G : sV) (H : sW) (J : sO) (N : Nat) (aG : aN) (eU : Option (List Int)) (fU : Int) (kW : List Int) (Et : (Option (List Int)) -> Int -> Option (List Int × Int × Int)) : Nat -> Int -> Option (List Int × Int × Int)
 | 0, _ => none
 | n + 1, gU => cond (decide (gU < (aG.2.1.length : Int))) (chk (decide (0 <= gU /\ gU < (aG.2.1.length : Int))) ((G kW gU).bind fun r5 =>
   cond (!r5) ((H aG kW (aG.2.1.getD gU.toNat ([] : List Int))).bind fun r6 =>
   cond (r6) (chk ((decide (0 < kW.length)) && (true)) ((J (some kW)).bind fun r7 =>
   (Et r7 gU)))
   ((BX B C D G H J N aG eU fU kW Et n (aB (gU + 1)))))
   ((BX B C D G H J N aG eU fU kW Et n (aB (gU + 1))))))
   ((Et eU fU))
theorem aH2 (B : sQ) (C : sS) (D : sU) (G : sV) (H : sW) (J : sO) (N : Nat) (aG : aN) (r1 : Int) (r3 : Int × aN) (eU : Option (List Int)) (fU : Int) (kW : List Int) (wG : TS -> Option (List Int × Int × Int)) (m : Nat) (gU : Int) : MF B C D G H J N aG r1 r3 eU fU wG (m + 1) (MK aG eU fU kW gU) = cond (decide (gU < (aG.2.1.length : Int))) (chk (decide (0 <= gU /\ gU < (aG.2.1.length : Int))) ((G kW gU).bind fun r5 =>
   cond (!r5) ((H aG kW (aG.2.1.getD gU.toNat ([] : List Int))).bind fun r6 =>
   cond (r6) (chk ((decide (0 < kW.length)) && (true)) ((J (some kW)).bind fun r7 =>
   (wG (AX aG r1 r3 r7 gU))))
   ((MF B C D G H J N aG r1 r3 eU fU wG m (MK aG eU fU kW (aB (gU + 1))))))
   ((MF B C D G H J N aG r1 r3 eU fU wG m (MK aG eU fU kW (aB (gU + 1)))))))
   ((wG (AX aG r1 r3 eU fU))) := by kernel_rfl
theorem ajJ (B : sQ) (C : sS) (D : sU) (G : sV) (H : sW) (J : sO) (N : Nat) (aG : aN) (r1 : Int) (r3 : Int × aN) (eU : Option (List Int)) (fU : Int) (kW : List Int) (wG : TS -> Option (List Int × Int × Int)) : ∀ (m : Nat) (gU : Int), MF B C D G H J N aG r1 r3 eU fU wG m (MK aG eU fU kW gU) = BX B C D G H J N aG eU fU kW (fun y0 y1 => wG (AX aG r1 r3 y0 y1)) m gU
        | 0, _ => rfl
        | m + 1, gU => by rw [aH2]; simp only [BX, ajJ B C D G H J N aG r1 r3 eU fU kW wG m]
def xW (B : sQ) (C : sS) (D : sU) (G : sV) (H : sW) (J : sO) (N : Nat) (aG : aN) (r1 : Int) (r3 : Int × aN) : LL -> (Option (List Int)) -> Int -> Option (List Int × Int × Int)
 | [], eU, fU => cond (eU.isNone) (some ((none : Option (List Int)).getD [], (0 : Int), (5 : Int)))
   (some (eU.getD [], fU, (0 : Int)))
 | kW :: rr, eU, fU => cond (!eU.isNone) (cond (decide ((kW.length : Int) >= ((eU.getD []).length : Int))) ((xW B C D G H J N aG r1 r3 rr eU fU))
   ((BX B C D G H J N aG eU fU kW (fun y0 y1 => (xW B C D G H J N aG r1 r3 rr y0 y1)) N (0 : Int))))
   ((BX B C D G H J N aG eU fU kW (fun y0 y1 => (xW B C D G H J N aG r1 r3 rr y0 y1)) N (0 : Int)))
theorem aH0 (B : sQ) (C : sS) (D : sU) (G : sV) (H : sW) (J : sO) (N : Nat) (aG : aN) (r1 : Int) (r3 : Int × aN) (eU : Option (List Int)) (fU : Int) : IG B C D G H J N [] (AX aG r1 r3 eU fU) = cond (eU.isNone) (some ((none : Option (List Int)).getD [], (0 : Int), (5 : Int)))
   (some (eU.getD [], fU, (0 : Int))) := by kernel_rfl
theorem aH1 (B : sQ) (C : sS) (D : sU) (G : sV) (H : sW) (J : sO) (N : Nat) (aG : aN) (r1 : Int) (r3 : Int × aN) (kW : List Int) (rr : LL) (eU : Option (List Int)) (fU : Int) : IG B C D G H J N (kW :: rr) (AX aG r1 r3 eU fU) = cond (!eU.isNone) (cond (decide ((kW.length : Int) >= ((eU.getD []).length : Int))) ((IG B C D G H J N rr (AX aG r1 r3 eU fU)))
   ((MF B C D G H J N aG r1 r3 eU fU (IG B C D G H J N rr) N (MK aG eU fU kW (0 : Int)))))
   ((MF B C D G H J N aG r1 r3 eU fU (IG B C D G H J N rr) N (MK aG eU fU kW (0 : Int)))) := by kernel_rfl
theorem ajI (B : sQ) (C : sS) (D : sU) (G : sV) (H : sW) (J : sO) (N : Nat) (aG : aN) (r1 : Int) (r3 : Int × aN) : ∀ (m : LL) (eU : Option (List Int)) (fU : Int), IG B C D G H J N m (AX aG r1 r3 eU fU) = xW B C D G H J N aG r1 r3 m eU fU
        | [], eU, fU => by rw [aH0]; simp only [xW]
        | kW :: rr, eU, fU => by rw [aH1]; simp only [xW, ajJ, ajI B C D G H J N aG r1 r3 rr]
def m17 (B : sQ) (C : sS) (D : sU) (G : sV) (H : sW) (J : sO) (N : Nat) (aG : aN) (mP : Int) : Option (List Int × Int × Int) :=
   (B aG).bind fun r1 =>
   cond (r1 != (0 : Int)) (some ((none : Option (List Int)).getD [], (0 : Int), r1))
   ((C (1 : Int) mP (10 : Int)).bind fun r2 =>
   cond (!r2) (some ((none : Option (List Int)).getD [], (0 : Int), (4 : Int)))
   ((D aG mP).bind fun r3 =>
   chk (decide (0 <= r3.1 /\ ((List.length r3.2.2.1 : Nat) : Int) * 8 <= 140737488355328)) ((xW B C D G H J N aG r1 r3 (gr (List.length r3.2.2.1) (Int.toNat r3.1) [] 0) (none : Option (List Int)) (0 : Int)))))
theorem aJC (B : sQ) (C : sS) (D : sU) (G : sV) (H : sW) (J : sO) (N : Nat) (aG : aN) (mP : Int) : bK (G8 B C D G H J) JV N Qb c17 (aY Tryz.f17) 57 [.dv (.pair (.int .i64) (.pair (.sl (.sl (.int .i64))) (.unit))) aG, .dv (.int .i64) mP] [] Bf = (B aG).bind fun r1 =>
   cond (r1 != (0 : Int)) (some ((none : Option (List Int)).getD [], (0 : Int), r1))
   ((C (1 : Int) mP (10 : Int)).bind fun r2 =>
   cond (!r2) (some ((none : Option (List Int)).getD [], (0 : Int), (4 : Int)))
   ((D aG mP).bind fun r3 =>
   chk (decide (0 <= r3.1 /\ ((List.length r3.2.2.1 : Nat) : Int) * 8 <= 140737488355328)) ((IG B C D G H J N (gr (List.length r3.2.2.1) (Int.toNat r3.1) [] 0) (AX aG r1 r3 (none : Option (List Int)) (0 : Int)))))) := by kernel_rfl
theorem k17 (B : sQ) (C : sS) (D : sU) (G : sV) (H : sW) (J : sO) (N : Nat) (aG : aN) (mP : Int) : bK (G8 B C D G H J) JV N Qb c17 (aY Tryz.f17) 57 [.dv (.pair (.int .i64) (.pair (.sl (.sl (.int .i64))) (.unit))) aG, .dv (.int .i64) mP] [] Bf = m17 B C D G H J N aG mP := by rw [aJC]; simp only [m17, ajI]
theorem aA4 (B : sQ) (C : sS) (D : sU) (G : sV) (H : sW) (J : sO) (TK : aF prog 34 (AQ B)) (TL : aF prog 39 (AU C)) (h40 : aF prog 40 (LU D)) (Sj : aF prog 41 (yO G)) (h42 : aF prog 42 (LV H)) (h43 : aF prog 43 (yP J)) (a : (aN) -> Int -> Option (List Int × Int × Int)) (h : ∀ aG mP r, a aG mP = some r -> (∃ N, m17 B C D G H J N aG mP = some r)) : aF prog 17 (P9 a) := by
 intro args Of x hx
 simp only [P9] at hx
 split at hx
 ·rename_i aG mP
  obtain ⟨N, hN⟩ := h _ _ _ hx
  refine ayM (L := [(34, AQ B), (39, AU C), (40, LU D), (41, yO G), (42, LV H), (43, yP J)]) (rc := (fun i => ([(4, [some (.fJ (.int .i64))])] : List (Nat × List (Option DT))).lookup i)) (fz := aU) (fn := Tryz.f17) (by kernel_rfl) (by kernel_rfl) (by kernel_rfl) (by kernel_rfl) rfl ?_ asE ((k17 B C D G H J N _ _).trans hN) ?_
  ·intro p hp; simp only [List.mem_cons, List.not_mem_nil, or_false] at hp; rcases hp with rfl | rfl | rfl | rfl | rfl | rfl
   ·exact TK
   ·exact TL
   ·exact h40
   ·exact Sj
   ·exact h42
   ·exact h43
  ·intro l o hd
   simp only [Bf] at hd
   split at hd
   ·obtain rfl := aC hd; exact ⟨rfl, rfl⟩
   ·cases hd
 ·cases hx
end
end Go.Proofs.YtfopcfnggdonkaaGreatDoor
