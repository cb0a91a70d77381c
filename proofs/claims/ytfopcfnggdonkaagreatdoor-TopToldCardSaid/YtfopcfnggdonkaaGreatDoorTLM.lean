/-
 The functions that the law reaches, told as plain functions.
-/
import Derived.Test.YtfopcfnggdonkaaGreatDoorQFK
import Derived.Test.YtfopcfnggdonkaaGreatDoorWCM
import Derived.Test.YtfopcfnggdonkaaGreatDoorTWM
import Derived.Test.YtfopcfnggdonkaaGreatDoorTMM
import Derived.Test.YtfopcfnggdonkaaGreatDoorTFM
namespace Go.Proofs.YtfopcfnggdonkaaGreatDoor
open Go.Proofs.Tryz
open Go.RowKit
set_option linter.unusedVariables false
noncomputable section
abbrev iC : List Int := [(0 : Int), (0 : Int), (0 : Int), (0 : Int)]
abbrev iM := List Int × List Int × Unit
abbrev jD := Int -> (List (List Int × List Int × Unit)) -> Int -> Int -> Option (List Int × Int)
abbrev jE := (aN) -> Option (Int × Int)
abbrev jF := Int -> (List (List Int × List Int × Unit)) -> Option (List Int × List Int × Int)
abbrev jG := (aN) -> Int -> Option (List Int × Int × Int)
abbrev jH := (aN) -> (List Int) -> Option (List Int × Int)
abbrev jI := Int -> (List (List Int × List Int × Unit)) -> (List Int) -> Option (LL × Int)
abbrev jJ := Option (Bool)
def E4 (A : jD) (B : jE) (C : jF) (D : jG) (G : jH) (H : jI) (J : jJ) : Env := dF TI TY [(14, P5 A), (15, HY B), (16, P7 C), (17, P9 D), (18, QD G), (19, QE H), (20, F20 J)] (fun i => ([(16, [some (.int .i64), none]), (148, [some (.int .i64), none])] : List (Nat × List (Option DT))).lookup i) aU
def c4 : Code := dE Tryz.f4
def Xx : Norm := ⟨[1, 2, 7, 9], [], [(.slot 8, 1008, .pair (.sl (.int .i64)) (.pair (.sl (.int .i64)) (.unit)))], []⟩
def ahR : Norm := ⟨[1, 2, 7, 8, 9, 10, 11, 12, 13], [1008, 12], [], []⟩
def ahS : Norm := ⟨[2, 7, 8, 15], [], [(.slot 14, 1014, .arr 2 (.int .i64))], [(8, .sl (.pair (.sl (.int .i64)) (.pair (.sl (.int .i64)) (.unit))))]⟩
def Xy : Norm := ⟨[2, 7, 8, 14, 16, 17, 149, 150, 151], [1014, 16], [(.iH 16 1, 2100, .sl (.int .i64))], [(17, .sl (.int .i64))]⟩
def ahT : Norm := ⟨[2, 7, 8, 14, 16, 17, 149, 150, 151, 183, 184, 185], [1014, 16, 2100], [(.slot 22, 1022, .int .i64)], []⟩
def ahU : Norm := ⟨[14, 34, 270, 271, 272], [1014], [], []⟩
def vP : Nat -> Option Norm := dN [(4, Xx), (11, ahR), (22, ahS), (28, Xy), (37, ahT), (53, ahU)]
def NF : End := ⟨[], ⟨[298], [], [], []⟩⟩
def I7 (l : List TV) (o : List (Nat × TO)) : Option (Bool) := match l, o with | [.dv (.bool) x0], [] => some (x0) | _, _ => none
def IU (aH : Int) (bU : LL) (bQ : Int) (bW : Int) (fQ : List iM) (kX : Int) (mO : List iM) : TS := ⟨slots 298 [(1, .dv (.sl (.arr 4 (.int .u8))) bU), (2, .dv (.int .u8) bQ), (7, .dv (.int .i64) (aB ((3 : Int) + (Int.tmod (aB (aH)) (2 : Int))))), (8, .row 1008), (9, .dv (.int .i64) bW), (10, .dv (.int .i64) (Int.tmod (aB ((bU.getD bW.toNat iC).getD 0 (0 : Int))) (aB ((3 : Int) + (Int.tmod (aB (aH)) (2 : Int)))))), (11, .dv (.int .i64) (Int.tmod (aB ((aB ((Int.tmod (aB ((bU.getD bW.toNat iC).getD 0 (0 : Int))) (aB ((3 : Int) + (Int.tmod (aB (aH)) (2 : Int))))) + 1)) + (Int.tmod (aB ((bU.getD bW.toNat iC).getD 1 (0 : Int))) (aB ((aB ((3 : Int) + (Int.tmod (aB (aH)) (2 : Int)))) - (1 : Int)))))) (aB ((3 : Int) + (Int.tmod (aB (aH)) (2 : Int)))))), (12, .ptr 12 0 []), (13, .dv (.int .i64) kX)], [(1008, .row (.pair (.sl (.int .i64)) (.pair (.sl (.int .i64)) (.unit))) fQ), (12, .row (.pair (.sl (.int .i64)) (.pair (.sl (.int .i64)) (.unit))) mO)]⟩
def RZ (aH : Int) (bQ : Int) (fK : List iM) (dA : LL) (iW : Int) (iV : LL) (r1 : List Int × Int) (yI : List Int) (rD : Int) (wB : List Int) : TS := ⟨slots 298 [(2, .dv (.int .u8) bQ), (7, .dv (.int .i64) (aB ((3 : Int) + (Int.tmod (aB (aH)) (2 : Int))))), (8, .dv (.sl (.pair (.sl (.int .i64)) (.pair (.sl (.int .i64)) (.unit)))) fK), (14, .row 1014), (16, .ptr 16 0 []), (17, .dv (.sl (.int .i64)) yI), (22, .row 1022), (149, .row 1014), (150, .dv (.int .i64) (dA.length : Int)), (151, .dv (.int .i64) iW), (183, .dv (.sl (.int .i64)) r1.1), (184, .dv (.int .i64) (r1.1.length : Int)), (185, .dv (.int .i64) rD)], [(1022, .row (.int .i64) wB), (1014, .row (.arr 2 (.int .i64)) dA), (16, .aV [.dv (.int .i64) (3 : Int), .row 2100]), (2100, .row (.sl (.int .i64)) iV)]⟩
def Y9 (dA : LL) (r5 : List Int × Int) (r6 : LL × Int) (kL : Int) : TS := ⟨slots 298 [(14, .row 1014), (34, .dv (.sl (.arr 2 (.int .i64))) r6.1), (270, .dv (.sl (.int .i64)) r5.1), (271, .dv (.int .i64) (r5.1.length : Int)), (272, .dv (.int .i64) kL)], [(1014, .row (.arr 2 (.int .i64)) dA)]⟩
def RY (aH : Int) (bQ : Int) (fK : List iM) (dA : LL) (yH : List Int) (iW : Int) (iV : LL) : TS := ⟨slots 298 [(2, .dv (.int .u8) bQ), (7, .dv (.int .i64) (aB ((3 : Int) + (Int.tmod (aB (aH)) (2 : Int))))), (8, .dv (.sl (.pair (.sl (.int .i64)) (.pair (.sl (.int .i64)) (.unit)))) fK), (14, .row 1014), (16, .ptr 16 0 []), (17, .dv (.sl (.int .i64)) yH), (149, .row 1014), (150, .dv (.int .i64) (dA.length : Int)), (151, .dv (.int .i64) iW)], [(2100, .row (.sl (.int .i64)) iV), (1014, .row (.arr 2 (.int .i64)) dA), (16, .aV [.dv (.int .i64) (3 : Int), .row 2100])]⟩
def IV (aH : Int) (bQ : Int) (fK : List iM) (uH : Int) (dA : LL) : TS := ⟨slots 298 [(2, .dv (.int .u8) bQ), (7, .dv (.int .i64) (aB ((3 : Int) + (Int.tmod (aB (aH)) (2 : Int))))), (8, .dv (.sl (.pair (.sl (.int .i64)) (.pair (.sl (.int .i64)) (.unit)))) fK), (14, .row 1014), (15, .dv (.int .i64) uH)], [(1014, .row (.arr 2 (.int .i64)) dA)]⟩
def IQ (aH : Int) (bU : LL) (bQ : Int) (bW : Int) (fQ : List iM) : TS := ⟨slots 298 [(1, .dv (.sl (.arr 4 (.int .u8))) bU), (2, .dv (.int .u8) bQ), (7, .dv (.int .i64) (aB ((3 : Int) + (Int.tmod (aB (aH)) (2 : Int))))), (8, .row 1008), (9, .dv (.int .i64) bW)], [(1008, .row (.pair (.sl (.int .i64)) (.pair (.sl (.int .i64)) (.unit))) fQ)]⟩
def abU (A : jD) (B : jE) (C : jF) (D : jG) (G : jH) (H : jI) (J : jJ) (N : Nat) : dD (Bool) := eH (E4 A B C D G H J) vP N c4 [1, 1, 1, 0, 1, 0] (fin TI NF (aY Tryz.f4) I7)
def MH (A : jD) (B : jE) (C : jF) (D : jG) (G : jH) (H : jI) (J : jJ) (N : Nat) (m : Nat) : TS -> Option (Bool) := dW (den (E4 A B C D G H J) vP N (sub c4 [1, 1, 1, 0, 1, 0, 0])) (TS.norm Xx) (abU A B C D G H J N) m
def apJ (A : jD) (B : jE) (C : jF) (D : jG) (G : jH) (H : jI) (J : jJ) (N : Nat) (uZ : TS -> Option (Bool)) : dD (Bool) := eH (E4 A B C D G H J) vP N (sub c4 [1, 1, 1, 0, 1, 0, 0]) [1, 0, 0, 1, 1, 1, 0, 1, 0, 1, 0] (sD (TS.norm Xx) (abU A B C D G H J N) uZ)
def IJ (A : jD) (B : jE) (C : jF) (D : jG) (G : jH) (H : jI) (J : jJ) (N : Nat) (uZ : TS -> Option (Bool)) (m : Nat) : TS -> Option (Bool) := dW (den (E4 A B C D G H J) vP N (sub c4 [1, 1, 1, 0, 1, 0, 0, 1, 0, 0, 1, 1, 1, 0, 1, 0, 1, 0, 0])) (TS.norm ahR) (apJ A B C D G H J N uZ) m
def apK (A : jD) (B : jE) (C : jF) (D : jG) (G : jH) (H : jI) (J : jJ) (N : Nat) : dD (Bool) := eH (E4 A B C D G H J) vP N c4 [1, 1, 1, 1, 1, 1, 0, 1, 0] (fin TI NF (aY Tryz.f4) I7)
def IK (A : jD) (B : jE) (C : jF) (D : jG) (G : jH) (H : jI) (J : jJ) (N : Nat) (m : Nat) : TS -> Option (Bool) := dW (den (E4 A B C D G H J) vP N (sub c4 [1, 1, 1, 1, 1, 1, 0, 1, 0, 0])) (TS.norm ahS) (apK A B C D G H J N) m
def abV (A : jD) (B : jE) (C : jF) (D : jG) (G : jH) (H : jI) (J : jJ) (N : Nat) : dD (Bool) := eH (E4 A B C D G H J) vP N c4 [1, 1, 1, 1, 1, 1, 1, 1, 1, 0, 1, 0] (fin TI NF (aY Tryz.f4) I7)
def Q3 (A : jD) (B : jE) (C : jF) (D : jG) (G : jH) (H : jI) (J : jJ) (N : Nat) (m : Nat) : TS -> Option (Bool) := dW (den (E4 A B C D G H J) vP N (sub c4 [1, 1, 1, 1, 1, 1, 1, 1, 1, 0, 1, 0, 0])) (TS.norm Xy) (abV A B C D G H J N) m
def apL (A : jD) (B : jE) (C : jF) (D : jG) (G : jH) (H : jI) (J : jJ) (N : Nat) (yT : TS -> Option (Bool)) : dD (Bool) := eH (E4 A B C D G H J) vP N (sub c4 [1, 1, 1, 1, 1, 1, 1, 1, 1, 0, 1, 0, 0]) [1, 1, 0, 0, 1, 1, 1, 1, 1, 0, 1, 0] (sD (TS.norm Xy) (abV A B C D G H J N) yT)
def Q4 (A : jD) (B : jE) (C : jF) (D : jG) (G : jH) (H : jI) (J : jJ) (N : Nat) (yT : TS -> Option (Bool)) (m : Nat) : TS -> Option (Bool) := dW (den (E4 A B C D G H J) vP N (sub c4 [1, 1, 1, 1, 1, 1, 1, 1, 1, 0, 1, 0, 0, 1, 1, 0, 0, 1, 1, 1, 1, 1, 0, 1, 0, 0])) (TS.norm ahT) (apL A B C D G H J N yT) m
def apM (A : jD) (B : jE) (C : jF) (D : jG) (G : jH) (H : jI) (J : jJ) (N : Nat) : dD (Bool) := eH (E4 A B C D G H J) vP N c4 [1, 1, 1, 1, 1, 1, 1, 1, 1, 1, 1, 1, 1, 1, 1, 1, 1, 0, 1, 0] (fin TI NF (aY Tryz.f4) I7)
def YJ (A : jD) (B : jE) (C : jF) (D : jG) (G : jH) (H : jI) (J : jJ) (N : Nat) (m : Nat) : TS -> Option (Bool) := dW (den (E4 A B C D G H J) vP N (sub c4 [1, 1, 1, 1, 1, 1, 1, 1, 1, 1, 1, 1, 1, 1, 1, 1, 1, 0, 1, 0, 0])) (TS.norm ahU) (apM A B C D G H J N) m
def wR (A : jD) (B : jE) (C : jF) (D : jG) (G : jH) (H : jI) (J : jJ) (N : Nat) (aH : Int) (bU : LL) (bQ : Int) (bW : Int) (fQ : List iM) (UL : Int -> (List iM) -> Option (Bool)) : Nat -> Int -> (List iM) -> Option (Bool)
 | 0, _, _ => none
 | n + 1, kX, mO => cond (decide (kX < (aB ((3 : Int) + (Int.tmod (aB (aH)) (2 : Int)))))) (cond (kX == (Int.tmod (aB ((bU.getD bW.toNat iC).getD 0 (0 : Int))) (aB ((3 : Int) + (Int.tmod (aB (aH)) (2 : Int)))))) ((wR A B C D G H J N aH bU bQ bW fQ UL n (aB (kX + 1)) mO))
   (cond (kX == (Int.tmod (aB ((aB ((Int.tmod (aB ((bU.getD bW.toNat iC).getD 0 (0 : Int))) (aB ((3 : Int) + (Int.tmod (aB (aH)) (2 : Int))))) + 1)) + (Int.tmod (aB ((bU.getD bW.toNat iC).getD 1 (0 : Int))) (aB ((aB ((3 : Int) + (Int.tmod (aB (aH)) (2 : Int)))) - (1 : Int)))))) (aB ((3 : Int) + (Int.tmod (aB (aH)) (2 : Int)))))) ((wR A B C D G H J N aH bU bQ bW fQ UL n (aB (kX + 1)) mO))
   (cond (decide ((((mO.getD 0 (([] : List Int), (([] : List Int), ()))).1).length : Int) < (2 : Int))) ((wR A B C D G H J N aH bU bQ bW fQ UL n (aB (kX + 1)) (mO.set 0 (([gI (Int.tmod (aB ((bU.getD bW.toNat iC).getD 0 (0 : Int))) (aB ((3 : Int) + (Int.tmod (aB (aH)) (2 : Int))))) kX, imax (Int.tmod (aB ((bU.getD bW.toNat iC).getD 0 (0 : Int))) (aB ((3 : Int) + (Int.tmod (aB (aH)) (2 : Int))))) kX] : List Int), (mO.getD 0 (([] : List Int), (([] : List Int), ()))).2))))
   ((wR A B C D G H J N aH bU bQ bW fQ UL n (aB (kX + 1)) (mO.set 0 ((mO.getD 0 (([] : List Int), (([] : List Int), ()))).1, (([gI (Int.tmod (aB ((aB ((Int.tmod (aB ((bU.getD bW.toNat iC).getD 0 (0 : Int))) (aB ((3 : Int) + (Int.tmod (aB (aH)) (2 : Int))))) + 1)) + (Int.tmod (aB ((bU.getD bW.toNat iC).getD 1 (0 : Int))) (aB ((aB ((3 : Int) + (Int.tmod (aB (aH)) (2 : Int)))) - (1 : Int)))))) (aB ((3 : Int) + (Int.tmod (aB (aH)) (2 : Int))))) kX, imax (Int.tmod (aB ((aB ((Int.tmod (aB ((bU.getD bW.toNat iC).getD 0 (0 : Int))) (aB ((3 : Int) + (Int.tmod (aB (aH)) (2 : Int))))) + 1)) + (Int.tmod (aB ((bU.getD bW.toNat iC).getD 1 (0 : Int))) (aB ((aB ((3 : Int) + (Int.tmod (aB (aH)) (2 : Int)))) - (1 : Int)))))) (aB ((3 : Int) + (Int.tmod (aB (aH)) (2 : Int))))) kX] : List Int), ((mO.getD 0 (([] : List Int), (([] : List Int), ()))).2).2))))))))
   (chk (small (fQ.length + 1) 48) ((UL (aB (bW + 1)) (fQ ++ ([mO.getD 0 (([] : List Int), (([] : List Int), ()))] : List iM)))))
theorem aIO (A : jD) (B : jE) (C : jF) (D : jG) (G : jH) (H : jI) (J : jJ) (N : Nat) (aH : Int) (bU : LL) (bQ : Int) (bW : Int) (fQ : List iM) (uZ : TS -> Option (Bool)) (m : Nat) (kX : Int) (mO : List iM) : IJ A B C D G H J N uZ (m + 1) (IU aH bU bQ bW fQ kX mO) = cond (decide (kX < (aB ((3 : Int) + (Int.tmod (aB (aH)) (2 : Int)))))) (cond (kX == (Int.tmod (aB ((bU.getD bW.toNat iC).getD 0 (0 : Int))) (aB ((3 : Int) + (Int.tmod (aB (aH)) (2 : Int)))))) ((IJ A B C D G H J N uZ m (IU aH bU bQ bW fQ (aB (kX + 1)) mO)))
   (cond (kX == (Int.tmod (aB ((aB ((Int.tmod (aB ((bU.getD bW.toNat iC).getD 0 (0 : Int))) (aB ((3 : Int) + (Int.tmod (aB (aH)) (2 : Int))))) + 1)) + (Int.tmod (aB ((bU.getD bW.toNat iC).getD 1 (0 : Int))) (aB ((aB ((3 : Int) + (Int.tmod (aB (aH)) (2 : Int)))) - (1 : Int)))))) (aB ((3 : Int) + (Int.tmod (aB (aH)) (2 : Int)))))) ((IJ A B C D G H J N uZ m (IU aH bU bQ bW fQ (aB (kX + 1)) mO)))
   (cond (decide ((((mO.getD 0 (([] : List Int), (([] : List Int), ()))).1).length : Int) < (2 : Int))) ((IJ A B C D G H J N uZ m (IU aH bU bQ bW fQ (aB (kX + 1)) (mO.set 0 (([gI (Int.tmod (aB ((bU.getD bW.toNat iC).getD 0 (0 : Int))) (aB ((3 : Int) + (Int.tmod (aB (aH)) (2 : Int))))) kX, imax (Int.tmod (aB ((bU.getD bW.toNat iC).getD 0 (0 : Int))) (aB ((3 : Int) + (Int.tmod (aB (aH)) (2 : Int))))) kX] : List Int), (mO.getD 0 (([] : List Int), (([] : List Int), ()))).2)))))
   ((IJ A B C D G H J N uZ m (IU aH bU bQ bW fQ (aB (kX + 1)) (mO.set 0 ((mO.getD 0 (([] : List Int), (([] : List Int), ()))).1, (([gI (Int.tmod (aB ((aB ((Int.tmod (aB ((bU.getD bW.toNat iC).getD 0 (0 : Int))) (aB ((3 : Int) + (Int.tmod (aB (aH)) (2 : Int))))) + 1)) + (Int.tmod (aB ((bU.getD bW.toNat iC).getD 1 (0 : Int))) (aB ((aB ((3 : Int) + (Int.tmod (aB (aH)) (2 : Int)))) - (1 : Int)))))) (aB ((3 : Int) + (Int.tmod (aB (aH)) (2 : Int))))) kX, imax (Int.tmod (aB ((aB ((Int.tmod (aB ((bU.getD bW.toNat iC).getD 0 (0 : Int))) (aB ((3 : Int) + (Int.tmod (aB (aH)) (2 : Int))))) + 1)) + (Int.tmod (aB ((bU.getD bW.toNat iC).getD 1 (0 : Int))) (aB ((aB ((3 : Int) + (Int.tmod (aB (aH)) (2 : Int)))) - (1 : Int)))))) (aB ((3 : Int) + (Int.tmod (aB (aH)) (2 : Int))))) kX] : List Int), ((mO.getD 0 (([] : List Int), (([] : List Int), ()))).2).2)))))))))
   (chk (small (fQ.length + 1) 48) ((uZ (IQ aH bU bQ (aB (bW + 1)) (fQ ++ ([mO.getD 0 (([] : List Int), (([] : List Int), ()))] : List iM)))))) := by kernel_rfl
theorem aj8 (A : jD) (B : jE) (C : jF) (D : jG) (G : jH) (H : jI) (J : jJ) (N : Nat) (aH : Int) (bU : LL) (bQ : Int) (bW : Int) (fQ : List iM) (uZ : TS -> Option (Bool)) : ∀ (m : Nat) (kX : Int) (mO : List iM), IJ A B C D G H J N uZ m (IU aH bU bQ bW fQ kX mO) = wR A B C D G H J N aH bU bQ bW fQ (fun y0 y1 => uZ (IQ aH bU bQ y0 y1)) m kX mO
        | 0, _, _ => rfl
        | m + 1, kX, mO => by rw [aIO]; simp only [wR, aj8 A B C D G H J N aH bU bQ bW fQ uZ m]
def EI (A : jD) (B : jE) (C : jF) (D : jG) (G : jH) (H : jI) (J : jJ) (N : Nat) (aH : Int) (bQ : Int) (fK : List iM) (dA : LL) (iW : Int) (iV : LL) (r1 : List Int × Int) (af' : (List Int) -> Int -> LL -> Option (Bool)) : Nat -> (List Int) -> Int -> (List Int) -> Option (Bool)
 | 0, _, _, _ => none
 | n + 1, yI, rD, wB => cond (decide (rD < (r1.1.length : Int))) (chk (decide (0 <= rD /\ rD < (r1.1.length : Int))) (chk (small (wB.length + 1) 8) ((EI A B C D G H J N aH bQ fK dA iW iV r1 af' n yI (aB (rD + 1)) (wB ++ ([aB ((r1.1.getD rD.toNat 0) + 1)] : List Int))))))
   (chk (small (iV.length + 1) 24) ((af' yI (aB (iW + 1)) (iV ++ ([wB] : LL)))))
theorem aIR (A : jD) (B : jE) (C : jF) (D : jG) (G : jH) (H : jI) (J : jJ) (N : Nat) (aH : Int) (bQ : Int) (fK : List iM) (dA : LL) (iW : Int) (iV : LL) (r1 : List Int × Int) (yT : TS -> Option (Bool)) (m : Nat) (yI : List Int) (rD : Int) (wB : List Int) : Q4 A B C D G H J N yT (m + 1) (RZ aH bQ fK dA iW iV r1 yI rD wB) = cond (decide (rD < (r1.1.length : Int))) (chk (decide (0 <= rD /\ rD < (r1.1.length : Int))) (chk (small (wB.length + 1) 8) ((Q4 A B C D G H J N yT m (RZ aH bQ fK dA iW iV r1 yI (aB (rD + 1)) (wB ++ ([aB ((r1.1.getD rD.toNat 0) + 1)] : List Int)))))))
   (chk (small (iV.length + 1) 24) ((yT (RY aH bQ fK dA yI (aB (iW + 1)) (iV ++ ([wB] : LL)))))) := by kernel_rfl
theorem akA (A : jD) (B : jE) (C : jF) (D : jG) (G : jH) (H : jI) (J : jJ) (N : Nat) (aH : Int) (bQ : Int) (fK : List iM) (dA : LL) (iW : Int) (iV : LL) (r1 : List Int × Int) (yT : TS -> Option (Bool)) : ∀ (m : Nat) (yI : List Int) (rD : Int) (wB : List Int), Q4 A B C D G H J N yT m (RZ aH bQ fK dA iW iV r1 yI rD wB) = EI A B C D G H J N aH bQ fK dA iW iV r1 (fun y0 y1 y2 => yT (RY aH bQ fK dA y0 y1 y2)) m yI rD wB
        | 0, _, _, _ => rfl
        | m + 1, yI, rD, wB => by rw [aIR]; simp only [EI, akA A B C D G H J N aH bQ fK dA iW iV r1 yT m]
def EJ (A : jD) (B : jE) (C : jF) (D : jG) (G : jH) (H : jI) (J : jJ) (N : Nat) (dA : LL) (r5 : List Int × Int) (r6 : LL × Int) : Nat -> Int -> Option (Bool)
 | 0, _ => none
 | n + 1, kL => cond (decide (kL < (r5.1.length : Int))) (chk (decide (0 <= kL /\ kL < (r5.1.length : Int))) (cond (decide ((r5.1.getD kL.toNat 0) < (0 : Int))) (some false)
   (cond (decide ((r5.1.getD kL.toNat 0) >= (dA.length : Int))) (some false)
   (chk (decide (0 <= r5.1.getD kL.toNat 0 /\ r5.1.getD kL.toNat 0 < (dA.length : Int))) (chk (decide (0 <= kL /\ kL < (r6.1.length : Int))) (cond (!(DT.beq (.arr 2 (.int .i64)) (dA.getD ((r5.1.getD kL.toNat 0).toNat) ([(0 : Int), (0 : Int)] : List Int)) (r6.1.getD kL.toNat ([(0 : Int), (0 : Int)] : List Int)))) (some false)
   ((EJ A B C D G H J N dA r5 r6 n (aB (kL + 1))))))))))
   ((J).bind fun r7 =>
   some r7)
theorem aIS (A : jD) (B : jE) (C : jF) (D : jG) (G : jH) (H : jI) (J : jJ) (N : Nat) (dA : LL) (r5 : List Int × Int) (r6 : LL × Int) (m : Nat) (kL : Int) : YJ A B C D G H J N (m + 1) (Y9 dA r5 r6 kL) = cond (decide (kL < (r5.1.length : Int))) (chk (decide (0 <= kL /\ kL < (r5.1.length : Int))) (cond (decide ((r5.1.getD kL.toNat 0) < (0 : Int))) (some false)
   (cond (decide ((r5.1.getD kL.toNat 0) >= (dA.length : Int))) (some false)
   (chk (decide (0 <= r5.1.getD kL.toNat 0 /\ r5.1.getD kL.toNat 0 < (dA.length : Int))) (chk (decide (0 <= kL /\ kL < (r6.1.length : Int))) (cond (!(DT.beq (.arr 2 (.int .i64)) (dA.getD ((r5.1.getD kL.toNat 0).toNat) ([(0 : Int), (0 : Int)] : List Int)) (r6.1.getD kL.toNat ([(0 : Int), (0 : Int)] : List Int)))) (some false)
   ((YJ A B C D G H J N m (Y9 dA r5 r6 (aB (kL + 1)))))))))))
   ((J).bind fun r7 =>
   some r7) := by kernel_rfl
theorem akB (A : jD) (B : jE) (C : jF) (D : jG) (G : jH) (H : jI) (J : jJ) (N : Nat) (dA : LL) (r5 : List Int × Int) (r6 : LL × Int) : ∀ (m : Nat) (kL : Int), YJ A B C D G H J N m (Y9 dA r5 r6 kL) = EJ A B C D G H J N dA r5 r6 m kL
        | 0, _ => rfl
        | m + 1, kL => by rw [aIS]; simp only [EJ, akB A B C D G H J N dA r5 r6 m]
def EH (A : jD) (B : jE) (C : jF) (D : jG) (G : jH) (H : jI) (J : jJ) (N : Nat) (aH : Int) (bQ : Int) (fK : List iM) (dA : LL) : Nat -> (List Int) -> Int -> LL -> Option (Bool)
 | 0, _, _, _ => none
 | n + 1, yH, iW, iV => cond (decide (iW < (dA.length : Int))) (chk (decide (0 <= iW /\ iW < (dA.length : Int))) ((A (aB ((3 : Int) + (Int.tmod (aB (aH)) (2 : Int)))) fK ((dA.getD iW.toNat ([(0 : Int), (0 : Int)] : List Int)).getD 0 (0 : Int)) ((dA.getD iW.toNat ([(0 : Int), (0 : Int)] : List Int)).getD 1 (0 : Int))).bind fun r1 =>
   cond (r1.2 != (0 : Int)) (some false)
   (cond ((r1.1.length : Int) != (fK.length : Int)) (some false)
   (chk (decide ((dA.length : Int) ≠ (0 : Int))) (cond (iW == (Int.tmod (aB (bQ)) (dA.length : Int))) ((EI A B C D G H J N aH bQ fK dA iW iV r1 (fun y0 y1 y2 => (EH A B C D G H J N aH bQ fK dA n y0 y1 y2)) N r1.1 (0 : Int) ([] : List Int)))
   ((EI A B C D G H J N aH bQ fK dA iW iV r1 (fun y0 y1 y2 => (EH A B C D G H J N aH bQ fK dA n y0 y1 y2)) N yH (0 : Int) ([] : List Int))))))))
   ((B ((3 : Int), (iV, ()))).bind fun r2 =>
   (C (aB ((3 : Int) + (Int.tmod (aB (aH)) (2 : Int)))) fK).bind fun r3 =>
   (D ((3 : Int), (iV, ())) (1 : Int)).bind fun r4 =>
   cond (r2.2 != (0 : Int)) (some false)
   (cond ((decide (r2.1 > (0 : Int))) != (r3.2.2 == (14 : Int))) (some false)
   (cond ((decide (r2.1 > (0 : Int))) != (r4.2.2 == (5 : Int))) (some false)
   (chk (decide ((dA.length : Int) ≠ (0 : Int))) (chk (decide (0 <= Int.tmod (aB (bQ)) (dA.length : Int) /\ Int.tmod (aB (bQ)) (dA.length : Int) < (iV.length : Int))) ((G ((3 : Int), (iV, ())) (iV.getD ((Int.tmod (aB (bQ)) (dA.length : Int)).toNat) ([] : List Int))).bind fun r5 =>
   (H (aB ((3 : Int) + (Int.tmod (aB (aH)) (2 : Int)))) fK yH).bind fun r6 =>
   cond (r5.2 != (0 : Int)) (some false)
   (cond (r6.2 != (0 : Int)) (some false)
   (cond ((r5.1.length : Int) != (r6.1.length : Int)) (some false)
   ((EJ A B C D G H J N dA r5 r6 N (0 : Int)))))))))))
theorem aIQ (A : jD) (B : jE) (C : jF) (D : jG) (G : jH) (H : jI) (J : jJ) (N : Nat) (aH : Int) (bQ : Int) (fK : List iM) (dA : LL) (m : Nat) (yH : List Int) (iW : Int) (iV : LL) : Q3 A B C D G H J N (m + 1) (RY aH bQ fK dA yH iW iV) = cond (decide (iW < (dA.length : Int))) (chk (decide (0 <= iW /\ iW < (dA.length : Int))) ((A (aB ((3 : Int) + (Int.tmod (aB (aH)) (2 : Int)))) fK ((dA.getD iW.toNat ([(0 : Int), (0 : Int)] : List Int)).getD 0 (0 : Int)) ((dA.getD iW.toNat ([(0 : Int), (0 : Int)] : List Int)).getD 1 (0 : Int))).bind fun r1 =>
   cond (r1.2 != (0 : Int)) (some false)
   (cond ((r1.1.length : Int) != (fK.length : Int)) (some false)
   (chk (decide ((dA.length : Int) ≠ (0 : Int))) (cond (iW == (Int.tmod (aB (bQ)) (dA.length : Int))) ((Q4 A B C D G H J N (Q3 A B C D G H J N m) N (RZ aH bQ fK dA iW iV r1 r1.1 (0 : Int) ([] : List Int))))
   ((Q4 A B C D G H J N (Q3 A B C D G H J N m) N (RZ aH bQ fK dA iW iV r1 yH (0 : Int) ([] : List Int)))))))))
   ((B ((3 : Int), (iV, ()))).bind fun r2 =>
   (C (aB ((3 : Int) + (Int.tmod (aB (aH)) (2 : Int)))) fK).bind fun r3 =>
   (D ((3 : Int), (iV, ())) (1 : Int)).bind fun r4 =>
   cond (r2.2 != (0 : Int)) (some false)
   (cond ((decide (r2.1 > (0 : Int))) != (r3.2.2 == (14 : Int))) (some false)
   (cond ((decide (r2.1 > (0 : Int))) != (r4.2.2 == (5 : Int))) (some false)
   (chk (decide ((dA.length : Int) ≠ (0 : Int))) (chk (decide (0 <= Int.tmod (aB (bQ)) (dA.length : Int) /\ Int.tmod (aB (bQ)) (dA.length : Int) < (iV.length : Int))) ((G ((3 : Int), (iV, ())) (iV.getD ((Int.tmod (aB (bQ)) (dA.length : Int)).toNat) ([] : List Int))).bind fun r5 =>
   (H (aB ((3 : Int) + (Int.tmod (aB (aH)) (2 : Int)))) fK yH).bind fun r6 =>
   cond (r5.2 != (0 : Int)) (some false)
   (cond (r6.2 != (0 : Int)) (some false)
   (cond ((r5.1.length : Int) != (r6.1.length : Int)) (some false)
   ((YJ A B C D G H J N N (Y9 dA r5 r6 (0 : Int)))))))))))) := by kernel_rfl
theorem aj' (A : jD) (B : jE) (C : jF) (D : jG) (G : jH) (H : jI) (J : jJ) (N : Nat) (aH : Int) (bQ : Int) (fK : List iM) (dA : LL) : ∀ (m : Nat) (yH : List Int) (iW : Int) (iV : LL), Q3 A B C D G H J N m (RY aH bQ fK dA yH iW iV) = EH A B C D G H J N aH bQ fK dA m yH iW iV
        | 0, _, _, _ => rfl
        | m + 1, yH, iW, iV => by rw [aIQ]; simp only [EH, akA, akB, aj' A B C D G H J N aH bQ fK dA m]
def wS (A : jD) (B : jE) (C : jF) (D : jG) (G : jH) (H : jI) (J : jJ) (N : Nat) (aH : Int) (bQ : Int) : Nat -> (List iM) -> Int -> LL -> Option (Bool)
 | 0, _, _, _ => none
 | n + 1, fK, uH, dA => cond (decide (uH < (aB ((3 : Int) + (Int.tmod (aB (aH)) (2 : Int)))))) (chk (small (dA.length + 2) 16) ((wS A B C D G H J N aH bQ n fK (aB (uH + 1)) (dA ++ ([([uH, (1 : Int)] : List Int), ([uH, (-1 : Int)] : List Int)] : LL)))))
   ((EH A B C D G H J N aH bQ fK dA N ([] : List Int) (0 : Int) ([] : LL)))
theorem aIP (A : jD) (B : jE) (C : jF) (D : jG) (G : jH) (H : jI) (J : jJ) (N : Nat) (aH : Int) (bQ : Int) (m : Nat) (fK : List iM) (uH : Int) (dA : LL) : IK A B C D G H J N (m + 1) (IV aH bQ fK uH dA) = cond (decide (uH < (aB ((3 : Int) + (Int.tmod (aB (aH)) (2 : Int)))))) (chk (small (dA.length + 2) 16) ((IK A B C D G H J N m (IV aH bQ fK (aB (uH + 1)) (dA ++ ([([uH, (1 : Int)] : List Int), ([uH, (-1 : Int)] : List Int)] : LL))))))
   ((Q3 A B C D G H J N N (RY aH bQ fK dA ([] : List Int) (0 : Int) ([] : LL)))) := by kernel_rfl
theorem aj9 (A : jD) (B : jE) (C : jF) (D : jG) (G : jH) (H : jI) (J : jJ) (N : Nat) (aH : Int) (bQ : Int) : ∀ (m : Nat) (fK : List iM) (uH : Int) (dA : LL), IK A B C D G H J N m (IV aH bQ fK uH dA) = wS A B C D G H J N aH bQ m fK uH dA
        | 0, _, _, _ => rfl
        | m + 1, fK, uH, dA => by rw [aIP]; simp only [wS, aj', aj9 A B C D G H J N aH bQ m]
def vO (A : jD) (B : jE) (C : jF) (D : jG) (G : jH) (H : jI) (J : jJ) (N : Nat) (aH : Int) (bU : LL) (bQ : Int) : Nat -> Int -> (List iM) -> Option (Bool)
 | 0, _, _ => none
 | n + 1, bW, fQ => cond (decide (bW < (bU.length : Int))) (cond (decide (bW < (3 : Int))) (chk (decide (0 <= bW /\ bW < (bU.length : Int))) (chk (decide (aB ((3 : Int) + (Int.tmod (aB (aH)) (2 : Int))) ≠ (0 : Int))) (chk (decide (0 <= bW /\ bW < (bU.length : Int))) (chk (decide (aB ((aB ((3 : Int) + (Int.tmod (aB (aH)) (2 : Int)))) - (1 : Int)) ≠ (0 : Int))) (chk (decide (aB ((3 : Int) + (Int.tmod (aB (aH)) (2 : Int))) ≠ (0 : Int))) (cond ((aB ((3 : Int) + (Int.tmod (aB (aH)) (2 : Int)))) == (4 : Int)) (chk (decide (0 <= bW /\ bW < (bU.length : Int))) (cond ((Int.tmod ((bU.getD bW.toNat iC).getD 2 (0 : Int)) (2 : Int)) == (1 : Int)) ((wR A B C D G H J N aH bU bQ bW fQ (fun y0 y1 => (vO A B C D G H J N aH bU bQ n y0 y1)) N (0 : Int) ([(([Int.tmod (aB ((bU.getD bW.toNat iC).getD 0 (0 : Int))) (aB ((3 : Int) + (Int.tmod (aB (aH)) (2 : Int))))] : List Int), (([Int.tmod (aB ((aB ((Int.tmod (aB ((bU.getD bW.toNat iC).getD 0 (0 : Int))) (aB ((3 : Int) + (Int.tmod (aB (aH)) (2 : Int))))) + 1)) + (Int.tmod (aB ((bU.getD bW.toNat iC).getD 1 (0 : Int))) (aB ((aB ((3 : Int) + (Int.tmod (aB (aH)) (2 : Int)))) - (1 : Int)))))) (aB ((3 : Int) + (Int.tmod (aB (aH)) (2 : Int))))] : List Int), ()))] : List iM)))
   (chk (small (fQ.length + 1) 48) ((vO A B C D G H J N aH bU bQ n (aB (bW + 1)) (fQ ++ ([(([Int.tmod (aB ((bU.getD bW.toNat iC).getD 0 (0 : Int))) (aB ((3 : Int) + (Int.tmod (aB (aH)) (2 : Int))))] : List Int), (([Int.tmod (aB ((aB ((Int.tmod (aB ((bU.getD bW.toNat iC).getD 0 (0 : Int))) (aB ((3 : Int) + (Int.tmod (aB (aH)) (2 : Int))))) + 1)) + (Int.tmod (aB ((bU.getD bW.toNat iC).getD 1 (0 : Int))) (aB ((aB ((3 : Int) + (Int.tmod (aB (aH)) (2 : Int)))) - (1 : Int)))))) (aB ((3 : Int) + (Int.tmod (aB (aH)) (2 : Int))))] : List Int), ()))] : List iM)))))))
   (chk (small (fQ.length + 1) 48) ((vO A B C D G H J N aH bU bQ n (aB (bW + 1)) (fQ ++ ([(([Int.tmod (aB ((bU.getD bW.toNat iC).getD 0 (0 : Int))) (aB ((3 : Int) + (Int.tmod (aB (aH)) (2 : Int))))] : List Int), (([Int.tmod (aB ((aB ((Int.tmod (aB ((bU.getD bW.toNat iC).getD 0 (0 : Int))) (aB ((3 : Int) + (Int.tmod (aB (aH)) (2 : Int))))) + 1)) + (Int.tmod (aB ((bU.getD bW.toNat iC).getD 1 (0 : Int))) (aB ((aB ((3 : Int) + (Int.tmod (aB (aH)) (2 : Int)))) - (1 : Int)))))) (aB ((3 : Int) + (Int.tmod (aB (aH)) (2 : Int))))] : List Int), ()))] : List iM)))))))))))
   (cond ((fQ.length : Int) == (0 : Int)) ((wS A B C D G H J N aH bQ N ([(([(0 : Int)] : List Int), (([(1 : Int)] : List Int), ()))] : List iM) (0 : Int) ([([(0 : Int), (0 : Int)] : List Int)] : LL)))
   ((wS A B C D G H J N aH bQ N fQ (0 : Int) ([([(0 : Int), (0 : Int)] : List Int)] : LL)))))
   (cond ((fQ.length : Int) == (0 : Int)) ((wS A B C D G H J N aH bQ N ([(([(0 : Int)] : List Int), (([(1 : Int)] : List Int), ()))] : List iM) (0 : Int) ([([(0 : Int), (0 : Int)] : List Int)] : LL)))
   ((wS A B C D G H J N aH bQ N fQ (0 : Int) ([([(0 : Int), (0 : Int)] : List Int)] : LL))))
theorem aIN (A : jD) (B : jE) (C : jF) (D : jG) (G : jH) (H : jI) (J : jJ) (N : Nat) (aH : Int) (bU : LL) (bQ : Int) (m : Nat) (bW : Int) (fQ : List iM) : MH A B C D G H J N (m + 1) (IQ aH bU bQ bW fQ) = cond (decide (bW < (bU.length : Int))) (cond (decide (bW < (3 : Int))) (chk (decide (0 <= bW /\ bW < (bU.length : Int))) (chk (decide (aB ((3 : Int) + (Int.tmod (aB (aH)) (2 : Int))) ≠ (0 : Int))) (chk (decide (0 <= bW /\ bW < (bU.length : Int))) (chk (decide (aB ((aB ((3 : Int) + (Int.tmod (aB (aH)) (2 : Int)))) - (1 : Int)) ≠ (0 : Int))) (chk (decide (aB ((3 : Int) + (Int.tmod (aB (aH)) (2 : Int))) ≠ (0 : Int))) (cond ((aB ((3 : Int) + (Int.tmod (aB (aH)) (2 : Int)))) == (4 : Int)) (chk (decide (0 <= bW /\ bW < (bU.length : Int))) (cond ((Int.tmod ((bU.getD bW.toNat iC).getD 2 (0 : Int)) (2 : Int)) == (1 : Int)) ((IJ A B C D G H J N (MH A B C D G H J N m) N (IU aH bU bQ bW fQ (0 : Int) ([(([Int.tmod (aB ((bU.getD bW.toNat iC).getD 0 (0 : Int))) (aB ((3 : Int) + (Int.tmod (aB (aH)) (2 : Int))))] : List Int), (([Int.tmod (aB ((aB ((Int.tmod (aB ((bU.getD bW.toNat iC).getD 0 (0 : Int))) (aB ((3 : Int) + (Int.tmod (aB (aH)) (2 : Int))))) + 1)) + (Int.tmod (aB ((bU.getD bW.toNat iC).getD 1 (0 : Int))) (aB ((aB ((3 : Int) + (Int.tmod (aB (aH)) (2 : Int)))) - (1 : Int)))))) (aB ((3 : Int) + (Int.tmod (aB (aH)) (2 : Int))))] : List Int), ()))] : List iM))))
   (chk (small (fQ.length + 1) 48) ((MH A B C D G H J N m (IQ aH bU bQ (aB (bW + 1)) (fQ ++ ([(([Int.tmod (aB ((bU.getD bW.toNat iC).getD 0 (0 : Int))) (aB ((3 : Int) + (Int.tmod (aB (aH)) (2 : Int))))] : List Int), (([Int.tmod (aB ((aB ((Int.tmod (aB ((bU.getD bW.toNat iC).getD 0 (0 : Int))) (aB ((3 : Int) + (Int.tmod (aB (aH)) (2 : Int))))) + 1)) + (Int.tmod (aB ((bU.getD bW.toNat iC).getD 1 (0 : Int))) (aB ((aB ((3 : Int) + (Int.tmod (aB (aH)) (2 : Int)))) - (1 : Int)))))) (aB ((3 : Int) + (Int.tmod (aB (aH)) (2 : Int))))] : List Int), ()))] : List iM))))))))
   (chk (small (fQ.length + 1) 48) ((MH A B C D G H J N m (IQ aH bU bQ (aB (bW + 1)) (fQ ++ ([(([Int.tmod (aB ((bU.getD bW.toNat iC).getD 0 (0 : Int))) (aB ((3 : Int) + (Int.tmod (aB (aH)) (2 : Int))))] : List Int), (([Int.tmod (aB ((aB ((Int.tmod (aB ((bU.getD bW.toNat iC).getD 0 (0 : Int))) (aB ((3 : Int) + (Int.tmod (aB (aH)) (2 : Int))))) + 1)) + (Int.tmod (aB ((bU.getD bW.toNat iC).getD 1 (0 : Int))) (aB ((aB ((3 : Int) + (Int.tmod (aB (aH)) (2 : Int)))) - (1 : Int)))))) (aB ((3 : Int) + (Int.tmod (aB (aH)) (2 : Int))))] : List Int), ()))] : List iM))))))))))))
   (cond ((fQ.length : Int) == (0 : Int)) ((IK A B C D G H J N N (IV aH bQ ([(([(0 : Int)] : List Int), (([(1 : Int)] : List Int), ()))] : List iM) (0 : Int) ([([(0 : Int), (0 : Int)] : List Int)] : LL))))
   ((IK A B C D G H J N N (IV aH bQ fQ (0 : Int) ([([(0 : Int), (0 : Int)] : List Int)] : LL))))))
   (cond ((fQ.length : Int) == (0 : Int)) ((IK A B C D G H J N N (IV aH bQ ([(([(0 : Int)] : List Int), (([(1 : Int)] : List Int), ()))] : List iM) (0 : Int) ([([(0 : Int), (0 : Int)] : List Int)] : LL))))
   ((IK A B C D G H J N N (IV aH bQ fQ (0 : Int) ([([(0 : Int), (0 : Int)] : List Int)] : LL))))) := by kernel_rfl
theorem aj7 (A : jD) (B : jE) (C : jF) (D : jG) (G : jH) (H : jI) (J : jJ) (N : Nat) (aH : Int) (bU : LL) (bQ : Int) : ∀ (m : Nat) (bW : Int) (fQ : List iM), MH A B C D G H J N m (IQ aH bU bQ bW fQ) = vO A B C D G H J N aH bU bQ m bW fQ
        | 0, _, _ => rfl
        | m + 1, bW, fQ => by rw [aIN]; simp only [vO, aj8, aj9, aj7 A B C D G H J N aH bU bQ m]
def m4 (A : jD) (B : jE) (C : jF) (D : jG) (G : jH) (H : jI) (J : jJ) (N : Nat) (aH : Int) (bU : LL) (bQ : Int) : Option (Bool) :=
   (vO A B C D G H J N aH bU bQ N (0 : Int) ([] : List iM))
theorem wm4 (A : jD) (B : jE) (C : jF) (D : jG) (G : jH) (H : jI) (J : jJ) (N : Nat) (aH : Int) (bU : LL) (bQ : Int) : bK (E4 A B C D G H J) vP N NF c4 (aY Tryz.f4) 295 [.dv (.int .u8) aH, .dv (.sl (.arr 4 (.int .u8))) bU, .dv (.int .u8) bQ] [] I7 = (MH A B C D G H J N N (IQ aH bU bQ (0 : Int) ([] : List iM))) := by kernel_rfl
theorem k4 (A : jD) (B : jE) (C : jF) (D : jG) (G : jH) (H : jI) (J : jJ) (N : Nat) (aH : Int) (bU : LL) (bQ : Int) : bK (E4 A B C D G H J) vP N NF c4 (aY Tryz.f4) 295 [.dv (.int .u8) aH, .dv (.sl (.arr 4 (.int .u8))) bU, .dv (.int .u8) bQ] [] I7 = m4 A B C D G H J N aH bU bQ := by rw [wm4]; simp only [m4, aj7]
theorem ok4 (A : jD) (B : jE) (C : jF) (D : jG) (G : jH) (H : jI) (J : jJ) (h14 : aF prog 14 (P5 A)) (h15 : aF prog 15 (HY B)) (h16 : aF prog 16 (P7 C)) (h17 : aF prog 17 (P9 D)) (h18 : aF prog 18 (QD G)) (h19 : aF prog 19 (QE H)) (h20 : aF prog 20 (F20 J)) (a : Int -> LL -> Int -> Option (Bool)) (h : ∀ aH bU bQ r, a aH bU bQ = some r -> (∃ N, m4 A B C D G H J N aH bU bQ = some r)) : aF prog 4 (F4 a) := by
 intro args Of x hx
 simp only [F4] at hx
 split at hx
 ·rename_i aH bU bQ
  obtain ⟨N, hN⟩ := h _ _ _ _ hx
  refine dZ func4 (by kernel_rfl) (by kernel_rfl) rfl (dK h14 (dK h15 (dK h16 (dK h17 (dK h18 (dK h19 (dK h20 dY))))))) ((k4 A B C D G H J N _ _ _).trans hN) fun l o hd => ?_
  simp only [I7] at hd
  split at hd
  ·obtain rfl := aC hd; exact ⟨rfl, rfl⟩
  ·cases hd
 ·cases hx
end
end Go.Proofs.YtfopcfnggdonkaaGreatDoor
