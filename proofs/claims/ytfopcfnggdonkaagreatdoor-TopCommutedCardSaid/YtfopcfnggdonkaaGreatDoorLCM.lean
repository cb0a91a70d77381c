/-
 The functions that the law reaches, told as plain functions.
-/
import Derived.Test.YtfopcfnggdonkaaGreatDoorLIM
import Derived.Test.YtfopcfnggdonkaaGreatDoorWCM
import Derived.Test.YtfopcfnggdonkaaGreatDoorLLM
namespace Go.Proofs.YtfopcfnggdonkaaGreatDoor
open Go.Proofs.Tryz
open Go.RowKit
set_option linter.unusedVariables false
noncomputable section
abbrev rO (b : List Int) (t : Int) (s : List UInt8) : Int := Int.tmod (aH (b.getD t.toNat 0)) (aH ((s.length : Int) - 1))
def Gv (k : List UInt8 -> Option (List UInt8)) (i : Int) (s : List UInt8) : Option (List UInt8) := (chk (decide (0 <= i /\ i <= (s.length : Int))) (chk (decide (0 <= aH ((i) + 1) /\ aH ((i) + 1) <= (s.length : Int))) (chk (decide (0 <= (1 : Int) /\ (1 : Int) <= ((s.drop ((aH ((i) + 1)).toNat)).length : Int))) (chk (decide ((s.take ((i).toNat)).length + ((s.drop ((aH ((i) + 1)).toNat)).take 1).length <= 9223372036854775807)) (chk (decide (0 <= i /\ i <= (s.length : Int))) (chk (decide (0 <= (1 : Int) /\ (1 : Int) <= ((s.drop ((i).toNat)).length : Int))) (chk (decide (((s.take ((i).toNat)) ++ ((s.drop ((aH ((i) + 1)).toNat)).take 1)).length + ((s.drop ((i).toNat)).take 1).length <= 9223372036854775807)) (chk (decide (0 <= aH ((i) + 2) /\ aH ((i) + 2) <= (s.length : Int))) (chk (decide ((((s.take ((i).toNat)) ++ ((s.drop ((aH ((i) + 1)).toNat)).take 1)) ++ ((s.drop ((i).toNat)).take 1)).length + (s.drop ((aH ((i) + 2)).toNat)).length <= 9223372036854775807)) (k ((((s.take ((i).toNat)) ++ ((s.drop ((aH ((i) + 1)).toNat)).take 1)) ++ ((s.drop ((i).toNat)).take 1)) ++ (s.drop ((aH ((i) + 2)).toNat)))))))))))))
abbrev rC := (aG) -> (List Int) -> (List Bool) -> Option (Int × Int)
abbrev rD := (aG) -> (List Int) -> Option (List Int × Int)
abbrev nT := LL
abbrev kG := Int -> LL -> Option (aG)
abbrev vO := aG
abbrev kH := (List UInt8) -> (List (aG)) -> Option (Int × Int × Bool × List (aG))
abbrev kJ := Option (Bool)
abbrev kT := Int -> (List Int) -> Int -> Option (List UInt8)
abbrev kU := (aG) -> (List UInt8) -> (List Int) -> Option (List UInt8)
abbrev kV := (aG) -> (List UInt8) -> Option (List UInt8 × Int)
abbrev kS := (aG) -> (List UInt8) -> (List UInt8) -> Option (Bool × Int)
abbrev vN := TS -> Option (Bool)
def JJ (K : rC) (M : rD) : Env := dD TI TY [(11, F11 K), (12, MZ M)] aY aW
def J6 : Code := dB Tryz.f10
def afR : Norm := ⟨[0, 1, 17], [9000, 17], [(.slot 6, 1006, .int .i64), (.slot 7, 1007, .bool)], []⟩
def afS : Norm := ⟨[9, 10, 12, 13, 45, 46, 47], [9000], [], []⟩
def LD : Nat -> Option Norm := dH [(4, afR), (11, afS)]
def ZK : End := ⟨[], ⟨[70, 71, 72], [9000], [], []⟩⟩
def O7 (l : List TV) (o : List (Nat × TO)) : Option (Int × Int × Bool × List (aG)) := match l, o with | [.dv (.int .i64) x0, .dv (.int .i64) x1, .dv (.bool) x2], [(9000, .row (.pair (.int .i64) (.pair (.sl (.sl (.int .i64))) (.unit))) x3)] => some (x0, x1, x2, x3) | _, _ => none
def V9 (p1 : List (aG)) (r3 : Int × Int) (r4 : List Int × Int) (uC : Int) (nY : Int) : TS := ⟨slots 70 [(9, .dv (.int .i64) r3.1), (10, .dv (.int .i64) r3.2), (12, .dv (.int .i64) r4.2), (13, .dv (.int .i64) uC), (45, .dv (.sl (.int .i64)) r4.1), (46, .dv (.int .i64) (r4.1.length : Int)), (47, .dv (.int .i64) nY)], [(9000, .row (.pair (.int .i64) (.pair (.sl (.sl (.int .i64))) (.unit))) p1)]⟩
def V8 (s0 : List UInt8) (p1 : List (aG)) (qW : List Int) (sS : List Bool) (lU : List (Int × Int)) : TS := ⟨slots 70 [(0, .dv (.str) s0), (1, .ptr 9000 0 []), (6, .row 1006), (7, .row 1007), (17, .row 17)], [(1006, .row (.int .i64) qW), (1007, .row (.bool) sS), (9000, .row (.pair (.int .i64) (.pair (.sl (.sl (.int .i64))) (.unit))) p1), (17, .sit lU)]⟩
def am7 (K : rC) (M : rD) (N : Nat) : dC (Int × Int × Bool × List (aG)) := fG (JJ K M) LD N J6 [1, 1, 1, 0, 1, 0] (fin TI ZK (bC Tryz.f10) O7)
def UZ (K : rC) (M : rD) (N : Nat) (m : Nat) : TS -> Option (Int × Int × Bool × List (aG)) := eX (den (JJ K M) LD N (sub J6 [1, 1, 1, 0, 1, 0, 0])) (TS.norm afR) (am7 K M N) m
def am8 (K : rC) (M : rD) (N : Nat) : dC (Int × Int × Bool × List (aG)) := fG (JJ K M) LD N J6 [1, 1, 1, 1, 1, 1, 1, 0, 1, 0] (fin TI ZK (bC Tryz.f10) O7)
def U1 (K : rC) (M : rD) (N : Nat) (m : Nat) : TS -> Option (Int × Int × Bool × List (aG)) := eX (den (JJ K M) LD N (sub J6 [1, 1, 1, 1, 1, 1, 1, 0, 1, 0, 0])) (TS.norm afS) (am8 K M N) m
def XJ (p1 : List (aG)) (r3 : Int × Int) (r4 : List Int × Int) (F0 : Int -> Int -> Option (Int × Int × Bool × List (aG))) (uC : Int) (nY : Int) : Option (Int × Int × Bool × List (aG)) :=
   cond (decide (nY < (r4.1.length : Int))) (chk (decide (0 <= nY /\ nY < (r4.1.length : Int))) (cond (decide ((r4.1.getD nY.toNat 0) < (0 : Int))) (some ((0 : Int), (0 : Int), false, p1))
   (cond (decide ((r4.1.getD nY.toNat 0) > (5 : Int))) (some ((0 : Int), (0 : Int), false, p1))
   (chk (decide (0 <= r4.1.getD nY.toNat 0)) ((F0 (sQ .i64 uC (IntKind.wrap .i64 ((1 : Int) * 2 ^ min (Int.toNat (r4.1.getD nY.toNat 0)) 64))) (aH (nY + 1))))))))
   (cond (r3.2 == (0 : Int)) (some (r3.1, uC, r4.2 == (0 : Int), p1))
   (some (r3.1, uC, false, p1)))
def D5 (K : rC) (M : rD) (N : Nat) (p1 : List (aG)) (r3 : Int × Int) (r4 : List Int × Int) : Nat -> Int -> Int -> Option (Int × Int × Bool × List (aG))
 | 0, _, _ => none
 | n + 1, uC, nY => XJ p1 r3 r4 (D5 K M N p1 r3 r4 n) uC nY
theorem aGK (K : rC) (M : rD) (N : Nat) (p1 : List (aG)) (r3 : Int × Int) (r4 : List Int × Int) (m : Nat) (uC : Int) (nY : Int) : U1 K M N (m + 1) (V9 p1 r3 r4 uC nY) = XJ p1 r3 r4 (fun y0 y1 => (U1 K M N m (V9 p1 r3 r4 y0 y1))) uC nY := by kernel_rfl
theorem ahX (K : rC) (M : rD) (N : Nat) (p1 : List (aG)) (r3 : Int × Int) (r4 : List Int × Int) : ∀ (m : Nat) (uC : Int) (nY : Int), U1 K M N m (V9 p1 r3 r4 uC nY) = D5 K M N p1 r3 r4 m uC nY
        | 0, _, _ => rfl
        | m + 1, uC, nY => by rw [aGK]; simp only [D5, ahX K M N p1 r3 r4 m]
def GU (K : rC) (M : rD) (N : Nat) (s0 : List UInt8) (p1 : List (aG)) : Nat -> (List Int) -> (List Bool) -> (List (Int × Int)) -> Option (Int × Int × Bool × List (aG))
 | 0, _, _, _ => none
 | n + 1, qW, sS, lU => QR lU ((K (p1.getD 0 ((0 : Int), (([] : LL), ()))) qW sS).bind fun r3 =>
   (M (p1.getD 0 ((0 : Int), (([] : LL), ()))) qW).bind fun r4 =>
   (D5 K M N p1 r3 r4 N (0 : Int) (0 : Int))) (fun h1 => fun g2 =>
   chk (decide (0 <= h1.1 /\ h1.1 < (s0.length : Int))) (chk (small (qW.length + 1) 8) (chk (small (sS.length + 1) 1) ((GU K M N s0 p1 n (qW ++ ([aH ((aH ((((s0.getD h1.1.toNat 0).toNat : Nat) : Int))) - (97 : Int))] : List Int)) (sS ++ ([true] : List Bool)) g2)))))
theorem aGJ (K : rC) (M : rD) (N : Nat) (s0 : List UInt8) (p1 : List (aG)) (m : Nat) (qW : List Int) (sS : List Bool) (lU : List (Int × Int)) : UZ K M N (m + 1) (V8 s0 p1 qW sS lU) = QR lU ((K (p1.getD 0 ((0 : Int), (([] : LL), ()))) qW sS).bind fun r3 =>
   (M (p1.getD 0 ((0 : Int), (([] : LL), ()))) qW).bind fun r4 =>
   (U1 K M N N (V9 p1 r3 r4 (0 : Int) (0 : Int)))) (fun h1 => fun g2 =>
   chk (decide (0 <= h1.1 /\ h1.1 < (s0.length : Int))) (chk (small (qW.length + 1) 8) (chk (small (sS.length + 1) 1) ((UZ K M N m (V8 s0 p1 (qW ++ ([aH ((aH ((((s0.getD h1.1.toNat 0).toNat : Nat) : Int))) - (97 : Int))] : List Int)) (sS ++ ([true] : List Bool)) g2)))))) := by kernel_rfl
theorem ahW (K : rC) (M : rD) (N : Nat) (s0 : List UInt8) (p1 : List (aG)) : ∀ (m : Nat) (qW : List Int) (sS : List Bool) (lU : List (Int × Int)), UZ K M N m (V8 s0 p1 qW sS lU) = GU K M N s0 p1 m qW sS lU
        | 0, _, _, _ => rfl
        | m + 1, qW, sS, lU => by rw [aGJ]; simp only [GU, ahX, ahW K M N s0 p1 m]
def QE (K : rC) (M : rD) (N : Nat) (s0 : List UInt8) (p1 : List (aG)) : Option (Int × Int × Bool × List (aG)) :=
   chk (oG s0) ((GU K M N s0 p1 N ([] : List Int) ([] : List Bool) (CJ 0 s0)))
theorem aHO (K : rC) (M : rD) (N : Nat) (s0 : List UInt8) (p1 : List (aG)) : bK (JJ K M) LD N ZK J6 (bC Tryz.f10) 68 [.dv (.str) s0, .ptr 9000 0 []] [(9000, .row (.pair (.int .i64) (.pair (.sl (.sl (.int .i64))) (.unit))) p1)] O7 = chk (oG s0) ((UZ K M N N (V8 s0 p1 ([] : List Int) ([] : List Bool) (CJ 0 s0)))) := by kernel_rfl
theorem awM (K : rC) (M : rD) (N : Nat) (s0 : List UInt8) (p1 : List (aG)) : bK (JJ K M) LD N ZK J6 (bC Tryz.f10) 68 [.dv (.str) s0, .ptr 9000 0 []] [(9000, .row (.pair (.int .i64) (.pair (.sl (.sl (.int .i64))) (.unit))) p1)] O7 = QE K M N s0 p1 := by rw [aHO]; simp only [QE, ahW]
theorem azW (K : rC) (M : rD) (h11 : aC prog 11 (F11 K)) (h12 : aC prog 12 (MZ M)) (a : (List UInt8) -> (List (aG)) -> Option (Int × Int × Bool × List (aG))) (h : ∀ s0 p1 r, a s0 p1 = some r -> (∃ N, QE K M N s0 p1 = some r)) : aC prog 10 (MX a) := by
 intro args Of x hx
 simp only [MX] at hx
 split at hx
 ·rename_i s0 p1
  obtain ⟨N, hN⟩ := h _ _ _ hx
  refine dS func10 (by kernel_rfl) (by kernel_rfl) rfl (dK h11 (dK h12 dQ)) ((awM K M N _ _).trans hN) fun l o hd => ?_
  simp only [O7] at hd
  split at hd
  ·obtain rfl := aB hd; exact ⟨rfl, rfl⟩
  ·cases hd
 ·cases hx
def E5 : Env := dD TI TY [] (fun i => ([(5, [some (.int .i64), none]), (13, [some (.int .i64), none])] : List (Nat × List (Option DT))).lookup i) aW
def c5 : Code := dB Tryz.f5
def Tz : Norm := ⟨[1, 4, 5, 6], [4, 5], [(.fV 5 1, 2100, .sl (.int .i64))], []⟩
def agD : Norm := ⟨[1, 4, 5, 6, 8], [4, 5, 2100], [(.slot 7, 1007, .int .i64)], []⟩
def LH : Nat -> Option Norm := dH [(3, Tz), (7, agD)]
def Kr : End := ⟨[(59, .pair (.int .i64) (.pair (.sl (.sl (.int .i64))) (.unit)))], ⟨[59], [], [], []⟩⟩
def Y3 (l : List TV) (o : List (Nat × TO)) : Option (aG) := match l, o with | [.dv (.pair (.int .i64) (.pair (.sl (.sl (.int .i64))) (.unit))) x0], [] => some (x0) | _, _ => none
def WW (bU : Int) (dL : LL) (dW : Int) (eP : nT) (qH : Int) (tN : List Int) : TS := ⟨slots 59 [(1, .dv (.sl (.arr 6 (.int .u8))) dL), (4, .ptr 4 0 []), (5, .ptr 5 0 []), (6, .dv (.int .i64) dW), (7, .row 1007), (8, .dv (.int .i64) qH)], [(1007, .row (.int .i64) tN), (4, .row (.pair (.int .i64) (.pair (.sl (.sl (.int .i64))) (.unit))) ([((0 : Int), (([] : LL), ()))] : List (aG))), (5, .aP [.dv (.int .i64) (aH ((2 : Int) + (Int.tmod (aH (bU)) (4 : Int)))), .row 2100]), (2100, .row (.sl (.int .i64)) eP)]⟩
def OW (bU : Int) (dL : LL) (dW : Int) (eP : nT) : TS := ⟨slots 59 [(1, .dv (.sl (.arr 6 (.int .u8))) dL), (4, .ptr 4 0 []), (5, .ptr 5 0 []), (6, .dv (.int .i64) dW)], [(2100, .row (.sl (.int .i64)) eP), (4, .row (.pair (.int .i64) (.pair (.sl (.sl (.int .i64))) (.unit))) ([((0 : Int), (([] : LL), ()))] : List (aG))), (5, .aP [.dv (.int .i64) (aH ((2 : Int) + (Int.tmod (aH (bU)) (4 : Int)))), .row 2100])]⟩
def Zy (N : Nat) : dC (aG) := fG (E5) LH N c5 [1, 1, 0, 1, 0] (fin TI Kr (bC Tryz.f5) Y3)
def VS (N : Nat) (m : Nat) : TS -> Option (aG) := eX (den (E5) LH N (sub c5 [1, 1, 0, 1, 0, 0])) (TS.norm Tz) (Zy N) m
def an9 (N : Nat) (wZ : TS -> Option (aG)) : dC (aG) := fG (E5) LH N (sub c5 [1, 1, 0, 1, 0, 0]) [1, 0, 0, 1, 0, 1, 0] (tK (TS.norm Tz) (Zy N) wZ)
def VT (N : Nat) (wZ : TS -> Option (aG)) (m : Nat) : TS -> Option (aG) := eX (den (E5) LH N (sub c5 [1, 1, 0, 1, 0, 0, 1, 0, 0, 1, 0, 1, 0, 0])) (TS.norm agD) (an9 N wZ) m
def XX (bU : Int) (dL : LL) (dW : Int) (eP : nT) (F0 : Int -> (List Int) -> Option (aG)) (F1 : Int -> LL -> Option (aG)) (qH : Int) (tN : List Int) : Option (aG) :=
   cond (decide (qH < (aH ((2 : Int) + (Int.tmod (aH (bU)) (4 : Int)))))) (chk (decide (0 <= dW /\ dW < (dL.length : Int))) (chk (decide (0 <= qH /\ qH < (6 : Int))) (chk (decide (aH ((2 : Int) + (Int.tmod (aH (bU)) (4 : Int))) ≠ (0 : Int))) (chk (small (tN.length + 1) 8) ((F0 (aH (qH + 1)) (tN ++ ([Int.tmod (aH ((dL.getD dW.toNat ([(0 : Int), (0 : Int), (0 : Int), (0 : Int), (0 : Int), (0 : Int)] : List Int)).getD qH.toNat 0)) (aH ((2 : Int) + (Int.tmod (aH (bU)) (4 : Int))))] : List Int))))))))
   (chk (small (eP.length + 1) 24) ((F1 (aH (dW + 1)) (eP ++ ([tN] : LL)))))
def GZ (N : Nat) (bU : Int) (dL : LL) (dW : Int) (eP : nT) (aeS : kG) : Nat -> Int -> (List Int) -> Option (aG)
 | 0, _, _ => none
 | n + 1, qH, tN => XX bU dL dW eP (GZ N bU dL dW eP aeS n) aeS qH tN
theorem aHC (N : Nat) (bU : Int) (dL : LL) (dW : Int) (eP : nT) (wZ : TS -> Option (aG)) (m : Nat) (qH : Int) (tN : List Int) : VT N wZ (m + 1) (WW bU dL dW eP qH tN) = XX bU dL dW eP (fun y0 y1 => (VT N wZ m (WW bU dL dW eP y0 y1))) (fun y0 y1 => (wZ (OW bU dL y0 y1))) qH tN := by kernel_rfl
theorem aiP (N : Nat) (bU : Int) (dL : LL) (dW : Int) (eP : nT) (wZ : TS -> Option (aG)) : ∀ (m : Nat) (qH : Int) (tN : List Int), VT N wZ m (WW bU dL dW eP qH tN) = GZ N bU dL dW eP (fun y0 y1 => wZ (OW bU dL y0 y1)) m qH tN
        | 0, _, _ => rfl
        | m + 1, qH, tN => by rw [aHC]; simp only [GZ, aiP N bU dL dW eP wZ m]
def BP (N : Nat) (bU : Int) (dL : LL) : Nat -> Int -> LL -> Option (aG)
 | 0, _, _ => none
 | n + 1, dW, eP => cond (decide (dW < (dL.length : Int))) (cond (decide (dW < (4 : Int))) ((GZ N bU dL dW eP (fun y0 y1 => (BP N bU dL n y0 y1)) N (0 : Int) ([] : List Int)))
   (cond ((eP.length : Int) == (0 : Int)) (chk (rX (aH ((2 : Int) + (Int.tmod (aH (bU)) (4 : Int)))) (aH ((2 : Int) + (Int.tmod (aH (bU)) (4 : Int)))) 8) (some (aH ((2 : Int) + (Int.tmod (aH (bU)) (4 : Int))), (([List.replicate ((aH ((2 : Int) + (Int.tmod (aH (bU)) (4 : Int)))).toNat) (0 : Int)] : LL), ()))))
   (some (aH ((2 : Int) + (Int.tmod (aH (bU)) (4 : Int))), (eP, ())))))
   (cond ((eP.length : Int) == (0 : Int)) (chk (rX (aH ((2 : Int) + (Int.tmod (aH (bU)) (4 : Int)))) (aH ((2 : Int) + (Int.tmod (aH (bU)) (4 : Int)))) 8) (some (aH ((2 : Int) + (Int.tmod (aH (bU)) (4 : Int))), (([List.replicate ((aH ((2 : Int) + (Int.tmod (aH (bU)) (4 : Int)))).toNat) (0 : Int)] : LL), ()))))
   (some (aH ((2 : Int) + (Int.tmod (aH (bU)) (4 : Int))), (eP, ()))))
theorem aHB (N : Nat) (bU : Int) (dL : LL) (m : Nat) (dW : Int) (eP : nT) : VS N (m + 1) (OW bU dL dW eP) = cond (decide (dW < (dL.length : Int))) (cond (decide (dW < (4 : Int))) ((VT N (VS N m) N (WW bU dL dW eP (0 : Int) ([] : List Int))))
   (cond ((eP.length : Int) == (0 : Int)) (chk (rX (aH ((2 : Int) + (Int.tmod (aH (bU)) (4 : Int)))) (aH ((2 : Int) + (Int.tmod (aH (bU)) (4 : Int)))) 8) (some (aH ((2 : Int) + (Int.tmod (aH (bU)) (4 : Int))), (([List.replicate ((aH ((2 : Int) + (Int.tmod (aH (bU)) (4 : Int)))).toNat) (0 : Int)] : LL), ()))))
   (some (aH ((2 : Int) + (Int.tmod (aH (bU)) (4 : Int))), (eP, ())))))
   (cond ((eP.length : Int) == (0 : Int)) (chk (rX (aH ((2 : Int) + (Int.tmod (aH (bU)) (4 : Int)))) (aH ((2 : Int) + (Int.tmod (aH (bU)) (4 : Int)))) 8) (some (aH ((2 : Int) + (Int.tmod (aH (bU)) (4 : Int))), (([List.replicate ((aH ((2 : Int) + (Int.tmod (aH (bU)) (4 : Int)))).toNat) (0 : Int)] : LL), ()))))
   (some (aH ((2 : Int) + (Int.tmod (aH (bU)) (4 : Int))), (eP, ())))) := by kernel_rfl
theorem aiO (N : Nat) (bU : Int) (dL : LL) : ∀ (m : Nat) (dW : Int) (eP : nT), VS N m (OW bU dL dW eP) = BP N bU dL m dW eP
        | 0, _, _ => rfl
        | m + 1, dW, eP => by rw [aHB]; simp only [BP, aiP, aiO N bU dL m]
def m5 (N : Nat) (bU : Int) (dL : LL) : Option (aG) :=
   (BP N bU dL N (0 : Int) ([] : LL))
theorem wm5 (N : Nat) (bU : Int) (dL : LL) : bK (E5) LH N Kr c5 (bC Tryz.f5) 57 [.dv (.int .u8) bU, .dv (.sl (.arr 6 (.int .u8))) dL] [] Y3 = (VS N N (OW bU dL (0 : Int) ([] : LL))) := by kernel_rfl
theorem k5 (N : Nat) (bU : Int) (dL : LL) : bK (E5) LH N Kr c5 (bC Tryz.f5) 57 [.dv (.int .u8) bU, .dv (.sl (.arr 6 (.int .u8))) dL] [] Y3 = m5 N bU dL := by rw [wm5]; simp only [m5, aiO]
theorem ok5 (a : Int -> LL -> Option (aG)) (h : ∀ bU dL r, a bU dL = some r -> (∃ N, m5 N bU dL = some r)) : aC prog 5 (F5 a) := by
 intro args Of x hx
 simp only [F5] at hx
 split at hx
 ·rename_i bU dL
  obtain ⟨N, hN⟩ := h _ _ _ hx
  refine dS func5 (by kernel_rfl) (by kernel_rfl) rfl dQ ((k5 N _ _).trans hN) fun l o hd => ?_
  simp only [Y3] at hd
  split at hd
  ·obtain rfl := aB hd; exact ⟨rfl, rfl⟩
  ·cases hd
 ·cases hx
def E6 : Env := dD TI TY [] aY aW
def c6 : Code := dB Tryz.f6
def agG : Norm := ⟨[0, 1, 2, 7, 8], [], [], []⟩
def Bq : Nat -> Option Norm := dH [(3, agG)]
def Ky : End := ⟨[], ⟨[32], [], [], []⟩⟩
def Y8 (l : List TV) (o : List (Nat × TO)) : Option (List UInt8) := match l, o with | [.dv (.str) x0], [] => some (x0) | _, _ => none
def WZ (fA : Int) (iT : List Int) (gQ : Int) (sF : List UInt8) (mY : Int) : TS := ⟨slots 32 [(0, .dv (.int .i64) fA), (1, .dv (.sl (.int .u8)) iT), (2, .dv (.int .i64) gQ), (7, .dv (.str) sF), (8, .dv (.int .i64) mY)], []⟩
def aoB (N : Nat) : dC (List UInt8) := fG (E6) Bq N c6 [1, 1, 0, 1, 0] (fin TI Ky (bC Tryz.f6) Y8)
def VW (N : Nat) (m : Nat) : TS -> Option (List UInt8) := eX (den (E6) Bq N (sub c6 [1, 1, 0, 1, 0, 0])) (TS.norm agG) (aoB N) m
def O0 (fA : Int) (iT : List Int) (gQ : Int) (F0 : (List UInt8) -> Int -> Option (List UInt8)) (sF : List UInt8) (mY : Int) : Option (List UInt8) :=
   cond (decide (mY < (iT.length : Int))) (cond (decide (mY < gQ)) (chk (decide (0 <= mY /\ mY < (iT.length : Int))) (chk (decide (fA ≠ (0 : Int))) (chk (decide (0 <= Int.tmod (aH (iT.getD mY.toNat 0)) fA /\ Int.tmod (aH (iT.getD mY.toNat 0)) fA <= (6 : Int))) (chk (decide (0 <= (1 : Int) /\ (1 : Int) <= ((([97, 98, 99, 100, 101, 102] : List UInt8).drop ((Int.tmod (aH (iT.getD mY.toNat 0)) fA).toNat)).length : Int))) (chk (decide (sF.length + ((([97, 98, 99, 100, 101, 102] : List UInt8).drop ((Int.tmod (aH (iT.getD mY.toNat 0)) fA).toNat)).take 1).length <= 9223372036854775807)) ((F0 (sF ++ ((([97, 98, 99, 100, 101, 102] : List UInt8).drop ((Int.tmod (aH (iT.getD mY.toNat 0)) fA).toNat)).take 1)) (aH (mY + 1)))))))))
   (some sF))
   (some sF)
def D8 (N : Nat) (fA : Int) (iT : List Int) (gQ : Int) : Nat -> (List UInt8) -> Int -> Option (List UInt8)
 | 0, _, _ => none
 | n + 1, sF, mY => O0 fA iT gQ (D8 N fA iT gQ n) sF mY
theorem aHF (N : Nat) (fA : Int) (iT : List Int) (gQ : Int) (m : Nat) (sF : List UInt8) (mY : Int) : VW N (m + 1) (WZ fA iT gQ sF mY) = O0 fA iT gQ (fun y0 y1 => (VW N m (WZ fA iT gQ y0 y1))) sF mY := by kernel_rfl
theorem aiS (N : Nat) (fA : Int) (iT : List Int) (gQ : Int) : ∀ (m : Nat) (sF : List UInt8) (mY : Int), VW N m (WZ fA iT gQ sF mY) = D8 N fA iT gQ m sF mY
        | 0, _, _ => rfl
        | m + 1, sF, mY => by rw [aHF]; simp only [D8, aiS N fA iT gQ m]
def m6 (N : Nat) (fA : Int) (iT : List Int) (gQ : Int) : Option (List UInt8) :=
   (D8 N fA iT gQ N ([] : List UInt8) (0 : Int))
theorem wm6 (N : Nat) (fA : Int) (iT : List Int) (gQ : Int) : bK (E6) Bq N Ky c6 (bC Tryz.f6) 29 [.dv (.int .i64) fA, .dv (.sl (.int .u8)) iT, .dv (.int .i64) gQ] [] Y8 = (VW N N (WZ fA iT gQ ([] : List UInt8) (0 : Int))) := by kernel_rfl
theorem k6 (N : Nat) (fA : Int) (iT : List Int) (gQ : Int) : bK (E6) Bq N Ky c6 (bC Tryz.f6) 29 [.dv (.int .i64) fA, .dv (.sl (.int .u8)) iT, .dv (.int .i64) gQ] [] Y8 = m6 N fA iT gQ := by rw [wm6]; simp only [m6, aiS]
theorem ok6 (a : Int -> (List Int) -> Int -> Option (List UInt8)) (h : ∀ fA iT gQ r, a fA iT gQ = some r -> (∃ N, m6 N fA iT gQ = some r)) : aC prog 6 (F6 a) := by
 intro args Of x hx
 simp only [F6] at hx
 split at hx
 ·rename_i fA iT gQ
  obtain ⟨N, hN⟩ := h _ _ _ _ hx
  refine dS func6 (by kernel_rfl) (by kernel_rfl) rfl dQ ((k6 N _ _ _).trans hN) fun l o hd => ?_
  simp only [Y8] at hd
  split at hd
  ·obtain rfl := aB hd; exact ⟨rfl, rfl⟩
  ·cases hd
 ·cases hx
def E7 : Env := dD TI TY [] aY aW
def c7 : Code := dB Tryz.f7
def Ua : Norm := ⟨[1, 3, 14, 15, 16], [3], [], []⟩
def agK : Norm := ⟨[1, 3, 9, 14, 15, 16, 30, 31, 32], [3], [], []⟩
def LJ : Nat -> Option Norm := dH [(2, Ua), (7, agK)]
def Lc : End := ⟨[], ⟨[91], [], [], []⟩⟩
def ZB (l : List TV) (o : List (Nat × TO)) : Option (List UInt8) := match l, o with | [.dv (.str) x0], [] => some (x0) | _, _ => none
def XC (o0 : vO) (bD : List Int) (fF : List UInt8) (bM : Int) (kF : List UInt8) (fC : Int) : TS := ⟨slots 91 [(1, .dv (.str) kF), (3, .ptr 3 0 []), (9, .dv (.int .i64) (rO bD bM fF)), (14, .dv (.sl (.int .u8)) bD), (15, .dv (.int .i64) (bD.length : Int)), (16, .dv (.int .i64) bM), (30, .dv (.sl (.arr 2 (.int .i64))) o0.2.1), (31, .dv (.int .i64) (o0.2.1.length : Int)), (32, .dv (.int .i64) fC)], [(3, .row (.pair (.int .i64) (.pair (.sl (.arr 2 (.int .i64))) (.unit))) ([o0] : List (aG)))]⟩
def OX (o0 : vO) (bD : List Int) (fF : List UInt8) (bM : Int) : TS := ⟨slots 91 [(1, .dv (.str) fF), (3, .ptr 3 0 []), (14, .dv (.sl (.int .u8)) bD), (15, .dv (.int .i64) (bD.length : Int)), (16, .dv (.int .i64) bM)], [(3, .row (.pair (.int .i64) (.pair (.sl (.arr 2 (.int .i64))) (.unit))) ([o0] : List (aG)))]⟩
def Zz (N : Nat) : dC (List UInt8) := fG (E7) LJ N c7 [1, 0, 1, 0] (fin TI Lc (bC Tryz.f7) ZB)
def V3 (N : Nat) (m : Nat) : TS -> Option (List UInt8) := eX (den (E7) LJ N (sub c7 [1, 0, 1, 0, 0])) (TS.norm Ua) (Zz N) m
def aoF (N : Nat) (xA : TS -> Option (List UInt8)) : dC (List UInt8) := fG (E7) LJ N (sub c7 [1, 0, 1, 0, 0]) [1, 1, 0, 0, 1, 1, 1, 1, 0] (tK (TS.norm Ua) (Zz N) xA)
def V4 (N : Nat) (xA : TS -> Option (List UInt8)) (m : Nat) : TS -> Option (List UInt8) := eX (den (E7) LJ N (sub c7 [1, 0, 1, 0, 0, 1, 1, 0, 0, 1, 1, 1, 1, 0, 0])) (TS.norm agK) (aoF N xA) m
def X4 (o0 : vO) (bD : List Int) (fF : List UInt8) (bM : Int) (F0 : (List UInt8) -> Int -> Option (List UInt8)) (F1 : (List UInt8) -> Int -> Option (List UInt8)) (kF : List UInt8) (fC : Int) : Option (List UInt8) :=
   cond (decide (fC < (o0.2.1.length : Int))) (chk (decide (0 <= fC /\ fC < (o0.2.1.length : Int))) (chk (decide (0 <= rO bD bM fF /\ rO bD bM fF < (kF.length : Int))) (chk (decide (0 <= aH ((rO bD bM fF) + 1) /\ aH ((rO bD bM fF) + 1) < (kF.length : Int))) (cond ((aH (IntKind.wrap .u8 ((((kF.getD ((rO bD bM fF).toNat) 0).toNat : Nat) : Int) - (97 : Int)))) == ((o0.2.1.getD fC.toNat ([(0 : Int), (0 : Int)] : List Int)).getD 0 (0 : Int))) (cond ((aH (IntKind.wrap .u8 ((((kF.getD ((aH ((rO bD bM fF) + 1)).toNat) 0).toNat : Nat) : Int) - (97 : Int)))) == ((o0.2.1.getD fC.toNat ([(0 : Int), (0 : Int)] : List Int)).getD 1 (0 : Int))) (Gv (fun s => F0 s (aH (bM + 1))) (rO bD bM fF) kF)
   (cond ((aH (IntKind.wrap .u8 ((((kF.getD ((rO bD bM fF).toNat) 0).toNat : Nat) : Int) - (97 : Int)))) == ((o0.2.1.getD fC.toNat ([(0 : Int), (0 : Int)] : List Int)).getD 1 (0 : Int))) (cond ((aH (IntKind.wrap .u8 ((((kF.getD ((aH ((rO bD bM fF) + 1)).toNat) 0).toNat : Nat) : Int) - (97 : Int)))) == ((o0.2.1.getD fC.toNat ([(0 : Int), (0 : Int)] : List Int)).getD 0 (0 : Int))) (Gv (fun s => F0 s (aH (bM + 1))) (rO bD bM fF) kF)
   ((F1 kF (aH (fC + 1)))))
   ((F1 kF (aH (fC + 1))))))
   (cond ((aH (IntKind.wrap .u8 ((((kF.getD ((rO bD bM fF).toNat) 0).toNat : Nat) : Int) - (97 : Int)))) == ((o0.2.1.getD fC.toNat ([(0 : Int), (0 : Int)] : List Int)).getD 1 (0 : Int))) (cond ((aH (IntKind.wrap .u8 ((((kF.getD ((aH ((rO bD bM fF) + 1)).toNat) 0).toNat : Nat) : Int) - (97 : Int)))) == ((o0.2.1.getD fC.toNat ([(0 : Int), (0 : Int)] : List Int)).getD 0 (0 : Int))) (Gv (fun s => F0 s (aH (bM + 1))) (rO bD bM fF) kF)
   ((F1 kF (aH (fC + 1)))))
   ((F1 kF (aH (fC + 1)))))))))
   ((F0 kF (aH (bM + 1))))
def HY (N : Nat) (o0 : vO) (bD : List Int) (fF : List UInt8) (bM : Int) (aeT : (List UInt8) -> Int -> Option (List UInt8)) : Nat -> (List UInt8) -> Int -> Option (List UInt8)
 | 0, _, _ => none
 | n + 1, kF, fC => X4 o0 bD fF bM aeT (HY N o0 bD fF bM aeT n) kF fC
theorem aHK (N : Nat) (o0 : vO) (bD : List Int) (fF : List UInt8) (bM : Int) (xA : TS -> Option (List UInt8)) (m : Nat) (kF : List UInt8) (fC : Int) : V4 N xA (m + 1) (XC o0 bD fF bM kF fC) = X4 o0 bD fF bM (fun y0 y1 => (xA (OX o0 bD y0 y1))) (fun y0 y1 => (V4 N xA m (XC o0 bD fF bM y0 y1))) kF fC := by kernel_rfl
theorem aiX (N : Nat) (o0 : vO) (bD : List Int) (fF : List UInt8) (bM : Int) (xA : TS -> Option (List UInt8)) : ∀ (m : Nat) (kF : List UInt8) (fC : Int), V4 N xA m (XC o0 bD fF bM kF fC) = HY N o0 bD fF bM (fun y0 y1 => xA (OX o0 bD y0 y1)) m kF fC
        | 0, _, _ => rfl
        | m + 1, kF, fC => by rw [aHK]; simp only [HY, aiX N o0 bD fF bM xA m]
def G9 (N : Nat) (o0 : vO) (bD : List Int) : Nat -> (List UInt8) -> Int -> Option (List UInt8)
 | 0, _, _ => none
 | n + 1, fF, bM => cond (decide (bM < (bD.length : Int))) (chk (decide (0 <= bM /\ bM < (bD.length : Int))) (cond (decide ((fF.length : Int) < (2 : Int))) (some fF)
   (chk (decide (aH ((fF.length : Int) - (1 : Int)) ≠ (0 : Int))) ((HY N o0 bD fF bM (fun y0 y1 => (G9 N o0 bD n y0 y1)) N fF (0 : Int))))))
   (some fF)
theorem aHJ (N : Nat) (o0 : vO) (bD : List Int) (m : Nat) (fF : List UInt8) (bM : Int) : V3 N (m + 1) (OX o0 bD fF bM) = cond (decide (bM < (bD.length : Int))) (chk (decide (0 <= bM /\ bM < (bD.length : Int))) (cond (decide ((fF.length : Int) < (2 : Int))) (some fF)
   (chk (decide (aH ((fF.length : Int) - (1 : Int)) ≠ (0 : Int))) ((V4 N (V3 N m) N (XC o0 bD fF bM fF (0 : Int)))))))
   (some fF) := by kernel_rfl
theorem aiW (N : Nat) (o0 : vO) (bD : List Int) : ∀ (m : Nat) (fF : List UInt8) (bM : Int), V3 N m (OX o0 bD fF bM) = G9 N o0 bD m fF bM
        | 0, _, _ => rfl
        | m + 1, fF, bM => by rw [aHJ]; simp only [G9, aiX, aiW N o0 bD m]
def m7 (N : Nat) (o0 : vO) (s1 : List UInt8) (bD : List Int) : Option (List UInt8) :=
   (G9 N o0 bD N s1 (0 : Int))
theorem wm7 (N : Nat) (o0 : vO) (s1 : List UInt8) (bD : List Int) : bK (E7) LJ N Lc c7 (bC Tryz.f7) 88 [.dv (.pair (.int .i64) (.pair (.sl (.arr 2 (.int .i64))) (.unit))) o0, .dv (.str) s1, .dv (.sl (.int .u8)) bD] [] ZB = (V3 N N (OX o0 bD s1 (0 : Int))) := by kernel_rfl
theorem k7 (N : Nat) (o0 : vO) (s1 : List UInt8) (bD : List Int) : bK (E7) LJ N Lc c7 (bC Tryz.f7) 88 [.dv (.pair (.int .i64) (.pair (.sl (.arr 2 (.int .i64))) (.unit))) o0, .dv (.str) s1, .dv (.sl (.int .u8)) bD] [] ZB = m7 N o0 s1 bD := by rw [wm7]; simp only [m7, aiW]
theorem ok7 (a : (aG) -> (List UInt8) -> (List Int) -> Option (List UInt8)) (h : ∀ o0 s1 bD r, a o0 s1 bD = some r -> (∃ N, m7 N o0 s1 bD = some r)) : aC prog 7 (F7 a) := by
 intro args Of x hx
 simp only [F7] at hx
 split at hx
 ·rename_i o0 s1 bD
  obtain ⟨N, hN⟩ := h _ _ _ _ hx
  refine dS func7 (by kernel_rfl) (by kernel_rfl) rfl dQ ((k7 N _ _ _).trans hN) fun l o hd => ?_
  simp only [ZB] at hd
  split at hd
  ·obtain rfl := aB hd; exact ⟨rfl, rfl⟩
  ·cases hd
 ·cases hx
def E3 (A : kH) (B : kJ) (C : kG) (D : kT) (G : kU) (H : kV) (J : kS) : Env := dD TI TY [(10, MX A), (13, TT B), (5, F5 C), (6, F6 D), (7, F7 G), (8, F8 H), (9, F9 J)] (fun i => ([(10, [some (.int .i64), none]), (36, [some (.int .i64), none])] : List (Nat × List (Option DT))).lookup i) aW
def c3 : Code := dB Tryz.f3
def Tu : Norm := ⟨[2, 3, 9, 10, 39, 40], [9, 10], [(.fV 10 1, 2100, .arr 2 (.int .i64))], []⟩
def Tv : Norm := ⟨[2, 3, 9, 10, 11, 12, 39, 40], [9, 10], [(.fV 10 1, 2100, .arr 2 (.int .i64))], []⟩
def af7 : Norm := ⟨[2, 3, 9, 10, 11, 12, 13, 14, 39, 40], [9, 10, 2100], [], []⟩
def af8 : Norm := ⟨[21, 22, 23, 24, 146, 147, 148], [9, 146], [], []⟩
def zI : Nat -> Option Norm := dH [(4, Tu), (7, Tv), (11, af7), (26, af8)]
def ZM : End := ⟨[], ⟨[176], [], [], []⟩⟩
def O9 (l : List TV) (o : List (Nat × TO)) : Option (Bool) := match l, o with | [.dv (.bool) x0], [] => some (x0) | _, _ => none
def WO (bD : List Int) (dV : List Int) (r1 : aG) (dO : Int) (gX : Int) (jU : nT) (vG : Bool) (lD : Int) : TS := ⟨slots 176 [(2, .dv (.sl (.int .u8)) bD), (3, .dv (.sl (.int .u8)) dV), (9, .ptr 9 0 []), (10, .ptr 10 0 []), (11, .dv (.int .i64) dO), (12, .dv (.int .i64) gX), (13, .dv (.bool) vG), (14, .dv (.int .i64) lD), (39, .dv (.int .i64) (r1.2.1.length : Int)), (40, .dv (.int .i64) dO)], [(9, .row (.pair (.int .i64) (.pair (.sl (.sl (.int .i64))) (.unit))) ([r1] : List (aG))), (10, .aP [.dv (.int .i64) (r1.2.1.length : Int), .row 2100]), (2100, .row (.arr 2 (.int .i64)) jU)]⟩
def OV (bD : List Int) (dV : List Int) (r1 : aG) (dO : Int) (gX : Int) (jU : nT) : TS := ⟨slots 176 [(2, .dv (.sl (.int .u8)) bD), (3, .dv (.sl (.int .u8)) dV), (9, .ptr 9 0 []), (10, .ptr 10 0 []), (11, .dv (.int .i64) dO), (12, .dv (.int .i64) gX), (39, .dv (.int .i64) (r1.2.1.length : Int)), (40, .dv (.int .i64) dO)], [(2100, .row (.arr 2 (.int .i64)) jU), (9, .row (.pair (.int .i64) (.pair (.sl (.sl (.int .i64))) (.unit))) ([r1] : List (aG))), (10, .aP [.dv (.int .i64) (r1.2.1.length : Int), .row 2100])]⟩
def WQ (r3 : List UInt8) (r4 : List UInt8 × Int) (r6 : Int × Int × Bool × List (aG)) (qY : Int) (wF : List (aG)) : TS := ⟨slots 176 [(21, .fn 10 0 1 fun i => ([.ptr 9 0 []] : List TV).getD i .any), (22, .dv (.int .i64) r6.1), (23, .dv (.int .i64) r6.2.1), (24, .dv (.bool) r6.2.2.1), (146, .row 146), (147, .dv (.int .i64) (2 : Int)), (148, .dv (.int .i64) qY)], [(9, .row (.pair (.int .i64) (.pair (.sl (.sl (.int .i64))) (.unit))) wF), (146, .row (.str) ([r3, r4.1] : List (List UInt8)))]⟩
def OU (bD : List Int) (dV : List Int) (r1 : aG) (dO : Int) (eP : nT) : TS := ⟨slots 176 [(2, .dv (.sl (.int .u8)) bD), (3, .dv (.sl (.int .u8)) dV), (9, .ptr 9 0 []), (10, .ptr 10 0 []), (39, .dv (.int .i64) (r1.2.1.length : Int)), (40, .dv (.int .i64) dO)], [(2100, .row (.arr 2 (.int .i64)) eP), (9, .row (.pair (.int .i64) (.pair (.sl (.sl (.int .i64))) (.unit))) ([r1] : List (aG))), (10, .aP [.dv (.int .i64) (r1.2.1.length : Int), .row 2100])]⟩
def Zv (A : kH) (B : kJ) (C : kG) (D : kT) (G : kU) (H : kV) (J : kS) (N : Nat) : dC (Bool) := fG (E3 A B C D G H J) zI N c3 [1, 1, 1, 0, 1, 0] (fin TI ZM (bC Tryz.f3) O9)
def VH (A : kH) (B : kJ) (C : kG) (D : kT) (G : kU) (H : kV) (J : kS) (N : Nat) (m : Nat) : TS -> Option (Bool) := eX (den (E3 A B C D G H J) zI N (sub c3 [1, 1, 1, 0, 1, 0, 0])) (TS.norm Tu) (Zv A B C D G H J N) m
def Zw (A : kH) (B : kJ) (C : kG) (D : kT) (G : kU) (H : kV) (J : kS) (N : Nat) (mO : vN) : dC (Bool) := fG (E3 A B C D G H J) zI N (sub c3 [1, 1, 1, 0, 1, 0, 0]) [1, 1, 0, 0, 1, 1, 0] (tK (TS.norm Tu) (Zv A B C D G H J N) mO)
def VI (A : kH) (B : kJ) (C : kG) (D : kT) (G : kU) (H : kV) (J : kS) (N : Nat) (mO : vN) (m : Nat) : TS -> Option (Bool) := eX (den (E3 A B C D G H J) zI N (sub c3 [1, 1, 1, 0, 1, 0, 0, 1, 1, 0, 0, 1, 1, 0, 0])) (TS.norm Tv) (Zw A B C D G H J N mO) m
def an1 (A : kH) (B : kJ) (C : kG) (D : kT) (G : kU) (H : kV) (J : kS) (N : Nat) (mO : vN) (wY : vN) : dC (Bool) := fG (E3 A B C D G H J) zI N (sub c3 [1, 1, 1, 0, 1, 0, 0, 1, 1, 0, 0, 1, 1, 0, 0]) [1, 0, 0, 1, 0, 1, 0] (tK (TS.norm Tv) (Zw A B C D G H J N mO) wY)
def VJ (A : kH) (B : kJ) (C : kG) (D : kT) (G : kU) (H : kV) (J : kS) (N : Nat) (mO : vN) (wY : vN) (m : Nat) : TS -> Option (Bool) := eX (den (E3 A B C D G H J) zI N (sub c3 [1, 1, 1, 0, 1, 0, 0, 1, 1, 0, 0, 1, 1, 0, 0, 1, 0, 0, 1, 0, 1, 0, 0])) (TS.norm af7) (an1 A B C D G H J N mO wY) m
def an2 (A : kH) (B : kJ) (C : kG) (D : kT) (G : kU) (H : kV) (J : kS) (N : Nat) : dC (Bool) := fG (E3 A B C D G H J) zI N c3 [1, 1, 1, 1, 1, 1, 1, 1, 1, 1, 1, 0, 1, 0] (fin TI ZM (bC Tryz.f3) O9)
def VK (A : kH) (B : kJ) (C : kG) (D : kT) (G : kU) (H : kV) (J : kS) (N : Nat) (m : Nat) : TS -> Option (Bool) := eX (den (E3 A B C D G H J) zI N (sub c3 [1, 1, 1, 1, 1, 1, 1, 1, 1, 1, 1, 0, 1, 0, 0])) (TS.norm af8) (an2 A B C D G H J N) m
def XQ (r1 : aG) (dO : Int) (gX : Int) (jU : nT) (F0 : Bool -> Int -> Option (Bool)) (F1 : Int -> LL -> Option (Bool)) (vG : Bool) (lD : Int) : Option (Bool) :=
   cond (decide (lD < r1.1)) (cond (vG) (chk (decide (0 <= dO /\ dO < (r1.2.1.length : Int))) (chk (decide (0 <= gX /\ gX < (r1.2.1.length : Int))) (chk (decide (0 <= lD /\ lD < ((r1.2.1.getD gX.toNat ([] : List Int)).length : Int))) (chk (decide (0 <= (r1.2.1.getD gX.toNat ([] : List Int)).getD lD.toNat 0 /\ (r1.2.1.getD gX.toNat ([] : List Int)).getD lD.toNat 0 < ((r1.2.1.getD dO.toNat ([] : List Int)).length : Int))) (chk (decide (0 <= gX /\ gX < (r1.2.1.length : Int))) (chk (decide (0 <= dO /\ dO < (r1.2.1.length : Int))) (chk (decide (0 <= lD /\ lD < ((r1.2.1.getD dO.toNat ([] : List Int)).length : Int))) (chk (decide (0 <= (r1.2.1.getD dO.toNat ([] : List Int)).getD lD.toNat 0 /\ (r1.2.1.getD dO.toNat ([] : List Int)).getD lD.toNat 0 < ((r1.2.1.getD gX.toNat ([] : List Int)).length : Int))) ((F0 (((r1.2.1.getD dO.toNat ([] : List Int)).getD (((r1.2.1.getD gX.toNat ([] : List Int)).getD lD.toNat 0).toNat) (0 : Int)) == ((r1.2.1.getD gX.toNat ([] : List Int)).getD (((r1.2.1.getD dO.toNat ([] : List Int)).getD lD.toNat 0).toNat) (0 : Int))) (aH (lD + 1))))))))))))
   ((F0 false (aH (lD + 1)))))
   (cond (vG) (chk (small (jU.length + 1) 16) ((F1 (aH (gX + 1)) (jU ++ ([([dO, gX] : List Int)] : LL)))))
   ((F1 (aH (gX + 1)) jU)))
def GV (A : kH) (B : kJ) (C : kG) (D : kT) (G : kU) (H : kV) (J : kS) (N : Nat) (bD : List Int) (dV : List Int) (r1 : aG) (dO : Int) (gX : Int) (jU : nT) (aeR : Int -> LL -> Option (Bool)) : Nat -> Bool -> Int -> Option (Bool)
 | 0, _, _ => none
 | n + 1, vG, lD => XQ r1 dO gX jU (GV A B C D G H J N bD dV r1 dO gX jU aeR n) aeR vG lD
theorem aG5 (A : kH) (B : kJ) (C : kG) (D : kT) (G : kU) (H : kV) (J : kS) (N : Nat) (bD : List Int) (dV : List Int) (r1 : aG) (dO : Int) (gX : Int) (jU : nT) (mO : vN) (wY : vN) (m : Nat) (vG : Bool) (lD : Int) : VJ A B C D G H J N mO wY (m + 1) (WO bD dV r1 dO gX jU vG lD) = XQ r1 dO gX jU (fun y0 y1 => (VJ A B C D G H J N mO wY m (WO bD dV r1 dO gX jU y0 y1))) (fun y0 y1 => (wY (OV bD dV r1 dO y0 y1))) vG lD := by kernel_rfl
theorem aiH (A : kH) (B : kJ) (C : kG) (D : kT) (G : kU) (H : kV) (J : kS) (N : Nat) (bD : List Int) (dV : List Int) (r1 : aG) (dO : Int) (gX : Int) (jU : nT) (mO : vN) (wY : vN) : ∀ (m : Nat) (vG : Bool) (lD : Int), VJ A B C D G H J N mO wY m (WO bD dV r1 dO gX jU vG lD) = GV A B C D G H J N bD dV r1 dO gX jU (fun y0 y1 => wY (OV bD dV r1 dO y0 y1)) m vG lD
        | 0, _, _ => rfl
        | m + 1, vG, lD => by rw [aG5]; simp only [GV, aiH A B C D G H J N bD dV r1 dO gX jU mO wY m]
def D7 (A : kH) (B : kJ) (C : kG) (D : kT) (G : kU) (H : kV) (J : kS) (N : Nat) (bD : List Int) (dV : List Int) (r1 : aG) (dO : Int) (aeQ : Int -> LL -> Option (Bool)) : Nat -> Int -> LL -> Option (Bool)
 | 0, _, _ => none
 | n + 1, gX, jU => cond (decide (gX < dO)) ((GV A B C D G H J N bD dV r1 dO gX jU (fun y0 y1 => (D7 A B C D G H J N bD dV r1 dO aeQ n y0 y1)) N true (0 : Int)))
   ((aeQ (aH (dO + 1)) jU))
theorem aG4 (A : kH) (B : kJ) (C : kG) (D : kT) (G : kU) (H : kV) (J : kS) (N : Nat) (bD : List Int) (dV : List Int) (r1 : aG) (dO : Int) (mO : vN) (m : Nat) (gX : Int) (jU : nT) : VI A B C D G H J N mO (m + 1) (OV bD dV r1 dO gX jU) = cond (decide (gX < dO)) ((VJ A B C D G H J N mO (VI A B C D G H J N mO m) N (WO bD dV r1 dO gX jU true (0 : Int))))
   ((mO (OU bD dV r1 (aH (dO + 1)) jU))) := by kernel_rfl
theorem aiG (A : kH) (B : kJ) (C : kG) (D : kT) (G : kU) (H : kV) (J : kS) (N : Nat) (bD : List Int) (dV : List Int) (r1 : aG) (dO : Int) (mO : vN) : ∀ (m : Nat) (gX : Int) (jU : nT), VI A B C D G H J N mO m (OV bD dV r1 dO gX jU) = D7 A B C D G H J N bD dV r1 dO (fun y0 y1 => mO (OU bD dV r1 y0 y1)) m gX jU
        | 0, _, _ => rfl
        | m + 1, gX, jU => by rw [aG4]; simp only [D7, aiH, aiG A B C D G H J N bD dV r1 dO mO m]
def Jd (A : kH) (B : kJ) (r3 : List UInt8) (r4 : List UInt8 × Int) (r6 : Int × Int × Bool × List (aG)) (F0 : Int -> (List (aG)) -> Option (Bool)) (qY : Int) (wF : List (aG)) : Option (Bool) :=
   cond (decide (qY < (2 : Int))) (chk (decide (0 <= qY /\ qY < (2 : Int))) ((A (([r3, r4.1] : List (List UInt8)).getD qY.toNat ([] : List UInt8)) wF).bind fun r7 =>
   cond (!r7.2.2.1) (some false)
   (cond (r7.1 != r6.1) (some false)
   (cond (r7.2.1 != r6.2.1) (some false)
   ((F0 (aH (qY + 1)) r7.2.2.2))))))
   (cond (r6.2.2.1) ((B).bind fun r8 =>
   some r8)
   (some false))
def KZ (A : kH) (B : kJ) (C : kG) (D : kT) (G : kU) (H : kV) (J : kS) (N : Nat) (r3 : List UInt8) (r4 : List UInt8 × Int) (r6 : Int × Int × Bool × List (aG)) : Nat -> Int -> (List (aG)) -> Option (Bool)
 | 0, _, _ => none
 | n + 1, qY, wF => Jd A B r3 r4 r6 (KZ A B C D G H J N r3 r4 r6 n) qY wF
theorem aG6 (A : kH) (B : kJ) (C : kG) (D : kT) (G : kU) (H : kV) (J : kS) (N : Nat) (r3 : List UInt8) (r4 : List UInt8 × Int) (r6 : Int × Int × Bool × List (aG)) (m : Nat) (qY : Int) (wF : List (aG)) : VK A B C D G H J N (m + 1) (WQ r3 r4 r6 qY wF) = Jd A B r3 r4 r6 (fun y0 y1 => (VK A B C D G H J N m (WQ r3 r4 r6 y0 y1))) qY wF := by kernel_rfl
theorem aiI (A : kH) (B : kJ) (C : kG) (D : kT) (G : kU) (H : kV) (J : kS) (N : Nat) (r3 : List UInt8) (r4 : List UInt8 × Int) (r6 : Int × Int × Bool × List (aG)) : ∀ (m : Nat) (qY : Int) (wF : List (aG)), VK A B C D G H J N m (WQ r3 r4 r6 qY wF) = KZ A B C D G H J N r3 r4 r6 m qY wF
        | 0, _, _ => rfl
        | m + 1, qY, wF => by rw [aG6]; simp only [KZ, aiI A B C D G H J N r3 r4 r6 m]
def BL (A : kH) (B : kJ) (C : kG) (D : kT) (G : kU) (H : kV) (J : kS) (N : Nat) (bD : List Int) (dV : List Int) (r1 : aG) : Nat -> Int -> LL -> Option (Bool)
 | 0, _, _ => none
 | n + 1, dO, eP => cond (decide (dO < (r1.2.1.length : Int))) ((D7 A B C D G H J N bD dV r1 dO (fun y0 y1 => (BL A B C D G H J N bD dV r1 n y0 y1)) N (0 : Int) eP))
   ((D (r1.2.1.length : Int) bD (8 : Int)).bind fun r2 =>
   (G ((r1.2.1.length : Int), (eP, ())) r2 dV).bind fun r3 =>
   (H ((r1.2.1.length : Int), (eP, ())) r2).bind fun r4 =>
   (J ((r1.2.1.length : Int), (eP, ())) r2 r3).bind fun r5 =>
   cond (r4.2 != (0 : Int)) (some false)
   (cond (r5.2 != (0 : Int)) (some false)
   (cond (!r5.1) (some false)
   (cond ((r4.1.length : Int) != (r2.length : Int)) (some false)
   ((A r2 ([r1] : List (aG))).bind fun r6 =>
   (KZ A B C D G H J N r3 r4 r6 N (0 : Int) r6.2.2.2))))))
theorem aG3 (A : kH) (B : kJ) (C : kG) (D : kT) (G : kU) (H : kV) (J : kS) (N : Nat) (bD : List Int) (dV : List Int) (r1 : aG) (m : Nat) (dO : Int) (eP : nT) : VH A B C D G H J N (m + 1) (OU bD dV r1 dO eP) = cond (decide (dO < (r1.2.1.length : Int))) ((VI A B C D G H J N (VH A B C D G H J N m) N (OV bD dV r1 dO (0 : Int) eP)))
   ((D (r1.2.1.length : Int) bD (8 : Int)).bind fun r2 =>
   (G ((r1.2.1.length : Int), (eP, ())) r2 dV).bind fun r3 =>
   (H ((r1.2.1.length : Int), (eP, ())) r2).bind fun r4 =>
   (J ((r1.2.1.length : Int), (eP, ())) r2 r3).bind fun r5 =>
   cond (r4.2 != (0 : Int)) (some false)
   (cond (r5.2 != (0 : Int)) (some false)
   (cond (!r5.1) (some false)
   (cond ((r4.1.length : Int) != (r2.length : Int)) (some false)
   ((A r2 ([r1] : List (aG))).bind fun r6 =>
   (VK A B C D G H J N N (WQ r3 r4 r6 (0 : Int) r6.2.2.2))))))) := by kernel_rfl
theorem aiF (A : kH) (B : kJ) (C : kG) (D : kT) (G : kU) (H : kV) (J : kS) (N : Nat) (bD : List Int) (dV : List Int) (r1 : aG) : ∀ (m : Nat) (dO : Int) (eP : nT), VH A B C D G H J N m (OU bD dV r1 dO eP) = BL A B C D G H J N bD dV r1 m dO eP
        | 0, _, _ => rfl
        | m + 1, dO, eP => by rw [aG3]; simp only [BL, aiG, aiI, aiF A B C D G H J N bD dV r1 m]
def m3 (A : kH) (B : kJ) (C : kG) (D : kT) (G : kU) (H : kV) (J : kS) (N : Nat) (bU : Int) (dL : LL) (bD : List Int) (dV : List Int) : Option (Bool) :=
   (C bU dL).bind fun r1 =>
   (BL A B C D G H J N bD dV r1 N (0 : Int) ([] : LL))
theorem wm3 (A : kH) (B : kJ) (C : kG) (D : kT) (G : kU) (H : kV) (J : kS) (N : Nat) (bU : Int) (dL : LL) (bD : List Int) (dV : List Int) : bK (E3 A B C D G H J) zI N ZM c3 (bC Tryz.f3) 172 [.dv (.int .u8) bU, .dv (.sl (.arr 6 (.int .u8))) dL, .dv (.sl (.int .u8)) bD, .dv (.sl (.int .u8)) dV] [] O9 = (C bU dL).bind fun r1 =>
   (VH A B C D G H J N N (OU bD dV r1 (0 : Int) ([] : LL))) := by kernel_rfl
theorem k3 (A : kH) (B : kJ) (C : kG) (D : kT) (G : kU) (H : kV) (J : kS) (N : Nat) (bU : Int) (dL : LL) (bD : List Int) (dV : List Int) : bK (E3 A B C D G H J) zI N ZM c3 (bC Tryz.f3) 172 [.dv (.int .u8) bU, .dv (.sl (.arr 6 (.int .u8))) dL, .dv (.sl (.int .u8)) bD, .dv (.sl (.int .u8)) dV] [] O9 = m3 A B C D G H J N bU dL bD dV := by rw [wm3]; simp only [m3, aiF]
theorem ok3 (A : kH) (B : kJ) (C : kG) (D : kT) (G : kU) (H : kV) (J : kS) (auJ : aC prog 10 (MX A)) (h13 : aC prog 13 (TT B)) (h5 : aC prog 5 (F5 C)) (h6 : aC prog 6 (F6 D)) (h7 : aC prog 7 (F7 G)) (h8 : aC prog 8 (F8 H)) (h9 : aC prog 9 (F9 J)) (a : Int -> LL -> (List Int) -> (List Int) -> Option (Bool)) (h : ∀ bU dL bD dV r, a bU dL bD dV = some r -> (∃ N, m3 A B C D G H J N bU dL bD dV = some r)) : aC prog 3 (F3 a) := by
 intro args Of x hx
 simp only [F3] at hx
 split at hx
 ·rename_i bU dL bD dV
  obtain ⟨N, hN⟩ := h _ _ _ _ _ hx
  refine dS func3 (by kernel_rfl) (by kernel_rfl) rfl (dK auJ (dK h13 (dK h5 (dK h6 (dK h7 (dK h8 (dK h9 dQ))))))) ((k3 A B C D G H J N _ _ _ _).trans hN) fun l o hd => ?_
  simp only [O9] at hd
  split at hd
  ·obtain rfl := aB hd; exact ⟨rfl, rfl⟩
  ·cases hd
 ·cases hx
end
end Go.Proofs.YtfopcfnggdonkaaGreatDoor
