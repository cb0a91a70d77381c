/-
 The functions that the law reaches, told as plain functions.
-/
import Derived.Test.YtfopcfnggdonkaaGreatDoorQFI
namespace Go.Proofs.YtfopcfnggdonkaaGreatDoor
open Go.Proofs.Tryz
open Go.RowKit
set_option linter.unusedVariables false
noncomputable section
abbrev gW : List Int := [(0 : Int), (0 : Int), (0 : Int), (0 : Int), (0 : Int), (0 : Int)]
abbrev dJ : List Int := [(0 : Int), (0 : Int)]
abbrev zX : List Int := [(0 : Int), (0 : Int), (0 : Int), (0 : Int), (0 : Int), (0 : Int), (0 : Int), (0 : Int), (0 : Int), (0 : Int), (0 : Int), (0 : Int), (0 : Int), (0 : Int)]
abbrev XE := LL -> (List Int) -> Option (Int)
abbrev iC := Int -> Int -> Int -> Option (Bool)
abbrev xE := LL -> (List Int) -> Option (Bool)
abbrev jC := aG
abbrev kW := (aG) -> Option (Int)
abbrev iR := LL
abbrev jI := (aG) -> (List (List UInt8)) -> Option (List Int × Int)
abbrev jJ := (List Int) -> Int -> Int -> Option (Bool)
abbrev qF := TS -> Option (Unit)
abbrev rF := Int -> Option (Bool)
abbrev xB := Int -> Int -> Option (Bool)
abbrev xC := (List Int) -> Int -> Option (Int × Bool)
def E49 : Env := dD TI TY [] aY aW
def c49 : Code := dB Tryz.f49
def ayQ : Nat -> Option Norm := dH []
def asD : End := ⟨[], ⟨[15], [], [], []⟩⟩
def ab4 (l : List TV) (o : List (Nat × TO)) : Option (Bool) := match l, o with | [.dv (.bool) x0], [] => some (x0) | _, _ => none
def Dp (N : Nat) (eF : Int) (n1 : Int) (hi2 : Int) : Option (Bool) :=
   cond (decide (eF <= n1)) (some (decide (n1 <= hi2)))
   (some false)
theorem k49 (N : Nat) (eF : Int) (n1 : Int) (hi2 : Int) : bK (E49) ayQ N asD c49 (bC Tryz.f49) 12 [.dv (.int .i64) eF, .dv (.int .i64) n1, .dv (.int .i64) hi2] [] ab4 = Dp N eF n1 hi2 := by kernel_rfl
theorem ag3 (a : Int -> Int -> Int -> Option (Bool)) (h : ∀ eF n1 hi2 r, a eF n1 hi2 = some r -> (∃ N, Dp N eF n1 hi2 = some r)) : aC prog 49 (CY a) := by
 intro args Of x hx
 simp only [CY] at hx
 split at hx
 ·rename_i eF n1 hi2
  obtain ⟨N, hN⟩ := h _ _ _ _ hx
  refine dS func49 (by kernel_rfl) (by kernel_rfl) rfl dQ ((k49 N _ _ _).trans hN) fun l o hd => ?_
  simp only [ab4] at hd
  split at hd
  ·obtain rfl := aB hd; exact ⟨rfl, rfl⟩
  ·cases hd
 ·cases hx
def SQ : Env := dD TI TY [] aY aW
def X8 : Code := dB Tryz.f101
def afO : Norm := ⟨[0, 3, 7, 8], [3], [], []⟩
def Aw : Nat -> Option Norm := dH [(2, afO)]
def Jq : End := ⟨[], ⟨[19], [], [], []⟩⟩
def YS (l : List TV) (o : List (Nat × TO)) : Option (Int) := match l, o with | [.dv (.int .i64) x0], [] => some (x0) | _, _ => none
def V6 (s0 : LL) (v1 : List Int) (bG : Int) : TS := ⟨slots 19 [(0, .dv (.sl (.arr 2 (.int .i64))) s0), (3, .ptr 3 0 []), (7, .dv (.int .i64) (s0.length : Int)), (8, .dv (.int .i64) bG)], [(3, .row (.arr 2 (.int .i64)) ([v1] : LL))]⟩
def am2 (N : Nat) : dC (Int) := fG (SQ) Aw N X8 [1, 0, 1, 0] (fin TI Jq (bC Tryz.f101) YS)
def UW (N : Nat) (m : Nat) : TS -> Option (Int) := eX (den (SQ) Aw N (sub X8 [1, 0, 1, 0, 0])) (TS.norm afO) (am2 N) m
def XI (s0 : LL) (v1 : List Int) (F0 : Int -> Option (Int)) (bG : Int) : Option (Int) :=
   cond (decide (bG < (s0.length : Int))) (chk (decide (0 <= bG /\ bG < (s0.length : Int))) (cond (DT.beq (.arr 2 (.int .i64)) v1 (s0.getD bG.toNat dJ)) (some bG)
   ((F0 (aH (bG + 1))))))
   (some (-1 : Int))
def l101a (N : Nat) (s0 : LL) (v1 : List Int) : Nat -> Int -> Option (Int)
 | 0, _ => none
 | n + 1, bG => XI s0 v1 (l101a N s0 v1 n) bG
theorem aGE (N : Nat) (s0 : LL) (v1 : List Int) (m : Nat) (bG : Int) : UW N (m + 1) (V6 s0 v1 bG) = XI s0 v1 (fun y0 => (UW N m (V6 s0 v1 y0))) bG := by kernel_rfl
theorem ahR (N : Nat) (s0 : LL) (v1 : List Int) : ∀ (m : Nat) (bG : Int), UW N m (V6 s0 v1 bG) = l101a N s0 v1 m bG
        | 0, _ => rfl
        | m + 1, bG => by rw [aGE]; simp only [l101a, ahR N s0 v1 m]
def Ci (N : Nat) (s0 : LL) (v1 : List Int) : Option (Int) :=
   (l101a N s0 v1 N (0 : Int))
theorem aHM (N : Nat) (s0 : LL) (v1 : List Int) : bK (SQ) Aw N Jq X8 (bC Tryz.f101) 17 [.dv (.sl (.arr 2 (.int .i64))) s0, .dv (.arr 2 (.int .i64)) v1] [] YS = (UW N N (V6 s0 v1 (0 : Int))) := by kernel_rfl
theorem awJ (N : Nat) (s0 : LL) (v1 : List Int) : bK (SQ) Aw N Jq X8 (bC Tryz.f101) 17 [.dv (.sl (.arr 2 (.int .i64))) s0, .dv (.arr 2 (.int .i64)) v1] [] YS = Ci N s0 v1 := by rw [aHM]; simp only [Ci, ahR]
theorem agZ (a : LL -> (List Int) -> Option (Int)) (h : ∀ s0 v1 r, a s0 v1 = some r -> (∃ N, Ci N s0 v1 = some r)) : aC prog 101 (JL a) := by
 intro args Of x hx
 simp only [JL] at hx
 split at hx
 ·rename_i s0 v1
  obtain ⟨N, hN⟩ := h _ _ _ hx
  refine dS func101 (by kernel_rfl) (by kernel_rfl) rfl dQ ((awJ N _ _).trans hN) fun l o hd => ?_
  simp only [YS] at hd
  split at hd
  ·obtain rfl := aB hd; exact ⟨rfl, rfl⟩
  ·cases hd
 ·cases hx
def E81 (P : XE) : Env := dD TI TY [(101, JL P)] aY aW
def c81 : Code := dB Tryz.f81
def ayW : Nat -> Option Norm := dH []
def asJ : End := ⟨[], ⟨[9], [], [], []⟩⟩
def acB (l : List TV) (o : List (Nat × TO)) : Option (Bool) := match l, o with | [.dv (.bool) x0], [] => some (x0) | _, _ => none
def Rx (P : XE) (N : Nat) (s0 : LL) (v1 : List Int) : Option (Bool) :=
   (P s0 v1).bind fun r1 =>
   some (decide (r1 >= (0 : Int)))
theorem k81 (P : XE) (N : Nat) (s0 : LL) (v1 : List Int) : bK (E81 P) ayW N asJ c81 (bC Tryz.f81) 7 [.dv (.sl (.arr 2 (.int .i64))) s0, .dv (.arr 2 (.int .i64)) v1] [] acB = Rx P N s0 v1 := by kernel_rfl
theorem ag5 (P : XE) (auG : aC prog 101 (JL P)) (a : LL -> (List Int) -> Option (Bool)) (h : ∀ s0 v1 r, a s0 v1 = some r -> (∃ N, Rx P N s0 v1 = some r)) : aC prog 81 (JU a) := by
 intro args Of x hx
 simp only [JU] at hx
 split at hx
 ·rename_i s0 v1
  obtain ⟨N, hN⟩ := h _ _ _ hx
  refine dS func81 (by kernel_rfl) (by kernel_rfl) rfl (dK auG dQ) ((k81 P N _ _).trans hN) fun l o hd => ?_
  simp only [acB] at hd
  split at hd
  ·obtain rfl := aB hd; exact ⟨rfl, rfl⟩
  ·cases hd
 ·cases hx
def TC (A : iC) (G : xE) : Env := dD TI TY [(49, CY A), (81, JU G)] aY aW
def YE : Code := dB Tryz.f48
def af9 : Norm := ⟨[1, 18, 19, 20], [1], [], []⟩
def Bh : Nat -> Option Norm := dH [(6, af9)]
def Kq : End := ⟨[], ⟨[66], [], [], []⟩⟩
def Y2 (l : List TV) (o : List (Nat × TO)) : Option (Int) := match l, o with | [.dv (.int .i64) x0], [] => some (x0) | _, _ => none
def WR (o0 : jC) (jZ : Int) : TS := ⟨slots 66 [(1, .ptr 1 0 []), (18, .dv (.sl (.arr 2 (.int .i64))) o0.2.1), (19, .dv (.int .i64) (o0.2.1.length : Int)), (20, .dv (.int .i64) jZ)], [(1, .row (.pair (.int .i64) (.pair (.sl (.arr 2 (.int .i64))) (.unit))) ([o0] : List (aG)))]⟩
def an3 (A : iC) (G : xE) (N : Nat) : dC (Int) := fG (TC A G) Bh N YE [1, 1, 0, 1, 0] (fin TI Kq (bC Tryz.f48) Y2)
def VL (A : iC) (G : xE) (N : Nat) (m : Nat) : TS -> Option (Int) := eX (den (TC A G) Bh N (sub YE [1, 1, 0, 1, 0, 0])) (TS.norm af9) (an3 A G N) m
def XR (A : iC) (G : xE) (o0 : jC) (F0 : Int -> Option (Int)) (jZ : Int) : Option (Int) :=
   cond (decide (jZ < (o0.2.1.length : Int))) (chk (decide (0 <= jZ /\ jZ < (o0.2.1.length : Int))) ((A (0 : Int) ((o0.2.1.getD jZ.toNat dJ).getD 0 (0 : Int)) (aH (o0.1 - (1 : Int)))).bind fun r2 =>
   cond (!r2) (some (5 : Int))
   ((A (0 : Int) ((o0.2.1.getD jZ.toNat dJ).getD 1 (0 : Int)) (aH (o0.1 - (1 : Int)))).bind fun r3 =>
   cond (!r3) (some (5 : Int))
   (cond (((o0.2.1.getD jZ.toNat dJ).getD 0 (0 : Int)) == ((o0.2.1.getD jZ.toNat dJ).getD 1 (0 : Int))) (some (20 : Int))
   (chk (decide (0 <= jZ /\ jZ <= (o0.2.1.length : Int))) ((G (o0.2.1.take jZ.toNat) (o0.2.1.getD jZ.toNat dJ)).bind fun r4 =>
   cond (r4) (some (6 : Int))
   (chk (decide (0 <= jZ /\ jZ <= (o0.2.1.length : Int))) ((G (o0.2.1.take jZ.toNat) ([(o0.2.1.getD jZ.toNat dJ).getD 1 (0 : Int), (o0.2.1.getD jZ.toNat dJ).getD 0 (0 : Int)] : List Int)).bind fun r5 =>
   cond (r5) (some (6 : Int))
   ((F0 (aH (jZ + 1))))))))))))
   (some (0 : Int))
def BM (A : iC) (G : xE) (N : Nat) (o0 : jC) : Nat -> Int -> Option (Int)
 | 0, _ => none
 | n + 1, jZ => XR A G o0 (BM A G N o0 n) jZ
theorem aG7 (A : iC) (G : xE) (N : Nat) (o0 : jC) (m : Nat) (jZ : Int) : VL A G N (m + 1) (WR o0 jZ) = XR A G o0 (fun y0 => (VL A G N m (WR o0 y0))) jZ := by kernel_rfl
theorem aiJ (A : iC) (G : xE) (N : Nat) (o0 : jC) : ∀ (m : Nat) (jZ : Int), VL A G N m (WR o0 jZ) = BM A G N o0 m jZ
        | 0, _ => rfl
        | m + 1, jZ => by rw [aG7]; simp only [BM, aiJ A G N o0 m]
def QF (A : iC) (G : xE) (N : Nat) (o0 : jC) : Option (Int) :=
   (A (1 : Int) o0.1 (6 : Int)).bind fun r1 =>
   cond (!r1) (some (3 : Int))
   (cond (decide ((o0.2.1.length : Int) > (15 : Int))) (some (2 : Int))
   ((BM A G N o0 N (0 : Int))))
theorem aHZ (A : iC) (G : xE) (N : Nat) (o0 : jC) : bK (TC A G) Bh N Kq YE (bC Tryz.f48) 65 [.dv (.pair (.int .i64) (.pair (.sl (.arr 2 (.int .i64))) (.unit))) o0] [] Y2 = (A (1 : Int) o0.1 (6 : Int)).bind fun r1 =>
   cond (!r1) (some (3 : Int))
   (cond (decide ((o0.2.1.length : Int) > (15 : Int))) (some (2 : Int))
   ((VL A G N N (WR o0 (0 : Int))))) := by kernel_rfl
theorem k48 (A : iC) (G : xE) (N : Nat) (o0 : jC) : bK (TC A G) Bh N Kq YE (bC Tryz.f48) 65 [.dv (.pair (.int .i64) (.pair (.sl (.arr 2 (.int .i64))) (.unit))) o0] [] Y2 = QF A G N o0 := by rw [aHZ]; simp only [QF, aiJ]
theorem ag2 (A : iC) (G : xE) (Oa : aC prog 49 (CY A)) (h81 : aC prog 81 (JU G)) (a : (aG) -> Option (Int)) (h : ∀ o0 r, a o0 = some r -> (∃ N, QF A G N o0 = some r)) : aC prog 48 (JP a) := by
 intro args Of x hx
 simp only [JP] at hx
 split at hx
 ·rename_i o0
  obtain ⟨N, hN⟩ := h _ _ hx
  refine dS func48 (by kernel_rfl) (by kernel_rfl) rfl (dK Oa (dK h81 dQ)) ((k48 A G N _).trans hN) fun l o hd => ?_
  simp only [Y2] at hd
  split at hd
  ·obtain rfl := aB hd; exact ⟨rfl, rfl⟩
  ·cases hd
 ·cases hx
def yO (D : kW) (A : iC) : Env := dD TI TY [(48, JP D), (49, CY A)] aY aW
def c21 : Code := dB Tryz.f21
def afY : Norm := ⟨[1, 2, 4, 6, 21, 22], [2, 4, 6], [], []⟩
def afZ : Norm := ⟨[1, 2, 4, 6, 33, 34, 35], [2, 4, 6], [], []⟩
def Tj : Norm := ⟨[2, 4, 6, 58, 59, 60], [2, 4, 6], [], []⟩
def af0 : Norm := ⟨[2, 4, 6, 12, 58, 59, 60, 69, 70], [2, 4, 6], [], []⟩
def zH : Nat -> Option Norm := dH [(6, afY), (11, afZ), (17, Tj), (22, af0)]
def PH : End := ⟨[(87, .arr 6 (.int .u64))], ⟨[87, 88], [], [], []⟩⟩
def KC (l : List TV) (o : List (Nat × TO)) : Option (List Int × Int) := match l, o with | [.dv (.arr 6 (.int .u64)) x0, .dv (.int .i64) x1], [] => some (x0, x1) | _, _ => none
def WJ (o0 : jC) (bP : List (List UInt8)) (dF : iR) (gY : Int) (qZ : Int) : TS := ⟨slots 87 [(2, .ptr 2 0 []), (4, .ptr 4 0 []), (6, .ptr 6 0 []), (12, .dv (.str) (bP.getD gY.toNat ([] : List UInt8))), (58, .dv (.sl (.str)) bP), (59, .dv (.int .i64) (bP.length : Int)), (60, .dv (.int .i64) gY), (69, .dv (.int .i64) ((bP.getD gY.toNat ([] : List UInt8)).length : Int)), (70, .dv (.int .i64) qZ)], [(2, .row (.pair (.int .i64) (.pair (.sl (.arr 2 (.int .i64))) (.unit))) ([o0] : List (aG))), (4, .row (.arr 6 (.int .u64)) ([gW] : LL)), (6, .row (.arr 6 (.int .u64)) dF)]⟩
def OJ (o0 : jC) (bP : List (List UInt8)) (dF : iR) (gY : Int) : TS := ⟨slots 87 [(2, .ptr 2 0 []), (4, .ptr 4 0 []), (6, .ptr 6 0 []), (58, .dv (.sl (.str)) bP), (59, .dv (.int .i64) (bP.length : Int)), (60, .dv (.int .i64) gY)], [(2, .row (.pair (.int .i64) (.pair (.sl (.arr 2 (.int .i64))) (.unit))) ([o0] : List (aG))), (4, .row (.arr 6 (.int .u64)) ([gW] : LL)), (6, .row (.arr 6 (.int .u64)) dF)]⟩
def WI (o0 : jC) (bP : List (List UInt8)) (dE : Int) (dF : iR) : TS := ⟨slots 87 [(1, .dv (.sl (.str)) bP), (2, .ptr 2 0 []), (4, .ptr 4 0 []), (6, .ptr 6 0 []), (33, .dv (.sl (.arr 2 (.int .i64))) o0.2.1), (34, .dv (.int .i64) (o0.2.1.length : Int)), (35, .dv (.int .i64) dE)], [(2, .row (.pair (.int .i64) (.pair (.sl (.arr 2 (.int .i64))) (.unit))) ([o0] : List (aG))), (4, .row (.arr 6 (.int .u64)) ([gW] : LL)), (6, .row (.arr 6 (.int .u64)) dF)]⟩
def WH (o0 : jC) (bP : List (List UInt8)) (pV : Int) (rZ : iR) : TS := ⟨slots 87 [(1, .dv (.sl (.str)) bP), (2, .ptr 2 0 []), (4, .ptr 4 0 []), (6, .ptr 6 0 []), (21, .dv (.int .i64) o0.1), (22, .dv (.int .i64) pV)], [(2, .row (.pair (.int .i64) (.pair (.sl (.arr 2 (.int .i64))) (.unit))) ([o0] : List (aG))), (4, .row (.arr 6 (.int .u64)) ([gW] : LL)), (6, .row (.arr 6 (.int .u64)) rZ)]⟩
def anT (D : kW) (A : iC) (N : Nat) : dC (List Int × Int) := fG (yO D A) zH N c21 [1, 1, 1, 0, 1, 0] (fin TI PH (bC Tryz.f21) KC)
def U6 (D : kW) (A : iC) (N : Nat) (m : Nat) : TS -> Option (List Int × Int) := eX (den (yO D A) zH N (sub c21 [1, 1, 1, 0, 1, 0, 0])) (TS.norm afY) (anT D A N) m
def anU (D : kW) (A : iC) (N : Nat) : dC (List Int × Int) := fG (yO D A) zH N c21 [1, 1, 1, 1, 0, 1, 0] (fin TI PH (bC Tryz.f21) KC)
def U7 (D : kW) (A : iC) (N : Nat) (m : Nat) : TS -> Option (List Int × Int) := eX (den (yO D A) zH N (sub c21 [1, 1, 1, 1, 0, 1, 0, 0])) (TS.norm afZ) (anU D A N) m
def Zp (D : kW) (A : iC) (N : Nat) : dC (List Int × Int) := fG (yO D A) zH N c21 [1, 1, 1, 1, 1, 0, 1, 0] (fin TI PH (bC Tryz.f21) KC)
def U8 (D : kW) (A : iC) (N : Nat) (m : Nat) : TS -> Option (List Int × Int) := eX (den (yO D A) zH N (sub c21 [1, 1, 1, 1, 1, 0, 1, 0, 0])) (TS.norm Tj) (Zp D A N) m
def anV (D : kW) (A : iC) (N : Nat) (wW : TS -> Option (List Int × Int)) : dC (List Int × Int) := fG (yO D A) zH N (sub c21 [1, 1, 1, 1, 1, 0, 1, 0, 0]) [1, 1, 0, 0, 1, 1, 1, 0] (tK (TS.norm Tj) (Zp D A N) wW)
def U9 (D : kW) (A : iC) (N : Nat) (wW : TS -> Option (List Int × Int)) (m : Nat) : TS -> Option (List Int × Int) := eX (den (yO D A) zH N (sub c21 [1, 1, 1, 1, 1, 0, 1, 0, 0, 1, 1, 0, 0, 1, 1, 1, 0, 0])) (TS.norm af0) (anV D A N wW) m
def XM (A : iC) (o0 : jC) (bP : List (List UInt8)) (dF : iR) (gY : Int) (F0 : Int -> Option (List Int × Int)) (F1 : Int -> Option (List Int × Int)) (qZ : Int) : Option (List Int × Int) :=
   cond (decide (qZ < ((bP.getD gY.toNat ([] : List UInt8)).length : Int))) (chk (decide (0 <= qZ /\ qZ < ((bP.getD gY.toNat ([] : List UInt8)).length : Int))) ((A (97 : Int) (aH (((((bP.getD gY.toNat ([] : List UInt8)).getD qZ.toNat 0).toNat : Nat) : Int))) (aH ((aH ((97 : Int) + o0.1)) - (1 : Int)))).bind fun r2 =>
   cond (!r2) (some (dF.getD 0 gW, (9 : Int)))
   ((F0 (aH (qZ + 1))))))
   ((F1 (aH (gY + 1))))
def BK (D : kW) (A : iC) (N : Nat) (o0 : jC) (bP : List (List UInt8)) (dF : iR) (gY : Int) (aeN : Int -> Option (List Int × Int)) : Nat -> Int -> Option (List Int × Int)
 | 0, _ => none
 | n + 1, qZ => XM A o0 bP dF gY (BK D A N o0 bP dF gY aeN n) aeN qZ
theorem aGT (D : kW) (A : iC) (N : Nat) (o0 : jC) (bP : List (List UInt8)) (dF : iR) (gY : Int) (wW : TS -> Option (List Int × Int)) (m : Nat) (qZ : Int) : U9 D A N wW (m + 1) (WJ o0 bP dF gY qZ) = XM A o0 bP dF gY (fun y0 => (U9 D A N wW m (WJ o0 bP dF gY y0))) (fun y0 => (wW (OJ o0 bP dF y0))) qZ := by kernel_rfl
theorem ah6 (D : kW) (A : iC) (N : Nat) (o0 : jC) (bP : List (List UInt8)) (dF : iR) (gY : Int) (wW : TS -> Option (List Int × Int)) : ∀ (m : Nat) (qZ : Int), U9 D A N wW m (WJ o0 bP dF gY qZ) = BK D A N o0 bP dF gY (fun y0 => wW (OJ o0 bP dF y0)) m qZ
        | 0, _ => rfl
        | m + 1, qZ => by rw [aGT]; simp only [BK, ah6 D A N o0 bP dF gY wW m]
def uV (D : kW) (A : iC) (N : Nat) (o0 : jC) (bP : List (List UInt8)) (dF : iR) : Nat -> Int -> Option (List Int × Int)
 | 0, _ => none
 | n + 1, gY => cond (decide (gY < (bP.length : Int))) (chk (decide (0 <= gY /\ gY < (bP.length : Int))) (cond (decide (((bP.getD gY.toNat ([] : List UInt8)).length : Int) > (14 : Int))) (some (dF.getD 0 gW, (19 : Int)))
   ((BK D A N o0 bP dF gY (fun y0 => (uV D A N o0 bP dF n y0)) N (0 : Int)))))
   (some (dF.getD 0 gW, (0 : Int)))
theorem aGS (D : kW) (A : iC) (N : Nat) (o0 : jC) (bP : List (List UInt8)) (dF : iR) (m : Nat) (gY : Int) : U8 D A N (m + 1) (OJ o0 bP dF gY) = cond (decide (gY < (bP.length : Int))) (chk (decide (0 <= gY /\ gY < (bP.length : Int))) (cond (decide (((bP.getD gY.toNat ([] : List UInt8)).length : Int) > (14 : Int))) (some (dF.getD 0 gW, (19 : Int)))
   ((U9 D A N (U8 D A N m) N (WJ o0 bP dF gY (0 : Int))))))
   (some (dF.getD 0 gW, (0 : Int))) := by kernel_rfl
theorem ah5 (D : kW) (A : iC) (N : Nat) (o0 : jC) (bP : List (List UInt8)) (dF : iR) : ∀ (m : Nat) (gY : Int), U8 D A N m (OJ o0 bP dF gY) = uV D A N o0 bP dF m gY
        | 0, _ => rfl
        | m + 1, gY => by rw [aGS]; simp only [uV, ah6, ah5 D A N o0 bP dF m]
def zF (D : kW) (A : iC) (N : Nat) (o0 : jC) (bP : List (List UInt8)) : Nat -> Int -> LL -> Option (List Int × Int)
 | 0, _, _ => none
 | n + 1, dE, dF => cond (decide (dE < (o0.2.1.length : Int))) (chk (decide (0 <= dE /\ dE < (o0.2.1.length : Int))) (chk (decide (0 <= (o0.2.1.getD dE.toNat dJ).getD 0 (0 : Int) /\ (o0.2.1.getD dE.toNat dJ).getD 0 (0 : Int) < (6 : Int))) (chk (decide (0 <= (o0.2.1.getD dE.toNat dJ).getD 1 (0 : Int))) (chk (decide (0 <= (o0.2.1.getD dE.toNat dJ).getD 0 (0 : Int) /\ (o0.2.1.getD dE.toNat dJ).getD 0 (0 : Int) < (6 : Int))) (chk ((decide (((o0.2.1.getD dE.toNat dJ).getD 0 (0 : Int)).toNat < (dF.getD 0 gW).length)) && (true)) (chk (decide (0 <= (o0.2.1.getD dE.toNat dJ).getD 1 (0 : Int) /\ (o0.2.1.getD dE.toNat dJ).getD 1 (0 : Int) < (6 : Int))) (chk (decide (0 <= (o0.2.1.getD dE.toNat dJ).getD 0 (0 : Int))) (chk (decide (0 <= (o0.2.1.getD dE.toNat dJ).getD 1 (0 : Int) /\ (o0.2.1.getD dE.toNat dJ).getD 1 (0 : Int) < (6 : Int))) (chk ((decide (((o0.2.1.getD dE.toNat dJ).getD 1 (0 : Int)).toNat < ((dF.set 0 ((dF.getD 0 gW).set (((o0.2.1.getD dE.toNat dJ).getD 0 (0 : Int)).toNat) (rH .u64 ((dF.getD 0 gW).getD (((o0.2.1.getD dE.toNat dJ).getD 0 (0 : Int)).toNat) (0 : Int)) (IntKind.wrap .u64 ((1 : Int) * 2 ^ min (Int.toNat ((o0.2.1.getD dE.toNat dJ).getD 1 (0 : Int))) 64))))).getD 0 gW).length)) && (true)) ((zF D A N o0 bP n (aH (dE + 1)) ((dF.set 0 ((dF.getD 0 gW).set (((o0.2.1.getD dE.toNat dJ).getD 0 (0 : Int)).toNat) (rH .u64 ((dF.getD 0 gW).getD (((o0.2.1.getD dE.toNat dJ).getD 0 (0 : Int)).toNat) (0 : Int)) (IntKind.wrap .u64 ((1 : Int) * 2 ^ min (Int.toNat ((o0.2.1.getD dE.toNat dJ).getD 1 (0 : Int))) 64))))).set 0 (((dF.set 0 ((dF.getD 0 gW).set (((o0.2.1.getD dE.toNat dJ).getD 0 (0 : Int)).toNat) (rH .u64 ((dF.getD 0 gW).getD (((o0.2.1.getD dE.toNat dJ).getD 0 (0 : Int)).toNat) (0 : Int)) (IntKind.wrap .u64 ((1 : Int) * 2 ^ min (Int.toNat ((o0.2.1.getD dE.toNat dJ).getD 1 (0 : Int))) 64))))).getD 0 gW).set (((o0.2.1.getD dE.toNat dJ).getD 1 (0 : Int)).toNat) (rH .u64 (((dF.set 0 ((dF.getD 0 gW).set (((o0.2.1.getD dE.toNat dJ).getD 0 (0 : Int)).toNat) (rH .u64 ((dF.getD 0 gW).getD (((o0.2.1.getD dE.toNat dJ).getD 0 (0 : Int)).toNat) (0 : Int)) (IntKind.wrap .u64 ((1 : Int) * 2 ^ min (Int.toNat ((o0.2.1.getD dE.toNat dJ).getD 1 (0 : Int))) 64))))).getD 0 gW).getD (((o0.2.1.getD dE.toNat dJ).getD 1 (0 : Int)).toNat) (0 : Int)) (IntKind.wrap .u64 ((1 : Int) * 2 ^ min (Int.toNat ((o0.2.1.getD dE.toNat dJ).getD 0 (0 : Int))) 64))))))))))))))))
   ((uV D A N o0 bP dF N (0 : Int)))
theorem aGR (D : kW) (A : iC) (N : Nat) (o0 : jC) (bP : List (List UInt8)) (m : Nat) (dE : Int) (dF : iR) : U7 D A N (m + 1) (WI o0 bP dE dF) = cond (decide (dE < (o0.2.1.length : Int))) (chk (decide (0 <= dE /\ dE < (o0.2.1.length : Int))) (chk (decide (0 <= (o0.2.1.getD dE.toNat dJ).getD 0 (0 : Int) /\ (o0.2.1.getD dE.toNat dJ).getD 0 (0 : Int) < (6 : Int))) (chk (decide (0 <= (o0.2.1.getD dE.toNat dJ).getD 1 (0 : Int))) (chk (decide (0 <= (o0.2.1.getD dE.toNat dJ).getD 0 (0 : Int) /\ (o0.2.1.getD dE.toNat dJ).getD 0 (0 : Int) < (6 : Int))) (chk ((decide (((o0.2.1.getD dE.toNat dJ).getD 0 (0 : Int)).toNat < (dF.getD 0 gW).length)) && (true)) (chk (decide (0 <= (o0.2.1.getD dE.toNat dJ).getD 1 (0 : Int) /\ (o0.2.1.getD dE.toNat dJ).getD 1 (0 : Int) < (6 : Int))) (chk (decide (0 <= (o0.2.1.getD dE.toNat dJ).getD 0 (0 : Int))) (chk (decide (0 <= (o0.2.1.getD dE.toNat dJ).getD 1 (0 : Int) /\ (o0.2.1.getD dE.toNat dJ).getD 1 (0 : Int) < (6 : Int))) (chk ((decide (((o0.2.1.getD dE.toNat dJ).getD 1 (0 : Int)).toNat < ((dF.set 0 ((dF.getD 0 gW).set (((o0.2.1.getD dE.toNat dJ).getD 0 (0 : Int)).toNat) (rH .u64 ((dF.getD 0 gW).getD (((o0.2.1.getD dE.toNat dJ).getD 0 (0 : Int)).toNat) (0 : Int)) (IntKind.wrap .u64 ((1 : Int) * 2 ^ min (Int.toNat ((o0.2.1.getD dE.toNat dJ).getD 1 (0 : Int))) 64))))).getD 0 gW).length)) && (true)) ((U7 D A N m (WI o0 bP (aH (dE + 1)) ((dF.set 0 ((dF.getD 0 gW).set (((o0.2.1.getD dE.toNat dJ).getD 0 (0 : Int)).toNat) (rH .u64 ((dF.getD 0 gW).getD (((o0.2.1.getD dE.toNat dJ).getD 0 (0 : Int)).toNat) (0 : Int)) (IntKind.wrap .u64 ((1 : Int) * 2 ^ min (Int.toNat ((o0.2.1.getD dE.toNat dJ).getD 1 (0 : Int))) 64))))).set 0 (((dF.set 0 ((dF.getD 0 gW).set (((o0.2.1.getD dE.toNat dJ).getD 0 (0 : Int)).toNat) (rH .u64 ((dF.getD 0 gW).getD (((o0.2.1.getD dE.toNat dJ).getD 0 (0 : Int)).toNat) (0 : Int)) (IntKind.wrap .u64 ((1 : Int) * 2 ^ min (Int.toNat ((o0.2.1.getD dE.toNat dJ).getD 1 (0 : Int))) 64))))).getD 0 gW).set (((o0.2.1.getD dE.toNat dJ).getD 1 (0 : Int)).toNat) (rH .u64 (((dF.set 0 ((dF.getD 0 gW).set (((o0.2.1.getD dE.toNat dJ).getD 0 (0 : Int)).toNat) (rH .u64 ((dF.getD 0 gW).getD (((o0.2.1.getD dE.toNat dJ).getD 0 (0 : Int)).toNat) (0 : Int)) (IntKind.wrap .u64 ((1 : Int) * 2 ^ min (Int.toNat ((o0.2.1.getD dE.toNat dJ).getD 1 (0 : Int))) 64))))).getD 0 gW).getD (((o0.2.1.getD dE.toNat dJ).getD 1 (0 : Int)).toNat) (0 : Int)) (IntKind.wrap .u64 ((1 : Int) * 2 ^ min (Int.toNat ((o0.2.1.getD dE.toNat dJ).getD 0 (0 : Int))) 64)))))))))))))))))
   ((U8 D A N N (OJ o0 bP dF (0 : Int)))) := by kernel_rfl
theorem ah4 (D : kW) (A : iC) (N : Nat) (o0 : jC) (bP : List (List UInt8)) : ∀ (m : Nat) (dE : Int) (dF : iR), U7 D A N m (WI o0 bP dE dF) = zF D A N o0 bP m dE dF
        | 0, _, _ => rfl
        | m + 1, dE, dF => by rw [aGR]; simp only [zF, ah5, ah4 D A N o0 bP m]
def XL (o0 : jC) (F0 : Int -> LL -> Option (List Int × Int)) (F1 : Int -> LL -> Option (List Int × Int)) (pV : Int) (rZ : iR) : Option (List Int × Int) :=
   cond (decide (pV < o0.1)) (chk (decide (0 <= o0.1)) (chk (decide (0 <= pV /\ pV < (6 : Int))) (chk ((decide (pV.toNat < (rZ.getD 0 gW).length)) && (true)) ((F0 (aH (pV + 1)) (rZ.set 0 ((rZ.getD 0 gW).set pV.toNat (IntKind.wrap .u64 ((IntKind.wrap .u64 ((1 : Int) * 2 ^ min (Int.toNat o0.1) 64)) - (1 : Int))))))))))
   ((F1 (0 : Int) rZ))
def BJ (D : kW) (A : iC) (N : Nat) (o0 : jC) (bP : List (List UInt8)) : Nat -> Int -> LL -> Option (List Int × Int)
 | 0, _, _ => none
 | n + 1, pV, rZ => XL o0 (BJ D A N o0 bP n) (zF D A N o0 bP N) pV rZ
theorem aGQ (D : kW) (A : iC) (N : Nat) (o0 : jC) (bP : List (List UInt8)) (m : Nat) (pV : Int) (rZ : iR) : U6 D A N (m + 1) (WH o0 bP pV rZ) = XL o0 (fun y0 y1 => (U6 D A N m (WH o0 bP y0 y1))) (fun y0 y1 => (U7 D A N N (WI o0 bP y0 y1))) pV rZ := by kernel_rfl
theorem ah3 (D : kW) (A : iC) (N : Nat) (o0 : jC) (bP : List (List UInt8)) : ∀ (m : Nat) (pV : Int) (rZ : iR), U6 D A N m (WH o0 bP pV rZ) = BJ D A N o0 bP m pV rZ
        | 0, _, _ => rfl
        | m + 1, pV, rZ => by rw [aGQ]; simp only [BJ, ah4, ah3 D A N o0 bP m]
def m21 (D : kW) (A : iC) (N : Nat) (o0 : jC) (bP : List (List UInt8)) : Option (List Int × Int) :=
   (D o0).bind fun r1 =>
   cond (r1 != (0 : Int)) (some (gW, r1))
   ((BJ D A N o0 bP N (0 : Int) ([gW] : LL)))
theorem aHU (D : kW) (A : iC) (N : Nat) (o0 : jC) (bP : List (List UInt8)) : bK (yO D A) zH N PH c21 (bC Tryz.f21) 85 [.dv (.pair (.int .i64) (.pair (.sl (.arr 2 (.int .i64))) (.unit))) o0, .dv (.sl (.str)) bP] [] KC = (D o0).bind fun r1 =>
   cond (r1 != (0 : Int)) (some (gW, r1))
   ((U6 D A N N (WH o0 bP (0 : Int) ([gW] : LL)))) := by kernel_rfl
theorem k21 (D : kW) (A : iC) (N : Nat) (o0 : jC) (bP : List (List UInt8)) : bK (yO D A) zH N PH c21 (bC Tryz.f21) 85 [.dv (.pair (.int .i64) (.pair (.sl (.arr 2 (.int .i64))) (.unit))) o0, .dv (.sl (.str)) bP] [] KC = m21 D A N o0 bP := by rw [aHU]; simp only [m21, ah3]
theorem ag0 (D : kW) (A : iC) (h48 : aC prog 48 (JP D)) (Oa : aC prog 49 (CY A)) (a : (aG) -> (List (List UInt8)) -> Option (List Int × Int)) (h : ∀ o0 bP r, a o0 bP = some r -> (∃ N, m21 D A N o0 bP = some r)) : aC prog 21 (vM a) := by
 intro args Of x hx
 simp only [vM] at hx
 split at hx
 ·rename_i o0 bP
  obtain ⟨N, hN⟩ := h _ _ _ hx
  refine dS func21 (by kernel_rfl) (by kernel_rfl) rfl (dK h48 (dK Oa dQ)) ((k21 D A N _ _).trans hN) fun l o hd => ?_
  simp only [KC] at hd
  split at hd
  ·obtain rfl := aB hd; exact ⟨rfl, rfl⟩
  ·cases hd
 ·cases hx
def E63 : Env := dD TI TY [] aY aW
def c63 : Code := dB Tryz.f63
def ayV : Nat -> Option Norm := dH []
def asI : End := ⟨[], ⟨[16], [], [], []⟩⟩
def ab9 (l : List TV) (o : List (Nat × TO)) : Option (Bool) := match l, o with | [.dv (.bool) x0], [] => some (x0) | _, _ => none
def Dx (N : Nat) (d0 : List Int) (x1 : Int) (y2 : Int) : Option (Bool) :=
   chk (decide (0 <= IntKind.wrap .u8 (x1 - (97 : Int)) /\ IntKind.wrap .u8 (x1 - (97 : Int)) < (6 : Int))) (chk (decide (0 <= IntKind.wrap .u8 (y2 - (97 : Int)))) (some ((yS .u64 (Int.fdiv (d0.getD ((IntKind.wrap .u8 (x1 - (97 : Int))).toNat) (0 : Int)) (2 ^ min (Int.toNat (IntKind.wrap .u8 (y2 - (97 : Int)))) 64)) (1 : Int)) == (1 : Int))))
theorem k63 (N : Nat) (d0 : List Int) (x1 : Int) (y2 : Int) : bK (E63) ayV N asI c63 (bC Tryz.f63) 13 [.dv (.arr 6 (.int .u64)) d0, .dv (.int .u8) x1, .dv (.int .u8) y2] [] ab9 = Dx N d0 x1 y2 := by kernel_rfl
theorem ag4 (a : (List Int) -> Int -> Int -> Option (Bool)) (h : ∀ d0 x1 y2 r, a d0 x1 y2 = some r -> (∃ N, Dx N d0 x1 y2 = some r)) : aC prog 63 (AO a) := by
 intro args Of x hx
 simp only [AO] at hx
 split at hx
 ·rename_i d0 x1 y2
  obtain ⟨N, hN⟩ := h _ _ _ _ hx
  refine dS func63 (by kernel_rfl) (by kernel_rfl) rfl dQ ((k63 N _ _ _).trans hN) fun l o hd => ?_
  simp only [ab9] at hd
  split at hd
  ·obtain rfl := aB hd; exact ⟨rfl, rfl⟩
  ·cases hd
 ·cases hx
def vK (B : jI) (C : jJ) (bH : Int) (bI : Int) : Env := Ee TI TY [(21, vM B), (63, AO C)] aY aW (fun i => ([] : List (Nat × Nat)).lookup i)
def c29 : Code := dB Tryz.f29
def Tn : Norm := ⟨[1, 6, 8, 27, 28], [6, 8], [], []⟩
def af5 : Norm := ⟨[1, 6, 8, 9, 27, 28, 31, 32], [6, 8], [], []⟩
def Tq : Norm := ⟨[1, 8, 55, 56], [8], [(.slot 11, 1011, .cZ (.pair (.int .u64) (.int .i64)))], []⟩
def Tt : Norm := ⟨[1, 8, 12, 55, 56, 60], [8, 58, 60], [], []⟩
def af6 : Norm := ⟨[1, 8, 12, 13, 14, 55, 56, 60, 67, 68], [8, 58, 60], [], []⟩
def vZ : Nat -> Option Norm := dH [(6, Tn), (9, af5), (17, Tq), (20, Tt), (23, af6)]
def ZL : End := ⟨[], ⟨[101, 102], [], [], []⟩⟩
def O8 (bH : Int) (bI : Int) (l : List TV) (o : List (Nat × TO)) : Option Unit := match l, o with | [.dv (.int .i64) x0, .dv (.int .i64) x1], [] => chk (decide (x0 = bH) && decide (x1 = bI)) (some ()) | _, _ => none
def OO (aU : List UInt8) (r1 : List Int × Int) (eU : Int) (fC : Int) (nP : iR) : TS := ⟨slots 101 [(1, .dv (.str) aU), (6, .ptr 6 0 []), (8, .ptr 8 0 []), (9, .dv (.int .i64) eU), (27, .dv (.int .i64) (aU.length : Int)), (28, .dv (.int .i64) eU), (31, .dv (.int .i64) eU), (32, .dv (.int .i64) fC)], [(6, .row (.arr 6 (.int .u64)) ([r1.1] : LL)), (8, .row (.arr 14 (.int .u64)) nP)]⟩
def J3 (aU : List UInt8) (dN : iR) (fQ : Int) (h3 : Int × Int) (g4 : List (Int × Int)) (jF : Int) (oM : List (Int × Int)) : TS := ⟨slots 101 [(1, .dv (.str) aU), (8, .ptr 8 0 []), (12, .row 58), (13, .dv (.int .u64) h3.1), (14, .dv (.int .i64) h3.2), (55, .dv (.int .i64) (aU.length : Int)), (56, .dv (.int .i64) fQ), (60, .row 60), (67, .dv (.int .i64) (aU.length : Int)), (68, .dv (.int .i64) jF)], [(8, .row (.arr 14 (.int .u64)) dN), (58, .map (.int .u64) (.int .i64) oM), (60, .iter (.int .u64) (.int .i64) g4 none)]⟩
def OT (aU : List UInt8) (dN : iR) (fQ : Int) (wE : List (Int × Int)) (zM : List (Int × Int)) : TS := ⟨slots 101 [(1, .dv (.str) aU), (8, .ptr 8 0 []), (12, .row 58), (55, .dv (.int .i64) (aU.length : Int)), (56, .dv (.int .i64) fQ), (60, .row 60)], [(8, .row (.arr 14 (.int .u64)) dN), (58, .map (.int .u64) (.int .i64) wE), (60, .iter (.int .u64) (.int .i64) zM none)]⟩
def OQ (aU : List UInt8) (dN : iR) (fQ : Int) (vU : List (Int × Int)) : TS := ⟨slots 101 [(1, .dv (.str) aU), (8, .ptr 8 0 []), (11, .row 1011), (55, .dv (.int .i64) (aU.length : Int)), (56, .dv (.int .i64) fQ)], [(1011, .map (.int .u64) (.int .i64) vU), (8, .row (.arr 14 (.int .u64)) dN)]⟩
def OM (aU : List UInt8) (r1 : List Int × Int) (eU : Int) (dN : iR) : TS := ⟨slots 101 [(1, .dv (.str) aU), (6, .ptr 6 0 []), (8, .ptr 8 0 []), (27, .dv (.int .i64) (aU.length : Int)), (28, .dv (.int .i64) eU)], [(6, .row (.arr 6 (.int .u64)) ([r1.1] : LL)), (8, .row (.arr 14 (.int .u64)) dN)]⟩
def Zr (B : jI) (C : jJ) (bH : Int) (bI : Int) (N : Nat) : dC (Unit) := fG (vK B C bH bI) vZ N c29 [1, 1, 1, 1, 0, 1, 0] (fin TI ZL (bC Tryz.f29) (O8 bH bI))
def VE (B : jI) (C : jJ) (bH : Int) (bI : Int) (N : Nat) (m : Nat) : TS -> Option (Unit) := eX (den (vK B C bH bI) vZ N (sub c29 [1, 1, 1, 1, 0, 1, 0, 0])) (TS.norm Tn) (Zr B C bH bI N) m
def anZ (B : jI) (C : jJ) (bH : Int) (bI : Int) (N : Nat) (vS : qF) : dC (Unit) := fG (vK B C bH bI) vZ N (sub c29 [1, 1, 1, 1, 0, 1, 0, 0]) [1, 1, 0, 0, 1, 1, 0] (tK (TS.norm Tn) (Zr B C bH bI N) vS)
def OE (B : jI) (C : jJ) (bH : Int) (bI : Int) (N : Nat) (vS : qF) (m : Nat) : TS -> Option (Unit) := eX (den (vK B C bH bI) vZ N (sub c29 [1, 1, 1, 1, 0, 1, 0, 0, 1, 1, 0, 0, 1, 1, 0, 0])) (TS.norm af5) (anZ B C bH bI N vS) m
def Zt (B : jI) (C : jJ) (bH : Int) (bI : Int) (N : Nat) : dC (Unit) := fG (vK B C bH bI) vZ N c29 [1, 1, 1, 1, 1, 1, 0, 1, 0] (fin TI ZL (bC Tryz.f29) (O8 bH bI))
def VF (B : jI) (C : jJ) (bH : Int) (bI : Int) (N : Nat) (m : Nat) : TS -> Option (Unit) := eX (den (vK B C bH bI) vZ N (sub c29 [1, 1, 1, 1, 1, 1, 0, 1, 0, 0])) (TS.norm Tq) (Zt B C bH bI N) m
def Zu (B : jI) (C : jJ) (bH : Int) (bI : Int) (N : Nat) (lC : qF) : dC (Unit) := fG (vK B C bH bI) vZ N (sub c29 [1, 1, 1, 1, 1, 1, 0, 1, 0, 0]) [1, 1, 0, 0, 1, 0, 1, 0] (tK (TS.norm Tq) (Zt B C bH bI N) lC)
def VG (B : jI) (C : jJ) (bH : Int) (bI : Int) (N : Nat) (lC : qF) (m : Nat) : TS -> Option (Unit) := eX (den (vK B C bH bI) vZ N (sub c29 [1, 1, 1, 1, 1, 1, 0, 1, 0, 0, 1, 1, 0, 0, 1, 0, 1, 0, 0])) (TS.norm Tt) (Zu B C bH bI N lC) m
def an0 (B : jI) (C : jJ) (bH : Int) (bI : Int) (N : Nat) (lC : qF) (uK : qF) : dC (Unit) := fG (vK B C bH bI) vZ N (sub c29 [1, 1, 1, 1, 1, 1, 0, 1, 0, 0, 1, 1, 0, 0, 1, 0, 1, 0, 0]) [1, 1, 0, 1, 1, 0] (tK (TS.norm Tt) (Zu B C bH bI N lC) uK)
def JX (B : jI) (C : jJ) (bH : Int) (bI : Int) (N : Nat) (lC : qF) (uK : qF) (m : Nat) : TS -> Option (Unit) := eX (den (vK B C bH bI) vZ N (sub c29 [1, 1, 1, 1, 1, 1, 0, 1, 0, 0, 1, 1, 0, 0, 1, 0, 1, 0, 0, 1, 1, 0, 1, 1, 0, 0])) (TS.norm af6) (an0 B C bH bI N lC uK) m
def l29b (B : jI) (C : jJ) (bH : Int) (bI : Int) (N : Nat) (aU : List UInt8) (r1 : List Int × Int) (eU : Int) (Qi : Int -> LL -> Option (Unit)) : Nat -> Int -> LL -> Option (Unit)
 | 0, _, _ => none
 | n + 1, fC, nP => cond (decide (fC < eU)) (chk (decide (0 <= fC /\ fC < (aU.length : Int))) (chk (decide (0 <= eU /\ eU < (aU.length : Int))) ((C r1.1 (((aU.getD fC.toNat 0).toNat : Nat) : Int) (((aU.getD eU.toNat 0).toNat : Nat) : Int)).bind fun r2 =>
   cond (r2) (chk (decide (0 <= eU /\ eU < (14 : Int))) (chk (decide (0 <= fC)) (chk (decide (0 <= eU /\ eU < (14 : Int))) (chk ((decide (eU.toNat < (nP.getD 0 zX).length)) && (true)) ((l29b B C bH bI N aU r1 eU Qi n (aH (fC + 1)) (nP.set 0 ((nP.getD 0 zX).set eU.toNat (sQ .u64 ((nP.getD 0 zX).getD eU.toNat 0) (IntKind.wrap .u64 ((1 : Int) * 2 ^ min (Int.toNat fC) 64)))))))))))
   ((l29b B C bH bI N aU r1 eU Qi n (aH (fC + 1)) nP)))))
   ((Qi (aH (eU + 1)) nP))
theorem aGZ (B : jI) (C : jJ) (bH : Int) (bI : Int) (N : Nat) (aU : List UInt8) (r1 : List Int × Int) (eU : Int) (vS : qF) (m : Nat) (fC : Int) (nP : iR) : OE B C bH bI N vS (m + 1) (OO aU r1 eU fC nP) = cond (decide (fC < eU)) (chk (decide (0 <= fC /\ fC < (aU.length : Int))) (chk (decide (0 <= eU /\ eU < (aU.length : Int))) ((C r1.1 (((aU.getD fC.toNat 0).toNat : Nat) : Int) (((aU.getD eU.toNat 0).toNat : Nat) : Int)).bind fun r2 =>
   cond (r2) (chk (decide (0 <= eU /\ eU < (14 : Int))) (chk (decide (0 <= fC)) (chk (decide (0 <= eU /\ eU < (14 : Int))) (chk ((decide (eU.toNat < (nP.getD 0 zX).length)) && (true)) ((OE B C bH bI N vS m (OO aU r1 eU (aH (fC + 1)) (nP.set 0 ((nP.getD 0 zX).set eU.toNat (sQ .u64 ((nP.getD 0 zX).getD eU.toNat 0) (IntKind.wrap .u64 ((1 : Int) * 2 ^ min (Int.toNat fC) 64))))))))))))
   ((OE B C bH bI N vS m (OO aU r1 eU (aH (fC + 1)) nP))))))
   ((vS (OM aU r1 (aH (eU + 1)) nP))) := by kernel_rfl
theorem aiB (B : jI) (C : jJ) (bH : Int) (bI : Int) (N : Nat) (aU : List UInt8) (r1 : List Int × Int) (eU : Int) (vS : qF) : ∀ (m : Nat) (fC : Int) (nP : iR), OE B C bH bI N vS m (OO aU r1 eU fC nP) = l29b B C bH bI N aU r1 eU (fun y0 y1 => vS (OM aU r1 y0 y1)) m fC nP
        | 0, _, _ => rfl
        | m + 1, fC, nP => by rw [aGZ]; simp only [l29b, aiB B C bH bI N aU r1 eU vS m]
def KY (B : jI) (C : jJ) (bH : Int) (bI : Int) (N : Nat) (aU : List UInt8) (dN : iR) (fQ : Int) (h3 : Int × Int) (g4 : List (Int × Int)) (Aq : (List (Int × Int)) -> (List (Int × Int)) -> Option (Unit)) : Nat -> Int -> (List (Int × Int)) -> Option (Unit)
 | 0, _, _ => none
 | n + 1, jF, oM => cond (decide (jF < (aU.length : Int))) (chk (decide (0 <= jF)) (cond ((yS .u64 (Int.fdiv h3.1 (2 ^ min (Int.toNat jF) 64)) (1 : Int)) == (0 : Int)) (chk (decide (0 <= jF /\ jF < (14 : Int))) (cond ((rH .u64 ((dN.getD 0 zX).getD jF.toNat 0) h3.1) == (0 : Int)) (chk (decide (0 <= jF)) ((KY B C bH bI N aU dN fQ h3 g4 Aq n (aH (jF + 1)) (qN (kt := .int .u64) (vt := .int .i64) oM (sQ .u64 h3.1 (IntKind.wrap .u64 ((1 : Int) * 2 ^ min (Int.toNat jF) 64))) (aH (((jT (kt := .int .u64) (vt := .int .i64) oM (sQ .u64 h3.1 (IntKind.wrap .u64 ((1 : Int) * 2 ^ min (Int.toNat jF) 64)))).getD (0 : Int)) + h3.2))))))
   ((KY B C bH bI N aU dN fQ h3 g4 Aq n (aH (jF + 1)) oM))))
   ((KY B C bH bI N aU dN fQ h3 g4 Aq n (aH (jF + 1)) oM))))
   ((Aq oM g4))
theorem aG2 (B : jI) (C : jJ) (bH : Int) (bI : Int) (N : Nat) (aU : List UInt8) (dN : iR) (fQ : Int) (h3 : Int × Int) (g4 : List (Int × Int)) (lC : qF) (uK : qF) (m : Nat) (jF : Int) (oM : List (Int × Int)) : JX B C bH bI N lC uK (m + 1) (J3 aU dN fQ h3 g4 jF oM) = cond (decide (jF < (aU.length : Int))) (chk (decide (0 <= jF)) (cond ((yS .u64 (Int.fdiv h3.1 (2 ^ min (Int.toNat jF) 64)) (1 : Int)) == (0 : Int)) (chk (decide (0 <= jF /\ jF < (14 : Int))) (cond ((rH .u64 ((dN.getD 0 zX).getD jF.toNat 0) h3.1) == (0 : Int)) (chk (decide (0 <= jF)) ((JX B C bH bI N lC uK m (J3 aU dN fQ h3 g4 (aH (jF + 1)) (qN (kt := .int .u64) (vt := .int .i64) oM (sQ .u64 h3.1 (IntKind.wrap .u64 ((1 : Int) * 2 ^ min (Int.toNat jF) 64))) (aH (((jT (kt := .int .u64) (vt := .int .i64) oM (sQ .u64 h3.1 (IntKind.wrap .u64 ((1 : Int) * 2 ^ min (Int.toNat jF) 64)))).getD (0 : Int)) + h3.2)))))))
   ((JX B C bH bI N lC uK m (J3 aU dN fQ h3 g4 (aH (jF + 1)) oM)))))
   ((JX B C bH bI N lC uK m (J3 aU dN fQ h3 g4 (aH (jF + 1)) oM)))))
   ((uK (OT aU dN fQ oM g4))) := by kernel_rfl
theorem aiE (B : jI) (C : jJ) (bH : Int) (bI : Int) (N : Nat) (aU : List UInt8) (dN : iR) (fQ : Int) (h3 : Int × Int) (g4 : List (Int × Int)) (lC : qF) (uK : qF) : ∀ (m : Nat) (jF : Int) (oM : List (Int × Int)), JX B C bH bI N lC uK m (J3 aU dN fQ h3 g4 jF oM) = KY B C bH bI N aU dN fQ h3 g4 (fun y0 y1 => uK (OT aU dN fQ y0 y1)) m jF oM
        | 0, _, _ => rfl
        | m + 1, jF, oM => by rw [aG2]; simp only [KY, aiE B C bH bI N aU dN fQ h3 g4 lC uK m]
def Ap (B : jI) (C : jJ) (bH : Int) (bI : Int) (N : Nat) (aU : List UInt8) (dN : iR) (fQ : Int) (aeP : Int -> (List (Int × Int)) -> Option (Unit)) : Nat -> (List (Int × Int)) -> (List (Int × Int)) -> Option (Unit)
 | 0, _, _ => none
 | n + 1, wE, zM => ZI zM ((aeP (aH (fQ + 1)) wE)) (fun h3 => fun g4 =>
   (KY B C bH bI N aU dN fQ h3 g4 (fun y0 y1 => (Ap B C bH bI N aU dN fQ aeP n y0 y1)) N (0 : Int) wE))
theorem aG1 (B : jI) (C : jJ) (bH : Int) (bI : Int) (N : Nat) (aU : List UInt8) (dN : iR) (fQ : Int) (lC : qF) (m : Nat) (wE : List (Int × Int)) (zM : List (Int × Int)) : VG B C bH bI N lC (m + 1) (OT aU dN fQ wE zM) = ZI zM ((lC (OQ aU dN (aH (fQ + 1)) wE))) (fun h3 => fun g4 =>
   (JX B C bH bI N lC (VG B C bH bI N lC m) N (J3 aU dN fQ h3 g4 (0 : Int) wE))) := by kernel_rfl
theorem aiD (B : jI) (C : jJ) (bH : Int) (bI : Int) (N : Nat) (aU : List UInt8) (dN : iR) (fQ : Int) (lC : qF) : ∀ (m : Nat) (wE : List (Int × Int)) (zM : List (Int × Int)), VG B C bH bI N lC m (OT aU dN fQ wE zM) = Ap B C bH bI N aU dN fQ (fun y0 y1 => lC (OQ aU dN y0 y1)) m wE zM
        | 0, _, _ => rfl
        | m + 1, wE, zM => by rw [aG1]; simp only [Ap, aiE, aiD B C bH bI N aU dN fQ lC m]
def Am (B : jI) (C : jJ) (bH : Int) (bI : Int) (N : Nat) (aU : List UInt8) (dN : iR) : Nat -> Int -> (List (Int × Int)) -> Option (Unit)
 | 0, _, _ => none
 | n + 1, fQ, vU => cond (decide (fQ < (aU.length : Int))) ((Ap B C bH bI N aU dN fQ (fun y0 y1 => (Am B C bH bI N aU dN n y0 y1)) N ([] : List (Int × Int)) vU))
   (chk (decide (0 <= (aU.length : Int))) (chk (decide (((jT (kt := .int .u64) (vt := .int .i64) vU (IntKind.wrap .u64 ((IntKind.wrap .u64 ((1 : Int) * 2 ^ min (Int.toNat (aU.length : Int)) 64)) - (1 : Int)))).getD (0 : Int)) = bH) && decide ((0 : Int) = bI)) (some ())))
theorem aG0 (B : jI) (C : jJ) (bH : Int) (bI : Int) (N : Nat) (aU : List UInt8) (dN : iR) (m : Nat) (fQ : Int) (vU : List (Int × Int)) : VF B C bH bI N (m + 1) (OQ aU dN fQ vU) = cond (decide (fQ < (aU.length : Int))) ((VG B C bH bI N (VF B C bH bI N m) N (OT aU dN fQ ([] : List (Int × Int)) vU)))
   (chk (decide (0 <= (aU.length : Int))) (chk (decide (((jT (kt := .int .u64) (vt := .int .i64) vU (IntKind.wrap .u64 ((IntKind.wrap .u64 ((1 : Int) * 2 ^ min (Int.toNat (aU.length : Int)) 64)) - (1 : Int)))).getD (0 : Int)) = bH) && decide ((0 : Int) = bI)) (some ()))) := by kernel_rfl
theorem aiC (B : jI) (C : jJ) (bH : Int) (bI : Int) (N : Nat) (aU : List UInt8) (dN : iR) : ∀ (m : Nat) (fQ : Int) (vU : List (Int × Int)), VF B C bH bI N m (OQ aU dN fQ vU) = Am B C bH bI N aU dN m fQ vU
        | 0, _, _ => rfl
        | m + 1, fQ, vU => by rw [aG0]; simp only [Am, aiD, aiC B C bH bI N aU dN m]
def l29a (B : jI) (C : jJ) (bH : Int) (bI : Int) (N : Nat) (aU : List UInt8) (r1 : List Int × Int) : Nat -> Int -> LL -> Option (Unit)
 | 0, _, _ => none
 | n + 1, eU, dN => cond (decide (eU < (aU.length : Int))) ((l29b B C bH bI N aU r1 eU (fun y0 y1 => (l29a B C bH bI N aU r1 n y0 y1)) N (0 : Int) dN))
   ((Am B C bH bI N aU dN N (0 : Int) (qN (kt := .int .u64) (vt := .int .i64) ([] : List (Int × Int)) (0 : Int) (1 : Int))))
theorem aGY (B : jI) (C : jJ) (bH : Int) (bI : Int) (N : Nat) (aU : List UInt8) (r1 : List Int × Int) (m : Nat) (eU : Int) (dN : iR) : VE B C bH bI N (m + 1) (OM aU r1 eU dN) = cond (decide (eU < (aU.length : Int))) ((OE B C bH bI N (VE B C bH bI N m) N (OO aU r1 eU (0 : Int) dN)))
   ((VF B C bH bI N N (OQ aU dN (0 : Int) (qN (kt := .int .u64) (vt := .int .i64) ([] : List (Int × Int)) (0 : Int) (1 : Int))))) := by kernel_rfl
theorem aiA (B : jI) (C : jJ) (bH : Int) (bI : Int) (N : Nat) (aU : List UInt8) (r1 : List Int × Int) : ∀ (m : Nat) (eU : Int) (dN : iR), VE B C bH bI N m (OM aU r1 eU dN) = l29a B C bH bI N aU r1 m eU dN
        | 0, _, _ => rfl
        | m + 1, eU, dN => by rw [aGY]; simp only [l29a, aiB, aiC, aiA B C bH bI N aU r1 m]
def Dl (B : jI) (C : jJ) (bH : Int) (bI : Int) (N : Nat) (o0 : jC) (aU : List UInt8) : Option (Unit) :=
   (B o0 ([aU] : List (List UInt8))).bind fun r1 =>
   cond (r1.2 != (0 : Int)) (chk (decide ((0 : Int) = bH) && decide (r1.2 = bI)) (some ()))
   ((l29a B C bH bI N aU r1 N (0 : Int) ([zX] : LL)))
theorem aHY (B : jI) (C : jJ) (bH : Int) (bI : Int) (N : Nat) (o0 : jC) (aU : List UInt8) : bK (vK B C bH bI) vZ N ZL c29 (bC Tryz.f29) 99 [.dv (.pair (.int .i64) (.pair (.sl (.arr 2 (.int .i64))) (.unit))) o0, .dv (.str) aU] [] (O8 bH bI) = (B o0 ([aU] : List (List UInt8))).bind fun r1 =>
   cond (r1.2 != (0 : Int)) (chk (decide ((0 : Int) = bH) && decide (r1.2 = bI)) (some ()))
   ((VE B C bH bI N N (OM aU r1 (0 : Int) ([zX] : LL)))) := by kernel_rfl
theorem k29 (B : jI) (C : jJ) (bH : Int) (bI : Int) (N : Nat) (o0 : jC) (aU : List UInt8) : bK (vK B C bH bI) vZ N ZL c29 (bC Tryz.f29) 99 [.dv (.pair (.int .i64) (.pair (.sl (.arr 2 (.int .i64))) (.unit))) o0, .dv (.str) aU] [] (O8 bH bI) = Dl B C bH bI N o0 aU := by rw [aHY]; simp only [Dl, aiA]
theorem aAM (B : jI) (C : jJ) (h21 : aC prog 21 (vM B)) (h63 : aC prog 63 (AO C)) (a : (aG) -> (List UInt8) -> Option (Int × Int)) (h : ∀ o0 aU r, a o0 aU = some r -> ∃ N, Dl B C r.1 r.2 N o0 aU = some ()) : aC prog 29 (UA a) := by
 intro args Of r hx
 simp only [UA] at hx
 split at hx
 ·rename_i o0 aU
  obtain ⟨N, hN⟩ := h _ _ _ hx
  refine axZ (L := [(21, vM B), (63, AO C)]) (rc := aY) (fz := aW) (tw := fun i => ([] : List (Nat × Nat)).lookup i) (fn := Tryz.f29) (by kernel_rfl) (by kernel_rfl) (by kernel_rfl) (by kernel_rfl) rfl ?_ ((k29 B C r.1 r.2 N _ _).trans hN) ?_
  ·intro p hp; simp only [List.mem_cons, List.not_mem_nil, or_false] at hp; rcases hp with rfl | rfl
   ·exact h21
   ·exact h63
  ·intro l o hd
   simp only [O8] at hd
   split at hd
   ·have hq := (FO hd).1
    simp only [aT, fE] at hq
    obtain ⟨rfl, rfl⟩ := hq
    exact ⟨rfl, rfl⟩
   ·cases hd
 ·cases hx
def alM : Env := dD TI TY [] aY aW
def aqK : Code := dB Tryz.f177
def ayH : Nat -> Option Norm := dH []
def ar4 : End := ⟨[], ⟨[6], [], [], []⟩⟩
def abU (l : List TV) (o : List (Nat × TO)) : Option (Bool) := match l, o with | [.dv (.bool) x0], [] => some (x0) | _, _ => none
def Rf (N : Nat) (x0 : Int) : Option (Bool) :=
   some (x0 != x0)
theorem aw2 (N : Nat) (x0 : Int) : bK (alM) ayH N ar4 aqK (bC Tryz.f177) 5 [.dv (.int .i64) x0] [] abU = Rf N x0 := by kernel_rfl
theorem aAD (a : Int -> Option (Bool)) (h : ∀ x0 r, a x0 = some r -> (∃ N, Rf N x0 = some r)) : aC prog 177 (NP a) := by
 intro args Of x hx
 simp only [NP] at hx
 split at hx
 ·rename_i x0
  obtain ⟨N, hN⟩ := h _ _ hx
  refine dS func177 (by kernel_rfl) (by kernel_rfl) rfl dQ ((aw2 N _).trans hN) fun l o hd => ?_
  simp only [abU] at hd
  split at hd
  ·obtain rfl := aB hd; exact ⟨rfl, rfl⟩
  ·cases hd
 ·cases hx
def alK (M : rF) : Env := dD TI TY [(177, NP M)] aY aW
def aqJ : Code := dB Tryz.f174
def ayF : Nat -> Option Norm := dH []
def ar1 : End := ⟨[], ⟨[17], [], [], []⟩⟩
def abS (l : List TV) (o : List (Nat × TO)) : Option (Bool) := match l, o with | [.dv (.bool) x0], [] => some (x0) | _, _ => none
def Qy (M : rF) (N : Nat) (x0 : Int) (y1 : Int) : Option (Bool) :=
   (M x0).bind fun r1 =>
   cond (r1) ((M y1).bind fun r2 =>
   cond (!r2) (some true)
   (some (decide (x0 < y1))))
   (some (decide (x0 < y1)))
theorem aw0 (M : rF) (N : Nat) (x0 : Int) (y1 : Int) : bK (alK M) ayF N ar1 aqJ (bC Tryz.f174) 15 [.dv (.int .i64) x0, .dv (.int .i64) y1] [] abS = Qy M N x0 y1 := by kernel_rfl
theorem aAB (M : rF) (auW : aC prog 177 (NP M)) (a : Int -> Int -> Option (Bool)) (h : ∀ x0 y1 r, a x0 y1 = some r -> (∃ N, Qy M N x0 y1 = some r)) : aC prog 174 (NL a) := by
 intro args Of x hx
 simp only [NL] at hx
 split at hx
 ·rename_i x0 y1
  obtain ⟨N, hN⟩ := h _ _ _ hx
  refine dS func174 (by kernel_rfl) (by kernel_rfl) rfl (dK auW dQ) ((aw0 M N _ _).trans hN) fun l o hd => ?_
  simp only [abS] at hd
  split at hd
  ·obtain rfl := aB hd; exact ⟨rfl, rfl⟩
  ·cases hd
 ·cases hx
def alL : Env := dD TI TY [] aY aW
def c175 : Code := dB Tryz.f175
def ayG : Nat -> Option Norm := dH []
def ar2 : End := ⟨[], ⟨[6], [], [], []⟩⟩
def abT (l : List TV) (o : List (Nat × TO)) : Option (Bool) := match l, o with | [.dv (.bool) x0], [] => some (x0) | _, _ => none
def Qz (N : Nat) (x0 : Int) : Option (Bool) :=
   some (x0 != x0)
theorem aw1 (N : Nat) (x0 : Int) : bK (alL) ayG N ar2 c175 (bC Tryz.f175) 5 [.dv (.int .i64) x0] [] abT = Qz N x0 := by kernel_rfl
theorem aAC (a : Int -> Option (Bool)) (h : ∀ x0 r, a x0 = some r -> (∃ N, Qz N x0 = some r)) : aC prog 175 (NM a) := by
 intro args Of x hx
 simp only [NM] at hx
 split at hx
 ·rename_i x0
  obtain ⟨N, hN⟩ := h _ _ hx
  refine dS func175 (by kernel_rfl) (by kernel_rfl) rfl dQ ((aw1 N _).trans hN) fun l o hd => ?_
  simp only [abT] at hd
  split at hd
  ·obtain rfl := aB hd; exact ⟨rfl, rfl⟩
  ·cases hd
 ·cases hx
def S9 (J : xB) (H : rF) : Env := dD TI TY [(174, NL J), (175, NM H)] aY aW
def YC : Code := dB Tryz.f169
def afX : Norm := ⟨[0, 1, 6, 7, 8], [], [], []⟩
def Be : Nat -> Option Norm := dH [(3, afX)]
def Jw : End := ⟨[], ⟨[54, 55], [], [], []⟩⟩
def YY (l : List TV) (o : List (Nat × TO)) : Option (Int × Bool) := match l, o with | [.dv (.int .i64) x0, .dv (.bool) x1], [] => some (x0, x1) | _, _ => none
def WG (x0 : List Int) (jB : Int) (jS : Int) (oL : Int) : TS := ⟨slots 54 [(0, .dv (.sl (.int .i64)) x0), (1, .dv (.int .i64) jB), (6, .dv (.int .i64) (x0.length : Int)), (7, .dv (.int .i64) jS), (8, .dv (.int .i64) oL)], []⟩
def anP (J : xB) (H : rF) (N : Nat) : dC (Int × Bool) := fG (S9 J H) Be N YC [1, 1, 1, 0, 0] (fin TI Jw (bC Tryz.f169) YY)
def U5 (J : xB) (H : rF) (N : Nat) (m : Nat) : TS -> Option (Int × Bool) := eX (den (S9 J H) Be N (sub YC [1, 1, 1, 0, 0, 0])) (TS.norm afX) (anP J H N) m
def aaV (J : xB) (H : rF) (x0 : List Int) (jB : Int) (F0 : Int -> Int -> Option (Int × Bool)) (jS : Int) (oL : Int) : Option (Int × Bool) :=
   cond (decide (jS < oL)) (chk (decide (0 <= aH (Int.fdiv (IntKind.wrap .u64 (aH (jS + oL))) (2 ^ min (Int.toNat 1) 64)) /\ aH (Int.fdiv (IntKind.wrap .u64 (aH (jS + oL))) (2 ^ min (Int.toNat 1) 64)) < (x0.length : Int))) ((J (x0.getD ((aH (Int.fdiv (IntKind.wrap .u64 (aH (jS + oL))) (2 ^ min (Int.toNat 1) 64))).toNat) (0 : Int)) jB).bind fun r1 =>
   cond (r1) ((F0 (aH ((aH (Int.fdiv (IntKind.wrap .u64 (aH (jS + oL))) (2 ^ min (Int.toNat 1) 64))) + 1)) oL))
   ((F0 jS (aH (Int.fdiv (IntKind.wrap .u64 (aH (jS + oL))) (2 ^ min (Int.toNat 1) 64)))))))
   (cond (decide (jS < (x0.length : Int))) (chk (decide (0 <= jS /\ jS < (x0.length : Int))) (cond ((x0.getD jS.toNat 0) == jB) (some (jS, true))
   (chk (decide (0 <= jS /\ jS < (x0.length : Int))) ((H (x0.getD jS.toNat 0)).bind fun r2 =>
   cond (r2) ((H jB).bind fun r3 =>
   some (jS, r3))
   (some (jS, false))))))
   (some (jS, false)))
def Ak (J : xB) (H : rF) (N : Nat) (x0 : List Int) (jB : Int) : Nat -> Int -> Int -> Option (Int × Bool)
 | 0, _, _ => none
 | n + 1, jS, oL => aaV J H x0 jB (Ak J H N x0 jB n) jS oL
theorem aGP (J : xB) (H : rF) (N : Nat) (x0 : List Int) (jB : Int) (m : Nat) (jS : Int) (oL : Int) : U5 J H N (m + 1) (WG x0 jB jS oL) = aaV J H x0 jB (fun y0 y1 => (U5 J H N m (WG x0 jB y0 y1))) jS oL := by kernel_rfl
theorem ah2 (J : xB) (H : rF) (N : Nat) (x0 : List Int) (jB : Int) : ∀ (m : Nat) (jS : Int) (oL : Int), U5 J H N m (WG x0 jB jS oL) = Ak J H N x0 jB m jS oL
        | 0, _, _ => rfl
        | m + 1, jS, oL => by rw [aGP]; simp only [Ak, ah2 J H N x0 jB m]
def Dh (J : xB) (H : rF) (N : Nat) (x0 : List Int) (jB : Int) : Option (Int × Bool) :=
   (Ak J H N x0 jB N (0 : Int) (x0.length : Int))
theorem aHT (J : xB) (H : rF) (N : Nat) (x0 : List Int) (jB : Int) : bK (S9 J H) Be N Jw YC (bC Tryz.f169) 52 [.dv (.sl (.int .i64)) x0, .dv (.int .i64) jB] [] YY = (U5 J H N N (WG x0 jB (0 : Int) (x0.length : Int))) := by kernel_rfl
theorem awZ (J : xB) (H : rF) (N : Nat) (x0 : List Int) (jB : Int) : bK (S9 J H) Be N Jw YC (bC Tryz.f169) 52 [.dv (.sl (.int .i64)) x0, .dv (.int .i64) jB] [] YY = Dh J H N x0 jB := by rw [aHT]; simp only [Dh, ah2]
theorem aAA (J : xB) (H : rF) (auU : aC prog 174 (NL J)) (auV : aC prog 175 (NM H)) (a : (List Int) -> Int -> Option (Int × Bool)) (h : ∀ x0 jB r, a x0 jB = some r -> (∃ N, Dh J H N x0 jB = some r)) : aC prog 169 (NK a) := by
 intro args Of x hx
 simp only [NK] at hx
 split at hx
 ·rename_i x0 jB
  obtain ⟨N, hN⟩ := h _ _ _ hx
  refine dS func169 (by kernel_rfl) (by kernel_rfl) rfl (dK auU (dK auV dQ)) ((awZ J H N _ _).trans hN) fun l o hd => ?_
  simp only [YY] at hd
  split at hd
  ·obtain rfl := aB hd; exact ⟨rfl, rfl⟩
  ·cases hd
 ·cases hx
def SY (K : xC) : Env := dD TI TY [(169, NK K)] aY aW
def YB : Code := dB Tryz.f166
def afW : Norm := ⟨[0, 1, 4, 6], [4], [], []⟩
def Bd : Nat -> Option Norm := dH [(2, afW)]
def Jv : End := ⟨[(35, .arr 2 (.int .i64))], ⟨[35, 36], [], [], []⟩⟩
def YX (l : List TV) (o : List (Nat × TO)) : Option (List Int × Bool) := match l, o with | [.dv (.arr 2 (.int .i64)) x0, .dv (.bool) x1], [] => some (x0, x1) | _, _ => none
def WE (iF : List Int) (n1 : Int) (dW : Int) : TS := ⟨slots 35 [(0, .dv (.sl (.int .i64)) iF), (1, .dv (.int .i64) n1), (4, .ptr 4 0 []), (6, .dv (.int .i64) dW)], [(4, .row (.arr 2 (.int .i64)) ([dJ] : LL))]⟩
def anN (K : xC) (N : Nat) : dC (List Int × Bool) := fG (SY K) Bd N YB [1, 0, 1, 0] (fin TI Jv (bC Tryz.f166) YX)
def U4 (K : xC) (N : Nat) (m : Nat) : TS -> Option (List Int × Bool) := eX (den (SY K) Bd N (sub YB [1, 0, 1, 0, 0])) (TS.norm afW) (anN K N) m
def aaU (K : xC) (iF : List Int) (n1 : Int) (F0 : Int -> Option (List Int × Bool)) (dW : Int) : Option (List Int × Bool) :=
   cond (decide (dW >= (0 : Int))) (chk (decide (0 <= aH (dW + 1) /\ aH (dW + 1) <= (iF.length : Int))) (chk (decide (0 <= dW /\ dW < (iF.length : Int))) ((K (iF.take ((aH (dW + 1)).toNat)) (aH (n1 - (iF.getD dW.toNat 0)))).bind fun r1 =>
   cond (r1.2) (some (([dW, r1.1] : List Int), true))
   ((F0 (aH (dW - (1 : Int))))))))
   (some (dJ, false))
def Aj (K : xC) (N : Nat) (iF : List Int) (n1 : Int) : Nat -> Int -> Option (List Int × Bool)
 | 0, _ => none
 | n + 1, dW => aaU K iF n1 (Aj K N iF n1 n) dW
theorem aGO (K : xC) (N : Nat) (iF : List Int) (n1 : Int) (m : Nat) (dW : Int) : U4 K N (m + 1) (WE iF n1 dW) = aaU K iF n1 (fun y0 => (U4 K N m (WE iF n1 y0))) dW := by kernel_rfl
theorem ah1 (K : xC) (N : Nat) (iF : List Int) (n1 : Int) : ∀ (m : Nat) (dW : Int), U4 K N m (WE iF n1 dW) = Aj K N iF n1 m dW
        | 0, _ => rfl
        | m + 1, dW => by rw [aGO]; simp only [Aj, ah1 K N iF n1 m]
def Df (K : xC) (N : Nat) (iF : List Int) (n1 : Int) : Option (List Int × Bool) :=
   (Aj K N iF n1 N (aH ((iF.length : Int) - (1 : Int))))
theorem aHS (K : xC) (N : Nat) (iF : List Int) (n1 : Int) : bK (SY K) Bd N Jv YB (bC Tryz.f166) 33 [.dv (.sl (.int .i64)) iF, .dv (.int .i64) n1] [] YX = (U4 K N N (WE iF n1 (aH ((iF.length : Int) - (1 : Int))))) := by kernel_rfl
theorem awY (K : xC) (N : Nat) (iF : List Int) (n1 : Int) : bK (SY K) Bd N Jv YB (bC Tryz.f166) 33 [.dv (.sl (.int .i64)) iF, .dv (.int .i64) n1] [] YX = Df K N iF n1 := by rw [aHS]; simp only [Df, ah1]
theorem az' (K : xC) (auT : aC prog 169 (NK K)) (a : (List Int) -> Int -> Option (List Int × Bool)) (h : ∀ iF n1 r, a iF n1 = some r -> (∃ N, Df K N iF n1 = some r)) : aC prog 166 (TW a) := by
 intro args Of x hx
 simp only [TW] at hx
 split at hx
 ·rename_i iF n1
  obtain ⟨N, hN⟩ := h _ _ _ hx
  refine dS func166 (by kernel_rfl) (by kernel_rfl) rfl (dK auT dQ) ((awY K N _ _).trans hN) fun l o hd => ?_
  simp only [YX] at hd
  split at hd
  ·obtain rfl := aB hd; exact ⟨rfl, rfl⟩
  ·cases hd
 ·cases hx
def TM : Env := dD TI TY [] aY aW
def YK : Code := dB Tryz.f74
def agH : Norm := ⟨[0, 1, 7, 8], [], [], []⟩
def Cb : Nat -> Option Norm := dH [(2, agH)]
def Ld : End := ⟨[], ⟨[19], [], [], []⟩⟩
def ZC (l : List TV) (o : List (Nat × TO)) : Option (Int) := match l, o with | [.dv (.int .i64) x0], [] => some (x0) | _, _ => none
def W9 (s0 : List Int) (v1 : Int) (bG : Int) : TS := ⟨slots 19 [(0, .dv (.sl (.int .i64)) s0), (1, .dv (.int .i64) v1), (7, .dv (.int .i64) (s0.length : Int)), (8, .dv (.int .i64) bG)], []⟩
def aoC (N : Nat) : dC (Int) := fG (TM) Cb N YK [1, 0, 1, 0] (fin TI Ld (bC Tryz.f74) ZC)
def VX (N : Nat) (m : Nat) : TS -> Option (Int) := eX (den (TM) Cb N (sub YK [1, 0, 1, 0, 0])) (TS.norm agH) (aoC N) m
def aaW (s0 : List Int) (v1 : Int) (F0 : Int -> Option (Int)) (bG : Int) : Option (Int) :=
   cond (decide (bG < (s0.length : Int))) (chk (decide (0 <= bG /\ bG < (s0.length : Int))) (cond (v1 == (s0.getD bG.toNat 0)) (some bG)
   ((F0 (aH (bG + 1))))))
   (some (-1 : Int))
def Ar (N : Nat) (s0 : List Int) (v1 : Int) : Nat -> Int -> Option (Int)
 | 0, _ => none
 | n + 1, bG => aaW s0 v1 (Ar N s0 v1 n) bG
theorem aHG (N : Nat) (s0 : List Int) (v1 : Int) (m : Nat) (bG : Int) : VX N (m + 1) (W9 s0 v1 bG) = aaW s0 v1 (fun y0 => (VX N m (W9 s0 v1 y0))) bG := by kernel_rfl
theorem aiT (N : Nat) (s0 : List Int) (v1 : Int) : ∀ (m : Nat) (bG : Int), VX N m (W9 s0 v1 bG) = Ar N s0 v1 m bG
        | 0, _ => rfl
        | m + 1, bG => by rw [aHG]; simp only [Ar, aiT N s0 v1 m]
def Dy (N : Nat) (s0 : List Int) (v1 : Int) : Option (Int) :=
   (Ar N s0 v1 N (0 : Int))
theorem aH6 (N : Nat) (s0 : List Int) (v1 : Int) : bK (TM) Cb N Ld YK (bC Tryz.f74) 17 [.dv (.sl (.int .i64)) s0, .dv (.int .i64) v1] [] ZC = (VX N N (W9 s0 v1 (0 : Int))) := by kernel_rfl
theorem k74 (N : Nat) (s0 : List Int) (v1 : Int) : bK (TM) Cb N Ld YK (bC Tryz.f74) 17 [.dv (.sl (.int .i64)) s0, .dv (.int .i64) v1] [] ZC = Dy N s0 v1 := by rw [aH6]; simp only [Dy, aiT]
theorem aA2 (a : (List Int) -> Int -> Option (Int)) (h : ∀ s0 v1 r, a s0 v1 = some r -> (∃ N, Dy N s0 v1 = some r)) : aC prog 74 (N9 a) := by
 intro args Of x hx
 simp only [N9] at hx
 split at hx
 ·rename_i s0 v1
  obtain ⟨N, hN⟩ := h _ _ _ hx
  refine dS func74 (by kernel_rfl) (by kernel_rfl) rfl dQ ((k74 N _ _).trans hN) fun l o hd => ?_
  simp only [ZC] at hd
  split at hd
  ·obtain rfl := aB hd; exact ⟨rfl, rfl⟩
  ·cases hd
 ·cases hx
def E41 (Q : (List Int) -> Int -> Option (Int)) : Env := dD TI TY [(74, N9 Q)] aY aW
def c41 : Code := dB Tryz.f41
def ayM : Nat -> Option Norm := dH []
def ar9 : End := ⟨[], ⟨[9], [], [], []⟩⟩
def abZ (l : List TV) (o : List (Nat × TO)) : Option (Bool) := match l, o with | [.dv (.bool) x0], [] => some (x0) | _, _ => none
def Rk (Q : (List Int) -> Int -> Option (Int)) (N : Nat) (s0 : List Int) (v1 : Int) : Option (Bool) :=
   (Q s0 v1).bind fun r1 =>
   some (decide (r1 >= (0 : Int)))
theorem k41 (Q : (List Int) -> Int -> Option (Int)) (N : Nat) (s0 : List Int) (v1 : Int) : bK (E41 Q) ayM N ar9 c41 (bC Tryz.f41) 7 [.dv (.sl (.int .i64)) s0, .dv (.int .i64) v1] [] abZ = Rk Q N s0 v1 := by kernel_rfl
theorem aAN (Q : (List Int) -> Int -> Option (Int)) (h74 : aC prog 74 (N9 Q)) (a : (List Int) -> Int -> Option (Bool)) (h : ∀ s0 v1 r, a s0 v1 = some r -> (∃ N, Rk Q N s0 v1 = some r)) : aC prog 41 (UB a) := by
 intro args Of x hx
 simp only [UB] at hx
 split at hx
 ·rename_i s0 v1
  obtain ⟨N, hN⟩ := h _ _ _ hx
  refine dS func41 (by kernel_rfl) (by kernel_rfl) rfl (dK h74 dQ) ((k41 Q N _ _).trans hN) fun l o hd => ?_
  simp only [abZ] at hd
  split at hd
  ·obtain rfl := aB hd; exact ⟨rfl, rfl⟩
  ·cases hd
 ·cases hx
def E43 : Env := dD TI TY [] aY aW
def c43 : Code := dB Tryz.f43
def ayN : Nat -> Option Norm := dH []
def ar' : End := ⟨[(8, .gB (.int .i64))], ⟨[8], [], [], []⟩⟩
def ab1 (l : List TV) (o : List (Nat × TO)) : Option (Option (List Int)) := match l, o with | [.dv (.gB (.int .i64)) x0], [] => some (x0) | _, _ => none
def Dn (N : Nat) (s0 : Option (List Int)) : Option (Option (List Int)) :=
   cond (s0.isNone) (some (none : Option (List Int)))
   (chk (small (0 + (s0.getD []).length) 8) (chk ((decide (0 < (([] : List Int) ++ (s0.getD [])).length)) && (true)) (some (some (([] : List Int) ++ (s0.getD []))))))
theorem k43 (N : Nat) (s0 : Option (List Int)) : bK (E43) ayN N ar' c43 (bC Tryz.f43) 7 [.dv (.gB (.int .i64)) s0] [] ab1 = Dn N s0 := by kernel_rfl
theorem aAO (a : (Option (List Int)) -> Option (Option (List Int))) (h : ∀ s0 r, a s0 = some r -> (∃ N, Dn N s0 = some r)) : aC prog 43 (UC a) := by
 intro args Of x hx
 simp only [UC] at hx
 split at hx
 ·rename_i s0
  obtain ⟨N, hN⟩ := h _ _ hx
  refine dS func43 (by kernel_rfl) (by kernel_rfl) rfl dQ ((k43 N _).trans hN) fun l o hd => ?_
  simp only [ab1] at hd
  split at hd
  ·obtain rfl := aB hd; exact ⟨rfl, rfl⟩
  ·cases hd
 ·cases hx
end
end Go.Proofs.YtfopcfnggdonkaaGreatDoor
