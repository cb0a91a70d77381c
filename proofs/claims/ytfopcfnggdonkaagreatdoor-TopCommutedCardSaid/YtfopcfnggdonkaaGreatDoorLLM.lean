/-
 The functions that the law reaches, told as plain functions.
-/
import Derived.Test.YtfopcfnggdonkaaGreatDoorQFJ
import Derived.Test.YtfopcfnggdonkaaGreatDoorWCM
namespace Go.Proofs.YtfopcfnggdonkaaGreatDoor
open Go.Proofs.Tryz
open Go.RowKit
set_option linter.unusedVariables false
noncomputable section
abbrev UN := (List Int) -> (List UInt8) -> (List (Int × Bool)) -> Option (List Int × List UInt8 × List (Int × Bool))
abbrev wU := (List Int) -> Int -> Int -> Option (Bool)
abbrev wV := Int -> (List Int) -> (List UInt8) -> (List (Int × Bool)) -> Option (Bool × List Int × List UInt8 × List (Int × Bool))
abbrev DC := (aG) -> (List (List UInt8)) -> Option (List Int × Int)
abbrev UO := (List Int) -> (List UInt8) -> Option (List (Int × Bool) × List Int × List UInt8)
abbrev UQ := (List Int) -> (List UInt8) -> (List (Int × Bool)) -> Option (List UInt8 × List Int × List UInt8 × List (Int × Bool))
abbrev qC := aG
abbrev qE := Int -> Int -> (List UInt8) -> Option (List UInt8)
abbrev UR := (List Int) -> (aG) -> (List UInt8) -> (List UInt8) -> Option (Int × Int × Bool)
def TE : Env := dD TI TY [] aY aW
def YF : Code := dB Tryz.f50
def af' : Norm := ⟨[0, 11, 12], [9000, 9001], [], []⟩
def Bi : Nat -> Option Norm := dH [(2, af')]
def Kt : End := ⟨[], ⟨[], [9000, 9001], [], []⟩⟩
def Y4 (l : List TV) (o : List (Nat × TO)) : Option (List Int × List UInt8 × List (Int × Bool)) := match l, o with | [], [(9000, .aP [.dv (.arr 6 (.int .u64)) x0, .dv (.str) x1, .row 9001]), (9001, .map (.int .i64) (.bool) x2)] => some (x0, x1, x2) | _, _ => none
def WS (p0 : List Int) (p1 : List UInt8) (iV : Int) (jY : List (Int × Bool)) : TS := ⟨slots 21 [(0, .ptr 9000 0 []), (11, .dv (.int .i64) (p1.length : Int)), (12, .dv (.int .i64) iV)], [(9000, .aP [.dv (.arr 6 (.int .u64)) p0, .dv (.str) p1, .row 9001]), (9001, .map (.int .i64) (.bool) jY)]⟩
def an4 (N : Nat) : dC (List Int × List UInt8 × List (Int × Bool)) := fG (TE) Bi N YF [1, 1, 0] (fin TI Kt (bC Tryz.f50) Y4)
def VM (N : Nat) (m : Nat) : TS -> Option (List Int × List UInt8 × List (Int × Bool)) := eX (den (TE) Bi N (sub YF [1, 1, 0, 0])) (TS.norm af') (an4 N) m
def XT (p0 : List Int) (p1 : List UInt8) (F0 : Int -> (List (Int × Bool)) -> Option (List Int × List UInt8 × List (Int × Bool))) (iV : Int) (jY : List (Int × Bool)) : Option (List Int × List UInt8 × List (Int × Bool)) :=
   cond (decide (iV < (p1.length : Int))) ((F0 (aH (iV + 1)) (qN (kt := .int .i64) (vt := .bool) jY iV true)))
   (some (p0, p1, jY))
def BN (N : Nat) (p0 : List Int) (p1 : List UInt8) : Nat -> Int -> (List (Int × Bool)) -> Option (List Int × List UInt8 × List (Int × Bool))
 | 0, _, _ => none
 | n + 1, iV, jY => XT p0 p1 (BN N p0 p1 n) iV jY
theorem aG8 (N : Nat) (p0 : List Int) (p1 : List UInt8) (m : Nat) (iV : Int) (jY : List (Int × Bool)) : VM N (m + 1) (WS p0 p1 iV jY) = XT p0 p1 (fun y0 y1 => (VM N m (WS p0 p1 y0 y1))) iV jY := by kernel_rfl
theorem aiK (N : Nat) (p0 : List Int) (p1 : List UInt8) : ∀ (m : Nat) (iV : Int) (jY : List (Int × Bool)), VM N m (WS p0 p1 iV jY) = BN N p0 p1 m iV jY
        | 0, _, _ => rfl
        | m + 1, iV, jY => by rw [aG8]; simp only [BN, aiK N p0 p1 m]
def Dq (N : Nat) (p0 : List Int) (p1 : List UInt8) (p2 : List (Int × Bool)) : Option (List Int × List UInt8 × List (Int × Bool)) :=
   (BN N p0 p1 N (0 : Int) ([] : List (Int × Bool)))
theorem aH0 (N : Nat) (p0 : List Int) (p1 : List UInt8) (p2 : List (Int × Bool)) : bK (TE) Bi N Kt YF (bC Tryz.f50) 20 [.ptr 9000 0 []] [(9000, .aP [.dv (.arr 6 (.int .u64)) p0, .dv (.str) p1, .row 9001]), (9001, .map (.int .i64) (.bool) p2)] Y4 = (VM N N (WS p0 p1 (0 : Int) ([] : List (Int × Bool)))) := by kernel_rfl
theorem aw6 (N : Nat) (p0 : List Int) (p1 : List UInt8) (p2 : List (Int × Bool)) : bK (TE) Bi N Kt YF (bC Tryz.f50) 20 [.ptr 9000 0 []] [(9000, .aP [.dv (.arr 6 (.int .u64)) p0, .dv (.str) p1, .row 9001]), (9001, .map (.int .i64) (.bool) p2)] Y4 = Dq N p0 p1 p2 := by rw [aH0]; simp only [Dq, aiK]
theorem aAR (a : (List Int) -> (List UInt8) -> (List (Int × Bool)) -> Option (List Int × List UInt8 × List (Int × Bool))) (h : ∀ p0 p1 p2 r, a p0 p1 p2 = some r -> (∃ N, Dq N p0 p1 p2 = some r)) : aC prog 50 (NU a) := by
 intro args Of x hx
 simp only [NU] at hx
 split at hx
 ·rename_i p0 p1 p2
  obtain ⟨N, hN⟩ := h _ _ _ _ hx
  refine dS func50 (by kernel_rfl) (by kernel_rfl) rfl dQ ((aw6 N _ _ _).trans hN) fun l o hd => ?_
  simp only [Y4] at hd
  split at hd
  ·obtain rfl := aB hd; exact ⟨rfl, rfl⟩
  ·cases hd
 ·cases hx
def E22 (G : UN) : Env := dD TI TY [(50, NU G)] (fun i => ([(10, [some (.arr 6 (.int .u64)), some (.str), none]), (9, [some (.arr 6 (.int .u64)), some (.str), none])] : List (Nat × List (Option DT))).lookup i) aW
def c22 : Code := dB Tryz.f22
def ayJ : Nat -> Option Norm := dH []
def ar6 : End := ⟨[], ⟨[14], [8, 10], [], []⟩⟩
def abW (l : List TV) (o : List (Nat × TO)) : Option (List (Int × Bool) × List Int × List UInt8) := match l, o with | [.ptr 10 0 []], [(8, .map (.int .i64) (.bool) x0), (10, .aP [.dv (.arr 6 (.int .u64)) x1, .dv (.str) x2, .row 8])] => some (x0, x1, x2) | _, _ => none
def m22 (G : UN) (N : Nat) (d0 : List Int) (aU : List UInt8) : Option (List (Int × Bool) × List Int × List UInt8) :=
   (G d0 aU ([] : List (Int × Bool))).bind fun r1 =>
   some (r1.2.2, r1.1, r1.2.1)
theorem k22 (G : UN) (N : Nat) (d0 : List Int) (aU : List UInt8) : bK (E22 G) ayJ N ar6 c22 (bC Tryz.f22) 12 [.dv (.arr 6 (.int .u64)) d0, .dv (.str) aU] [] abW = m22 G N d0 aU := by kernel_rfl
theorem aAF (G : UN) (au0 : aC prog 50 (NU G)) (a : (List Int) -> (List UInt8) -> Option (List (Int × Bool) × List Int × List UInt8)) (h : ∀ d0 aU r, a d0 aU = some r -> (∃ N, m22 G N d0 aU = some r)) : aC prog 22 (NQ a) := by
 intro args Of x hx
 simp only [NQ] at hx
 split at hx
 ·rename_i d0 aU
  obtain ⟨N, hN⟩ := h _ _ _ hx
  refine dS func22 (by kernel_rfl) (by kernel_rfl) rfl (dK au0 dQ) ((k22 G N _ _).trans hN) fun l o hd => ?_
  simp only [abW] at hd
  split at hd
  ·obtain rfl := aB hd; exact ⟨rfl, rfl⟩
  ·cases hd
 ·cases hx
def TQ (B : wU) : Env := dD TI TY [(63, AO B)] aY aW
def YN : Code := dB Tryz.f82
def agL : Norm := ⟨[0, 1, 13, 14], [9000, 9001], [], []⟩
def Cf : Nat -> Option Norm := dH [(4, agL)]
def Lj : End := ⟨[], ⟨[43], [9000, 9001], [], []⟩⟩
def ZG (l : List TV) (o : List (Nat × TO)) : Option (Bool × List Int × List UInt8 × List (Int × Bool)) := match l, o with | [.dv (.bool) x0], [(9000, .aP [.dv (.arr 6 (.int .u64)) x1, .dv (.str) x2, .row 9001]), (9001, .map (.int .i64) (.bool) x3)] => some (x0, x1, x2, x3) | _, _ => none
def XD (i1 : Int) (p1 : List Int) (p2 : List UInt8) (p3 : List (Int × Bool)) (fH : Int) : TS := ⟨slots 43 [(0, .ptr 9000 0 []), (1, .dv (.int .i64) i1), (13, .dv (.int .i64) i1), (14, .dv (.int .i64) fH)], [(9000, .aP [.dv (.arr 6 (.int .u64)) p1, .dv (.str) p2, .row 9001]), (9001, .map (.int .i64) (.bool) p3)]⟩
def aoG (B : wU) (N : Nat) : dC (Bool × List Int × List UInt8 × List (Int × Bool)) := fG (TQ B) Cf N YN [1, 1, 0, 1, 0] (fin TI Lj (bC Tryz.f82) ZG)
def V5 (B : wU) (N : Nat) (m : Nat) : TS -> Option (Bool × List Int × List UInt8 × List (Int × Bool)) := eX (den (TQ B) Cf N (sub YN [1, 1, 0, 1, 0, 0])) (TS.norm agL) (aoG B N) m
def X5 (B : wU) (i1 : Int) (p1 : List Int) (p2 : List UInt8) (p3 : List (Int × Bool)) (F0 : Int -> Option (Bool × List Int × List UInt8 × List (Int × Bool))) (fH : Int) : Option (Bool × List Int × List UInt8 × List (Int × Bool)) :=
   cond (decide (fH < i1)) (cond ((jT (kt := .int .i64) (vt := .bool) p3 fH).getD false) (chk (decide (0 <= fH /\ fH < (p2.length : Int))) (chk (decide (0 <= i1 /\ i1 < (p2.length : Int))) ((B p1 (((p2.getD fH.toNat 0).toNat : Nat) : Int) (((p2.getD i1.toNat 0).toNat : Nat) : Int)).bind fun r1 =>
   cond (r1) (some (false, p1, p2, p3))
   ((F0 (aH (fH + 1)))))))
   ((F0 (aH (fH + 1)))))
   (some (true, p1, p2, p3))
def BQ (B : wU) (N : Nat) (i1 : Int) (p1 : List Int) (p2 : List UInt8) (p3 : List (Int × Bool)) : Nat -> Int -> Option (Bool × List Int × List UInt8 × List (Int × Bool))
 | 0, _ => none
 | n + 1, fH => X5 B i1 p1 p2 p3 (BQ B N i1 p1 p2 p3 n) fH
theorem aHL (B : wU) (N : Nat) (i1 : Int) (p1 : List Int) (p2 : List UInt8) (p3 : List (Int × Bool)) (m : Nat) (fH : Int) : V5 B N (m + 1) (XD i1 p1 p2 p3 fH) = X5 B i1 p1 p2 p3 (fun y0 => (V5 B N m (XD i1 p1 p2 p3 y0))) fH := by kernel_rfl
theorem aiY (B : wU) (N : Nat) (i1 : Int) (p1 : List Int) (p2 : List UInt8) (p3 : List (Int × Bool)) : ∀ (m : Nat) (fH : Int), V5 B N m (XD i1 p1 p2 p3 fH) = BQ B N i1 p1 p2 p3 m fH
        | 0, _ => rfl
        | m + 1, fH => by rw [aHL]; simp only [BQ, aiY B N i1 p1 p2 p3 m]
def Eb (B : wU) (N : Nat) (i1 : Int) (p1 : List Int) (p2 : List UInt8) (p3 : List (Int × Bool)) : Option (Bool × List Int × List UInt8 × List (Int × Bool)) :=
   cond (!((jT (kt := .int .i64) (vt := .bool) p3 i1).getD false)) (some (false, p1, p2, p3))
   ((BQ B N i1 p1 p2 p3 N (0 : Int)))
theorem aH9 (B : wU) (N : Nat) (i1 : Int) (p1 : List Int) (p2 : List UInt8) (p3 : List (Int × Bool)) : bK (TQ B) Cf N Lj YN (bC Tryz.f82) 41 [.ptr 9000 0 [], .dv (.int .i64) i1] [(9000, .aP [.dv (.arr 6 (.int .u64)) p1, .dv (.str) p2, .row 9001]), (9001, .map (.int .i64) (.bool) p3)] ZG = cond (!((jT (kt := .int .i64) (vt := .bool) p3 i1).getD false)) (some (false, p1, p2, p3))
   ((V5 B N N (XD i1 p1 p2 p3 (0 : Int)))) := by kernel_rfl
theorem axB (B : wU) (N : Nat) (i1 : Int) (p1 : List Int) (p2 : List UInt8) (p3 : List (Int × Bool)) : bK (TQ B) Cf N Lj YN (bC Tryz.f82) 41 [.ptr 9000 0 [], .dv (.int .i64) i1] [(9000, .aP [.dv (.arr 6 (.int .u64)) p1, .dv (.str) p2, .row 9001]), (9001, .map (.int .i64) (.bool) p3)] ZG = Eb B N i1 p1 p2 p3 := by rw [aH9]; simp only [Eb, aiY]
theorem aA5 (B : wU) (h63 : aC prog 63 (AO B)) (a : Int -> (List Int) -> (List UInt8) -> (List (Int × Bool)) -> Option (Bool × List Int × List UInt8 × List (Int × Bool))) (h : ∀ i1 p1 p2 p3 r, a i1 p1 p2 p3 = some r -> (∃ N, Eb B N i1 p1 p2 p3 = some r)) : aC prog 82 (OA a) := by
 intro args Of x hx
 simp only [OA] at hx
 split at hx
 ·rename_i i1 p1 p2 p3
  obtain ⟨N, hN⟩ := h _ _ _ _ _ hx
  refine dS func82 (by kernel_rfl) (by kernel_rfl) rfl (dK h63 dQ) ((axB B N _ _ _ _).trans hN) fun l o hd => ?_
  simp only [ZG] at hd
  split at hd
  ·obtain rfl := aB hd; exact ⟨rfl, rfl⟩
  ·cases hd
 ·cases hx
def TF (C : wV) : Env := dD TI TY [(82, OA C)] aY aW
def YG : Code := dB Tryz.f51
def agA : Norm := ⟨[0, 1, 11, 12], [9000, 9001], [], []⟩
def Bj : Nat -> Option Norm := dH [(2, agA)]
def Ku : End := ⟨[], ⟨[30, 31], [9000, 9001], [], []⟩⟩
def Y5 (l : List TV) (o : List (Nat × TO)) : Option (Int × Bool × List Int × List UInt8 × List (Int × Bool)) := match l, o with | [.dv (.int .i64) x0, .dv (.bool) x1], [(9000, .aP [.dv (.arr 6 (.int .u64)) x2, .dv (.str) x3, .row 9001]), (9001, .map (.int .i64) (.bool) x4)] => some (x0, x1, x2, x3, x4) | _, _ => none
def WT (jX : Int) (p2 : List UInt8) (iV : Int) (tX : List Int) (qQ : List UInt8) (jY : List (Int × Bool)) : TS := ⟨slots 30 [(0, .ptr 9000 0 []), (1, .dv (.int .u8) jX), (11, .dv (.int .i64) (p2.length : Int)), (12, .dv (.int .i64) iV)], [(9000, .aP [.dv (.arr 6 (.int .u64)) tX, .dv (.str) qQ, .row 9001]), (9001, .map (.int .i64) (.bool) jY)]⟩
def an5 (C : wV) (N : Nat) : dC (Int × Bool × List Int × List UInt8 × List (Int × Bool)) := fG (TF C) Bj N YG [1, 0, 1, 0] (fin TI Ku (bC Tryz.f51) Y5)
def VN (C : wV) (N : Nat) (m : Nat) : TS -> Option (Int × Bool × List Int × List UInt8 × List (Int × Bool)) := eX (den (TF C) Bj N (sub YG [1, 0, 1, 0, 0])) (TS.norm agA) (an5 C N) m
def XU (C : wV) (jX : Int) (p2 : List UInt8) (F0 : Int -> (List Int) -> (List UInt8) -> (List (Int × Bool)) -> Option (Int × Bool × List Int × List UInt8 × List (Int × Bool))) (iV : Int) (tX : List Int) (qQ : List UInt8) (jY : List (Int × Bool)) : Option (Int × Bool × List Int × List UInt8 × List (Int × Bool)) :=
   cond (decide (iV < (p2.length : Int))) (chk (decide (0 <= iV /\ iV < (qQ.length : Int))) (cond ((((qQ.getD iV.toNat 0).toNat : Nat) : Int) == jX) ((C iV tX qQ jY).bind fun r1 =>
   cond (r1.1) (some (iV, true, r1.2.1, r1.2.2.1, r1.2.2.2))
   ((F0 (aH (iV + 1)) r1.2.1 r1.2.2.1 r1.2.2.2)))
   ((F0 (aH (iV + 1)) tX qQ jY))))
   (some ((0 : Int), false, tX, qQ, jY))
def BO (C : wV) (N : Nat) (jX : Int) (p2 : List UInt8) : Nat -> Int -> (List Int) -> (List UInt8) -> (List (Int × Bool)) -> Option (Int × Bool × List Int × List UInt8 × List (Int × Bool))
 | 0, _, _, _, _ => none
 | n + 1, iV, tX, qQ, jY => XU C jX p2 (BO C N jX p2 n) iV tX qQ jY
theorem aG9 (C : wV) (N : Nat) (jX : Int) (p2 : List UInt8) (m : Nat) (iV : Int) (tX : List Int) (qQ : List UInt8) (jY : List (Int × Bool)) : VN C N (m + 1) (WT jX p2 iV tX qQ jY) = XU C jX p2 (fun y0 y1 y2 y3 => (VN C N m (WT jX p2 y0 y1 y2 y3))) iV tX qQ jY := by kernel_rfl
theorem aiL (C : wV) (N : Nat) (jX : Int) (p2 : List UInt8) : ∀ (m : Nat) (iV : Int) (tX : List Int) (qQ : List UInt8) (jY : List (Int × Bool)), VN C N m (WT jX p2 iV tX qQ jY) = BO C N jX p2 m iV tX qQ jY
        | 0, _, _, _, _ => rfl
        | m + 1, iV, tX, qQ, jY => by rw [aG9]; simp only [BO, aiL C N jX p2 m]
def Dt (C : wV) (N : Nat) (jX : Int) (p1 : List Int) (p2 : List UInt8) (p3 : List (Int × Bool)) : Option (Int × Bool × List Int × List UInt8 × List (Int × Bool)) :=
   (BO C N jX p2 N (0 : Int) p1 p2 p3)
theorem aH1 (C : wV) (N : Nat) (jX : Int) (p1 : List Int) (p2 : List UInt8) (p3 : List (Int × Bool)) : bK (TF C) Bj N Ku YG (bC Tryz.f51) 28 [.ptr 9000 0 [], .dv (.int .u8) jX] [(9000, .aP [.dv (.arr 6 (.int .u64)) p1, .dv (.str) p2, .row 9001]), (9001, .map (.int .i64) (.bool) p3)] Y5 = (VN C N N (WT jX p2 (0 : Int) p1 p2 p3)) := by kernel_rfl
theorem aw7 (C : wV) (N : Nat) (jX : Int) (p1 : List Int) (p2 : List UInt8) (p3 : List (Int × Bool)) : bK (TF C) Bj N Ku YG (bC Tryz.f51) 28 [.ptr 9000 0 [], .dv (.int .u8) jX] [(9000, .aP [.dv (.arr 6 (.int .u64)) p1, .dv (.str) p2, .row 9001]), (9001, .map (.int .i64) (.bool) p3)] Y5 = Dt C N jX p1 p2 p3 := by rw [aH1]; simp only [Dt, aiL]
theorem aAS (C : wV) (au5 : aC prog 82 (OA C)) (a : Int -> (List Int) -> (List UInt8) -> (List (Int × Bool)) -> Option (Int × Bool × List Int × List UInt8 × List (Int × Bool))) (h : ∀ jX p1 p2 p3 r, a jX p1 p2 p3 = some r -> (∃ N, Dt C N jX p1 p2 p3 = some r)) : aC prog 51 (NV a) := by
 intro args Of x hx
 simp only [NV] at hx
 split at hx
 ·rename_i jX p1 p2 p3
  obtain ⟨N, hN⟩ := h _ _ _ _ _ hx
  refine dS func51 (by kernel_rfl) (by kernel_rfl) rfl (dK au5 dQ) ((aw7 C N _ _ _ _).trans hN) fun l o hd => ?_
  simp only [Y5] at hd
  split at hd
  ·obtain rfl := aB hd; exact ⟨rfl, rfl⟩
  ·cases hd
 ·cases hx
def E8 (D : DC) (H : UO) (J : UQ) : Env := dD TI TY [(21, vM D), (22, NQ H), (23, TZ J)] aY aW
def c8 : Code := dB Tryz.f8
def lv8 : Nat -> Option Norm := dH []
def en8 : End := ⟨[], ⟨[22, 23], [], [], []⟩⟩
def acA (l : List TV) (o : List (Nat × TO)) : Option (List UInt8 × Int) := match l, o with | [.dv (.str) x0, .dv (.int .i64) x1], [] => some (x0, x1) | _, _ => none
def m8 (D : DC) (H : UO) (J : UQ) (N : Nat) (o0 : qC) (aU : List UInt8) : Option (List UInt8 × Int) :=
   (D o0 ([aU] : List (List UInt8))).bind fun r1 =>
   cond (r1.2 != (0 : Int)) (some (([] : List UInt8), r1.2))
   ((H r1.1 aU).bind fun r2 =>
   (J r2.2.1 r2.2.2 r2.1).bind fun r3 =>
   some (r3.1, (0 : Int)))
theorem k8 (D : DC) (H : UO) (J : UQ) (N : Nat) (o0 : qC) (aU : List UInt8) : bK (E8 D H J) lv8 N en8 c8 (bC Tryz.f8) 20 [.dv (.pair (.int .i64) (.pair (.sl (.arr 2 (.int .i64))) (.unit))) o0, .dv (.str) aU] [] acA = m8 D H J N o0 aU := by kernel_rfl
theorem ok8 (D : DC) (H : UO) (J : UQ) (h21 : aC prog 21 (vM D)) (h22 : aC prog 22 (NQ H)) (auX : aC prog 23 (TZ J)) (a : (aG) -> (List UInt8) -> Option (List UInt8 × Int)) (h : ∀ o0 aU r, a o0 aU = some r -> (∃ N, m8 D H J N o0 aU = some r)) : aC prog 8 (F8 a) := by
 intro args Of x hx
 simp only [F8] at hx
 split at hx
 ·rename_i o0 aU
  obtain ⟨N, hN⟩ := h _ _ _ hx
  refine dS func8 (by kernel_rfl) (by kernel_rfl) rfl (dK h21 (dK h22 (dK auX dQ))) ((k8 D H J N _ _).trans hN) fun l o hd => ?_
  simp only [acA] at hd
  split at hd
  ·obtain rfl := aB hd; exact ⟨rfl, rfl⟩
  ·cases hd
 ·cases hx
def JK (A : qE) : Env := dD TI TY [(55, UD A)] aY aW
def c24 : Code := dB Tryz.f24
def Tm : Norm := ⟨[2, 3, 4, 5, 15, 16], [4, 5], [], []⟩
def af1 : Norm := ⟨[2, 3, 4, 5, 11, 12, 15, 16], [4, 5, 12], [], []⟩
def LG : Nat -> Option Norm := dH [(2, Tm), (5, af1), (1000004, ⟨[], [11], [], []⟩), (1000007, ⟨[], [12], [], []⟩)]
def Jy : End := ⟨[], ⟨[45, 46, 47], [], [], []⟩⟩
def YZ (l : List TV) (o : List (Nat × TO)) : Option (Int × Int × Bool) := match l, o with | [.dv (.int .i64) x0, .dv (.int .i64) x1, .dv (.bool) x2], [] => some (x0, x1, x2) | _, _ => none
def WL (d0 : List Int) (o1 : qC) (fU : List UInt8) (b3 : List UInt8) (bM : Int) (nX : Int) : TS := ⟨slots 45 [(2, .dv (.str) fU), (3, .dv (.str) b3), (4, .ptr 4 0 []), (5, .ptr 5 0 []), (11, .el (.int .i64) bM []), (12, .ptr 12 0 [0]), (15, .dv (.int .i64) o1.1), (16, .dv (.int .i64) bM)], [(4, .row (.arr 6 (.int .u64)) ([d0] : LL)), (5, .row (.pair (.int .i64) (.pair (.sl (.arr 2 (.int .i64))) (.unit))) ([o1] : List (aG))), (12, .aP [.dv (.int .i64) nX])]⟩
def OL (d0 : List Int) (o1 : qC) (fU : List UInt8) (b3 : List UInt8) (bM : Int) : TS := ⟨slots 45 [(2, .dv (.str) fU), (3, .dv (.str) b3), (4, .ptr 4 0 []), (5, .ptr 5 0 []), (15, .dv (.int .i64) o1.1), (16, .dv (.int .i64) bM)], [(4, .row (.arr 6 (.int .u64)) ([d0] : LL)), (5, .row (.pair (.int .i64) (.pair (.sl (.arr 2 (.int .i64))) (.unit))) ([o1] : List (aG)))]⟩
def Zq (A : qE) (N : Nat) : dC (Int × Int × Bool) := fG (JK A) LG N c24 [1, 0, 1, 0] (fin TI Jy (bC Tryz.f24) YZ)
def VA (A : qE) (N : Nat) (m : Nat) : TS -> Option (Int × Int × Bool) := eX (den (JK A) LG N (sub c24 [1, 0, 1, 0, 0])) (TS.norm Tm) (Zq A N) m
def anW (A : qE) (N : Nat) (wX : TS -> Option (Int × Int × Bool)) : dC (Int × Int × Bool) := fG (JK A) LG N (sub c24 [1, 0, 1, 0, 0]) [1, 1, 0, 0, 1, 1, 0] (tK (TS.norm Tm) (Zq A N) wX)
def VB (A : qE) (N : Nat) (wX : TS -> Option (Int × Int × Bool)) (m : Nat) : TS -> Option (Int × Int × Bool) := eX (den (JK A) LG N (sub c24 [1, 0, 1, 0, 0, 1, 1, 0, 0, 1, 1, 0, 0])) (TS.norm af1) (anW A N wX) m
def XN (A : qE) (d0 : List Int) (o1 : qC) (fU : List UInt8) (b3 : List UInt8) (bM : Int) (F0 : Int -> Option (Int × Int × Bool)) (F1 : Int -> Option (Int × Int × Bool)) (nX : Int) : Option (Int × Int × Bool) :=
   cond (decide (nX < o1.1)) (chk (decide (0 <= bM /\ bM < (6 : Int))) (chk (decide (0 <= nX)) (cond ((yS .u64 (Int.fdiv (d0.getD bM.toNat 0) (2 ^ min (Int.toNat nX) 64)) (1 : Int)) == (0 : Int)) ((F0 (aH (nX + 1))))
   ((A bM nX fU).bind fun r1 =>
   (A bM nX b3).bind fun r2 =>
   cond (!(r1 == r2)) (some (bM, nX, true))
   ((F0 (aH (nX + 1))))))))
   ((F1 (aH (bM + 1))))
def l24b (A : qE) (N : Nat) (d0 : List Int) (o1 : qC) (fU : List UInt8) (b3 : List UInt8) (bM : Int) (aeO : Int -> Option (Int × Int × Bool)) : Nat -> Int -> Option (Int × Int × Bool)
 | 0, _ => none
 | n + 1, nX => XN A d0 o1 fU b3 bM (l24b A N d0 o1 fU b3 bM aeO n) aeO nX
theorem aGV (A : qE) (N : Nat) (d0 : List Int) (o1 : qC) (fU : List UInt8) (b3 : List UInt8) (bM : Int) (wX : TS -> Option (Int × Int × Bool)) (m : Nat) (nX : Int) : VB A N wX (m + 1) (WL d0 o1 fU b3 bM nX) = XN A d0 o1 fU b3 bM (fun y0 => (VB A N wX m (WL d0 o1 fU b3 bM y0))) (fun y0 => (wX (OL d0 o1 fU b3 y0))) nX := by kernel_rfl
theorem ah8 (A : qE) (N : Nat) (d0 : List Int) (o1 : qC) (fU : List UInt8) (b3 : List UInt8) (bM : Int) (wX : TS -> Option (Int × Int × Bool)) : ∀ (m : Nat) (nX : Int), VB A N wX m (WL d0 o1 fU b3 bM nX) = l24b A N d0 o1 fU b3 bM (fun y0 => wX (OL d0 o1 fU b3 y0)) m nX
        | 0, _ => rfl
        | m + 1, nX => by rw [aGV]; simp only [l24b, ah8 A N d0 o1 fU b3 bM wX m]
def l24a (A : qE) (N : Nat) (d0 : List Int) (o1 : qC) (fU : List UInt8) (b3 : List UInt8) : Nat -> Int -> Option (Int × Int × Bool)
 | 0, _ => none
 | n + 1, bM => cond (decide (bM < o1.1)) ((l24b A N d0 o1 fU b3 bM (fun y0 => (l24a A N d0 o1 fU b3 n y0)) N bM))
   (some ((0 : Int), (0 : Int), false))
theorem aGU (A : qE) (N : Nat) (d0 : List Int) (o1 : qC) (fU : List UInt8) (b3 : List UInt8) (m : Nat) (bM : Int) : VA A N (m + 1) (OL d0 o1 fU b3 bM) = cond (decide (bM < o1.1)) ((VB A N (VA A N m) N (WL d0 o1 fU b3 bM bM)))
   (some ((0 : Int), (0 : Int), false)) := by kernel_rfl
theorem ah7 (A : qE) (N : Nat) (d0 : List Int) (o1 : qC) (fU : List UInt8) (b3 : List UInt8) : ∀ (m : Nat) (bM : Int), VA A N m (OL d0 o1 fU b3 bM) = l24a A N d0 o1 fU b3 m bM
        | 0, _ => rfl
        | m + 1, bM => by rw [aGU]; simp only [l24a, ah8, ah7 A N d0 o1 fU b3 m]
def m24 (A : qE) (N : Nat) (d0 : List Int) (o1 : qC) (fU : List UInt8) (b3 : List UInt8) : Option (Int × Int × Bool) :=
   (l24a A N d0 o1 fU b3 N (0 : Int))
theorem aHV (A : qE) (N : Nat) (d0 : List Int) (o1 : qC) (fU : List UInt8) (b3 : List UInt8) : bK (JK A) LG N Jy c24 (bC Tryz.f24) 41 [.dv (.arr 6 (.int .u64)) d0, .dv (.pair (.int .i64) (.pair (.sl (.arr 2 (.int .i64))) (.unit))) o1, .dv (.str) fU, .dv (.str) b3] [] YZ = (VA A N N (OL d0 o1 fU b3 (0 : Int))) := by kernel_rfl
theorem k24 (A : qE) (N : Nat) (d0 : List Int) (o1 : qC) (fU : List UInt8) (b3 : List UInt8) : bK (JK A) LG N Jy c24 (bC Tryz.f24) 41 [.dv (.arr 6 (.int .u64)) d0, .dv (.pair (.int .i64) (.pair (.sl (.arr 2 (.int .i64))) (.unit))) o1, .dv (.str) fU, .dv (.str) b3] [] YZ = m24 A N d0 o1 fU b3 := by rw [aHV]; simp only [m24, ah7]
theorem aAH (A : qE) (au1 : aC prog 55 (UD A)) (a : (List Int) -> (aG) -> (List UInt8) -> (List UInt8) -> Option (Int × Int × Bool)) (h : ∀ d0 o1 fU b3 r, a d0 o1 fU b3 = some r -> (∃ N, m24 A N d0 o1 fU b3 = some r)) : aC prog 24 (NR a) := by
 intro args Of x hx
 simp only [NR] at hx
 split at hx
 ·rename_i d0 o1 fU b3
  obtain ⟨N, hN⟩ := h _ _ _ _ _ hx
  refine dS func24 (by kernel_rfl) (by kernel_rfl) rfl (dK au1 dQ) ((k24 A N _ _ _ _).trans hN) fun l o hd => ?_
  simp only [YZ] at hd
  split at hd
  ·obtain rfl := aB hd; exact ⟨rfl, rfl⟩
  ·cases hd
 ·cases hx
def E9 (D : DC) (K : UR) : Env := dD TI TY [(21, vM D), (24, NR K)] aY aW
def c9 : Code := dB Tryz.f9
def lv9 : Nat -> Option Norm := dH []
def en9 : End := ⟨[], ⟨[35, 36], [], [], []⟩⟩
def acC (l : List TV) (o : List (Nat × TO)) : Option (Bool × Int) := match l, o with | [.dv (.bool) x0, .dv (.int .i64) x1], [] => some (x0, x1) | _, _ => none
def m9 (D : DC) (K : UR) (N : Nat) (o0 : qC) (xJ : List UInt8) (b2 : List UInt8) : Option (Bool × Int) :=
   (D o0 ([xJ, b2] : List (List UInt8))).bind fun r1 =>
   cond (r1.2 != (0 : Int)) (some (false, r1.2))
   ((K r1.1 o0 xJ b2).bind fun r2 =>
   some (!r2.2.2, (0 : Int)))
theorem k9 (D : DC) (K : UR) (N : Nat) (o0 : qC) (xJ : List UInt8) (b2 : List UInt8) : bK (E9 D K) lv9 N en9 c9 (bC Tryz.f9) 32 [.dv (.pair (.int .i64) (.pair (.sl (.arr 2 (.int .i64))) (.unit))) o0, .dv (.str) xJ, .dv (.str) b2] [] acC = m9 D K N o0 xJ b2 := by kernel_rfl
theorem ok9 (D : DC) (K : UR) (h21 : aC prog 21 (vM D)) (h24 : aC prog 24 (NR K)) (a : (aG) -> (List UInt8) -> (List UInt8) -> Option (Bool × Int)) (h : ∀ o0 xJ b2 r, a o0 xJ b2 = some r -> (∃ N, m9 D K N o0 xJ b2 = some r)) : aC prog 9 (F9 a) := by
 intro args Of x hx
 simp only [F9] at hx
 split at hx
 ·rename_i o0 xJ b2
  obtain ⟨N, hN⟩ := h _ _ _ _ hx
  refine dS func9 (by kernel_rfl) (by kernel_rfl) rfl (dK h21 (dK h24 dQ)) ((k9 D K N _ _ _).trans hN) fun l o hd => ?_
  simp only [acC] at hd
  split at hd
  ·obtain rfl := aB hd; exact ⟨rfl, rfl⟩
  ·cases hd
 ·cases hx
def alQ : Env := dD TI TY [] aY aW
def aqO : Code := dB Tryz.f54
def ayR : Nat -> Option Norm := dH []
def asE : End := ⟨[], ⟨[18], [], [], []⟩⟩
def ab5 (l : List TV) (o : List (Nat × TO)) : Option (Int) := match l, o with | [.dv (.int .i32) x0], [] => some (x0) | _, _ => none
def Rq (N : Nat) (dY : Int) (p1 : Int) (p2 : Int) : Option (Int) :=
   cond (dY == (IntKind.wrap .i32 (aH ((97 : Int) + p1)))) (some dY)
   (cond (dY == (IntKind.wrap .i32 (aH ((97 : Int) + p2)))) (some dY)
   (some (-1 : Int)))
theorem aw8 (N : Nat) (dY : Int) (p1 : Int) (p2 : Int) : bK (alQ) ayR N asE aqO (bC Tryz.f54) 15 [.dv (.int .i32) dY, .el (.int .i64) p1 [], .el (.int .i64) p2 []] [] ab5 = Rq N dY p1 p2 := by kernel_rfl
theorem aAT (a : Int -> Int -> Int -> Option (Int)) (h : ∀ dY p1 p2 r, a dY p1 p2 = some r -> (∃ N, Rq N dY p1 p2 = some r)) : aC prog 54 (Ia a) := by
 intro args Of x hx
 simp only [Ia] at hx
 split at hx
 ·rename_i dY p1 p2
  obtain ⟨N, hN⟩ := h _ _ _ _ hx
  refine dS func54 (by kernel_rfl) (by kernel_rfl) rfl dQ ((aw8 N _ _ _).trans hN) fun l o hd => ?_
  simp only [ab5] at hd
  split at hd
  ·obtain rfl := aB hd; exact ⟨rfl, rfl⟩
  ·cases hd
 ·cases hx
end
end Go.Proofs.YtfopcfnggdonkaaGreatDoor
