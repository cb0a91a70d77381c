/-
 The functions that the law reaches, told as plain functions.
-/
import Derived.Test.YtfopcfnggdonkaaGreatDoorQFI
namespace Go.Proofs.YtfopcfnggdonkaaGreatDoor
open Go.Proofs.Tryz
open Go.RowKit
set_option linter.unusedVariables false
noncomputable section
abbrev gZ : List Int := [(0 : Int), (0 : Int), (0 : Int), (0 : Int), (0 : Int), (0 : Int)]
abbrev dJ : List Int := [(0 : Int), (0 : Int)]
abbrev DJ : List Int := [(0 : Int), (0 : Int), (0 : Int), (0 : Int), (0 : Int), (0 : Int), (0 : Int), (0 : Int), (0 : Int), (0 : Int), (0 : Int), (0 : Int), (0 : Int), (0 : Int)]
abbrev ZQ := LL -> (List Int) -> Option (Int)
abbrev jK := Int -> Int -> Int -> Option (Bool)
abbrev BH := LL -> (List Int) -> Option (Bool)
abbrev lH := aN
abbrev nJ := (aN) -> Option (Int)
abbrev kF := LL
abbrev kT := (aN) -> (List (List UInt8)) -> Option (List Int × Int)
abbrev kU := (List Int) -> Int -> Int -> Option (Bool)
abbrev sZ := TS -> Option (Unit)
abbrev vG := Int -> Option (Bool)
abbrev BF := Int -> Int -> Option (Bool)
abbrev BG := (List Int) -> Int -> Option (Int × Bool)
def E49 : Env := dF TI TY [] aX aU
def c49 : Code := dE Tryz.f49
def azH : Nat -> Option Norm := dN []
def at7 : End := ⟨[], ⟨[15], [], [], []⟩⟩
def ad5 (l : List TV) (o : List (Nat × TO)) : Option (Bool) := match l, o with | [.dv (.bool) x0], [] => some (x0) | _, _ => none
def Wp (N : Nat) (dR : Int) (n1 : Int) (hi2 : Int) : Option (Bool) :=
   cond (decide (dR <= n1)) (some (decide (n1 <= hi2)))
   (some false)
theorem k49 (N : Nat) (dR : Int) (n1 : Int) (hi2 : Int) : bK (E49) azH N at7 c49 (aY Tryz.f49) 12 [.dv (.int .i64) dR, .dv (.int .i64) n1, .dv (.int .i64) hi2] [] ad5 = Wp N dR n1 hi2 := by kernel_rfl
theorem aBS (a : Int -> Int -> Int -> Option (Bool)) (h : ∀ dR n1 hi2 r, a dR n1 hi2 = some r -> (∃ N, Wp N dR n1 hi2 = some r)) : aF prog 49 (H8 a) := by
 intro args Of x hx
 simp only [H8] at hx
 split at hx
 ·rename_i dR n1 hi2
  obtain ⟨N, hN⟩ := h _ _ _ _ hx
  refine dZ func49 (by kernel_rfl) (by kernel_rfl) rfl dY ((k49 N _ _ _).trans hN) fun l o hd => ?_
  simp only [ad5] at hd
  split at hd
  ·obtain rfl := aC hd; exact ⟨rfl, rfl⟩
  ·cases hd
 ·cases hx
def WI : Env := dF TI TY [] aX aU
def ZY : Code := dE Tryz.f101
def ag3 : Norm := ⟨[0, 3, 7, 8], [3], [], []⟩
def Fz : Nat -> Option Norm := dN [(2, ag3)]
def Pn : End := ⟨[], ⟨[19], [], [], []⟩⟩
def Ar (l : List TV) (o : List (Nat × TO)) : Option (Int) := match l, o with | [.dv (.int .i64) x0], [] => some (x0) | _, _ => none
def YV (s0 : LL) (v1 : List Int) (bG : Int) : TS := ⟨slots 19 [(0, .dv (.sl (.arr 2 (.int .i64))) s0), (3, .ptr 3 0 []), (7, .dv (.int .i64) (s0.length : Int)), (8, .dv (.int .i64) bG)], [(3, .row (.arr 2 (.int .i64)) ([v1] : LL))]⟩
def aoA (N : Nat) : dD (Int) := eH (WI) Fz N ZY [1, 0, 1, 0] (fin TI Pn (aY Tryz.f101) Ar)
def XU (N : Nat) (m : Nat) : TS -> Option (Int) := dW (den (WI) Fz N (sub ZY [1, 0, 1, 0, 0])) (TS.norm ag3) (aoA N) m
def l101a (N : Nat) (s0 : LL) (v1 : List Int) : Nat -> Int -> Option (Int)
 | 0, _ => none
 | n + 1, bG => cond (decide (bG < (s0.length : Int))) (chk (decide (0 <= bG /\ bG < (s0.length : Int))) (cond (DT.beq (.arr 2 (.int .i64)) v1 (s0.getD bG.toNat dJ)) (some bG)
   ((l101a N s0 v1 n (aB (bG + 1))))))
   (some (-1 : Int))
theorem aHN (N : Nat) (s0 : LL) (v1 : List Int) (m : Nat) (bG : Int) : XU N (m + 1) (YV s0 v1 bG) = cond (decide (bG < (s0.length : Int))) (chk (decide (0 <= bG /\ bG < (s0.length : Int))) (cond (DT.beq (.arr 2 (.int .i64)) v1 (s0.getD bG.toNat dJ)) (some bG)
   ((XU N m (YV s0 v1 (aB (bG + 1)))))))
   (some (-1 : Int)) := by kernel_rfl
theorem ai6 (N : Nat) (s0 : LL) (v1 : List Int) : ∀ (m : Nat) (bG : Int), XU N m (YV s0 v1 bG) = l101a N s0 v1 m bG
        | 0, _ => rfl
        | m + 1, bG => by rw [aHN]; simp only [l101a, ai6 N s0 v1 m]
def Hf (N : Nat) (s0 : LL) (v1 : List Int) : Option (Int) :=
   (l101a N s0 v1 N (0 : Int))
theorem aI5 (N : Nat) (s0 : LL) (v1 : List Int) : bK (WI) Fz N Pn ZY (aY Tryz.f101) 17 [.dv (.sl (.arr 2 (.int .i64))) s0, .dv (.arr 2 (.int .i64)) v1] [] Ar = (XU N N (YV s0 v1 (0 : Int))) := by kernel_rfl
theorem axG (N : Nat) (s0 : LL) (v1 : List Int) : bK (WI) Fz N Pn ZY (aY Tryz.f101) 17 [.dv (.sl (.arr 2 (.int .i64))) s0, .dv (.arr 2 (.int .i64)) v1] [] Ar = Hf N s0 v1 := by rw [aI5]; simp only [Hf, ai6]
theorem aAM (a : LL -> (List Int) -> Option (Int)) (h : ∀ s0 v1 r, a s0 v1 = some r -> (∃ N, Hf N s0 v1 = some r)) : aF prog 101 (PR a) := by
 intro args Of x hx
 simp only [PR] at hx
 split at hx
 ·rename_i s0 v1
  obtain ⟨N, hN⟩ := h _ _ _ hx
  refine dZ func101 (by kernel_rfl) (by kernel_rfl) rfl dY ((axG N _ _).trans hN) fun l o hd => ?_
  simp only [Ar] at hd
  split at hd
  ·obtain rfl := aC hd; exact ⟨rfl, rfl⟩
  ·cases hd
 ·cases hx
def E81 (P : ZQ) : Env := dF TI TY [(101, PR P)] aX aU
def c81 : Code := dE Tryz.f81
def azN : Nat -> Option Norm := dN []
def auF : End := ⟨[], ⟨[9], [], [], []⟩⟩
def aeB (l : List TV) (o : List (Nat × TO)) : Option (Bool) := match l, o with | [.dv (.bool) x0], [] => some (x0) | _, _ => none
def Wy (P : ZQ) (N : Nat) (s0 : LL) (v1 : List Int) : Option (Bool) :=
   (P s0 v1).bind fun r1 =>
   some (decide (r1 >= (0 : Int)))
theorem k81 (P : ZQ) (N : Nat) (s0 : LL) (v1 : List Int) : bK (E81 P) azN N auF c81 (aY Tryz.f81) 7 [.dv (.sl (.arr 2 (.int .i64))) s0, .dv (.arr 2 (.int .i64)) v1] [] aeB = Wy P N s0 v1 := by kernel_rfl
theorem aB6 (P : ZQ) (avM : aF prog 101 (PR P)) (a : LL -> (List Int) -> Option (Bool)) (h : ∀ s0 v1 r, a s0 v1 = some r -> (∃ N, Wy P N s0 v1 = some r)) : aF prog 81 (QO a) := by
 intro args Of x hx
 simp only [QO] at hx
 split at hx
 ·rename_i s0 v1
  obtain ⟨N, hN⟩ := h _ _ _ hx
  refine dZ func81 (by kernel_rfl) (by kernel_rfl) rfl (dK avM dY) ((k81 P N _ _).trans hN) fun l o hd => ?_
  simp only [aeB] at hd
  split at hd
  ·obtain rfl := aC hd; exact ⟨rfl, rfl⟩
  ·cases hd
 ·cases hx
def WV (A : jK) (H : BH) : Env := dF TI TY [(49, H8 A), (81, QO H)] aX aU
def Ac : Code := dE Tryz.f48
def ahQ : Norm := ⟨[1, 18, 19, 20], [1], [], []⟩
def Gs : Nat -> Option Norm := dN [(6, ahQ)]
def Qk : End := ⟨[], ⟨[66], [], [], []⟩⟩
def Bv (l : List TV) (o : List (Nat × TO)) : Option (Int) := match l, o with | [.dv (.int .i64) x0], [] => some (x0) | _, _ => none
def Y8 (o0 : lH) (dV : Int) : TS := ⟨slots 66 [(1, .ptr 1 0 []), (18, .dv (.sl (.arr 2 (.int .i64))) o0.2.1), (19, .dv (.int .i64) (o0.2.1.length : Int)), (20, .dv (.int .i64) dV)], [(1, .row (.pair (.int .i64) (.pair (.sl (.arr 2 (.int .i64))) (.unit))) ([o0] : List (aN)))]⟩
def apI (A : jK) (H : BH) (N : Nat) : dD (Int) := eH (WV A H) Gs N Ac [1, 1, 0, 1, 0] (fin TI Qk (aY Tryz.f48) Bv)
def YI (A : jK) (H : BH) (N : Nat) (m : Nat) : TS -> Option (Int) := dW (den (WV A H) Gs N (sub Ac [1, 1, 0, 1, 0, 0])) (TS.norm ahQ) (apI A H N) m
def Fj (A : jK) (H : BH) (N : Nat) (o0 : lH) : Nat -> Int -> Option (Int)
 | 0, _ => none
 | n + 1, dV => cond (decide (dV < (o0.2.1.length : Int))) (chk (decide (0 <= dV /\ dV < (o0.2.1.length : Int))) ((A (0 : Int) ((o0.2.1.getD dV.toNat dJ).getD 0 (0 : Int)) (aB (o0.1 - (1 : Int)))).bind fun r2 =>
   cond (!r2) (some (5 : Int))
   ((A (0 : Int) ((o0.2.1.getD dV.toNat dJ).getD 1 (0 : Int)) (aB (o0.1 - (1 : Int)))).bind fun r3 =>
   cond (!r3) (some (5 : Int))
   (cond (((o0.2.1.getD dV.toNat dJ).getD 0 (0 : Int)) == ((o0.2.1.getD dV.toNat dJ).getD 1 (0 : Int))) (some (20 : Int))
   (chk (decide (0 <= dV /\ dV <= (o0.2.1.length : Int))) ((H (o0.2.1.take dV.toNat) (o0.2.1.getD dV.toNat dJ)).bind fun r4 =>
   cond (r4) (some (6 : Int))
   (chk (decide (0 <= dV /\ dV <= (o0.2.1.length : Int))) ((H (o0.2.1.take dV.toNat) ([(o0.2.1.getD dV.toNat dJ).getD 1 (0 : Int), (o0.2.1.getD dV.toNat dJ).getD 0 (0 : Int)] : List Int)).bind fun r5 =>
   cond (r5) (some (6 : Int))
   ((Fj A H N o0 n (aB (dV + 1))))))))))))
   (some (0 : Int))
theorem aIM (A : jK) (H : BH) (N : Nat) (o0 : lH) (m : Nat) (dV : Int) : YI A H N (m + 1) (Y8 o0 dV) = cond (decide (dV < (o0.2.1.length : Int))) (chk (decide (0 <= dV /\ dV < (o0.2.1.length : Int))) ((A (0 : Int) ((o0.2.1.getD dV.toNat dJ).getD 0 (0 : Int)) (aB (o0.1 - (1 : Int)))).bind fun r2 =>
   cond (!r2) (some (5 : Int))
   ((A (0 : Int) ((o0.2.1.getD dV.toNat dJ).getD 1 (0 : Int)) (aB (o0.1 - (1 : Int)))).bind fun r3 =>
   cond (!r3) (some (5 : Int))
   (cond (((o0.2.1.getD dV.toNat dJ).getD 0 (0 : Int)) == ((o0.2.1.getD dV.toNat dJ).getD 1 (0 : Int))) (some (20 : Int))
   (chk (decide (0 <= dV /\ dV <= (o0.2.1.length : Int))) ((H (o0.2.1.take dV.toNat) (o0.2.1.getD dV.toNat dJ)).bind fun r4 =>
   cond (r4) (some (6 : Int))
   (chk (decide (0 <= dV /\ dV <= (o0.2.1.length : Int))) ((H (o0.2.1.take dV.toNat) ([(o0.2.1.getD dV.toNat dJ).getD 1 (0 : Int), (o0.2.1.getD dV.toNat dJ).getD 0 (0 : Int)] : List Int)).bind fun r5 =>
   cond (r5) (some (6 : Int))
   ((YI A H N m (Y8 o0 (aB (dV + 1)))))))))))))
   (some (0 : Int)) := by kernel_rfl
theorem aj6 (A : jK) (H : BH) (N : Nat) (o0 : lH) : ∀ (m : Nat) (dV : Int), YI A H N m (Y8 o0 dV) = Fj A H N o0 m dV
        | 0, _ => rfl
        | m + 1, dV => by rw [aIM]; simp only [Fj, aj6 A H N o0 m]
def Ic (A : jK) (H : BH) (N : Nat) (o0 : lH) : Option (Int) :=
   (A (1 : Int) o0.1 (6 : Int)).bind fun r1 =>
   cond (!r1) (some (3 : Int))
   (cond (decide ((o0.2.1.length : Int) > (15 : Int))) (some (2 : Int))
   ((Fj A H N o0 N (0 : Int))))
theorem aJN (A : jK) (H : BH) (N : Nat) (o0 : lH) : bK (WV A H) Gs N Qk Ac (aY Tryz.f48) 65 [.dv (.pair (.int .i64) (.pair (.sl (.arr 2 (.int .i64))) (.unit))) o0] [] Bv = (A (1 : Int) o0.1 (6 : Int)).bind fun r1 =>
   cond (!r1) (some (3 : Int))
   (cond (decide ((o0.2.1.length : Int) > (15 : Int))) (some (2 : Int))
   ((YI A H N N (Y8 o0 (0 : Int))))) := by kernel_rfl
theorem k48 (A : jK) (H : BH) (N : Nat) (o0 : lH) : bK (WV A H) Gs N Qk Ac (aY Tryz.f48) 65 [.dv (.pair (.int .i64) (.pair (.sl (.arr 2 (.int .i64))) (.unit))) o0] [] Bv = Ic A H N o0 := by rw [aJN]; simp only [Ic, aj6]
theorem aBR (A : jK) (H : BH) (Sl : aF prog 49 (H8 A)) (h81 : aF prog 81 (QO H)) (a : (aN) -> Option (Int)) (h : ∀ o0 r, a o0 = some r -> (∃ N, Ic A H N o0 = some r)) : aF prog 48 (QJ a) := by
 intro args Of x hx
 simp only [QJ] at hx
 split at hx
 ·rename_i o0
  obtain ⟨N, hN⟩ := h _ _ hx
  refine dZ func48 (by kernel_rfl) (by kernel_rfl) rfl (dK Sl (dK h81 dY)) ((k48 A H N _).trans hN) fun l o hd => ?_
  simp only [Bv] at hd
  split at hd
  ·obtain rfl := aC hd; exact ⟨rfl, rfl⟩
  ·cases hd
 ·cases hx
def AP (D : nJ) (A : jK) : Env := dF TI TY [(48, QJ D), (49, H8 A)] aX aU
def c21 : Code := dE Tryz.f21
def ahE : Norm := ⟨[1, 2, 4, 6, 21, 22], [2, 4, 6], [], []⟩
def ahF : Norm := ⟨[1, 2, 4, 6, 33, 34, 35], [2, 4, 6], [], []⟩
def Xq : Norm := ⟨[2, 4, 6, 58, 59, 60], [2, 4, 6], [], []⟩
def ahG : Norm := ⟨[2, 4, 6, 12, 58, 59, 60, 69, 70], [2, 4, 6], [], []⟩
def CJ : Nat -> Option Norm := dN [(6, ahE), (11, ahF), (17, Xq), (22, ahG)]
def SX : End := ⟨[(87, .arr 6 (.int .u64))], ⟨[87, 88], [], [], []⟩⟩
def NC (l : List TV) (o : List (Nat × TO)) : Option (List Int × Int) := match l, o with | [.dv (.arr 6 (.int .u64)) x0, .dv (.int .i64) x1], [] => some (x0, x1) | _, _ => none
def Y2 (o0 : lH) (dB : List (List UInt8)) (dP : kF) (iL : Int) (rG : Int) : TS := ⟨slots 87 [(2, .ptr 2 0 []), (4, .ptr 4 0 []), (6, .ptr 6 0 []), (12, .dv (.str) (dB.getD iL.toNat ([] : List UInt8))), (58, .dv (.sl (.str)) dB), (59, .dv (.int .i64) (dB.length : Int)), (60, .dv (.int .i64) iL), (69, .dv (.int .i64) ((dB.getD iL.toNat ([] : List UInt8)).length : Int)), (70, .dv (.int .i64) rG)], [(2, .row (.pair (.int .i64) (.pair (.sl (.arr 2 (.int .i64))) (.unit))) ([o0] : List (aN))), (4, .row (.arr 6 (.int .u64)) ([gZ] : LL)), (6, .row (.arr 6 (.int .u64)) dP)]⟩
def RI (o0 : lH) (dB : List (List UInt8)) (dP : kF) (iL : Int) : TS := ⟨slots 87 [(2, .ptr 2 0 []), (4, .ptr 4 0 []), (6, .ptr 6 0 []), (58, .dv (.sl (.str)) dB), (59, .dv (.int .i64) (dB.length : Int)), (60, .dv (.int .i64) iL)], [(2, .row (.pair (.int .i64) (.pair (.sl (.arr 2 (.int .i64))) (.unit))) ([o0] : List (aN))), (4, .row (.arr 6 (.int .u64)) ([gZ] : LL)), (6, .row (.arr 6 (.int .u64)) dP)]⟩
def Y1 (o0 : lH) (dB : List (List UInt8)) (dO : Int) (dP : kF) : TS := ⟨slots 87 [(1, .dv (.sl (.str)) dB), (2, .ptr 2 0 []), (4, .ptr 4 0 []), (6, .ptr 6 0 []), (33, .dv (.sl (.arr 2 (.int .i64))) o0.2.1), (34, .dv (.int .i64) (o0.2.1.length : Int)), (35, .dv (.int .i64) dO)], [(2, .row (.pair (.int .i64) (.pair (.sl (.arr 2 (.int .i64))) (.unit))) ([o0] : List (aN))), (4, .row (.arr 6 (.int .u64)) ([gZ] : LL)), (6, .row (.arr 6 (.int .u64)) dP)]⟩
def Y0 (o0 : lH) (dB : List (List UInt8)) (bI : Int) (uA : kF) : TS := ⟨slots 87 [(1, .dv (.sl (.str)) dB), (2, .ptr 2 0 []), (4, .ptr 4 0 []), (6, .ptr 6 0 []), (21, .dv (.int .i64) o0.1), (22, .dv (.int .i64) bI)], [(2, .row (.pair (.int .i64) (.pair (.sl (.arr 2 (.int .i64))) (.unit))) ([o0] : List (aN))), (4, .row (.arr 6 (.int .u64)) ([gZ] : LL)), (6, .row (.arr 6 (.int .u64)) uA)]⟩
def ao5 (D : nJ) (A : jK) (N : Nat) : dD (List Int × Int) := eH (AP D A) CJ N c21 [1, 1, 1, 0, 1, 0] (fin TI SX (aY Tryz.f21) NC)
def X4 (D : nJ) (A : jK) (N : Nat) (m : Nat) : TS -> Option (List Int × Int) := dW (den (AP D A) CJ N (sub c21 [1, 1, 1, 0, 1, 0, 0])) (TS.norm ahE) (ao5 D A N) m
def ao6 (D : nJ) (A : jK) (N : Nat) : dD (List Int × Int) := eH (AP D A) CJ N c21 [1, 1, 1, 1, 0, 1, 0] (fin TI SX (aY Tryz.f21) NC)
def X5 (D : nJ) (A : jK) (N : Nat) (m : Nat) : TS -> Option (List Int × Int) := dW (den (AP D A) CJ N (sub c21 [1, 1, 1, 1, 0, 1, 0, 0])) (TS.norm ahF) (ao6 D A N) m
def abO (D : nJ) (A : jK) (N : Nat) : dD (List Int × Int) := eH (AP D A) CJ N c21 [1, 1, 1, 1, 1, 0, 1, 0] (fin TI SX (aY Tryz.f21) NC)
def X6 (D : nJ) (A : jK) (N : Nat) (m : Nat) : TS -> Option (List Int × Int) := dW (den (AP D A) CJ N (sub c21 [1, 1, 1, 1, 1, 0, 1, 0, 0])) (TS.norm Xq) (abO D A N) m
def ao7 (D : nJ) (A : jK) (N : Nat) (yS : TS -> Option (List Int × Int)) : dD (List Int × Int) := eH (AP D A) CJ N (sub c21 [1, 1, 1, 1, 1, 0, 1, 0, 0]) [1, 1, 0, 0, 1, 1, 1, 0] (sD (TS.norm Xq) (abO D A N) yS)
def X7 (D : nJ) (A : jK) (N : Nat) (yS : TS -> Option (List Int × Int)) (m : Nat) : TS -> Option (List Int × Int) := dW (den (AP D A) CJ N (sub c21 [1, 1, 1, 1, 1, 0, 1, 0, 0, 1, 1, 0, 0, 1, 1, 1, 0, 0])) (TS.norm ahG) (ao7 D A N yS) m
def Ez (D : nJ) (A : jK) (N : Nat) (o0 : lH) (dB : List (List UInt8)) (dP : kF) (iL : Int) (af7 : Int -> Option (List Int × Int)) : Nat -> Int -> Option (List Int × Int)
 | 0, _ => none
 | n + 1, rG => cond (decide (rG < ((dB.getD iL.toNat ([] : List UInt8)).length : Int))) (chk (decide (0 <= rG /\ rG < ((dB.getD iL.toNat ([] : List UInt8)).length : Int))) ((A (97 : Int) (aB (((((dB.getD iL.toNat ([] : List UInt8)).getD rG.toNat 0).toNat : Nat) : Int))) (aB ((aB ((97 : Int) + o0.1)) - (1 : Int)))).bind fun r2 =>
   cond (!r2) (some (dP.getD 0 gZ, (9 : Int)))
   ((Ez D A N o0 dB dP iL af7 n (aB (rG + 1))))))
   ((af7 (aB (iL + 1))))
theorem aH8 (D : nJ) (A : jK) (N : Nat) (o0 : lH) (dB : List (List UInt8)) (dP : kF) (iL : Int) (yS : TS -> Option (List Int × Int)) (m : Nat) (rG : Int) : X7 D A N yS (m + 1) (Y2 o0 dB dP iL rG) = cond (decide (rG < ((dB.getD iL.toNat ([] : List UInt8)).length : Int))) (chk (decide (0 <= rG /\ rG < ((dB.getD iL.toNat ([] : List UInt8)).length : Int))) ((A (97 : Int) (aB (((((dB.getD iL.toNat ([] : List UInt8)).getD rG.toNat 0).toNat : Nat) : Int))) (aB ((aB ((97 : Int) + o0.1)) - (1 : Int)))).bind fun r2 =>
   cond (!r2) (some (dP.getD 0 gZ, (9 : Int)))
   ((X7 D A N yS m (Y2 o0 dB dP iL (aB (rG + 1)))))))
   ((yS (RI o0 dB dP (aB (iL + 1))))) := by kernel_rfl
theorem ajP (D : nJ) (A : jK) (N : Nat) (o0 : lH) (dB : List (List UInt8)) (dP : kF) (iL : Int) (yS : TS -> Option (List Int × Int)) : ∀ (m : Nat) (rG : Int), X7 D A N yS m (Y2 o0 dB dP iL rG) = Ez D A N o0 dB dP iL (fun y0 => yS (RI o0 dB dP y0)) m rG
        | 0, _ => rfl
        | m + 1, rG => by rw [aH8]; simp only [Ez, ajP D A N o0 dB dP iL yS m]
def Ey (D : nJ) (A : jK) (N : Nat) (o0 : lH) (dB : List (List UInt8)) (dP : kF) : Nat -> Int -> Option (List Int × Int)
 | 0, _ => none
 | n + 1, iL => cond (decide (iL < (dB.length : Int))) (chk (decide (0 <= iL /\ iL < (dB.length : Int))) (cond (decide (((dB.getD iL.toNat ([] : List UInt8)).length : Int) > (14 : Int))) (some (dP.getD 0 gZ, (19 : Int)))
   ((Ez D A N o0 dB dP iL (fun y0 => (Ey D A N o0 dB dP n y0)) N (0 : Int)))))
   (some (dP.getD 0 gZ, (0 : Int)))
theorem aH7 (D : nJ) (A : jK) (N : Nat) (o0 : lH) (dB : List (List UInt8)) (dP : kF) (m : Nat) (iL : Int) : X6 D A N (m + 1) (RI o0 dB dP iL) = cond (decide (iL < (dB.length : Int))) (chk (decide (0 <= iL /\ iL < (dB.length : Int))) (cond (decide (((dB.getD iL.toNat ([] : List UInt8)).length : Int) > (14 : Int))) (some (dP.getD 0 gZ, (19 : Int)))
   ((X7 D A N (X6 D A N m) N (Y2 o0 dB dP iL (0 : Int))))))
   (some (dP.getD 0 gZ, (0 : Int))) := by kernel_rfl
theorem ajO (D : nJ) (A : jK) (N : Nat) (o0 : lH) (dB : List (List UInt8)) (dP : kF) : ∀ (m : Nat) (iL : Int), X6 D A N m (RI o0 dB dP iL) = Ey D A N o0 dB dP m iL
        | 0, _ => rfl
        | m + 1, iL => by rw [aH7]; simp only [Ey, ajP, ajO D A N o0 dB dP m]
def Ew (D : nJ) (A : jK) (N : Nat) (o0 : lH) (dB : List (List UInt8)) : Nat -> Int -> LL -> Option (List Int × Int)
 | 0, _, _ => none
 | n + 1, dO, dP => cond (decide (dO < (o0.2.1.length : Int))) (chk (decide (0 <= dO /\ dO < (o0.2.1.length : Int))) (chk (decide (0 <= (o0.2.1.getD dO.toNat dJ).getD 0 (0 : Int) /\ (o0.2.1.getD dO.toNat dJ).getD 0 (0 : Int) < (6 : Int))) (chk (decide (0 <= (o0.2.1.getD dO.toNat dJ).getD 1 (0 : Int))) (chk (decide (0 <= (o0.2.1.getD dO.toNat dJ).getD 0 (0 : Int) /\ (o0.2.1.getD dO.toNat dJ).getD 0 (0 : Int) < (6 : Int))) (chk ((decide (((o0.2.1.getD dO.toNat dJ).getD 0 (0 : Int)).toNat < (dP.getD 0 gZ).length)) && (true)) (chk (decide (0 <= (o0.2.1.getD dO.toNat dJ).getD 1 (0 : Int) /\ (o0.2.1.getD dO.toNat dJ).getD 1 (0 : Int) < (6 : Int))) (chk (decide (0 <= (o0.2.1.getD dO.toNat dJ).getD 0 (0 : Int))) (chk (decide (0 <= (o0.2.1.getD dO.toNat dJ).getD 1 (0 : Int) /\ (o0.2.1.getD dO.toNat dJ).getD 1 (0 : Int) < (6 : Int))) (chk ((decide (((o0.2.1.getD dO.toNat dJ).getD 1 (0 : Int)).toNat < ((dP.set 0 ((dP.getD 0 gZ).set (((o0.2.1.getD dO.toNat dJ).getD 0 (0 : Int)).toNat) (xO .u64 ((dP.getD 0 gZ).getD (((o0.2.1.getD dO.toNat dJ).getD 0 (0 : Int)).toNat) (0 : Int)) (IntKind.wrap .u64 ((1 : Int) * 2 ^ min (Int.toNat ((o0.2.1.getD dO.toNat dJ).getD 1 (0 : Int))) 64))))).getD 0 gZ).length)) && (true)) ((Ew D A N o0 dB n (aB (dO + 1)) ((dP.set 0 ((dP.getD 0 gZ).set (((o0.2.1.getD dO.toNat dJ).getD 0 (0 : Int)).toNat) (xO .u64 ((dP.getD 0 gZ).getD (((o0.2.1.getD dO.toNat dJ).getD 0 (0 : Int)).toNat) (0 : Int)) (IntKind.wrap .u64 ((1 : Int) * 2 ^ min (Int.toNat ((o0.2.1.getD dO.toNat dJ).getD 1 (0 : Int))) 64))))).set 0 (((dP.set 0 ((dP.getD 0 gZ).set (((o0.2.1.getD dO.toNat dJ).getD 0 (0 : Int)).toNat) (xO .u64 ((dP.getD 0 gZ).getD (((o0.2.1.getD dO.toNat dJ).getD 0 (0 : Int)).toNat) (0 : Int)) (IntKind.wrap .u64 ((1 : Int) * 2 ^ min (Int.toNat ((o0.2.1.getD dO.toNat dJ).getD 1 (0 : Int))) 64))))).getD 0 gZ).set (((o0.2.1.getD dO.toNat dJ).getD 1 (0 : Int)).toNat) (xO .u64 (((dP.set 0 ((dP.getD 0 gZ).set (((o0.2.1.getD dO.toNat dJ).getD 0 (0 : Int)).toNat) (xO .u64 ((dP.getD 0 gZ).getD (((o0.2.1.getD dO.toNat dJ).getD 0 (0 : Int)).toNat) (0 : Int)) (IntKind.wrap .u64 ((1 : Int) * 2 ^ min (Int.toNat ((o0.2.1.getD dO.toNat dJ).getD 1 (0 : Int))) 64))))).getD 0 gZ).getD (((o0.2.1.getD dO.toNat dJ).getD 1 (0 : Int)).toNat) (0 : Int)) (IntKind.wrap .u64 ((1 : Int) * 2 ^ min (Int.toNat ((o0.2.1.getD dO.toNat dJ).getD 0 (0 : Int))) 64))))))))))))))))
   ((Ey D A N o0 dB dP N (0 : Int)))
theorem aH6 (D : nJ) (A : jK) (N : Nat) (o0 : lH) (dB : List (List UInt8)) (m : Nat) (dO : Int) (dP : kF) : X5 D A N (m + 1) (Y1 o0 dB dO dP) = cond (decide (dO < (o0.2.1.length : Int))) (chk (decide (0 <= dO /\ dO < (o0.2.1.length : Int))) (chk (decide (0 <= (o0.2.1.getD dO.toNat dJ).getD 0 (0 : Int) /\ (o0.2.1.getD dO.toNat dJ).getD 0 (0 : Int) < (6 : Int))) (chk (decide (0 <= (o0.2.1.getD dO.toNat dJ).getD 1 (0 : Int))) (chk (decide (0 <= (o0.2.1.getD dO.toNat dJ).getD 0 (0 : Int) /\ (o0.2.1.getD dO.toNat dJ).getD 0 (0 : Int) < (6 : Int))) (chk ((decide (((o0.2.1.getD dO.toNat dJ).getD 0 (0 : Int)).toNat < (dP.getD 0 gZ).length)) && (true)) (chk (decide (0 <= (o0.2.1.getD dO.toNat dJ).getD 1 (0 : Int) /\ (o0.2.1.getD dO.toNat dJ).getD 1 (0 : Int) < (6 : Int))) (chk (decide (0 <= (o0.2.1.getD dO.toNat dJ).getD 0 (0 : Int))) (chk (decide (0 <= (o0.2.1.getD dO.toNat dJ).getD 1 (0 : Int) /\ (o0.2.1.getD dO.toNat dJ).getD 1 (0 : Int) < (6 : Int))) (chk ((decide (((o0.2.1.getD dO.toNat dJ).getD 1 (0 : Int)).toNat < ((dP.set 0 ((dP.getD 0 gZ).set (((o0.2.1.getD dO.toNat dJ).getD 0 (0 : Int)).toNat) (xO .u64 ((dP.getD 0 gZ).getD (((o0.2.1.getD dO.toNat dJ).getD 0 (0 : Int)).toNat) (0 : Int)) (IntKind.wrap .u64 ((1 : Int) * 2 ^ min (Int.toNat ((o0.2.1.getD dO.toNat dJ).getD 1 (0 : Int))) 64))))).getD 0 gZ).length)) && (true)) ((X5 D A N m (Y1 o0 dB (aB (dO + 1)) ((dP.set 0 ((dP.getD 0 gZ).set (((o0.2.1.getD dO.toNat dJ).getD 0 (0 : Int)).toNat) (xO .u64 ((dP.getD 0 gZ).getD (((o0.2.1.getD dO.toNat dJ).getD 0 (0 : Int)).toNat) (0 : Int)) (IntKind.wrap .u64 ((1 : Int) * 2 ^ min (Int.toNat ((o0.2.1.getD dO.toNat dJ).getD 1 (0 : Int))) 64))))).set 0 (((dP.set 0 ((dP.getD 0 gZ).set (((o0.2.1.getD dO.toNat dJ).getD 0 (0 : Int)).toNat) (xO .u64 ((dP.getD 0 gZ).getD (((o0.2.1.getD dO.toNat dJ).getD 0 (0 : Int)).toNat) (0 : Int)) (IntKind.wrap .u64 ((1 : Int) * 2 ^ min (Int.toNat ((o0.2.1.getD dO.toNat dJ).getD 1 (0 : Int))) 64))))).getD 0 gZ).set (((o0.2.1.getD dO.toNat dJ).getD 1 (0 : Int)).toNat) (xO .u64 (((dP.set 0 ((dP.getD 0 gZ).set (((o0.2.1.getD dO.toNat dJ).getD 0 (0 : Int)).toNat) (xO .u64 ((dP.getD 0 gZ).getD (((o0.2.1.getD dO.toNat dJ).getD 0 (0 : Int)).toNat) (0 : Int)) (IntKind.wrap .u64 ((1 : Int) * 2 ^ min (Int.toNat ((o0.2.1.getD dO.toNat dJ).getD 1 (0 : Int))) 64))))).getD 0 gZ).getD (((o0.2.1.getD dO.toNat dJ).getD 1 (0 : Int)).toNat) (0 : Int)) (IntKind.wrap .u64 ((1 : Int) * 2 ^ min (Int.toNat ((o0.2.1.getD dO.toNat dJ).getD 0 (0 : Int))) 64)))))))))))))))))
   ((X6 D A N N (RI o0 dB dP (0 : Int)))) := by kernel_rfl
theorem ajN (D : nJ) (A : jK) (N : Nat) (o0 : lH) (dB : List (List UInt8)) : ∀ (m : Nat) (dO : Int) (dP : kF), X5 D A N m (Y1 o0 dB dO dP) = Ew D A N o0 dB m dO dP
        | 0, _, _ => rfl
        | m + 1, dO, dP => by rw [aH6]; simp only [Ew, ajO, ajN D A N o0 dB m]
def Eu (D : nJ) (A : jK) (N : Nat) (o0 : lH) (dB : List (List UInt8)) : Nat -> Int -> LL -> Option (List Int × Int)
 | 0, _, _ => none
 | n + 1, bI, uA => cond (decide (bI < o0.1)) (chk (decide (0 <= o0.1)) (chk (decide (0 <= bI /\ bI < (6 : Int))) (chk ((decide (bI.toNat < (uA.getD 0 gZ).length)) && (true)) ((Eu D A N o0 dB n (aB (bI + 1)) (uA.set 0 ((uA.getD 0 gZ).set bI.toNat (IntKind.wrap .u64 ((IntKind.wrap .u64 ((1 : Int) * 2 ^ min (Int.toNat o0.1) 64)) - (1 : Int))))))))))
   ((Ew D A N o0 dB N (0 : Int) uA))
theorem aH5 (D : nJ) (A : jK) (N : Nat) (o0 : lH) (dB : List (List UInt8)) (m : Nat) (bI : Int) (uA : kF) : X4 D A N (m + 1) (Y0 o0 dB bI uA) = cond (decide (bI < o0.1)) (chk (decide (0 <= o0.1)) (chk (decide (0 <= bI /\ bI < (6 : Int))) (chk ((decide (bI.toNat < (uA.getD 0 gZ).length)) && (true)) ((X4 D A N m (Y0 o0 dB (aB (bI + 1)) (uA.set 0 ((uA.getD 0 gZ).set bI.toNat (IntKind.wrap .u64 ((IntKind.wrap .u64 ((1 : Int) * 2 ^ min (Int.toNat o0.1) 64)) - (1 : Int)))))))))))
   ((X5 D A N N (Y1 o0 dB (0 : Int) uA))) := by kernel_rfl
theorem ajM (D : nJ) (A : jK) (N : Nat) (o0 : lH) (dB : List (List UInt8)) : ∀ (m : Nat) (bI : Int) (uA : kF), X4 D A N m (Y0 o0 dB bI uA) = Eu D A N o0 dB m bI uA
        | 0, _, _ => rfl
        | m + 1, bI, uA => by rw [aH5]; simp only [Eu, ajN, ajM D A N o0 dB m]
def m21 (D : nJ) (A : jK) (N : Nat) (o0 : lH) (dB : List (List UInt8)) : Option (List Int × Int) :=
   (D o0).bind fun r1 =>
   cond (r1 != (0 : Int)) (some (gZ, r1))
   ((Eu D A N o0 dB N (0 : Int) ([gZ] : LL)))
theorem aJF (D : nJ) (A : jK) (N : Nat) (o0 : lH) (dB : List (List UInt8)) : bK (AP D A) CJ N SX c21 (aY Tryz.f21) 85 [.dv (.pair (.int .i64) (.pair (.sl (.arr 2 (.int .i64))) (.unit))) o0, .dv (.sl (.str)) dB] [] NC = (D o0).bind fun r1 =>
   cond (r1 != (0 : Int)) (some (gZ, r1))
   ((X4 D A N N (Y0 o0 dB (0 : Int) ([gZ] : LL)))) := by kernel_rfl
theorem k21 (D : nJ) (A : jK) (N : Nat) (o0 : lH) (dB : List (List UInt8)) : bK (AP D A) CJ N SX c21 (aY Tryz.f21) 85 [.dv (.pair (.int .i64) (.pair (.sl (.arr 2 (.int .i64))) (.unit))) o0, .dv (.sl (.str)) dB] [] NC = m21 D A N o0 dB := by rw [aJF]; simp only [m21, ajM]
theorem aBA (D : nJ) (A : jK) (h48 : aF prog 48 (QJ D)) (Sl : aF prog 49 (H8 A)) (a : (aN) -> (List (List UInt8)) -> Option (List Int × Int)) (h : ∀ o0 dB r, a o0 dB = some r -> (∃ N, m21 D A N o0 dB = some r)) : aF prog 21 (LQ a) := by
 intro args Of x hx
 simp only [LQ] at hx
 split at hx
 ·rename_i o0 dB
  obtain ⟨N, hN⟩ := h _ _ _ hx
  refine dZ func21 (by kernel_rfl) (by kernel_rfl) rfl (dK h48 (dK Sl dY)) ((k21 D A N _ _).trans hN) fun l o hd => ?_
  simp only [NC] at hd
  split at hd
  ·obtain rfl := aC hd; exact ⟨rfl, rfl⟩
  ·cases hd
 ·cases hx
def E63 : Env := dF TI TY [] aX aU
def c63 : Code := dE Tryz.f63
def azI : Nat -> Option Norm := dN []
def auA : End := ⟨[], ⟨[16], [], [], []⟩⟩
def ad6 (l : List TV) (o : List (Nat × TO)) : Option (Bool) := match l, o with | [.dv (.bool) x0], [] => some (x0) | _, _ => none
def Wq (N : Nat) (d0 : List Int) (x1 : Int) (y2 : Int) : Option (Bool) :=
   chk (decide (0 <= IntKind.wrap .u8 (x1 - (97 : Int)) /\ IntKind.wrap .u8 (x1 - (97 : Int)) < (6 : Int))) (chk (decide (0 <= IntKind.wrap .u8 (y2 - (97 : Int)))) (some ((IW .u64 (Int.fdiv (d0.getD ((IntKind.wrap .u8 (x1 - (97 : Int))).toNat) (0 : Int)) (2 ^ min (Int.toNat (IntKind.wrap .u8 (y2 - (97 : Int)))) 64)) (1 : Int)) == (1 : Int))))
theorem k63 (N : Nat) (d0 : List Int) (x1 : Int) (y2 : Int) : bK (E63) azI N auA c63 (aY Tryz.f63) 13 [.dv (.arr 6 (.int .u64)) d0, .dv (.int .u8) x1, .dv (.int .u8) y2] [] ad6 = Wq N d0 x1 y2 := by kernel_rfl
theorem aBT (a : (List Int) -> Int -> Int -> Option (Bool)) (h : ∀ d0 x1 y2 r, a d0 x1 y2 = some r -> (∃ N, Wq N d0 x1 y2 = some r)) : aF prog 63 (LX a) := by
 intro args Of x hx
 simp only [LX] at hx
 split at hx
 ·rename_i d0 x1 y2
  obtain ⟨N, hN⟩ := h _ _ _ _ hx
  refine dZ func63 (by kernel_rfl) (by kernel_rfl) rfl dY ((k63 N _ _ _).trans hN) fun l o hd => ?_
  simp only [ad6] at hd
  split at hd
  ·obtain rfl := aC hd; exact ⟨rfl, rfl⟩
  ·cases hd
 ·cases hx
def xI (B : kT) (C : kU) (bM : Int) (bP : Int) : Env := Iq TI TY [(21, LQ B), (63, LX C)] aX aU (fun i => ([] : List (Nat × Nat)).lookup i)
def c29 : Code := dE Tryz.f29
def Xr : Norm := ⟨[1, 6, 8, 27, 28], [6, 8], [], []⟩
def ahH : Norm := ⟨[1, 6, 8, 9, 27, 28, 31, 32], [6, 8], [], []⟩
def Xt : Norm := ⟨[1, 8, 55, 56], [8], [(.slot 11, 1011, .dM (.pair (.int .u64) (.int .i64)))], []⟩
def Xu : Norm := ⟨[1, 8, 12, 55, 56, 60], [8, 58, 60], [], []⟩
def ahI : Norm := ⟨[1, 8, 12, 13, 14, 55, 56, 60, 67, 68], [8, 58, 60], [], []⟩
def xX : Nat -> Option Norm := dN [(6, Xr), (9, ahH), (17, Xt), (20, Xu), (23, ahI)]
def Dk : End := ⟨[], ⟨[101, 102], [], [], []⟩⟩
def SL (bM : Int) (bP : Int) (l : List TV) (o : List (Nat × TO)) : Option Unit := match l, o with | [.dv (.int .i64) x0, .dv (.int .i64) x1], [] => chk (decide (x0 = bM) && decide (x1 = bP)) (some ()) | _, _ => none
def RN (bH : List UInt8) (r1 : List Int × Int) (eY : Int) (iK : Int) (qB : kF) : TS := ⟨slots 101 [(1, .dv (.str) bH), (6, .ptr 6 0 []), (8, .ptr 8 0 []), (9, .dv (.int .i64) eY), (27, .dv (.int .i64) (bH.length : Int)), (28, .dv (.int .i64) eY), (31, .dv (.int .i64) eY), (32, .dv (.int .i64) iK)], [(6, .row (.arr 6 (.int .u64)) ([r1.1] : LL)), (8, .row (.arr 14 (.int .u64)) qB)]⟩
def ML (bH : List UInt8) (dX : kF) (gV : Int) (h3 : Int × Int) (g4 : List (Int × Int)) (kM : Int) (qX : List (Int × Int)) : TS := ⟨slots 101 [(1, .dv (.str) bH), (8, .ptr 8 0 []), (12, .row 58), (13, .dv (.int .u64) h3.1), (14, .dv (.int .i64) h3.2), (55, .dv (.int .i64) (bH.length : Int)), (56, .dv (.int .i64) gV), (60, .row 60), (67, .dv (.int .i64) (bH.length : Int)), (68, .dv (.int .i64) kM)], [(8, .row (.arr 14 (.int .u64)) dX), (58, .map (.int .u64) (.int .i64) qX), (60, .iter (.int .u64) (.int .i64) g4 none)]⟩
def RQ (bH : List UInt8) (dX : kF) (gV : Int) (yC : List (Int × Int)) (CW : List (Int × Int)) : TS := ⟨slots 101 [(1, .dv (.str) bH), (8, .ptr 8 0 []), (12, .row 58), (55, .dv (.int .i64) (bH.length : Int)), (56, .dv (.int .i64) gV), (60, .row 60)], [(8, .row (.arr 14 (.int .u64)) dX), (58, .map (.int .u64) (.int .i64) yC), (60, .iter (.int .u64) (.int .i64) CW none)]⟩
def RP (bH : List UInt8) (dX : kF) (gV : Int) (xP : List (Int × Int)) : TS := ⟨slots 101 [(1, .dv (.str) bH), (8, .ptr 8 0 []), (11, .row 1011), (55, .dv (.int .i64) (bH.length : Int)), (56, .dv (.int .i64) gV)], [(1011, .map (.int .u64) (.int .i64) xP), (8, .row (.arr 14 (.int .u64)) dX)]⟩
def RJ (bH : List UInt8) (r1 : List Int × Int) (eY : Int) (dX : kF) : TS := ⟨slots 101 [(1, .dv (.str) bH), (6, .ptr 6 0 []), (8, .ptr 8 0 []), (27, .dv (.int .i64) (bH.length : Int)), (28, .dv (.int .i64) eY)], [(6, .row (.arr 6 (.int .u64)) ([r1.1] : LL)), (8, .row (.arr 14 (.int .u64)) dX)]⟩
def abP (B : kT) (C : kU) (bM : Int) (bP : Int) (N : Nat) : dD (Unit) := eH (xI B C bM bP) xX N c29 [1, 1, 1, 1, 0, 1, 0] (fin TI Dk (aY Tryz.f29) (SL bM bP))
def X8 (B : kT) (C : kU) (bM : Int) (bP : Int) (N : Nat) (m : Nat) : TS -> Option (Unit) := dW (den (xI B C bM bP) xX N (sub c29 [1, 1, 1, 1, 0, 1, 0, 0])) (TS.norm Xr) (abP B C bM bP N) m
def ao8 (B : kT) (C : kU) (bM : Int) (bP : Int) (N : Nat) (xK : sZ) : dD (Unit) := eH (xI B C bM bP) xX N (sub c29 [1, 1, 1, 1, 0, 1, 0, 0]) [1, 1, 0, 0, 1, 1, 0] (sD (TS.norm Xr) (abP B C bM bP N) xK)
def QX (B : kT) (C : kU) (bM : Int) (bP : Int) (N : Nat) (xK : sZ) (m : Nat) : TS -> Option (Unit) := dW (den (xI B C bM bP) xX N (sub c29 [1, 1, 1, 1, 0, 1, 0, 0, 1, 1, 0, 0, 1, 1, 0, 0])) (TS.norm ahH) (ao8 B C bM bP N xK) m
def abQ (B : kT) (C : kU) (bM : Int) (bP : Int) (N : Nat) : dD (Unit) := eH (xI B C bM bP) xX N c29 [1, 1, 1, 1, 1, 1, 0, 1, 0] (fin TI Dk (aY Tryz.f29) (SL bM bP))
def X9 (B : kT) (C : kU) (bM : Int) (bP : Int) (N : Nat) (m : Nat) : TS -> Option (Unit) := dW (den (xI B C bM bP) xX N (sub c29 [1, 1, 1, 1, 1, 1, 0, 1, 0, 0])) (TS.norm Xt) (abQ B C bM bP N) m
def abR (B : kT) (C : kU) (bM : Int) (bP : Int) (N : Nat) (nR : sZ) : dD (Unit) := eH (xI B C bM bP) xX N (sub c29 [1, 1, 1, 1, 1, 1, 0, 1, 0, 0]) [1, 1, 0, 0, 1, 0, 1, 0] (sD (TS.norm Xt) (abQ B C bM bP N) nR)
def YA (B : kT) (C : kU) (bM : Int) (bP : Int) (N : Nat) (nR : sZ) (m : Nat) : TS -> Option (Unit) := dW (den (xI B C bM bP) xX N (sub c29 [1, 1, 1, 1, 1, 1, 0, 1, 0, 0, 1, 1, 0, 0, 1, 0, 1, 0, 0])) (TS.norm Xu) (abR B C bM bP N nR) m
def ao9 (B : kT) (C : kU) (bM : Int) (bP : Int) (N : Nat) (nR : sZ) (wH : sZ) : dD (Unit) := eH (xI B C bM bP) xX N (sub c29 [1, 1, 1, 1, 1, 1, 0, 1, 0, 0, 1, 1, 0, 0, 1, 0, 1, 0, 0]) [1, 1, 0, 1, 1, 0] (sD (TS.norm Xu) (abR B C bM bP N nR) wH)
def MG (B : kT) (C : kU) (bM : Int) (bP : Int) (N : Nat) (nR : sZ) (wH : sZ) (m : Nat) : TS -> Option (Unit) := dW (den (xI B C bM bP) xX N (sub c29 [1, 1, 1, 1, 1, 1, 0, 1, 0, 0, 1, 1, 0, 0, 1, 0, 1, 0, 0, 1, 1, 0, 1, 1, 0, 0])) (TS.norm ahI) (ao9 B C bM bP N nR wH) m
def l29b (B : kT) (C : kU) (bM : Int) (bP : Int) (N : Nat) (bH : List UInt8) (r1 : List Int × Int) (eY : Int) (Ux : Int -> LL -> Option (Unit)) : Nat -> Int -> LL -> Option (Unit)
 | 0, _, _ => none
 | n + 1, iK, qB => cond (decide (iK < eY)) (chk (decide (0 <= iK /\ iK < (bH.length : Int))) (chk (decide (0 <= eY /\ eY < (bH.length : Int))) ((C r1.1 (((bH.getD iK.toNat 0).toNat : Nat) : Int) (((bH.getD eY.toNat 0).toNat : Nat) : Int)).bind fun r2 =>
   cond (r2) (chk (decide (0 <= eY /\ eY < (14 : Int))) (chk (decide (0 <= iK)) (chk (decide (0 <= eY /\ eY < (14 : Int))) (chk ((decide (eY.toNat < (qB.getD 0 DJ).length)) && (true)) ((l29b B C bM bP N bH r1 eY Ux n (aB (iK + 1)) (qB.set 0 ((qB.getD 0 DJ).set eY.toNat (y5 .u64 ((qB.getD 0 DJ).getD eY.toNat 0) (IntKind.wrap .u64 ((1 : Int) * 2 ^ min (Int.toNat iK) 64)))))))))))
   ((l29b B C bM bP N bH r1 eY Ux n (aB (iK + 1)) qB)))))
   ((Ux (aB (eY + 1)) qB))
theorem aH' (B : kT) (C : kU) (bM : Int) (bP : Int) (N : Nat) (bH : List UInt8) (r1 : List Int × Int) (eY : Int) (xK : sZ) (m : Nat) (iK : Int) (qB : kF) : QX B C bM bP N xK (m + 1) (RN bH r1 eY iK qB) = cond (decide (iK < eY)) (chk (decide (0 <= iK /\ iK < (bH.length : Int))) (chk (decide (0 <= eY /\ eY < (bH.length : Int))) ((C r1.1 (((bH.getD iK.toNat 0).toNat : Nat) : Int) (((bH.getD eY.toNat 0).toNat : Nat) : Int)).bind fun r2 =>
   cond (r2) (chk (decide (0 <= eY /\ eY < (14 : Int))) (chk (decide (0 <= iK)) (chk (decide (0 <= eY /\ eY < (14 : Int))) (chk ((decide (eY.toNat < (qB.getD 0 DJ).length)) && (true)) ((QX B C bM bP N xK m (RN bH r1 eY (aB (iK + 1)) (qB.set 0 ((qB.getD 0 DJ).set eY.toNat (y5 .u64 ((qB.getD 0 DJ).getD eY.toNat 0) (IntKind.wrap .u64 ((1 : Int) * 2 ^ min (Int.toNat iK) 64))))))))))))
   ((QX B C bM bP N xK m (RN bH r1 eY (aB (iK + 1)) qB))))))
   ((xK (RJ bH r1 (aB (eY + 1)) qB))) := by kernel_rfl
theorem ajR (B : kT) (C : kU) (bM : Int) (bP : Int) (N : Nat) (bH : List UInt8) (r1 : List Int × Int) (eY : Int) (xK : sZ) : ∀ (m : Nat) (iK : Int) (qB : kF), QX B C bM bP N xK m (RN bH r1 eY iK qB) = l29b B C bM bP N bH r1 eY (fun y0 y1 => xK (RJ bH r1 y0 y1)) m iK qB
        | 0, _, _ => rfl
        | m + 1, iK, qB => by rw [aH']; simp only [l29b, ajR B C bM bP N bH r1 eY xK m]
def NU (B : kT) (C : kU) (bM : Int) (bP : Int) (N : Nat) (bH : List UInt8) (dX : kF) (gV : Int) (h3 : Int × Int) (g4 : List (Int × Int)) (Ff : (List (Int × Int)) -> (List (Int × Int)) -> Option (Unit)) : Nat -> Int -> (List (Int × Int)) -> Option (Unit)
 | 0, _, _ => none
 | n + 1, kM, qX => cond (decide (kM < (bH.length : Int))) (chk (decide (0 <= kM)) (cond ((IW .u64 (Int.fdiv h3.1 (2 ^ min (Int.toNat kM) 64)) (1 : Int)) == (0 : Int)) (chk (decide (0 <= kM /\ kM < (14 : Int))) (cond ((xO .u64 ((dX.getD 0 DJ).getD kM.toNat 0) h3.1) == (0 : Int)) (chk (decide (0 <= kM)) ((NU B C bM bP N bH dX gV h3 g4 Ff n (aB (kM + 1)) (wV (kt := .int .u64) (vt := .int .i64) qX (y5 .u64 h3.1 (IntKind.wrap .u64 ((1 : Int) * 2 ^ min (Int.toNat kM) 64))) (aB (((oN (kt := .int .u64) (vt := .int .i64) qX (y5 .u64 h3.1 (IntKind.wrap .u64 ((1 : Int) * 2 ^ min (Int.toNat kM) 64)))).getD (0 : Int)) + h3.2))))))
   ((NU B C bM bP N bH dX gV h3 g4 Ff n (aB (kM + 1)) qX))))
   ((NU B C bM bP N bH dX gV h3 g4 Ff n (aB (kM + 1)) qX))))
   ((Ff qX g4))
theorem aIC (B : kT) (C : kU) (bM : Int) (bP : Int) (N : Nat) (bH : List UInt8) (dX : kF) (gV : Int) (h3 : Int × Int) (g4 : List (Int × Int)) (nR : sZ) (wH : sZ) (m : Nat) (kM : Int) (qX : List (Int × Int)) : MG B C bM bP N nR wH (m + 1) (ML bH dX gV h3 g4 kM qX) = cond (decide (kM < (bH.length : Int))) (chk (decide (0 <= kM)) (cond ((IW .u64 (Int.fdiv h3.1 (2 ^ min (Int.toNat kM) 64)) (1 : Int)) == (0 : Int)) (chk (decide (0 <= kM /\ kM < (14 : Int))) (cond ((xO .u64 ((dX.getD 0 DJ).getD kM.toNat 0) h3.1) == (0 : Int)) (chk (decide (0 <= kM)) ((MG B C bM bP N nR wH m (ML bH dX gV h3 g4 (aB (kM + 1)) (wV (kt := .int .u64) (vt := .int .i64) qX (y5 .u64 h3.1 (IntKind.wrap .u64 ((1 : Int) * 2 ^ min (Int.toNat kM) 64))) (aB (((oN (kt := .int .u64) (vt := .int .i64) qX (y5 .u64 h3.1 (IntKind.wrap .u64 ((1 : Int) * 2 ^ min (Int.toNat kM) 64)))).getD (0 : Int)) + h3.2)))))))
   ((MG B C bM bP N nR wH m (ML bH dX gV h3 g4 (aB (kM + 1)) qX)))))
   ((MG B C bM bP N nR wH m (ML bH dX gV h3 g4 (aB (kM + 1)) qX)))))
   ((wH (RQ bH dX gV qX g4))) := by kernel_rfl
theorem ajU (B : kT) (C : kU) (bM : Int) (bP : Int) (N : Nat) (bH : List UInt8) (dX : kF) (gV : Int) (h3 : Int × Int) (g4 : List (Int × Int)) (nR : sZ) (wH : sZ) : ∀ (m : Nat) (kM : Int) (qX : List (Int × Int)), MG B C bM bP N nR wH m (ML bH dX gV h3 g4 kM qX) = NU B C bM bP N bH dX gV h3 g4 (fun y0 y1 => wH (RQ bH dX gV y0 y1)) m kM qX
        | 0, _, _ => rfl
        | m + 1, kM, qX => by rw [aIC]; simp only [NU, ajU B C bM bP N bH dX gV h3 g4 nR wH m]
def Fb (B : kT) (C : kU) (bM : Int) (bP : Int) (N : Nat) (bH : List UInt8) (dX : kF) (gV : Int) (af8 : Int -> (List (Int × Int)) -> Option (Unit)) : Nat -> (List (Int × Int)) -> (List (Int × Int)) -> Option (Unit)
 | 0, _, _ => none
 | n + 1, yC, CW => Di CW ((af8 (aB (gV + 1)) yC)) (fun h3 => fun g4 =>
   (NU B C bM bP N bH dX gV h3 g4 (fun y0 y1 => (Fb B C bM bP N bH dX gV af8 n y0 y1)) N (0 : Int) yC))
theorem aIB (B : kT) (C : kU) (bM : Int) (bP : Int) (N : Nat) (bH : List UInt8) (dX : kF) (gV : Int) (nR : sZ) (m : Nat) (yC : List (Int × Int)) (CW : List (Int × Int)) : YA B C bM bP N nR (m + 1) (RQ bH dX gV yC CW) = Di CW ((nR (RP bH dX (aB (gV + 1)) yC))) (fun h3 => fun g4 =>
   (MG B C bM bP N nR (YA B C bM bP N nR m) N (ML bH dX gV h3 g4 (0 : Int) yC))) := by kernel_rfl
theorem ajT (B : kT) (C : kU) (bM : Int) (bP : Int) (N : Nat) (bH : List UInt8) (dX : kF) (gV : Int) (nR : sZ) : ∀ (m : Nat) (yC : List (Int × Int)) (CW : List (Int × Int)), YA B C bM bP N nR m (RQ bH dX gV yC CW) = Fb B C bM bP N bH dX gV (fun y0 y1 => nR (RP bH dX y0 y1)) m yC CW
        | 0, _, _ => rfl
        | m + 1, yC, CW => by rw [aIB]; simp only [Fb, ajU, ajT B C bM bP N bH dX gV nR m]
def Fa (B : kT) (C : kU) (bM : Int) (bP : Int) (N : Nat) (bH : List UInt8) (dX : kF) : Nat -> Int -> (List (Int × Int)) -> Option (Unit)
 | 0, _, _ => none
 | n + 1, gV, xP => cond (decide (gV < (bH.length : Int))) ((Fb B C bM bP N bH dX gV (fun y0 y1 => (Fa B C bM bP N bH dX n y0 y1)) N ([] : List (Int × Int)) xP))
   (chk (decide (0 <= (bH.length : Int))) (chk (decide (((oN (kt := .int .u64) (vt := .int .i64) xP (IntKind.wrap .u64 ((IntKind.wrap .u64 ((1 : Int) * 2 ^ min (Int.toNat (bH.length : Int)) 64)) - (1 : Int)))).getD (0 : Int)) = bM) && decide ((0 : Int) = bP)) (some ())))
theorem aIA (B : kT) (C : kU) (bM : Int) (bP : Int) (N : Nat) (bH : List UInt8) (dX : kF) (m : Nat) (gV : Int) (xP : List (Int × Int)) : X9 B C bM bP N (m + 1) (RP bH dX gV xP) = cond (decide (gV < (bH.length : Int))) ((YA B C bM bP N (X9 B C bM bP N m) N (RQ bH dX gV ([] : List (Int × Int)) xP)))
   (chk (decide (0 <= (bH.length : Int))) (chk (decide (((oN (kt := .int .u64) (vt := .int .i64) xP (IntKind.wrap .u64 ((IntKind.wrap .u64 ((1 : Int) * 2 ^ min (Int.toNat (bH.length : Int)) 64)) - (1 : Int)))).getD (0 : Int)) = bM) && decide ((0 : Int) = bP)) (some ()))) := by kernel_rfl
theorem ajS (B : kT) (C : kU) (bM : Int) (bP : Int) (N : Nat) (bH : List UInt8) (dX : kF) : ∀ (m : Nat) (gV : Int) (xP : List (Int × Int)), X9 B C bM bP N m (RP bH dX gV xP) = Fa B C bM bP N bH dX m gV xP
        | 0, _, _ => rfl
        | m + 1, gV, xP => by rw [aIA]; simp only [Fa, ajT, ajS B C bM bP N bH dX m]
def l29a (B : kT) (C : kU) (bM : Int) (bP : Int) (N : Nat) (bH : List UInt8) (r1 : List Int × Int) : Nat -> Int -> LL -> Option (Unit)
 | 0, _, _ => none
 | n + 1, eY, dX => cond (decide (eY < (bH.length : Int))) ((l29b B C bM bP N bH r1 eY (fun y0 y1 => (l29a B C bM bP N bH r1 n y0 y1)) N (0 : Int) dX))
   ((Fa B C bM bP N bH dX N (0 : Int) (wV (kt := .int .u64) (vt := .int .i64) ([] : List (Int × Int)) (0 : Int) (1 : Int))))
theorem aH9 (B : kT) (C : kU) (bM : Int) (bP : Int) (N : Nat) (bH : List UInt8) (r1 : List Int × Int) (m : Nat) (eY : Int) (dX : kF) : X8 B C bM bP N (m + 1) (RJ bH r1 eY dX) = cond (decide (eY < (bH.length : Int))) ((QX B C bM bP N (X8 B C bM bP N m) N (RN bH r1 eY (0 : Int) dX)))
   ((X9 B C bM bP N N (RP bH dX (0 : Int) (wV (kt := .int .u64) (vt := .int .i64) ([] : List (Int × Int)) (0 : Int) (1 : Int))))) := by kernel_rfl
theorem ajQ (B : kT) (C : kU) (bM : Int) (bP : Int) (N : Nat) (bH : List UInt8) (r1 : List Int × Int) : ∀ (m : Nat) (eY : Int) (dX : kF), X8 B C bM bP N m (RJ bH r1 eY dX) = l29a B C bM bP N bH r1 m eY dX
        | 0, _, _ => rfl
        | m + 1, eY, dX => by rw [aH9]; simp only [l29a, ajR, ajS, ajQ B C bM bP N bH r1 m]
def Hr (B : kT) (C : kU) (bM : Int) (bP : Int) (N : Nat) (o0 : lH) (bH : List UInt8) : Option (Unit) :=
   (B o0 ([bH] : List (List UInt8))).bind fun r1 =>
   cond (r1.2 != (0 : Int)) (chk (decide ((0 : Int) = bM) && decide (r1.2 = bP)) (some ()))
   ((l29a B C bM bP N bH r1 N (0 : Int) ([DJ] : LL)))
theorem aJG (B : kT) (C : kU) (bM : Int) (bP : Int) (N : Nat) (o0 : lH) (bH : List UInt8) : bK (xI B C bM bP) xX N Dk c29 (aY Tryz.f29) 99 [.dv (.pair (.int .i64) (.pair (.sl (.arr 2 (.int .i64))) (.unit))) o0, .dv (.str) bH] [] (SL bM bP) = (B o0 ([bH] : List (List UInt8))).bind fun r1 =>
   cond (r1.2 != (0 : Int)) (chk (decide ((0 : Int) = bM) && decide (r1.2 = bP)) (some ()))
   ((X8 B C bM bP N N (RJ bH r1 (0 : Int) ([DJ] : LL)))) := by kernel_rfl
theorem k29 (B : kT) (C : kU) (bM : Int) (bP : Int) (N : Nat) (o0 : lH) (bH : List UInt8) : bK (xI B C bM bP) xX N Dk c29 (aY Tryz.f29) 99 [.dv (.pair (.int .i64) (.pair (.sl (.arr 2 (.int .i64))) (.unit))) o0, .dv (.str) bH] [] (SL bM bP) = Hr B C bM bP N o0 bH := by rw [aJG]; simp only [Hr, ajQ]
theorem aBB (B : kT) (C : kU) (h21 : aF prog 21 (LQ B)) (h63 : aF prog 63 (LX C)) (a : (aN) -> (List UInt8) -> Option (Int × Int)) (h : ∀ o0 bH r, a o0 bH = some r -> ∃ N, Hr B C r.1 r.2 N o0 bH = some ()) : aF prog 29 (XH a) := by
 intro args Of r hx
 simp only [XH] at hx
 split at hx
 ·rename_i o0 bH
  obtain ⟨N, hN⟩ := h _ _ _ hx
  refine ayN (L := [(21, LQ B), (63, LX C)]) (rc := aX) (fz := aU) (tw := fun i => ([] : List (Nat × Nat)).lookup i) (fn := Tryz.f29) (by kernel_rfl) (by kernel_rfl) (by kernel_rfl) (by kernel_rfl) rfl ?_ ((k29 B C r.1 r.2 N _ _).trans hN) ?_
  ·intro p hp; simp only [List.mem_cons, List.not_mem_nil, or_false] at hp; rcases hp with rfl | rfl
   ·exact h21
   ·exact h63
  ·intro l o hd
   simp only [SL] at hd
   split at hd
   ·have hq := (IY hd).1
    simp only [bC, fH] at hq
    obtain ⟨rfl, rfl⟩ := hq
    exact ⟨rfl, rfl⟩
   ·cases hd
 ·cases hx
def amY : Env := dF TI TY [] aX aU
def ar0 : Code := dE Tryz.f177
def ay4 : Nat -> Option Norm := dN []
def atN : End := ⟨[], ⟨[6], [], [], []⟩⟩
def adQ (l : List TV) (o : List (Nat × TO)) : Option (Bool) := match l, o with | [.dv (.bool) x0], [] => some (x0) | _, _ => none
def Vw (N : Nat) (x0 : Int) : Option (Bool) :=
   some (x0 != x0)
theorem axY (N : Nat) (x0 : Int) : bK (amY) ay4 N atN ar0 (aY Tryz.f177) 5 [.dv (.int .i64) x0] [] adQ = Vw N x0 := by kernel_rfl
theorem aA7 (a : Int -> Option (Bool)) (h : ∀ x0 r, a x0 = some r -> (∃ N, Vw N x0 = some r)) : aF prog 177 (QC a) := by
 intro args Of x hx
 simp only [QC] at hx
 split at hx
 ·rename_i x0
  obtain ⟨N, hN⟩ := h _ _ hx
  refine dZ func177 (by kernel_rfl) (by kernel_rfl) rfl dY ((axY N _).trans hN) fun l o hd => ?_
  simp only [adQ] at hd
  split at hd
  ·obtain rfl := aC hd; exact ⟨rfl, rfl⟩
  ·cases hd
 ·cases hx
def amW (M : vG) : Env := dF TI TY [(177, QC M)] aX aU
def arZ : Code := dE Tryz.f174
def ay2 : Nat -> Option Norm := dN []
def atL : End := ⟨[], ⟨[17], [], [], []⟩⟩
def adO (l : List TV) (o : List (Nat × TO)) : Option (Bool) := match l, o with | [.dv (.bool) x0], [] => some (x0) | _, _ => none
def Vt (M : vG) (N : Nat) (x0 : Int) (y1 : Int) : Option (Bool) :=
   (M x0).bind fun r1 =>
   cond (r1) ((M y1).bind fun r2 =>
   cond (!r2) (some true)
   (some (decide (x0 < y1))))
   (some (decide (x0 < y1)))
theorem axW (M : vG) (N : Nat) (x0 : Int) (y1 : Int) : bK (amW M) ay2 N atL arZ (aY Tryz.f174) 15 [.dv (.int .i64) x0, .dv (.int .i64) y1] [] adO = Vt M N x0 y1 := by kernel_rfl
theorem aA5 (M : vG) (av2 : aF prog 177 (QC M)) (a : Int -> Int -> Option (Bool)) (h : ∀ x0 y1 r, a x0 y1 = some r -> (∃ N, Vt M N x0 y1 = some r)) : aF prog 174 (QA a) := by
 intro args Of x hx
 simp only [QA] at hx
 split at hx
 ·rename_i x0 y1
  obtain ⟨N, hN⟩ := h _ _ _ hx
  refine dZ func174 (by kernel_rfl) (by kernel_rfl) rfl (dK av2 dY) ((axW M N _ _).trans hN) fun l o hd => ?_
  simp only [adO] at hd
  split at hd
  ·obtain rfl := aC hd; exact ⟨rfl, rfl⟩
  ·cases hd
 ·cases hx
def amX : Env := dF TI TY [] aX aU
def c175 : Code := dE Tryz.f175
def ay3 : Nat -> Option Norm := dN []
def atM : End := ⟨[], ⟨[6], [], [], []⟩⟩
def adP (l : List TV) (o : List (Nat × TO)) : Option (Bool) := match l, o with | [.dv (.bool) x0], [] => some (x0) | _, _ => none
def Vu (N : Nat) (x0 : Int) : Option (Bool) :=
   some (x0 != x0)
theorem axX (N : Nat) (x0 : Int) : bK (amX) ay3 N atM c175 (aY Tryz.f175) 5 [.dv (.int .i64) x0] [] adP = Vu N x0 := by kernel_rfl
theorem aA6 (a : Int -> Option (Bool)) (h : ∀ x0 r, a x0 = some r -> (∃ N, Vu N x0 = some r)) : aF prog 175 (QB a) := by
 intro args Of x hx
 simp only [QB] at hx
 split at hx
 ·rename_i x0
  obtain ⟨N, hN⟩ := h _ _ hx
  refine dZ func175 (by kernel_rfl) (by kernel_rfl) rfl dY ((axX N _).trans hN) fun l o hd => ?_
  simp only [adP] at hd
  split at hd
  ·obtain rfl := aC hd; exact ⟨rfl, rfl⟩
  ·cases hd
 ·cases hx
def WN (J : BF) (G : vG) : Env := dF TI TY [(174, QA J), (175, QB G)] aX aU
def Z7 : Code := dE Tryz.f169
def ag' : Norm := ⟨[0, 1, 6, 7, 8], [], [], []⟩
def Gi : Nat -> Option Norm := dN [(3, ag')]
def Qa : End := ⟨[], ⟨[54, 55], [], [], []⟩⟩
def Be (l : List TV) (o : List (Nat × TO)) : Option (Int × Bool) := match l, o with | [.dv (.int .i64) x0, .dv (.bool) x1], [] => some (x0, x1) | _, _ => none
def RD (x0 : List Int) (jO : Int) (gG : Int) (pF : Int) : TS := ⟨slots 54 [(0, .dv (.sl (.int .i64)) x0), (1, .dv (.int .i64) jO), (6, .dv (.int .i64) (x0.length : Int)), (7, .dv (.int .i64) gG), (8, .dv (.int .i64) pF)], []⟩
def aoW (J : BF) (G : vG) (N : Nat) : dD (Int × Bool) := eH (WN J G) Gi N Z7 [1, 1, 1, 0, 0] (fin TI Qa (aY Tryz.f169) Be)
def QU (J : BF) (G : vG) (N : Nat) (m : Nat) : TS -> Option (Int × Bool) := dW (den (WN J G) Gi N (sub Z7 [1, 1, 1, 0, 0, 0])) (TS.norm ag') (aoW J G N) m
def UK (J : BF) (G : vG) (N : Nat) (x0 : List Int) (jO : Int) : Nat -> Int -> Int -> Option (Int × Bool)
 | 0, _, _ => none
 | n + 1, gG, pF => cond (decide (gG < pF)) (chk (decide (0 <= aB (Int.fdiv (IntKind.wrap .u64 (aB (gG + pF))) (2 ^ min (Int.toNat 1) 64)) /\ aB (Int.fdiv (IntKind.wrap .u64 (aB (gG + pF))) (2 ^ min (Int.toNat 1) 64)) < (x0.length : Int))) ((J (x0.getD ((aB (Int.fdiv (IntKind.wrap .u64 (aB (gG + pF))) (2 ^ min (Int.toNat 1) 64))).toNat) (0 : Int)) jO).bind fun r1 =>
   cond (r1) ((UK J G N x0 jO n (aB ((aB (Int.fdiv (IntKind.wrap .u64 (aB (gG + pF))) (2 ^ min (Int.toNat 1) 64))) + 1)) pF))
   ((UK J G N x0 jO n gG (aB (Int.fdiv (IntKind.wrap .u64 (aB (gG + pF))) (2 ^ min (Int.toNat 1) 64)))))))
   (cond (decide (gG < (x0.length : Int))) (chk (decide (0 <= gG /\ gG < (x0.length : Int))) (cond ((x0.getD gG.toNat 0) == jO) (some (gG, true))
   (chk (decide (0 <= gG /\ gG < (x0.length : Int))) ((G (x0.getD gG.toNat 0)).bind fun r2 =>
   cond (r2) ((G jO).bind fun r3 =>
   some (gG, r3))
   (some (gG, false))))))
   (some (gG, false)))
theorem aHX (J : BF) (G : vG) (N : Nat) (x0 : List Int) (jO : Int) (m : Nat) (gG : Int) (pF : Int) : QU J G N (m + 1) (RD x0 jO gG pF) = cond (decide (gG < pF)) (chk (decide (0 <= aB (Int.fdiv (IntKind.wrap .u64 (aB (gG + pF))) (2 ^ min (Int.toNat 1) 64)) /\ aB (Int.fdiv (IntKind.wrap .u64 (aB (gG + pF))) (2 ^ min (Int.toNat 1) 64)) < (x0.length : Int))) ((J (x0.getD ((aB (Int.fdiv (IntKind.wrap .u64 (aB (gG + pF))) (2 ^ min (Int.toNat 1) 64))).toNat) (0 : Int)) jO).bind fun r1 =>
   cond (r1) ((QU J G N m (RD x0 jO (aB ((aB (Int.fdiv (IntKind.wrap .u64 (aB (gG + pF))) (2 ^ min (Int.toNat 1) 64))) + 1)) pF)))
   ((QU J G N m (RD x0 jO gG (aB (Int.fdiv (IntKind.wrap .u64 (aB (gG + pF))) (2 ^ min (Int.toNat 1) 64))))))))
   (cond (decide (gG < (x0.length : Int))) (chk (decide (0 <= gG /\ gG < (x0.length : Int))) (cond ((x0.getD gG.toNat 0) == jO) (some (gG, true))
   (chk (decide (0 <= gG /\ gG < (x0.length : Int))) ((G (x0.getD gG.toNat 0)).bind fun r2 =>
   cond (r2) ((G jO).bind fun r3 =>
   some (gG, r3))
   (some (gG, false))))))
   (some (gG, false))) := by kernel_rfl
theorem ajF (J : BF) (G : vG) (N : Nat) (x0 : List Int) (jO : Int) : ∀ (m : Nat) (gG : Int) (pF : Int), QU J G N m (RD x0 jO gG pF) = UK J G N x0 jO m gG pF
        | 0, _, _ => rfl
        | m + 1, gG, pF => by rw [aHX]; simp only [UK, ajF J G N x0 jO m]
def Hq (J : BF) (G : vG) (N : Nat) (x0 : List Int) (jO : Int) : Option (Int × Bool) :=
   (UK J G N x0 jO N (0 : Int) (x0.length : Int))
theorem aJB (J : BF) (G : vG) (N : Nat) (x0 : List Int) (jO : Int) : bK (WN J G) Gi N Qa Z7 (aY Tryz.f169) 52 [.dv (.sl (.int .i64)) x0, .dv (.int .i64) jO] [] Be = (QU J G N N (RD x0 jO (0 : Int) (x0.length : Int))) := by kernel_rfl
theorem axV (J : BF) (G : vG) (N : Nat) (x0 : List Int) (jO : Int) : bK (WN J G) Gi N Qa Z7 (aY Tryz.f169) 52 [.dv (.sl (.int .i64)) x0, .dv (.int .i64) jO] [] Be = Hq J G N x0 jO := by rw [aJB]; simp only [Hq, ajF]
theorem aA3 (J : BF) (G : vG) (avZ : aF prog 174 (QA J)) (av1 : aF prog 175 (QB G)) (a : (List Int) -> Int -> Option (Int × Bool)) (h : ∀ x0 jO r, a x0 jO = some r -> (∃ N, Hq J G N x0 jO = some r)) : aF prog 169 (P8 a) := by
 intro args Of x hx
 simp only [P8] at hx
 split at hx
 ·rename_i x0 jO
  obtain ⟨N, hN⟩ := h _ _ _ hx
  refine dZ func169 (by kernel_rfl) (by kernel_rfl) rfl (dK avZ (dK av1 dY)) ((axV J G N _ _).trans hN) fun l o hd => ?_
  simp only [Be] at hd
  split at hd
  ·obtain rfl := aC hd; exact ⟨rfl, rfl⟩
  ·cases hd
 ·cases hx
def WM (K : BG) : Env := dF TI TY [(169, P8 K)] aX aU
def Z5 : Code := dE Tryz.f166
def ag9 : Norm := ⟨[0, 1, 4, 6], [4], [], []⟩
def Gh : Nat -> Option Norm := dN [(2, ag9)]
def Pz : End := ⟨[(35, .arr 2 (.int .i64))], ⟨[35, 36], [], [], []⟩⟩
def Bd (l : List TV) (o : List (Nat × TO)) : Option (List Int × Bool) := match l, o with | [.dv (.arr 2 (.int .i64)) x0, .dv (.bool) x1], [] => some (x0, x1) | _, _ => none
def YZ (iR : List Int) (n1 : Int) (mJ : Int) : TS := ⟨slots 35 [(0, .dv (.sl (.int .i64)) iR), (1, .dv (.int .i64) n1), (4, .ptr 4 0 []), (6, .dv (.int .i64) mJ)], [(4, .row (.arr 2 (.int .i64)) ([dJ] : LL))]⟩
def aoU (K : BG) (N : Nat) : dD (List Int × Bool) := eH (WM K) Gh N Z5 [1, 0, 1, 0] (fin TI Pz (aY Tryz.f166) Bd)
def X0 (K : BG) (N : Nat) (m : Nat) : TS -> Option (List Int × Bool) := dW (den (WM K) Gh N (sub Z5 [1, 0, 1, 0, 0])) (TS.norm ag9) (aoU K N) m
def Es (K : BG) (N : Nat) (iR : List Int) (n1 : Int) : Nat -> Int -> Option (List Int × Bool)
 | 0, _ => none
 | n + 1, mJ => cond (decide (mJ >= (0 : Int))) (chk (decide (0 <= aB (mJ + 1) /\ aB (mJ + 1) <= (iR.length : Int))) (chk (decide (0 <= mJ /\ mJ < (iR.length : Int))) ((K (iR.take ((aB (mJ + 1)).toNat)) (aB (n1 - (iR.getD mJ.toNat 0)))).bind fun r1 =>
   cond (r1.2) (some (([mJ, r1.1] : List Int), true))
   ((Es K N iR n1 n (aB (mJ - (1 : Int))))))))
   (some (dJ, false))
theorem aHW (K : BG) (N : Nat) (iR : List Int) (n1 : Int) (m : Nat) (mJ : Int) : X0 K N (m + 1) (YZ iR n1 mJ) = cond (decide (mJ >= (0 : Int))) (chk (decide (0 <= aB (mJ + 1) /\ aB (mJ + 1) <= (iR.length : Int))) (chk (decide (0 <= mJ /\ mJ < (iR.length : Int))) ((K (iR.take ((aB (mJ + 1)).toNat)) (aB (n1 - (iR.getD mJ.toNat 0)))).bind fun r1 =>
   cond (r1.2) (some (([mJ, r1.1] : List Int), true))
   ((X0 K N m (YZ iR n1 (aB (mJ - (1 : Int)))))))))
   (some (dJ, false)) := by kernel_rfl
theorem ajE (K : BG) (N : Nat) (iR : List Int) (n1 : Int) : ∀ (m : Nat) (mJ : Int), X0 K N m (YZ iR n1 mJ) = Es K N iR n1 m mJ
        | 0, _ => rfl
        | m + 1, mJ => by rw [aHW]; simp only [Es, ajE K N iR n1 m]
def Ho (K : BG) (N : Nat) (iR : List Int) (n1 : Int) : Option (List Int × Bool) :=
   (Es K N iR n1 N (aB ((iR.length : Int) - (1 : Int))))
theorem aJA (K : BG) (N : Nat) (iR : List Int) (n1 : Int) : bK (WM K) Gh N Pz Z5 (aY Tryz.f166) 33 [.dv (.sl (.int .i64)) iR, .dv (.int .i64) n1] [] Bd = (X0 K N N (YZ iR n1 (aB ((iR.length : Int) - (1 : Int))))) := by kernel_rfl
theorem axU (K : BG) (N : Nat) (iR : List Int) (n1 : Int) : bK (WM K) Gh N Pz Z5 (aY Tryz.f166) 33 [.dv (.sl (.int .i64)) iR, .dv (.int .i64) n1] [] Bd = Ho K N iR n1 := by rw [aJA]; simp only [Ho, ajE]
theorem aA2 (K : BG) (avY : aF prog 169 (P8 K)) (a : (List Int) -> Int -> Option (List Int × Bool)) (h : ∀ iR n1 r, a iR n1 = some r -> (∃ N, Ho K N iR n1 = some r)) : aF prog 166 (XG a) := by
 intro args Of x hx
 simp only [XG] at hx
 split at hx
 ·rename_i iR n1
  obtain ⟨N, hN⟩ := h _ _ _ hx
  refine dZ func166 (by kernel_rfl) (by kernel_rfl) rfl (dK avY dY) ((axU K N _ _).trans hN) fun l o hd => ?_
  simp only [Bd] at hd
  split at hd
  ·obtain rfl := aC hd; exact ⟨rfl, rfl⟩
  ·cases hd
 ·cases hx
def WX : Env := dF TI TY [] aX aU
def Ae : Code := dE Tryz.f74
def ahW : Norm := ⟨[0, 1, 7, 8], [], [], []⟩
def Gu : Nat -> Option Norm := dN [(2, ahW)]
def Qm : End := ⟨[], ⟨[19], [], [], []⟩⟩
def Cb (l : List TV) (o : List (Nat × TO)) : Option (Int) := match l, o with | [.dv (.int .i64) x0], [] => some (x0) | _, _ => none
def ZA (s0 : List Int) (v1 : Int) (bG : Int) : TS := ⟨slots 19 [(0, .dv (.sl (.int .i64)) s0), (1, .dv (.int .i64) v1), (7, .dv (.int .i64) (s0.length : Int)), (8, .dv (.int .i64) bG)], []⟩
def apO (N : Nat) : dD (Int) := eH (WX) Gu N Ae [1, 0, 1, 0] (fin TI Qm (aY Tryz.f74) Cb)
def YK (N : Nat) (m : Nat) : TS -> Option (Int) := dW (den (WX) Gu N (sub Ae [1, 0, 1, 0, 0])) (TS.norm ahW) (apO N) m
def JL (N : Nat) (s0 : List Int) (v1 : Int) : Nat -> Int -> Option (Int)
 | 0, _ => none
 | n + 1, bG => cond (decide (bG < (s0.length : Int))) (chk (decide (0 <= bG /\ bG < (s0.length : Int))) (cond (v1 == (s0.getD bG.toNat 0)) (some bG)
   ((JL N s0 v1 n (aB (bG + 1))))))
   (some (-1 : Int))
theorem aIU (N : Nat) (s0 : List Int) (v1 : Int) (m : Nat) (bG : Int) : YK N (m + 1) (ZA s0 v1 bG) = cond (decide (bG < (s0.length : Int))) (chk (decide (0 <= bG /\ bG < (s0.length : Int))) (cond (v1 == (s0.getD bG.toNat 0)) (some bG)
   ((YK N m (ZA s0 v1 (aB (bG + 1)))))))
   (some (-1 : Int)) := by kernel_rfl
theorem akD (N : Nat) (s0 : List Int) (v1 : Int) : ∀ (m : Nat) (bG : Int), YK N m (ZA s0 v1 bG) = JL N s0 v1 m bG
        | 0, _ => rfl
        | m + 1, bG => by rw [aIU]; simp only [JL, akD N s0 v1 m]
def UO (N : Nat) (s0 : List Int) (v1 : Int) : Option (Int) :=
   (JL N s0 v1 N (0 : Int))
theorem aJP (N : Nat) (s0 : List Int) (v1 : Int) : bK (WX) Gu N Qm Ae (aY Tryz.f74) 17 [.dv (.sl (.int .i64)) s0, .dv (.int .i64) v1] [] Cb = (YK N N (ZA s0 v1 (0 : Int))) := by kernel_rfl
theorem k74 (N : Nat) (s0 : List Int) (v1 : Int) : bK (WX) Gu N Qm Ae (aY Tryz.f74) 17 [.dv (.sl (.int .i64)) s0, .dv (.int .i64) v1] [] Cb = UO N s0 v1 := by rw [aJP]; simp only [UO, akD]
theorem aiL (a : (List Int) -> Int -> Option (Int)) (h : ∀ s0 v1 r, a s0 v1 = some r -> (∃ N, UO N s0 v1 = some r)) : aF prog 74 (L6 a) := by
 intro args Of x hx
 simp only [L6] at hx
 split at hx
 ·rename_i s0 v1
  obtain ⟨N, hN⟩ := h _ _ _ hx
  refine dZ func74 (by kernel_rfl) (by kernel_rfl) rfl dY ((k74 N _ _).trans hN) fun l o hd => ?_
  simp only [Cb] at hd
  split at hd
  ·obtain rfl := aC hd; exact ⟨rfl, rfl⟩
  ·cases hd
 ·cases hx
def E41 (Q : (List Int) -> Int -> Option (Int)) : Env := dF TI TY [(74, L6 Q)] aX aU
def c41 : Code := dE Tryz.f41
def azA : Nat -> Option Norm := dN []
def atV : End := ⟨[], ⟨[9], [], [], []⟩⟩
def adX (l : List TV) (o : List (Nat × TO)) : Option (Bool) := match l, o with | [.dv (.bool) x0], [] => some (x0) | _, _ => none
def Ia (Q : (List Int) -> Int -> Option (Int)) (N : Nat) (s0 : List Int) (v1 : Int) : Option (Bool) :=
   (Q s0 v1).bind fun r1 =>
   some (decide (r1 >= (0 : Int)))
theorem k41 (Q : (List Int) -> Int -> Option (Int)) (N : Nat) (s0 : List Int) (v1 : Int) : bK (E41 Q) azA N atV c41 (aY Tryz.f41) 7 [.dv (.sl (.int .i64)) s0, .dv (.int .i64) v1] [] adX = Ia Q N s0 v1 := by kernel_rfl
theorem aiJ (Q : (List Int) -> Int -> Option (Int)) (h74 : aF prog 74 (L6 Q)) (a : (List Int) -> Int -> Option (Bool)) (h : ∀ s0 v1 r, a s0 v1 = some r -> (∃ N, Ia Q N s0 v1 = some r)) : aF prog 41 (yO a) := by
 intro args Of x hx
 simp only [yO] at hx
 split at hx
 ·rename_i s0 v1
  obtain ⟨N, hN⟩ := h _ _ _ hx
  refine dZ func41 (by kernel_rfl) (by kernel_rfl) rfl (dK h74 dY) ((k41 Q N _ _).trans hN) fun l o hd => ?_
  simp only [adX] at hd
  split at hd
  ·obtain rfl := aC hd; exact ⟨rfl, rfl⟩
  ·cases hd
 ·cases hx
def E43 : Env := dF TI TY [] aX aU
def c43 : Code := dE Tryz.f43
def azC : Nat -> Option Norm := dN []
def atX : End := ⟨[(8, .fJ (.int .i64))], ⟨[8], [], [], []⟩⟩
def adZ (l : List TV) (o : List (Nat × TO)) : Option (Option (List Int)) := match l, o with | [.dv (.fJ (.int .i64)) x0], [] => some (x0) | _, _ => none
def UN (N : Nat) (s0 : Option (List Int)) : Option (Option (List Int)) :=
   cond (s0.isNone) (some (none : Option (List Int)))
   (chk (small (0 + (s0.getD []).length) 8) (chk ((decide (0 < (([] : List Int) ++ (s0.getD [])).length)) && (true)) (some (some (([] : List Int) ++ (s0.getD []))))))
theorem k43 (N : Nat) (s0 : Option (List Int)) : bK (E43) azC N atX c43 (aY Tryz.f43) 7 [.dv (.fJ (.int .i64)) s0] [] adZ = UN N s0 := by kernel_rfl
theorem aiK (a : (Option (List Int)) -> Option (Option (List Int))) (h : ∀ s0 r, a s0 = some r -> (∃ N, UN N s0 = some r)) : aF prog 43 (yP a) := by
 intro args Of x hx
 simp only [yP] at hx
 split at hx
 ·rename_i s0
  obtain ⟨N, hN⟩ := h _ _ hx
  refine dZ func43 (by kernel_rfl) (by kernel_rfl) rfl dY ((k43 N _).trans hN) fun l o hd => ?_
  simp only [adZ] at hd
  split at hd
  ·obtain rfl := aC hd; exact ⟨rfl, rfl⟩
  ·cases hd
 ·cases hx
end
end Go.Proofs.YtfopcfnggdonkaaGreatDoor
