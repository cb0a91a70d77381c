/-
 The functions that the law reaches, told as plain functions.
-/
import Derived.Test.YtfopcfnggdonkaaGreatDoorWCM
namespace Go.Proofs.YtfopcfnggdonkaaGreatDoor
open Go.Proofs.Tryz
open Go.RowKit
set_option linter.unusedVariables false
noncomputable section
abbrev oK := ((0 : Int), ((0 : Int), (false, ((false, ((0 : Int), ())), ()))))
abbrev lJ : List (Int × Int × Bool × (Bool × Int × Unit) × Unit) := [oK, oK, oK, oK, oK, oK, oK, oK, oK, oK, oK, oK, oK]
abbrev nT : List (List (Int × Int × Bool × (Bool × Int × Unit) × Unit)) := [lJ, lJ, lJ, lJ, lJ, lJ, lJ, lJ, lJ, lJ, lJ, lJ, lJ]
abbrev qQ : DT := .sl (.pair (.int .i64) (.pair (.int .i64) (.pair (.int .i64) (.unit))))
abbrev fE := Int × Int × Int × Unit
abbrev rQ := List (List (Int × Int × Bool × (Bool × Int × Unit) × Unit))
abbrev DX : DT := .pair (.int .i64) (.pair (.int .i64) (.pair (.bool) (.pair (.pair (.bool) (.pair (.int .i64) (.unit))) (.unit))))
abbrev EZ := Int -> Int -> Int -> Option (Bool)
abbrev AL := (Int × Int × Int × Unit) -> Option (Bool)
abbrev E5 := (List (Int × Int × Int × Unit)) -> Option (Int)
abbrev WG := (List (Int × Int × Int × Unit)) -> Option (Bool)
abbrev WH := (Int × Int × Bool × (Bool × Int × Unit) × Unit) -> (Int × Int × Bool × (Bool × Int × Unit) × Unit) -> Option (Bool)
abbrev mZ := Int -> Int -> (List (Int × Int × Int × Unit)) -> Option (Int × Bool)
abbrev nC := (Int × Int × Bool × (Bool × Int × Unit) × Unit) -> (Int × Int × Bool × (Bool × Int × Unit) × Unit) -> (Bool × Int × Unit) -> Nat -> Nat -> (List (List (List (Int × Int × Bool × (Bool × Int × Unit) × Unit)))) -> Option (Nat × Nat × List (List (List (Int × Int × Bool × (Bool × Int × Unit) × Unit))))
abbrev xH := List (List (List (Int × Int × Bool × (Bool × Int × Unit) × Unit)))
abbrev pU := TS -> Option (List (List (List (Int × Int × Bool × (Bool × Int × Unit) × Unit))))
abbrev Lr := Int -> (List (List (List (Int × Int × Bool × (Bool × Int × Unit) × Unit)))) -> Option (List (List (List (Int × Int × Bool × (Bool × Int × Unit) × Unit))))
abbrev WC := Int -> Int -> (List (Int × Int × Int × Unit)) -> Option (Int)
abbrev WE := Int -> Int -> (List (Int × Int × Int × Unit)) -> Option (List (List (List (Int × Int × Bool × (Bool × Int × Unit) × Unit))))
def amO : Env := dF TI TY [] aX aU
def arU : Code := dE Tryz.f120
def ayT : Nat -> Option Norm := dN []
def atC : End := ⟨[], ⟨[15], [], [], []⟩⟩
def adF (l : List TV) (o : List (Nat × TO)) : Option (Bool) := match l, o with | [.dv (.bool) x0], [] => some (x0) | _, _ => none
def Vk (N : Nat) (dR : Int) (n1 : Int) (hi2 : Int) : Option (Bool) :=
   cond (decide (dR <= n1)) (some (decide (n1 <= hi2)))
   (some false)
theorem axK (N : Nat) (dR : Int) (n1 : Int) (hi2 : Int) : bK (amO) ayT N atC arU (aY Tryz.f120) 12 [.dv (.int .i64) dR, .dv (.int .i64) n1, .dv (.int .i64) hi2] [] adF = Vk N dR n1 hi2 := by kernel_rfl
theorem aAQ (a : Int -> Int -> Int -> Option (Bool)) (h : ∀ dR n1 hi2 r, a dR n1 hi2 = some r -> (∃ N, Vk N dR n1 hi2 = some r)) : aF prog 120 (G9 a) := by
 intro args Of x hx
 simp only [G9] at hx
 split at hx
 ·rename_i dR n1 hi2
  obtain ⟨N, hN⟩ := h _ _ _ _ hx
  refine dZ func120 (by kernel_rfl) (by kernel_rfl) rfl dY ((axK N _ _ _).trans hN) fun l o hd => ?_
  simp only [adF] at hd
  split at hd
  ·obtain rfl := aC hd; exact ⟨rfl, rfl⟩
  ·cases hd
 ·cases hx
def amU (G : EZ) : Env := dF TI TY [(120, G9 G)] aX aU
def arY : Code := dE Tryz.f132
def ayZ : Nat -> Option Norm := dN []
def atI : End := ⟨[], ⟨[19], [], [], []⟩⟩
def adL (l : List TV) (o : List (Nat × TO)) : Option (Bool) := match l, o with | [.dv (.bool) x0], [] => some (x0) | _, _ => none
def Vr (G : EZ) (N : Nat) (uQ : Int × Int × Int × Unit) : Option (Bool) :=
   (G (1 : Int) uQ.1 (12 : Int)).bind fun r1 =>
   cond (!r1) (some true)
   ((G (1 : Int) uQ.2.1 (12 : Int)).bind fun r2 =>
   cond (!r2) (some true)
   ((G (0 : Int) uQ.2.2.1 (1000 : Int)).bind fun r3 =>
   some (!r3)))
theorem axR (G : EZ) (N : Nat) (uQ : Int × Int × Int × Unit) : bK (amU G) ayZ N atI arY (aY Tryz.f132) 18 [.dv (.pair (.int .i64) (.pair (.int .i64) (.pair (.int .i64) (.unit)))) uQ] [] adL = Vr G N uQ := by kernel_rfl
theorem aAX (G : EZ) (Rz : aF prog 120 (G9 G)) (a : fE -> Option (Bool)) (h : ∀ uQ r, a uQ = some r -> (∃ N, Vr G N uQ = some r)) : aF prog 132 (LM a) := by
 intro args Of x hx
 simp only [LM] at hx
 split at hx
 ·rename_i uQ
  obtain ⟨N, hN⟩ := h _ _ hx
  refine dZ func132 (by kernel_rfl) (by kernel_rfl) rfl (dK Rz dY) ((axR G N _).trans hN) fun l o hd => ?_
  simp only [adL] at hd
  split at hd
  ·obtain rfl := aC hd; exact ⟨rfl, rfl⟩
  ·cases hd
 ·cases hx
def WL (D : AL) : Env := dF TI TY [(132, LM D)] aX aU
def Z4 : Code := dE Tryz.f145
def ag7 : Norm := ⟨[0, 1, 7, 8], [], [], []⟩
def Gg : Nat -> Option Norm := dN [(2, ag7)]
def Pv : End := ⟨[], ⟨[19], [], [], []⟩⟩
def Az (l : List TV) (o : List (Nat × TO)) : Option (Int) := match l, o with | [.dv (.int .i64) x0], [] => some (x0) | _, _ => none
def YX (s0 : List fE) (bG : Int) : TS := ⟨slots 19 [(0, .dv qQ s0), (1, .fn 132 0 0 fun i => ([] : List TV).getD i .any), (7, .dv (.int .i64) (s0.length : Int)), (8, .dv (.int .i64) bG)], []⟩
def aoR (D : AL) (N : Nat) : dD (Int) := eH (WL D) Gg N Z4 [1, 0, 1, 0] (fin TI Pv (aY Tryz.f145) Az)
def XX (D : AL) (N : Nat) (m : Nat) : TS -> Option (Int) := dW (den (WL D) Gg N (sub Z4 [1, 0, 1, 0, 0])) (TS.norm ag7) (aoR D N) m
def Ep (D : AL) (N : Nat) (s0 : List fE) : Nat -> Int -> Option (Int)
 | 0, _ => none
 | n + 1, bG => cond (decide (bG < (s0.length : Int))) (chk (decide (0 <= bG /\ bG < (s0.length : Int))) ((D (s0.getD bG.toNat ((0 : Int), ((0 : Int), ((0 : Int), ()))))).bind fun r1 =>
   cond (r1) (some bG)
   ((Ep D N s0 n (aB (bG + 1))))))
   (some (-1 : Int))
theorem aHT (D : AL) (N : Nat) (s0 : List fE) (m : Nat) (bG : Int) : XX D N (m + 1) (YX s0 bG) = cond (decide (bG < (s0.length : Int))) (chk (decide (0 <= bG /\ bG < (s0.length : Int))) ((D (s0.getD bG.toNat ((0 : Int), ((0 : Int), ((0 : Int), ()))))).bind fun r1 =>
   cond (r1) (some bG)
   ((XX D N m (YX s0 (aB (bG + 1)))))))
   (some (-1 : Int)) := by kernel_rfl
theorem ajB (D : AL) (N : Nat) (s0 : List fE) : ∀ (m : Nat) (bG : Int), XX D N m (YX s0 bG) = Ep D N s0 m bG
        | 0, _ => rfl
        | m + 1, bG => by rw [aHT]; simp only [Ep, ajB D N s0 m]
def Hm (D : AL) (N : Nat) (s0 : List fE) : Option (Int) :=
   (Ep D N s0 N (0 : Int))
theorem aI8 (D : AL) (N : Nat) (s0 : List fE) : bK (WL D) Gg N Pv Z4 (aY Tryz.f145) 17 [.dv qQ s0, .fn 132 0 0 fun i => ([] : List TV).getD i .any] [] Az = (XX D N N (YX s0 (0 : Int))) := by kernel_rfl
theorem axT (D : AL) (N : Nat) (s0 : List fE) : bK (WL D) Gg N Pv Z4 (aY Tryz.f145) 17 [.dv qQ s0, .fn 132 0 0 fun i => ([] : List TV).getD i .any] [] Az = Hm D N s0 := by rw [aI8]; simp only [Hm, ajB]
theorem aA0 (D : AL) (avU : aF prog 132 (LM D)) (a : (List fE) -> Option (Int)) (h : ∀ s0 r, a s0 = some r -> (∃ N, Hm D N s0 = some r)) : aF prog 145 (LP a) := by
 intro args Of x hx
 simp only [LP] at hx
 split at hx
 ·rename_i s0 FP rX
  have hc0 := congrArg (fun c : List (List TV) => c.getD 0 []) rX
  obtain ⟨N, hN⟩ := h _ _ hx
  refine iQ.D5 (args := [.dv qQ s0, .fn 132 0 0 fun i => ([] : List TV).getD i .any]) (O := []) ⟨TV.nP _, TV.zN hc0, trivial⟩ trivial (lifted (L := [(132, LM D)]) (rc := aX) (fz := aU) (fn := Tryz.f145) (by kernel_rfl) (by kernel_rfl) (by kernel_rfl) (by kernel_rfl) rfl ?_ ((axT D N _).trans hN) ?_)
  ·intro p hp; simp only [List.mem_cons, List.not_mem_nil, or_false] at hp; rcases hp with rfl; exact avU
  ·intro l o hd
   simp only [Az] at hd
   split at hd
   ·obtain rfl := aC hd; exact ⟨rfl, rfl⟩
   ·cases hd
 ·cases hx
def amT (H : E5) : Env := dF TI TY [(145, LP H)] aX aU
def arX : Code := dE Tryz.f131
def ayY : Nat -> Option Norm := dN []
def atH : End := ⟨[], ⟨[9], [], [], []⟩⟩
def adK (l : List TV) (o : List (Nat × TO)) : Option (Bool) := match l, o with | [.dv (.bool) x0], [] => some (x0) | _, _ => none
def Vq (H : E5) (N : Nat) (s0 : List fE) : Option (Bool) :=
   (H s0).bind fun r1 =>
   some (decide (r1 >= (0 : Int)))
theorem axQ (H : E5) (N : Nat) (s0 : List fE) : bK (amT H) ayY N atH arX (aY Tryz.f131) 7 [.dv qQ s0, .fn 132 0 0 fun i => ([] : List TV).getD i .any] [] adK = Vq H N s0 := by kernel_rfl
theorem aAW (H : E5) (avX : aF prog 145 (LP H)) (a : (List fE) -> Option (Bool)) (h : ∀ s0 r, a s0 = some r -> (∃ N, Vq H N s0 = some r)) : aF prog 131 (PZ a) := by
 intro args Of x hx
 simp only [PZ] at hx
 split at hx
 ·rename_i s0 FP rX
  have hc0 := congrArg (fun c : List (List TV) => c.getD 0 []) rX
  obtain ⟨N, hN⟩ := h _ _ hx
  refine iQ.D5 (args := [.dv qQ s0, .fn 132 0 0 fun i => ([] : List TV).getD i .any]) (O := []) ⟨TV.nP _, TV.zN hc0, trivial⟩ trivial (lifted (L := [(145, LP H)]) (rc := aX) (fz := aU) (fn := Tryz.f131) (by kernel_rfl) (by kernel_rfl) (by kernel_rfl) (by kernel_rfl) rfl ?_ ((axQ H N _).trans hN) ?_)
  ·intro p hp; simp only [List.mem_cons, List.not_mem_nil, or_false] at hp; rcases hp with rfl; exact avX
  ·intro l o hd
   simp only [adK] at hd
   split at hd
   ·obtain rfl := aC hd; exact ⟨rfl, rfl⟩
   ·cases hd
 ·cases hx
def amP (J : WG) : Env := dF TI TY [(131, PZ J)] aX aU
def arV : Code := dE Tryz.f121
def ayU : Nat -> Option Norm := dN []
def atD : End := ⟨[], ⟨[14], [], [], []⟩⟩
def adG (l : List TV) (o : List (Nat × TO)) : Option (Int) := match l, o with | [.dv (.int .i64) x0], [] => some (x0) | _, _ => none
def Vl (J : WG) (N : Nat) (uP : List fE) : Option (Int) :=
   cond ((uP.length : Int) == (0 : Int)) (some (1 : Int))
   (cond (decide ((uP.length : Int) > (6 : Int))) (some (2 : Int))
   ((J uP).bind fun r1 =>
   cond (r1) (some (3 : Int))
   (some (0 : Int))))
theorem axL (J : WG) (N : Nat) (uP : List fE) : bK (amP J) ayU N atD arV (aY Tryz.f121) 13 [.dv qQ uP] [] adG = Vl J N uP := by kernel_rfl
theorem aAR (J : WG) (avT : aF prog 131 (PZ J)) (a : (List fE) -> Option (Int)) (h : ∀ uP r, a uP = some r -> (∃ N, Vl J N uP = some r)) : aF prog 121 (PU a) := by
 intro args Of x hx
 simp only [PU] at hx
 split at hx
 ·rename_i uP
  obtain ⟨N, hN⟩ := h _ _ hx
  refine dZ func121 (by kernel_rfl) (by kernel_rfl) rfl (dK avT dY) ((axL J N _).trans hN) fun l o hd => ?_
  simp only [adG] at hd
  split at hd
  ·obtain rfl := aC hd; exact ⟨rfl, rfl⟩
  ·cases hd
 ·cases hx
def amM (G : EZ) (K : E5) : Env := dF TI TY [(120, G9 G), (121, PU K)] aX aU
def arS : Code := dE Tryz.f108
def ayR : Nat -> Option Norm := dN []
def atA : End := ⟨[], ⟨[17], [], [], []⟩⟩
def adD (l : List TV) (o : List (Nat × TO)) : Option (Int) := match l, o with | [.dv (.int .i64) x0], [] => some (x0) | _, _ => none
def Vh (G : EZ) (K : E5) (N : Nat) (aT : Int) (hx1 : Int) (aZ : List fE) : Option (Int) :=
   (G (1 : Int) aT (12 : Int)).bind fun r1 =>
   cond (!r1) (some (3 : Int))
   ((G (1 : Int) hx1 (12 : Int)).bind fun r2 =>
   cond (!r2) (some (3 : Int))
   ((K aZ).bind fun r3 =>
   some r3))
theorem axH (G : EZ) (K : E5) (N : Nat) (aT : Int) (hx1 : Int) (aZ : List fE) : bK (amM G K) ayR N atA arS (aY Tryz.f108) 14 [.dv (.int .i64) aT, .dv (.int .i64) hx1, .dv qQ aZ] [] adD = Vh G K N aT hx1 aZ := by kernel_rfl
theorem aAN (G : EZ) (K : E5) (Rz : aF prog 120 (G9 G)) (avP : aF prog 121 (PU K)) (a : Int -> Int -> (List fE) -> Option (Int)) (h : ∀ aT hx1 aZ r, a aT hx1 aZ = some r -> (∃ N, Vh G K N aT hx1 aZ = some r)) : aF prog 108 (PS a) := by
 intro args Of x hx
 simp only [PS] at hx
 split at hx
 ·rename_i aT hx1 aZ
  obtain ⟨N, hN⟩ := h _ _ _ _ hx
  refine dZ func108 (by kernel_rfl) (by kernel_rfl) rfl (dK Rz (dK avP dY)) ((axH G K N _ _ _).trans hN) fun l o hd => ?_
  simp only [adD] at hd
  split at hd
  ·obtain rfl := aC hd; exact ⟨rfl, rfl⟩
  ·cases hd
 ·cases hx
def WJ : Env := dF TI TY [] aX aU
def ZZ : Code := dE Tryz.f122
def ag6 : Norm := ⟨[0, 1, 8, 9, 12, 13, 14], [], [], []⟩
def Gf : Nat -> Option Norm := dN [(3, ag6)]
def Pq : End := ⟨[], ⟨[35, 36], [], [], []⟩⟩
def Aw (l : List TV) (o : List (Nat × TO)) : Option (Int × Bool) := match l, o with | [.dv (.int .i64) x0, .dv (.bool) x1], [] => some (x0, x1) | _, _ => none
def MJ (aT : Int) (hx1 : Int) (aZ : List fE) (uC : Int) (vM : Bool) (mQ : Int) : TS := ⟨slots 35 [(0, .dv (.int .i64) aT), (1, .dv (.int .i64) hx1), (8, .dv (.int .i64) uC), (9, .dv (.bool) vM), (12, .dv qQ aZ), (13, .dv (.int .i64) (aZ.length : Int)), (14, .dv (.int .i64) mQ)], []⟩
def aoI (N : Nat) : dD (Int × Bool) := eH (WJ) Gf N ZZ [1, 1, 0, 1, 0] (fin TI Pq (aY Tryz.f122) Aw)
def MC (N : Nat) (m : Nat) : TS -> Option (Int × Bool) := dW (den (WJ) Gf N (sub ZZ [1, 1, 0, 1, 0, 0])) (TS.norm ag6) (aoI N) m
def NT (N : Nat) (aT : Int) (hx1 : Int) (aZ : List fE) : Nat -> Int -> Bool -> Int -> Option (Int × Bool)
 | 0, _, _, _ => none
 | n + 1, uC, vM, mQ => cond (decide (mQ < (aZ.length : Int))) (chk (decide (0 <= mQ /\ mQ < (aZ.length : Int))) (cond (((aZ.getD mQ.toNat ((0 : Int), ((0 : Int), ((0 : Int), ())))).1) == aT) (cond ((((aZ.getD mQ.toNat ((0 : Int), ((0 : Int), ((0 : Int), ())))).2).1) == hx1) ((NT N aT hx1 aZ n (imax uC ((((aZ.getD mQ.toNat ((0 : Int), ((0 : Int), ((0 : Int), ())))).2).2).1)) true (aB (mQ + 1))))
   ((NT N aT hx1 aZ n uC vM (aB (mQ + 1)))))
   ((NT N aT hx1 aZ n uC vM (aB (mQ + 1))))))
   (some (uC, vM))
theorem aHS (N : Nat) (aT : Int) (hx1 : Int) (aZ : List fE) (m : Nat) (uC : Int) (vM : Bool) (mQ : Int) : MC N (m + 1) (MJ aT hx1 aZ uC vM mQ) = cond (decide (mQ < (aZ.length : Int))) (chk (decide (0 <= mQ /\ mQ < (aZ.length : Int))) (cond (((aZ.getD mQ.toNat ((0 : Int), ((0 : Int), ((0 : Int), ())))).1) == aT) (cond ((((aZ.getD mQ.toNat ((0 : Int), ((0 : Int), ((0 : Int), ())))).2).1) == hx1) ((MC N m (MJ aT hx1 aZ (imax uC ((((aZ.getD mQ.toNat ((0 : Int), ((0 : Int), ((0 : Int), ())))).2).2).1)) true (aB (mQ + 1)))))
   ((MC N m (MJ aT hx1 aZ uC vM (aB (mQ + 1))))))
   ((MC N m (MJ aT hx1 aZ uC vM (aB (mQ + 1)))))))
   (some (uC, vM)) := by kernel_rfl
theorem ajA (N : Nat) (aT : Int) (hx1 : Int) (aZ : List fE) : ∀ (m : Nat) (uC : Int) (vM : Bool) (mQ : Int), MC N m (MJ aT hx1 aZ uC vM mQ) = NT N aT hx1 aZ m uC vM mQ
        | 0, _, _, _ => rfl
        | m + 1, uC, vM, mQ => by rw [aHS]; simp only [NT, ajA N aT hx1 aZ m]
def Hl (N : Nat) (aT : Int) (hx1 : Int) (aZ : List fE) : Option (Int × Bool) :=
   (NT N aT hx1 aZ N (0 : Int) false (0 : Int))
theorem aI7 (N : Nat) (aT : Int) (hx1 : Int) (aZ : List fE) : bK (WJ) Gf N Pq ZZ (aY Tryz.f122) 32 [.dv (.int .i64) aT, .dv (.int .i64) hx1, .dv qQ aZ] [] Aw = (MC N N (MJ aT hx1 aZ (0 : Int) false (0 : Int))) := by kernel_rfl
theorem axM (N : Nat) (aT : Int) (hx1 : Int) (aZ : List fE) : bK (WJ) Gf N Pq ZZ (aY Tryz.f122) 32 [.dv (.int .i64) aT, .dv (.int .i64) hx1, .dv qQ aZ] [] Aw = Hl N aT hx1 aZ := by rw [aI7]; simp only [Hl, ajA]
theorem aAS (a : Int -> Int -> (List fE) -> Option (Int × Bool)) (h : ∀ aT hx1 aZ r, a aT hx1 aZ = some r -> (∃ N, Hl N aT hx1 aZ = some r)) : aF prog 122 (PV a) := by
 intro args Of x hx
 simp only [PV] at hx
 split at hx
 ·rename_i aT hx1 aZ
  obtain ⟨N, hN⟩ := h _ _ _ _ hx
  refine dZ func122 (by kernel_rfl) (by kernel_rfl) rfl dY ((axM N _ _ _).trans hN) fun l o hd => ?_
  simp only [Aw] at hd
  split at hd
  ·obtain rfl := aC hd; exact ⟨rfl, rfl⟩
  ·cases hd
 ·cases hx
def amR : Env := dF TI TY [] aX aU
def c124 : Code := dE Tryz.f124
def ayW : Nat -> Option Norm := dN []
def atF : End := ⟨[], ⟨[24], [], [], []⟩⟩
def adI (l : List TV) (o : List (Nat × TO)) : Option (Bool) := match l, o with | [.dv (.bool) x0], [] => some (x0) | _, _ => none
def Vo (N : Nat) (aG : Int × Int × Bool × (Bool × Int × Unit) × Unit) (o1 : Int × Int × Bool × (Bool × Int × Unit) × Unit) : Option (Bool) :=
   cond (decide (aG.1 > o1.1)) (some true)
   (cond (aG.1 == o1.1) (some (decide (aG.2.1 < o1.2.1)))
   (some false))
theorem axO (N : Nat) (aG : Int × Int × Bool × (Bool × Int × Unit) × Unit) (o1 : Int × Int × Bool × (Bool × Int × Unit) × Unit) : bK (amR) ayW N atF c124 (aY Tryz.f124) 22 [.dv DX aG, .dv DX o1] [] adI = Vo N aG o1 := by kernel_rfl
theorem aAU (a : (Int × Int × Bool × (Bool × Int × Unit) × Unit) -> (Int × Int × Bool × (Bool × Int × Unit) × Unit) -> Option (Bool)) (h : ∀ aG o1 r, a aG o1 = some r -> (∃ N, Vo N aG o1 = some r)) : aF prog 124 (PX a) := by
 intro args Of x hx
 simp only [PX] at hx
 split at hx
 ·rename_i aG o1
  obtain ⟨N, hN⟩ := h _ _ _ hx
  refine dZ func124 (by kernel_rfl) (by kernel_rfl) rfl dY ((axO N _ _).trans hN) fun l o hd => ?_
  simp only [adI] at hd
  split at hd
  ·obtain rfl := aC hd; exact ⟨rfl, rfl⟩
  ·cases hd
 ·cases hx
def amQ (M : WH) : Env := dF TI TY [(124, PX M)] aX aU
def arW : Code := dE Tryz.f123
def ayV : Nat -> Option Norm := dN []
def atE : End := ⟨[], ⟨[], [9000, 9001], [], []⟩⟩
def adH (l : List TV) (o : List (Nat × TO)) : Option (Nat × Nat × List (List (List (Int × Int × Bool × (Bool × Int × Unit) × Unit)))) := match l, o with | [], [(9000, .aV [.ptr 9001 0 [x0, x1]]), (9001, .row (.arr 13 (.arr 13 (.pair (.int .i64) (.pair (.int .i64) (.pair (.bool) (.pair (.pair (.bool) (.pair (.int .i64) (.unit))) (.unit))))))) x2)] => some (x0, x1, x2) | _, _ => none
def Vm (M : WH) (N : Nat) (x0 : Int × Int × Bool × (Bool × Int × Unit) × Unit) (y1 : Int × Int × Bool × (Bool × Int × Unit) × Unit) (vH : Bool × Int × Unit) (p3 : Nat) (p4 : Nat) (p5 : List rQ) : Option (Nat × Nat × List rQ) :=
   (M (aB (x0.1 + y1.1), (aB (x0.2.1 + y1.2.1), (false, (vH, ())))) (((p5.getD 0 nT).getD p3 lJ).getD p4 oK)).bind fun r1 =>
   cond (r1) (chk ((decide (p3 < (p5.getD 0 nT).length)) && ((decide (p4 < ((p5.getD 0 nT).getD p3 lJ).length)) && (true))) (some (p3, p4, p5.set 0 ((p5.getD 0 nT).set p3 (((p5.getD 0 nT).getD p3 lJ).set p4 (aB (x0.1 + y1.1), (aB (x0.2.1 + y1.2.1), (false, (vH, ())))))))))
   (some (p3, p4, p5))
theorem axN (M : WH) (N : Nat) (x0 : Int × Int × Bool × (Bool × Int × Unit) × Unit) (y1 : Int × Int × Bool × (Bool × Int × Unit) × Unit) (vH : Bool × Int × Unit) (p3 : Nat) (p4 : Nat) (p5 : List rQ) : bK (amQ M) ayV N atE arW (aY Tryz.f123) 24 [.dv DX x0, .dv DX y1, .dv (.pair (.bool) (.pair (.int .i64) (.unit))) vH, .ptr 9000 0 [0]] [(9000, .aV [.ptr 9001 0 [p3, p4]]), (9001, .row (.arr 13 (.arr 13 DX)) p5)] adH = Vm M N x0 y1 vH p3 p4 p5 := by kernel_rfl
theorem aAT (M : WH) (avR : aF prog 124 (PX M)) (a : (Int × Int × Bool × (Bool × Int × Unit) × Unit) -> (Int × Int × Bool × (Bool × Int × Unit) × Unit) -> (Bool × Int × Unit) -> Nat -> Nat -> (List rQ) -> Option (Nat × Nat × List rQ)) (h : ∀ x0 y1 vH p3 p4 p5 r, a x0 y1 vH p3 p4 p5 = some r -> (∃ N, Vm M N x0 y1 vH p3 p4 p5 = some r)) : aF prog 123 (PW a) := by
 intro args Of x hx
 simp only [PW] at hx
 split at hx
 ·rename_i x0 y1 vH p3 p4 p5
  obtain ⟨N, hN⟩ := h _ _ _ _ _ _ _ hx
  refine dZ func123 (by kernel_rfl) (by kernel_rfl) rfl (dK avR dY) ((axN M N _ _ _ _ _ _).trans hN) fun l o hd => ?_
  simp only [adH] at hd
  split at hd
  ·obtain rfl := aC hd; exact ⟨rfl, rfl⟩
  ·cases hd
 ·cases hx
def AO (C : mZ) (B : nC) : Env := dF TI TY [(122, PV C), (123, PW B)] aX aU
def c109 : Code := dE Tryz.f109
def Xm : Norm := ⟨[0, 1, 2, 7, 8], [17], [], []⟩
def Iw : Norm := ⟨[0, 1, 2, 7, 8, 9], [17], [], []⟩
def ag4 : Norm := ⟨[0, 1, 2, 7, 8, 9, 13, 14], [17, 10], [], []⟩
def ag5 : Norm := ⟨[0, 1, 2, 7, 8, 9, 13, 15], [17, 10], [], []⟩
def CG : Nat -> Option Norm := dN [(3, Xm), (6, Iw), (14, ag4), (18, ag5)]
def Po : End := ⟨[], ⟨[99], [17], [], []⟩⟩
def Au (l : List TV) (o : List (Nat × TO)) : Option (List (List (List (Int × Int × Bool × (Bool × Int × Unit) × Unit)))) := match l, o with | [.ptr 17 0 []], [(17, .row (.arr 13 (.arr 13 (.pair (.int .i64) (.pair (.int .i64) (.pair (.bool) (.pair (.pair (.bool) (.pair (.int .i64) (.unit))) (.unit))))))) x0)] => some (x0) | _, _ => none
def YW (aT : Int) (hx1 : Int) (aZ : List fE) (A : Int) (dH : Int) (mF : Int) (tZ : xH) (CS : Nat) (CU : Nat) : TS := ⟨slots 99 [(0, .dv (.int .i64) aT), (1, .dv (.int .i64) hx1), (2, .dv qQ aZ), (7, .ptr 17 0 []), (8, .dv (.int .i64) A), (9, .dv (.int .i64) dH), (13, .fn 123 0 1 fun i => ([.ptr 10 0 [0]] : List TV).getD i .any), (15, .dv (.int .i64) mF)], [(17, .row (.arr 13 (.arr 13 DX)) tZ), (10, .aV [.ptr 17 0 [CS, CU]])]⟩
def Q8 (aT : Int) (hx1 : Int) (aZ : List fE) (A : Int) (dH : Int) (mD : Int) (tY : xH) (x8 : Nat) (x9 : Nat) : TS := ⟨slots 99 [(0, .dv (.int .i64) aT), (1, .dv (.int .i64) hx1), (2, .dv qQ aZ), (7, .ptr 17 0 []), (8, .dv (.int .i64) A), (9, .dv (.int .i64) dH), (13, .fn 123 0 1 fun i => ([.ptr 10 0 [0]] : List TV).getD i .any), (14, .dv (.int .i64) mD)], [(17, .row (.arr 13 (.arr 13 DX)) tY), (10, .aV [.ptr 17 0 [x8, x9]])]⟩
def MI (aT : Int) (hx1 : Int) (aZ : List fE) (A : Int) (dH : Int) (pG : xH) : TS := ⟨slots 99 [(0, .dv (.int .i64) aT), (1, .dv (.int .i64) hx1), (2, .dv qQ aZ), (7, .ptr 17 0 []), (8, .dv (.int .i64) A), (9, .dv (.int .i64) dH)], [(17, .row (.arr 13 (.arr 13 DX)) pG)]⟩
def Q7 (aT : Int) (hx1 : Int) (aZ : List fE) (A : Int) (yA : xH) : TS := ⟨slots 99 [(0, .dv (.int .i64) aT), (1, .dv (.int .i64) hx1), (2, .dv qQ aZ), (7, .ptr 17 0 []), (8, .dv (.int .i64) A)], [(17, .row (.arr 13 (.arr 13 DX)) yA)]⟩
def abJ (C : mZ) (B : nC) (N : Nat) : dD (List (List (List (Int × Int × Bool × (Bool × Int × Unit) × Unit)))) := eH (AO C B) CG N c109 [1, 1, 0, 1, 0] (fin TI Po (aY Tryz.f109) Au)
def XV (C : mZ) (B : nC) (N : Nat) (m : Nat) : TS -> Option (List (List (List (Int × Int × Bool × (Bool × Int × Unit) × Unit)))) := dW (den (AO C B) CG N (sub c109 [1, 1, 0, 1, 0, 0])) (TS.norm Xm) (abJ C B N) m
def Nl (C : mZ) (B : nC) (N : Nat) (jC : pU) : dD (List (List (List (Int × Int × Bool × (Bool × Int × Unit) × Unit)))) := eH (AO C B) CG N (sub c109 [1, 1, 0, 1, 0, 0]) [1, 0, 0, 1, 0] (sD (TS.norm Xm) (abJ C B N) jC)
def QS (C : mZ) (B : nC) (N : Nat) (jC : pU) (m : Nat) : TS -> Option (List (List (List (Int × Int × Bool × (Bool × Int × Unit) × Unit)))) := dW (den (AO C B) CG N (sub c109 [1, 1, 0, 1, 0, 0, 1, 0, 0, 1, 0, 0])) (TS.norm Iw) (Nl C B N jC) m
def aoD (C : mZ) (B : nC) (N : Nat) (jC : pU) (oI : pU) : dD (List (List (List (Int × Int × Bool × (Bool × Int × Unit) × Unit)))) := eH (AO C B) CG N (sub c109 [1, 1, 0, 1, 0, 0, 1, 0, 0, 1, 0, 0]) [1, 0, 0, 1, 1, 1, 0, 1, 0] (sD (TS.norm Iw) (Nl C B N jC) oI)
def QT (C : mZ) (B : nC) (N : Nat) (jC : pU) (oI : pU) (m : Nat) : TS -> Option (List (List (List (Int × Int × Bool × (Bool × Int × Unit) × Unit)))) := dW (den (AO C B) CG N (sub c109 [1, 1, 0, 1, 0, 0, 1, 0, 0, 1, 0, 0, 1, 0, 0, 1, 1, 1, 0, 1, 0, 0])) (TS.norm ag4) (aoD C B N jC oI) m
def aoE (C : mZ) (B : nC) (N : Nat) (jC : pU) (oI : pU) : dD (List (List (List (Int × Int × Bool × (Bool × Int × Unit) × Unit)))) := eH (AO C B) CG N (sub c109 [1, 1, 0, 1, 0, 0, 1, 0, 0, 1, 0, 0]) [1, 0, 0, 1, 1, 1, 1, 1, 0] (sD (TS.norm Iw) (Nl C B N jC) oI)
def XW (C : mZ) (B : nC) (N : Nat) (jC : pU) (oI : pU) (m : Nat) : TS -> Option (List (List (List (Int × Int × Bool × (Bool × Int × Unit) × Unit)))) := dW (den (AO C B) CG N (sub c109 [1, 1, 0, 1, 0, 0, 1, 0, 0, 1, 0, 0, 1, 0, 0, 1, 1, 1, 1, 1, 0, 0])) (TS.norm ag5) (aoE C B N jC oI) m
def Eo (C : mZ) (B : nC) (N : Nat) (aT : Int) (hx1 : Int) (aZ : List fE) (A : Int) (dH : Int) (UI : Lr) : Nat -> Int -> (List rQ) -> Nat -> Nat -> Option (List rQ)
 | 0, _, _, _, _ => none
 | n + 1, mF, tZ, CS, CU => cond (decide (mF < dH)) (chk (decide (0 <= A /\ A < (13 : Int))) (chk (decide (0 <= mF /\ mF < (13 : Int))) (chk (decide (0 <= A /\ A < (13 : Int))) (chk (decide (0 <= aB (dH - mF) /\ aB (dH - mF) < (13 : Int))) ((B (((tZ.getD 0 nT).getD A.toNat lJ).getD mF.toNat oK) (((tZ.getD 0 nT).getD A.toNat lJ).getD ((aB (dH - mF)).toNat) oK) (false, (mF, ())) CS CU tZ).bind fun r3 =>
   (Eo C B N aT hx1 aZ A dH UI n (aB (mF + 1)) r3.2.2 r3.1 r3.2.1))))))
   ((UI (aB (dH + 1)) tZ))
theorem aHR (C : mZ) (B : nC) (N : Nat) (aT : Int) (hx1 : Int) (aZ : List fE) (A : Int) (dH : Int) (jC : pU) (oI : pU) (m : Nat) (mF : Int) (tZ : xH) (CS : Nat) (CU : Nat) : XW C B N jC oI (m + 1) (YW aT hx1 aZ A dH mF tZ CS CU) = cond (decide (mF < dH)) (chk (decide (0 <= A /\ A < (13 : Int))) (chk (decide (0 <= mF /\ mF < (13 : Int))) (chk (decide (0 <= A /\ A < (13 : Int))) (chk (decide (0 <= aB (dH - mF) /\ aB (dH - mF) < (13 : Int))) ((B (((tZ.getD 0 nT).getD A.toNat lJ).getD mF.toNat oK) (((tZ.getD 0 nT).getD A.toNat lJ).getD ((aB (dH - mF)).toNat) oK) (false, (mF, ())) CS CU tZ).bind fun r3 =>
   (XW C B N jC oI m (YW aT hx1 aZ A dH (aB (mF + 1)) r3.2.2 r3.1 r3.2.1)))))))
   ((oI (MI aT hx1 aZ A (aB (dH + 1)) tZ))) := by kernel_rfl
theorem ai' (C : mZ) (B : nC) (N : Nat) (aT : Int) (hx1 : Int) (aZ : List fE) (A : Int) (dH : Int) (jC : pU) (oI : pU) : ∀ (m : Nat) (mF : Int) (tZ : xH) (CS : Nat) (CU : Nat), XW C B N jC oI m (YW aT hx1 aZ A dH mF tZ CS CU) = Eo C B N aT hx1 aZ A dH (fun y0 y1 => oI (MI aT hx1 aZ A y0 y1)) m mF tZ CS CU
        | 0, _, _, _, _ => rfl
        | m + 1, mF, tZ, CS, CU => by rw [aHR]; simp only [Eo, ai' C B N aT hx1 aZ A dH jC oI m]
def UJ (C : mZ) (B : nC) (N : Nat) (aT : Int) (hx1 : Int) (aZ : List fE) (A : Int) (dH : Int) (UI : Lr) : Nat -> Int -> (List rQ) -> Nat -> Nat -> Option (List rQ)
 | 0, _, _, _, _ => none
 | n + 1, mD, tY, x8, x9 => cond (decide (mD < A)) (chk (decide (0 <= mD /\ mD < (13 : Int))) (chk (decide (0 <= dH /\ dH < (13 : Int))) (chk (decide (0 <= aB (A - mD) /\ aB (A - mD) < (13 : Int))) (chk (decide (0 <= dH /\ dH < (13 : Int))) ((B (((tY.getD 0 nT).getD mD.toNat lJ).getD dH.toNat oK) (((tY.getD 0 nT).getD ((aB (A - mD)).toNat) lJ).getD dH.toNat oK) (true, (mD, ())) x8 x9 tY).bind fun r2 =>
   (UJ C B N aT hx1 aZ A dH UI n (aB (mD + 1)) r2.2.2 r2.1 r2.2.1))))))
   ((Eo C B N aT hx1 aZ A dH UI N (1 : Int) tY x8 x9))
theorem aHQ (C : mZ) (B : nC) (N : Nat) (aT : Int) (hx1 : Int) (aZ : List fE) (A : Int) (dH : Int) (jC : pU) (oI : pU) (m : Nat) (mD : Int) (tY : xH) (x8 : Nat) (x9 : Nat) : QT C B N jC oI (m + 1) (Q8 aT hx1 aZ A dH mD tY x8 x9) = cond (decide (mD < A)) (chk (decide (0 <= mD /\ mD < (13 : Int))) (chk (decide (0 <= dH /\ dH < (13 : Int))) (chk (decide (0 <= aB (A - mD) /\ aB (A - mD) < (13 : Int))) (chk (decide (0 <= dH /\ dH < (13 : Int))) ((B (((tY.getD 0 nT).getD mD.toNat lJ).getD dH.toNat oK) (((tY.getD 0 nT).getD ((aB (A - mD)).toNat) lJ).getD dH.toNat oK) (true, (mD, ())) x8 x9 tY).bind fun r2 =>
   (QT C B N jC oI m (Q8 aT hx1 aZ A dH (aB (mD + 1)) r2.2.2 r2.1 r2.2.1)))))))
   ((XW C B N jC oI N (YW aT hx1 aZ A dH (1 : Int) tY x8 x9))) := by kernel_rfl
theorem ai9 (C : mZ) (B : nC) (N : Nat) (aT : Int) (hx1 : Int) (aZ : List fE) (A : Int) (dH : Int) (jC : pU) (oI : pU) : ∀ (m : Nat) (mD : Int) (tY : xH) (x8 : Nat) (x9 : Nat), QT C B N jC oI m (Q8 aT hx1 aZ A dH mD tY x8 x9) = UJ C B N aT hx1 aZ A dH (fun y0 y1 => oI (MI aT hx1 aZ A y0 y1)) m mD tY x8 x9
        | 0, _, _, _, _ => rfl
        | m + 1, mD, tY, x8, x9 => by rw [aHQ]; simp only [UJ, ai', ai9 C B N aT hx1 aZ A dH jC oI m]
def UH (C : mZ) (B : nC) (N : Nat) (aT : Int) (hx1 : Int) (aZ : List fE) (A : Int) (Uu : Lr) : Nat -> Int -> (List rQ) -> Option (List rQ)
 | 0, _, _ => none
 | n + 1, dH, pG => cond (decide (dH <= hx1)) (chk (decide (0 <= A /\ A < (13 : Int))) (chk (decide (0 <= dH /\ dH < (13 : Int))) ((C A dH aZ).bind fun r1 =>
   cond (decide (r1.1 > (0 : Int))) (chk ((decide (A.toNat < (pG.getD 0 nT).length)) && ((decide (dH.toNat < ((pG.getD 0 nT).getD A.toNat lJ).length)) && (true))) ((UJ C B N aT hx1 aZ A dH (fun y0 y1 => (UH C B N aT hx1 aZ A Uu n y0 y1)) N (1 : Int) (pG.set 0 ((pG.getD 0 nT).set A.toNat (((pG.getD 0 nT).getD A.toNat lJ).set dH.toNat (r1.1, ((1 : Int), (true, ((false, ((0 : Int), ())), ()))))))) A.toNat dH.toNat)))
   ((UJ C B N aT hx1 aZ A dH (fun y0 y1 => (UH C B N aT hx1 aZ A Uu n y0 y1)) N (1 : Int) pG A.toNat dH.toNat)))))
   ((Uu (aB (A + 1)) pG))
theorem aHP (C : mZ) (B : nC) (N : Nat) (aT : Int) (hx1 : Int) (aZ : List fE) (A : Int) (jC : pU) (m : Nat) (dH : Int) (pG : xH) : QS C B N jC (m + 1) (MI aT hx1 aZ A dH pG) = cond (decide (dH <= hx1)) (chk (decide (0 <= A /\ A < (13 : Int))) (chk (decide (0 <= dH /\ dH < (13 : Int))) ((C A dH aZ).bind fun r1 =>
   cond (decide (r1.1 > (0 : Int))) (chk ((decide (A.toNat < (pG.getD 0 nT).length)) && ((decide (dH.toNat < ((pG.getD 0 nT).getD A.toNat lJ).length)) && (true))) ((QT C B N jC (QS C B N jC m) N (Q8 aT hx1 aZ A dH (1 : Int) (pG.set 0 ((pG.getD 0 nT).set A.toNat (((pG.getD 0 nT).getD A.toNat lJ).set dH.toNat (r1.1, ((1 : Int), (true, ((false, ((0 : Int), ())), ()))))))) A.toNat dH.toNat))))
   ((QT C B N jC (QS C B N jC m) N (Q8 aT hx1 aZ A dH (1 : Int) pG A.toNat dH.toNat))))))
   ((jC (Q7 aT hx1 aZ (aB (A + 1)) pG))) := by kernel_rfl
theorem ai8 (C : mZ) (B : nC) (N : Nat) (aT : Int) (hx1 : Int) (aZ : List fE) (A : Int) (jC : pU) : ∀ (m : Nat) (dH : Int) (pG : xH), QS C B N jC m (MI aT hx1 aZ A dH pG) = UH C B N aT hx1 aZ A (fun y0 y1 => jC (Q7 aT hx1 aZ y0 y1)) m dH pG
        | 0, _, _ => rfl
        | m + 1, dH, pG => by rw [aHP]; simp only [UH, ai9, ai8 C B N aT hx1 aZ A jC m]
def En (C : mZ) (B : nC) (N : Nat) (aT : Int) (hx1 : Int) (aZ : List fE) : Nat -> Int -> (List rQ) -> Option (List rQ)
 | 0, _, _ => none
 | n + 1, A, yA => cond (decide (A <= aT)) ((UH C B N aT hx1 aZ A (fun y0 y1 => (En C B N aT hx1 aZ n y0 y1)) N (1 : Int) yA))
   (some yA)
theorem aHO (C : mZ) (B : nC) (N : Nat) (aT : Int) (hx1 : Int) (aZ : List fE) (m : Nat) (A : Int) (yA : xH) : XV C B N (m + 1) (Q7 aT hx1 aZ A yA) = cond (decide (A <= aT)) ((QS C B N (XV C B N m) N (MI aT hx1 aZ A (1 : Int) yA)))
   (some yA) := by kernel_rfl
theorem ai7 (C : mZ) (B : nC) (N : Nat) (aT : Int) (hx1 : Int) (aZ : List fE) : ∀ (m : Nat) (A : Int) (yA : xH), XV C B N m (Q7 aT hx1 aZ A yA) = En C B N aT hx1 aZ m A yA
        | 0, _, _ => rfl
        | m + 1, A, yA => by rw [aHO]; simp only [En, ai8, ai7 C B N aT hx1 aZ m]
def Hg (C : mZ) (B : nC) (N : Nat) (aT : Int) (hx1 : Int) (aZ : List fE) : Option (List rQ) :=
   (En C B N aT hx1 aZ N (1 : Int) ([nT] : List rQ))
theorem aI6 (C : mZ) (B : nC) (N : Nat) (aT : Int) (hx1 : Int) (aZ : List fE) : bK (AO C B) CG N Po c109 (aY Tryz.f109) 96 [.dv (.int .i64) aT, .dv (.int .i64) hx1, .dv qQ aZ] [] Au = (XV C B N N (Q7 aT hx1 aZ (1 : Int) ([nT] : List rQ))) := by kernel_rfl
theorem axI (C : mZ) (B : nC) (N : Nat) (aT : Int) (hx1 : Int) (aZ : List fE) : bK (AO C B) CG N Po c109 (aY Tryz.f109) 96 [.dv (.int .i64) aT, .dv (.int .i64) hx1, .dv qQ aZ] [] Au = Hg C B N aT hx1 aZ := by rw [aI6]; simp only [Hg, ai7]
theorem aAO (C : mZ) (B : nC) (h122 : aF prog 122 (PV C)) (avQ : aF prog 123 (PW B)) (a : Int -> Int -> (List fE) -> Option (List rQ)) (h : ∀ aT hx1 aZ r, a aT hx1 aZ = some r -> (∃ N, Hg C B N aT hx1 aZ = some r)) : aF prog 109 (PT a) := by
 intro args Of x hx
 simp only [PT] at hx
 split at hx
 ·rename_i aT hx1 aZ
  obtain ⟨N, hN⟩ := h _ _ _ _ hx
  refine dZ func109 (by kernel_rfl) (by kernel_rfl) rfl (dK h122 (dK avQ dY)) ((axI C B N _ _ _).trans hN) fun l o hd => ?_
  simp only [Au] at hd
  split at hd
  ·obtain rfl := aC hd; exact ⟨rfl, rfl⟩
  ·cases hd
 ·cases hx
def E94 (P : WC) (Q : WE) : Env := dF TI TY [(108, PS P), (109, PT Q)] aX aU
def c94 : Code := dE Tryz.f94
def azO : Nat -> Option Norm := dN []
def auG : End := ⟨[], ⟨[27, 28], [], [], []⟩⟩
def aeC (l : List TV) (o : List (Nat × TO)) : Option (Int × Int) := match l, o with | [.dv (.int .i64) x0, .dv (.int .i64) x1], [] => some (x0, x1) | _, _ => none
def Xa (P : WC) (Q : WE) (N : Nat) (aT : Int) (hx1 : Int) (aZ : List fE) : Option (Int × Int) :=
   (P aT hx1 aZ).bind fun r1 =>
   cond (r1 != (0 : Int)) (some ((0 : Int), r1))
   ((Q aT hx1 aZ).bind fun r2 =>
   chk (decide (0 <= aT /\ aT < (13 : Int))) (chk (decide (0 <= hx1 /\ hx1 < (13 : Int))) (some ((((r2.getD 0 nT).getD aT.toNat lJ).getD hx1.toNat oK).1, (0 : Int)))))
theorem k94 (P : WC) (Q : WE) (N : Nat) (aT : Int) (hx1 : Int) (aZ : List fE) : bK (E94 P Q) azO N auG c94 (aY Tryz.f94) 24 [.dv (.int .i64) aT, .dv (.int .i64) hx1, .dv qQ aZ] [] aeC = Xa P Q N aT hx1 aZ := by kernel_rfl
theorem aB7 (P : WC) (Q : WE) (avN : aF prog 108 (PS P)) (avO : aF prog 109 (PT Q)) (a : Int -> Int -> (List fE) -> Option (Int × Int)) (h : ∀ aT hx1 aZ r, a aT hx1 aZ = some r -> (∃ N, Xa P Q N aT hx1 aZ = some r)) : aF prog 94 (XI a) := by
 intro args Of x hx
 simp only [XI] at hx
 split at hx
 ·rename_i aT hx1 aZ
  obtain ⟨N, hN⟩ := h _ _ _ _ hx
  refine dZ func94 (by kernel_rfl) (by kernel_rfl) rfl (dK avN (dK avO dY)) ((k94 P Q N _ _ _).trans hN) fun l o hd => ?_
  simp only [aeC] at hd
  split at hd
  ·obtain rfl := aC hd; exact ⟨rfl, rfl⟩
  ·cases hd
 ·cases hx
end
end Go.Proofs.YtfopcfnggdonkaaGreatDoor
