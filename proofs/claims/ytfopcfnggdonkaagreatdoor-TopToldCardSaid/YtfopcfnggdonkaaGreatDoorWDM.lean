/-
 The functions that the law reaches, told as plain functions.
-/
import Derived.Test.YtfopcfnggdonkaaGreatDoorWCM
import Derived.Test.YtfopcfnggdonkaaGreatDoorCBM
namespace Go.Proofs.YtfopcfnggdonkaaGreatDoor
open Go.Proofs.Tryz
open Go.RowKit
set_option linter.unusedVariables false
noncomputable section
abbrev ZR := (Int × List Int × Bool × Unit) -> Option (List Int)
def amV : Env := dF TI TY [] aX aU
def c143 : Code := dE Tryz.f143
def ay1 : Nat -> Option Norm := dN []
def atK : End := ⟨[], ⟨[15], [], [], []⟩⟩
def adN (l : List TV) (o : List (Nat × TO)) : Option (Bool) := match l, o with | [.dv (.bool) x0], [] => some (x0) | _, _ => none
def Vs (N : Nat) (dR : Int) (n1 : Int) (hi2 : Int) : Option (Bool) :=
   cond (decide (dR <= n1)) (some (decide (n1 <= hi2)))
   (some false)
theorem axS (N : Nat) (dR : Int) (n1 : Int) (hi2 : Int) : bK (amV) ay1 N atK c143 (aY Tryz.f143) 12 [.dv (.int .i64) dR, .dv (.int .i64) n1, .dv (.int .i64) hi2] [] adN = Vs N dR n1 hi2 := by kernel_rfl
theorem aAZ (a : Int -> Int -> Int -> Option (Bool)) (h : ∀ dR n1 hi2 r, a dR n1 hi2 = some r -> (∃ N, Vs N dR n1 hi2 = some r)) : aF prog 143 (P6 a) := by
 intro args Of x hx
 simp only [P6] at hx
 split at hx
 ·rename_i dR n1 hi2
  obtain ⟨N, hN⟩ := h _ _ _ _ hx
  refine dZ func143 (by kernel_rfl) (by kernel_rfl) rfl dY ((axS N _ _ _).trans hN) fun l o hd => ?_
  simp only [adN] at hd
  split at hd
  ·obtain rfl := aC hd; exact ⟨rfl, rfl⟩
  ·cases hd
 ·cases hx
def amS (A : Int -> Int -> Int -> Option (Bool)) (B : ZR) : Env := dF TI TY [(143, P6 A), (144, XF B)] aX aU
def c130 : Code := dE Tryz.f130
def ayX : Nat -> Option Norm := dN []
def atG : End := ⟨[(10, .sl (.int .i64))], ⟨[10, 11], [], [], []⟩⟩
def adJ (l : List TV) (o : List (Nat × TO)) : Option (List Int × Int) := match l, o with | [.dv (.sl (.int .i64)) x0, .dv (.int .i64) x1], [] => some (x0, x1) | _, _ => none
def Vp (A : Int -> Int -> Int -> Option (Bool)) (B : ZR) (N : Nat) (n0 : Int) : Option (List Int × Int) :=
   (A (1 : Int) n0 (46 : Int)).bind fun r1 =>
   cond (!r1) (some (([] : List Int), (3 : Int)))
   ((B (n0, (([] : List Int), (false, ())))).bind fun r2 =>
   some (r2, (0 : Int)))
theorem axP (A : Int -> Int -> Int -> Option (Bool)) (B : ZR) (N : Nat) (n0 : Int) : bK (amS A B) ayX N atG c130 (aY Tryz.f130) 9 [.dv (.int .i64) n0] [] adJ = Vp A B N n0 := by kernel_rfl
theorem aAV (A : Int -> Int -> Int -> Option (Bool)) (B : ZR) (avV : aF prog 143 (P6 A)) (avW : aF prog 144 (XF B)) (a : Int -> Option (List Int × Int)) (h : ∀ n0 r, a n0 = some r -> (∃ N, Vp A B N n0 = some r)) : aF prog 130 (PY a) := by
 intro args Of x hx
 simp only [PY] at hx
 split at hx
 ·rename_i n0
  obtain ⟨N, hN⟩ := h _ _ hx
  refine dZ func130 (by kernel_rfl) (by kernel_rfl) rfl (dK avV (dK avW dY)) ((axP A B N _).trans hN) fun l o hd => ?_
  simp only [adJ] at hd
  split at hd
  ·obtain rfl := aC hd; exact ⟨rfl, rfl⟩
  ·cases hd
 ·cases hx
def amN (C : Int -> Option (List Int × Int)) : Env := dF TI TY [(130, PY C)] aX aU
def arT : Code := dE Tryz.f112
def ayS : Nat -> Option Norm := dN []
def atB : End := ⟨[], ⟨[17, 18], [], [], []⟩⟩
def adE (l : List TV) (o : List (Nat × TO)) : Option (Int × Int) := match l, o with | [.dv (.int .i64) x0, .dv (.int .i64) x1], [] => some (x0, x1) | _, _ => none
def Vj (C : Int -> Option (List Int × Int)) (N : Nat) (n0 : Int) : Option (Int × Int) :=
   (C n0).bind fun r1 =>
   cond (r1.2 != (0 : Int)) (some ((0 : Int), r1.2))
   (some (aB ((r1.1.length : Int) - (1 : Int)), (0 : Int)))
theorem axJ (C : Int -> Option (List Int × Int)) (N : Nat) (n0 : Int) : bK (amN C) ayS N atB arT (aY Tryz.f112) 16 [.dv (.int .i64) n0] [] adE = Vj C N n0 := by kernel_rfl
theorem aAP (C : Int -> Option (List Int × Int)) (avS : aF prog 130 (PY C)) (a : Int -> Option (Int × Int)) (h : ∀ n0 r, a n0 = some r -> (∃ N, Vj C N n0 = some r)) : aF prog 112 (XD a) := by
 intro args Of x hx
 simp only [XD] at hx
 split at hx
 ·rename_i n0
  obtain ⟨N, hN⟩ := h _ _ hx
  refine dZ func112 (by kernel_rfl) (by kernel_rfl) rfl (dK avS dY) ((axJ C N _).trans hN) fun l o hd => ?_
  simp only [adE] at hd
  split at hd
  ·obtain rfl := aC hd; exact ⟨rfl, rfl⟩
  ·cases hd
 ·cases hx
end
end Go.Proofs.YtfopcfnggdonkaaGreatDoor
