/-
 The functions that the law reaches, told as plain functions.
-/
import Derived.Test.YtfopcfnggdonkaaGreatDoorWCM
import Derived.Test.YtfopcfnggdonkaaGreatDoorCBM
namespace Go.Proofs.YtfopcfnggdonkaaGreatDoor
open Go.Proofs.Tryz
open Go.RowKit
set_option linter.unusedVariables false
noncomputable section
abbrev XF := (Int × List Int × Bool × Unit) -> Option (List Int)
def alJ : Env := dD TI TY [] aY aW
def c143 : Code := dB Tryz.f143
def ayE : Nat -> Option Norm := dH []
def ar0 : End := ⟨[], ⟨[15], [], [], []⟩⟩
def abR (l : List TV) (o : List (Nat × TO)) : Option (Bool) := match l, o with | [.dv (.bool) x0], [] => some (x0) | _, _ => none
def Qx (N : Nat) (eF : Int) (n1 : Int) (hi2 : Int) : Option (Bool) :=
   cond (decide (eF <= n1)) (some (decide (n1 <= hi2)))
   (some false)
theorem awW (N : Nat) (eF : Int) (n1 : Int) (hi2 : Int) : bK (alJ) ayE N ar0 c143 (bC Tryz.f143) 12 [.dv (.int .i64) eF, .dv (.int .i64) n1, .dv (.int .i64) hi2] [] abR = Qx N eF n1 hi2 := by kernel_rfl
theorem az8 (a : Int -> Int -> Int -> Option (Bool)) (h : ∀ eF n1 hi2 r, a eF n1 hi2 = some r -> (∃ N, Qx N eF n1 hi2 = some r)) : aC prog 143 (NJ a) := by
 intro args Of x hx
 simp only [NJ] at hx
 split at hx
 ·rename_i eF n1 hi2
  obtain ⟨N, hN⟩ := h _ _ _ _ hx
  refine dS func143 (by kernel_rfl) (by kernel_rfl) rfl dQ ((awW N _ _ _).trans hN) fun l o hd => ?_
  simp only [abR] at hd
  split at hd
  ·obtain rfl := Option.some.inj hd; exact ⟨rfl, rfl⟩
  ·cases hd
 ·cases hx
def alG (a143 : Int -> Int -> Int -> Option (Bool)) (yQ : XF) : Env := dD TI TY [(143, NJ a143), (144, TU yQ)] aY aW
def c130 : Code := dB Tryz.f130
def ayB : Nat -> Option Norm := dH []
def arX : End := ⟨[(10, .sl (.int .i64))], ⟨[10, 11], [], [], []⟩⟩
def abO (l : List TV) (o : List (Nat × TO)) : Option (List Int × Int) := match l, o with | [.dv (.sl (.int .i64)) x0, .dv (.int .i64) x1], [] => some (x0, x1) | _, _ => none
def Qu (a143 : Int -> Int -> Int -> Option (Bool)) (yQ : XF) (N : Nat) (n0 : Int) : Option (List Int × Int) :=
   (a143 (1 : Int) n0 (46 : Int)).bind fun r1 =>
   cond (!r1) (some (([] : List Int), (3 : Int)))
   ((yQ (n0, (([] : List Int), (false, ())))).bind fun r2 =>
   some (r2, (0 : Int)))
theorem awT (a143 : Int -> Int -> Int -> Option (Bool)) (yQ : XF) (N : Nat) (n0 : Int) : bK (alG a143 yQ) ayB N arX c130 (bC Tryz.f130) 9 [.dv (.int .i64) n0] [] abO = Qu a143 yQ N n0 := by kernel_rfl
theorem az5 (a143 : Int -> Int -> Int -> Option (Bool)) (yQ : XF) (auQ : aC prog 143 (NJ a143)) (auR : aC prog 144 (TU yQ)) (a : Int -> Option (List Int × Int)) (h : ∀ n0 r, a n0 = some r -> (∃ N, Qu a143 yQ N n0 = some r)) : aC prog 130 (NH a) := by
 intro args Of x hx
 simp only [NH] at hx
 split at hx
 ·rename_i n0
  obtain ⟨N, hN⟩ := h _ _ hx
  refine dS func130 (by kernel_rfl) (by kernel_rfl) rfl (dK auQ (dK auR dQ)) ((awT a143 yQ N _).trans hN) fun l o hd => ?_
  simp only [abO] at hd
  split at hd
  ·obtain rfl := Option.some.inj hd; exact ⟨rfl, rfl⟩
  ·cases hd
 ·cases hx
def alB (a130 : Int -> Option (List Int × Int)) : Env := dD TI TY [(130, NH a130)] aY aW
def aqD : Code := dB Tryz.f112
def ax6 : Nat -> Option Norm := dH []
def arR : End := ⟨[], ⟨[17, 18], [], [], []⟩⟩
def abI (l : List TV) (o : List (Nat × TO)) : Option (Int × Int) := match l, o with | [.dv (.int .i64) x0, .dv (.int .i64) x1], [] => some (x0, x1) | _, _ => none
def Qo (a130 : Int -> Option (List Int × Int)) (N : Nat) (n0 : Int) : Option (Int × Int) :=
   (a130 n0).bind fun r1 =>
   cond (r1.2 != (0 : Int)) (some ((0 : Int), r1.2))
   (some (aH ((r1.1.length : Int) - (1 : Int)), (0 : Int)))
theorem awN (a130 : Int -> Option (List Int × Int)) (N : Nat) (n0 : Int) : bK (alB a130) ax6 N arR aqD (bC Tryz.f112) 16 [.dv (.int .i64) n0] [] abI = Qo a130 N n0 := by kernel_rfl
theorem azY (a130 : Int -> Option (List Int × Int)) (auN : aC prog 130 (NH a130)) (a : Int -> Option (Int × Int)) (h : ∀ n0 r, a n0 = some r -> (∃ N, Qo a130 N n0 = some r)) : aC prog 112 (TR a) := by
 intro args Of x hx
 simp only [TR] at hx
 split at hx
 ·rename_i n0
  obtain ⟨N, hN⟩ := h _ _ hx
  refine dS func112 (by kernel_rfl) (by kernel_rfl) rfl (dK auN dQ) ((awN a130 N _).trans hN) fun l o hd => ?_
  simp only [abI] at hd
  split at hd
  ·obtain rfl := Option.some.inj hd; exact ⟨rfl, rfl⟩
  ·cases hd
 ·cases hx
end
end Go.Proofs.YtfopcfnggdonkaaGreatDoor
